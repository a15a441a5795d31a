/- What a list of peatbanklaw20.Do reads as; a life begins; any step. -/
import Derived.Test.YtgmkibckbbbhkaaBl9
import Derived.Test.YtgmkibckbbbhkaaBl9b
import Derived.Test.YtgmkibckbbbhkaaBl9c
import Derived.Test.YtgmkibckbbbhkaaBl9d
import Derived.Test.YtgmkibckbbbhkaaDev9
namespace Go.Proofs.Ytgmkibckbbbhkaa
open Go.RowKit

structure D4At (w : World) (g off k : Nat) (x : D4) : Prop where
  c0 : w.cell? ⟨g, off + k * 4, none⟩ = some (.int .i64 x.op)
  c1 : w.cell? ⟨g, off + k * 4 + 1, none⟩ = some (.int .i64 x.pos)
  c2 : w.cell? ⟨g, off + k * 4 + 2, none⟩ = some (.int .i64 x.num)
  c3 : w.cell? ⟨g, off + k * 4 + 3, none⟩ = some (.int .u8 x.byt)
def RdD4 (w : World) (A : Option Addr) (n : Nat) (xs : List D4) : Prop :=
  xs.length = n ∧ (0 < n → ∃ g off, A = some ⟨g, off, none⟩ ∧ g < w.heap.size ∧ ∀ (k : Nat) (x : D4), xs[k]? = some x → D4At w g off k x) ∧ (∀ (k : Nat) (x : D4), xs[k]? = some x → x.ok)
theorem D4At.mod {w w' : World} {g off k : Nat} {x : D4} {S : Nat → Prop} (h : D4At w g off k x) (hm : Mod S w w') (hg : g < w.heap.size) (hn : ¬ S g) : D4At w' g off k x :=
  ⟨(hm.cell (p := ⟨g, _, none⟩) hg hn).trans h.c0, (hm.cell (p := ⟨g, _, none⟩) hg hn).trans h.c1, (hm.cell (p := ⟨g, _, none⟩) hg hn).trans h.c2, (hm.cell (p := ⟨g, _, none⟩) hg hn).trans h.c3⟩
theorem RdD4.mod {w w' : World} {A : Option Addr} {n : Nat} {xs : List D4} (h : RdD4 w A n xs) (hm : Mod Nn w w') : RdD4 w' A n xs :=
  ⟨h.1, fun hp => by
    obtain ⟨g, off, hA, hg, hc⟩ := h.2.1 hp
    exact ⟨g, off, hA, by have := hm.size; omega, fun k x hx => (hc k x hx).mod hm hg (fun f => f)⟩, h.2.2⟩
theorem RdD4.at_ {w : World} {A : Option Addr} {n : Nat} {xs : List D4} (h : RdD4 w A n xs) {k : Nat} (hk : k < n) :
    ∃ g off x, A = some ⟨g, off, none⟩ ∧ D4At w g off k x ∧ x.ok := by
  obtain ⟨g, off, hA, hg, hc⟩ := h.2.1 (by omega)
  have hx : xs[k]? = some (xs[k]'(by rw [h.1]; exact hk)) := List.getElem?_eq_getElem _
  exact ⟨g, off, _, hA, hc k _ hx, h.2.2 k _ hx⟩
theorem d4Size : (Try.prog.info? 95).map (·.size) = some 4 := by kernel_rfl
theorem d4_cells {w : World} {g off k : Nat} {x : D4} (h : D4At w g off k x) : ∀ j v, [Value.int .i64 x.op, .int .i64 x.pos, .int .i64 x.num, .int .u8 x.byt][j]? = some v → w.cell? ⟨g, off + k * 4 + j, none⟩ = some v
  | 0, v, hv => by injection hv with hv; rw [← hv]; exact h.c0
  | 1, v, hv => by injection hv with hv; rw [← hv]; exact h.c1
  | 2, v, hv => by injection hv with hv; rw [← hv]; exact h.c2
  | 3, v, hv => by injection hv with hv; rw [← hv]; exact h.c3
  | j + 4, v, hv => by simp at hv
def d4L (x : D4) : List Value := [.int .i64 x.op, .int .i64 x.pos, .int .i64 x.num, .int .u8 x.byt]
theorem d4_at (xs : List D4) {k : Nat} {x : D4} (h : xs[k]? = some x) (j : Nat) (hj : j < 4) : (xs.flatMap d4L)[k * 4 + j]? = (d4L x)[j]? := by
  induction xs generalizing k with
  | nil => simp at h
  | cons y xs ih =>
    rw [List.flatMap_cons]
    cases k with
    | zero =>
      simp only [List.getElem?_cons_zero, Option.some.injEq] at h
      subst h
      rw [List.getElem?_append_left (by show 0 * 4 + j < 4; omega)]
      congr 1; omega
    | succ k =>
      rw [List.getElem?_cons_succ] at h
      rw [List.getElem?_append_right (by show 4 ≤ (k + 1) * 4 + j; omega), ← ih h]
      congr 1
      show (k + 1) * 4 + j - 4 = _
      omega
theorem rdD4_blk {w : World} {g : Nat} {t : TypeId} {xs : List D4} {n : Nat} (hb : Blk w g t (xs.flatMap d4L).toArray) (hn : xs.length = n) (hok : ∀ x ∈ xs, x.ok) : RdD4 w (some ⟨g, 0, none⟩) n xs := by
  have hc : ∀ (k : Nat) (x : D4), xs[k]? = some x → ∀ j v, j < 4 → (d4L x)[j]? = some v → w.cell? ⟨g, 0 + k * 4 + j, none⟩ = some v := fun k x hx j v hj hv => by
    rw [hb.cell, List.getElem?_toArray, Nat.zero_add, d4_at xs hx j hj, hv]
  refine ⟨hn, fun _ => ⟨g, 0, rfl, hb.lt, fun k x hx => ⟨?_, hc k x hx 1 _ (by omega) rfl, hc k x hx 2 _ (by omega) rfl, hc k x hx 3 _ (by omega) rfl⟩⟩, fun k x hx => hok x (List.mem_of_getElem? hx)⟩
  have := hc k x hx 0 _ (by omega) rfl
  rwa [Nat.add_zero] at this
section
open Go.ChangeShapes Go.WideShapes Go.ChangeAt Go.Deep
variable {H : Type} {enc : TypeId × Value → H} {w : World} {base : Nat} {spare : Nat → Bool} {held : Bool}
theorem rd_of_d4s {fuel : Nat} {v : Value} {x : DataW H × List MemPlace} (h : DataW.trod enc Try.prog w base spare held fuel 92 [v] = some x) :
    ∃ (A : Option Addr) (len cap : Nat) (xs : List D4), v = .slice A len cap ∧ RdD4 w A len xs ∧ len ≤ cap ∧ cap ≤ maxLen := by
  obtain ⟨A, len, cap, rfl, hl, hm, hr⟩ := rd_of_structs (P := Try.prog) Try.underlying92 Try.underlying95 (by kernel_rfl) (by kernel_rfl) (by decide) h
  rcases Nat.eq_zero_or_pos len with h0 | h0
  · subst h0; exact ⟨A, 0, cap, [], rfl, ⟨rfl, fun h => absurd h (by omega), by simp⟩, hl, hm⟩
  · obtain ⟨g, off, hA, hg, hk⟩ := hr h0
    obtain ⟨xs, hxl, hx⟩ := list_of (p := fun k (x : D4) => D4At w g off k x ∧ x.ok) len (fun k hkl => by
      obtain ⟨n, hf⟩ := hk k hkl
      obtain ⟨u0, y0, hc0, ht0⟩ := hf 0 _ rfl
      obtain ⟨u1, y1, hc1, ht1⟩ := hf 1 _ rfl
      obtain ⟨u2, y2, hc2, ht2⟩ := hf 2 _ rfl
      obtain ⟨u3, y3, hc3, ht3⟩ := hf 3 _ rfl
      obtain ⟨z0, e0, _, w0⟩ := DataW.trod_int Try.underlying3 ht0
      obtain ⟨z1, e1, _, w1⟩ := DataW.trod_int Try.underlying3 ht1
      obtain ⟨z2, e2, _, w2⟩ := DataW.trod_int Try.underlying3 ht2
      obtain ⟨z3, e3, _, w3⟩ := DataW.trod_int Try.underlying5 ht3
      injection e0 with e0 _; injection e1 with e1 _; injection e2 with e2 _; injection e3 with e3 _
      subst e0; subst e1; subst e2; subst e3
      exact ⟨⟨z0, z1, z2, z3⟩, ⟨hc0, hc1, hc2, hc3⟩, ⟨wf_i64 w0, wf_i64 w1, wf_i64 w2, wf_u8 w3⟩⟩)
    exact ⟨A, len, cap, xs, rfl, ⟨hxl, fun _ => ⟨g, off, hA, hg, fun k x h => (hx k x h).1⟩, fun k x h => (hx k x h).2⟩, hl, hm⟩
end

def b0 (n : Int) : BS := ⟨0, 0, 0, .slice none 0 0, fun _ => False, Dk.new n, Dk.new n, [], [], []⟩
theorem bp_new {w w1 w2 w3 : World} {c b ms mo mk r : Nat} {n sz : Int} (hd : DiskAt w1 b ms mo (Dk.new n)) (m1 : Mod Nn w w1) (hf : ∀ k, In3 b ms mo k → w.heap.size ≤ k) (hr : RefAt w2 r (.slice none 0 0) (fun _ => False) (Dk.new n) []) (m2 : Mod Nn w1 w2) (hb : w1.heap.size ≤ r)
    (hC : CAt w3 c b ms mo mk (Dk.new n) sz 0 0 0 [] []) (m3 : Mod Nn w2 w3) (hc : w2.heap.size ≤ c) (hk : w2.heap.size ≤ mk) : Bp w w3 ⟨c, b, ms, mo, mk⟩ r sz (b0 n) := by
  have z1 := m1.size
  have z2 := m2.size
  have hrl : r < w2.heap.size := hr.lt r (.inl (.inl rfl))
  have hI : ∀ k, InI ⟨c, b, ms, mo, mk⟩ [] k → k = c ∨ k = mk ∨ (In3 b ms mo k) := fun k hk => by
    rcases hk with (hk | hk | ⟨e, he, -⟩) | hk
    · exact .inl hk
    · exact .inr (.inl hk)
    · cases he
    · exact .inr (.inr hk)
  have hR : ∀ k, InR r (.slice none 0 0) k ∨ False → k = r := fun k hk => by
    rcases hk with (hk | hk) | hk
    · exact hk
    · cases hk
    · exact hk.elim
  refine ⟨hC, hr.nn m3, (m1.nn_ m2).nn_ m3, fun k hk => ?_, fun k hk => ?_, fun k hk hin => ?_⟩
  · rcases hI k hk with h | h | h
    · omega
    · omega
    · exact hf k h
  · have := hR k hk; omega
  · have e := hR k hin
    rcases hI k hk with h | h | h
    · omega
    · omega
    · have := hd.lt k h; omega

section
variable {w0 w : World} {I : Id5} {r : Nat} {sz : Int} {s : BS}
theorem b_any (h : Bp w0 w I r sz s) (he : s.E = s.D) (hn : s.now ≤ 1000000) (x : D4) (hx : x.ok) :
    Calls Try.prog 63 #[.pointer (some ⟨I.c, 0, none⟩), .pointer (some ⟨I.b, 0, none⟩), .pointer (some ⟨r, 0, none⟩), .agg #[.int .i64 x.op, .int .i64 x.pos, .int .i64 x.num, .int .u8 x.byt]] w (BStep w0 I r sz s) := by
  have hp := pick_range x.op 6 (by omega)
  have hc : pick x.op 6 = 0 ∨ pick x.op 6 = 1 ∨ (pick x.op 6 = 2 ∨ pick x.op 6 = 3) ∨ pick x.op 6 = 4 ∨ pick x.op 6 = 5 := by omega
  cases h7 : (x.num.tmod 11 == 7) with
  | true =>
    rcases hc with hq | hq | hq | hq | hq
    · exact b_write0o h he hn x hx hq h7
    · exact b_write1o h he hn x hx hq h7
    · exact b_read h he hn x hx hq
    · exact b_arm h he x hx hq
    · exact b_sync h he x hx hq
  | false =>
    rcases hc with hq | hq | hq | hq | hq
    · exact b_write0e h he hn x hx hq h7
    · exact b_write1e h he hn x hx hq h7
    · exact b_read h he hn x hx hq
    · exact b_arm h he x hx hq
    · exact b_sync h he x hx hq
end
end Go.Proofs.Ytgmkibckbbbhkaa
