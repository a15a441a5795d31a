/- finish: what is left. -/
import Derived.Test.YtbocdgmkiajihaaDoorSha7
namespace Go.Proofs.YtbocdgmkiajihaaDoor
open Go.RowKit

theorem Blk.setCells_tail {t : TypeId} {b : Nat} : ∀ (vs old pre : List Value) (w : World), old.length = vs.length → Blk w b t (pre ++ old).toArray → Blk (w.setCells b pre.length vs) b t (pre ++ vs).toArray
  | [], old, pre, w, h, hb => by
    rw [List.eq_nil_of_length_eq_zero (show old.length = 0 by simpa using h)] at hb
    exact hb
  | v :: vs, [], pre, w, h, hb => by simp at h
  | v :: vs, y :: ys, pre, w, h, hb => by
    rw [World.setCells]
    have h1 := hb.set_ pre.length v
    rw [List.setIfInBounds_toArray, List.set_append_right _ _ (Nat.le_refl _), Nat.sub_self, List.set_cons_zero] at h1
    have h2 := Blk.setCells_tail vs ys (pre ++ [v]) _ (by simpa using h) (by rw [List.append_assoc]; exact h1)
    rw [List.length_append, List.append_assoc] at h2
    exact h2
theorem Mod.setCells_ {b : Nat} : ∀ (vs : List Value) (o : Nat) (w : World), Mod (At b) w (w.setCells b o vs)
  | [], _, w => Mod.refl _ w
  | v :: vs, o, w => by
    rw [World.setCells]
    exact (Mod.cellAt w b o v).trans (Mod.setCells_ vs (o + 1) _)
theorem hash_key {w : World} {hb : Nat} {s r : Value} {n d st : Int} {told : Bool} {k k' : List Nat} (h : Blk w hb 48 (hashC s r n d st told k)) (hk : k.length = k'.length) :
    Blk (w.setCells hb 7 (u8s k')) hb 48 (hashC s r n d st told k') := by
  have := Blk.setCells_tail (u8s k') (u8s k) [s, r, .int .u64 n, .int .u32 d, .int .i32 st, .int .u32 0, .bool told] w (by rw [u8s_len, u8s_len, hk]) h
  exact this
theorem hash_there {w : World} {hb : Nat} {s r : Value} {n d st : Int} {told : Bool} {k : List Nat} (h : Blk w hb 48 (hashC s r n d st told k)) (hk : k.length = 32) : w.there hb 7 32 := fun j hj => by
  refine ⟨?_, h.frozen _⟩
  rw [h.cell (7 + j)]
  unfold hashC
  rw [List.getElem?_toArray, List.getElem?_append_right (by simp)]
  rw [Option.isSome_iff_exists]
  exact ⟨_, List.getElem?_eq_getElem (by rw [u8s_len, hk]; simp; omega)⟩
section
variable {P : Program} {w : World} {o : Oper} {a : Act}
theorem exec_shr64 (X n : Nat) (t t' : TypeId) (x y : Operand) (ho : o.op = .binOp .shr t x y t') (hx : a.eval x = .int .u64 (X : Int)) (hy : a.eval y = .int .i64 (n : Int)) (hn : n ≤ 64) : (execOp a.eval o).run P w = .ok (.value (.int .u64 ((X / 2 ^ n : Nat) : Int))) w := by
  have h : (execOp a.eval o).run P w = .ok (.value (.int .u64 ((X : Int) / 2 ^ n))) w := by
    simp only [execOp, ho, hx, hy]; simp [go_sem, Nat.min_eq_left hn]
  rw [h]; simp
theorem exec_shr64u (X n : Nat) (t t' : TypeId) (x y : Operand) (ho : o.op = .binOp .shr t x y t') (hx : a.eval x = .int .u64 (X : Int)) (hy : a.eval y = .int .u64 (n : Int)) (hn : n ≤ 64) : (execOp a.eval o).run P w = .ok (.value (.int .u64 ((X / 2 ^ n : Nat) : Int))) w := by
  have h : (execOp a.eval o).run P w = .ok (.value (.int .u64 ((X : Int) / 2 ^ n))) w := by
    simp only [execOp, ho, hx, hy]; simp [go_sem, Nat.min_eq_left hn]
  rw [h]; simp
theorem exec_low64 (X : Nat) (t t' : TypeId) (x : Operand) (ho : o.op = .convert t t' x) (hx : a.eval x = .int .u64 (X : Int)) (h1 : P.underlying t = some (.int .u64)) (h2 : P.underlying t' = some (.int .u8)) : (execOp a.eval o).run P w = .ok (.value (.int .u8 ((X % 256 : Nat) : Int))) w := by
  have h : (execOp a.eval o).run P w = .ok (.value (.int .u8 (IntKind.u8.wrap (X : Int)))) w := by
    simp only [execOp, ho, hx]; simp [go_sem, h1, h2]
  rw [h, IntKind.wrap_u8]
  congr 3
end
/-- the length's bytes, one by one -/
theorem len8_take (n k : Nat) (h : k < 8) : (len8 n).take (7 - k + 1) = (len8 n).take (7 - k) ++ [(8 * n) / 2 ^ (8 * k) % 256] := by
  rw [List.take_add_one]
  congr 1
  unfold len8
  rw [List.getElem?_map, List.getElem?_range (show 7 - k < 8 by omega)]
  simp only [Option.map_some, Option.toList_some]
  rw [show 7 - (7 - k) = k from by omega]
theorem tail8_lt (n : Nat) : ∀ z ∈ tail8 n, z < 256 := fun z hz => by
  unfold tail8 at hz
  rcases List.mem_cons.1 hz with rfl | hz
  · omega
  · rcases List.mem_append.1 hz with hz | hz
    · rw [(List.mem_replicate.1 hz).2]; omega
    · unfold len8 at hz
      obtain ⟨i, _, rfl⟩ := List.mem_map.1 hz
      exact Nat.mod_lt _ (by omega)
/-- a hash in the midst of once -/
structure HB (w : World) (hb sb : Nat) (rv : Value) (t : List Nat) (d st : Int) : Prop where
  blk : Blk w hb 48 (hashC (.pointer (some ⟨sb, 0, none⟩)) rv (t.length : Int) d st false z32)
  st : Blk w sb 63 (wvs (stS t).l)
  row : w.ownsRow 0 5 1 rv (rest t).length (u8s (rest t))
  h1 : 1 < hb
  s1 : 1 < sb
  r0 : ∀ g, rv.ownBlock = some g → 1 < g
  lt : ∀ z ∈ t, z < 256
theorem InH.n1 {w : World} {hb sb : Nat} {rv : Value} {t : List Nat} {d st : Int} (h : HB w hb sb rv t d st) : ∀ g, InH hb sb rv g → 1 < g := by
  rintro g (rfl | rfl | hg)
  · exact h.h1
  · exact h.s1
  · exact h.r0 g hg

def FinP (w : World) (hb sb : Nat) (rv : Value) (t : List Nat) (d st : Int) (e : Ending) (w' : World) : Prop :=
  e = .returned (.tuple #[]) ∧ Blk w' hb 48 (hashC (.pointer (some ⟨sb, 0, none⟩)) rv (t.length : Int) d st true (digL t)) ∧ Mod (InH hb sb rv) w w'

set_option maxRecDepth 100000 in
set_option maxHeartbeats 3200000 in
theorem finish_any {w : World} (hg : Gl w) {hb sb : Nat} {rv : Value} {t : List Nat} {d st : Int} (h : HB w hb sb rv t d st) (hN : t.length ≤ 1099511627776) :
    Calls Tryd.prog 24 #[.pointer (some ⟨hb, 0, none⟩)] w (FinP w hb sb rv t d st) := by
  have hne : hb ≠ sb := Blk.ne_ h.blk h.st (by decide)
  have c6 : w.cell? ⟨hb, 6, none⟩ = some (.bool false) := (h.blk.cell 6).trans hashC_6
  have f6 := h.blk.frozen 6
  have hrl : (rest t).length ≤ 63 := by rw [rest_len]; omega
  obtain ⟨rA, rc, rfl, hrc, -⟩ := own_form h.row
  obtain ⟨r0, hr0⟩ : ∃ x, (rest t).length = x := ⟨_, rfl⟩
  have HR0 := Lib.hid hr0
  have hz0 : zrs r0 = zrs t.length := by rw [← hr0, rest_len]; exact zrs_same _ _ (by omega)
  have HZ := Lib.hid hz0
  rw [hr0] at hrl hrc ⊢
  have hrow0 := h.row
  rw [hr0] at hrow0
  have HRW := Lib.hid hrow0
  have hblk := h.blk
  rw [hr0] at hblk
  have HBK := Lib.hid hblk
  have H := Lib.hid h
  obtain ⟨tl, htl⟩ : ∃ x, t.length = x := ⟨_, rfl⟩
  have HTL := Lib.hid htl
  rw [htl] at hN
  have HG := Lib.hid hg
  clear h hg hr0 hz0 hrow0 hblk htl
  go_enter Tryd.func24, Tryd.ntmps24
  go_upto_region 1 with fail
  have m1 : Mod (At hb) w (w.setCell ⟨hb, 6, none⟩ (.bool true)) := Mod.cellAt _ _ _ _
  have hb1 := HBK.out.set_ 6 (.bool true)
  rw [hashC_s6, HTL.out] at hb1
  have hs1 := H.out.st.mod m1 (fun e => hne (by have e : sb = hb := e; exact e.symm))
  have hrw1 := own_mod HRW.out m1 (fun g hg e => by have e : g = hb := e; subst e; exact own_ne HRW.out HBK.out (by decide) hg)
  have hM1 : Mod (InH hb sb (.slice rA r0 rc)) w (w.setCell ⟨hb, 6, none⟩ (.bool true)) := m1.mono (fun _ _ e => .inl e)
  generalize w.setCell ⟨hb, 6, none⟩ (.bool true) = wa at *
  have HW1 := Lib.hid (And.intro hM1 (And.intro hb1 (And.intro hs1 hrw1)))
  have c1 : wa.cell? ⟨hb, 1, none⟩ = some (.slice rA r0 rc) := (hb1.cell 1).trans hashC_1
  clear m1 hb1 hs1 hrw1 hM1 c6 f6
  go_wp2_with (first
    | (with_reducible change wpList _ _ _ (⟨some 12, _, _, _, _, _⟩ :: _) _ _
       go_must (refine wpList_append_rd 22 _ _ rfl rfl 0 5 (.int .u8 0) 1 1 Tryd.underlying22 info8 rfl (by omega) (.slice rA r0 rc) r0 (u8s (rest t)) rfl (own_mod HW1.out.2.2.2 ((Mod.refl Nn _).alloc _) (fun _ _ f => f)) _ 1 1 (u8s [128]) rfl (Rd.of_blk0 (Blk.new _ _ _) rfl).toC (u8s_one _) (by omega) (by omega) (Nat.zero_le _) ?_)
       intro v1 wb own1 gr1 ob1
       have m2 : Mod (InH hb sb (.slice rA r0 rc)) wa wb := ((Mod.refl _ wa).alloc _).grown gr1 (fun g hg => .inr (.inr (.inr hg)))
       have m2' : Mod (fun g => (Value.slice rA r0 rc).ownBlock = some g) wa wb := ((Mod.refl _ wa).alloc _).grown gr1 (fun g hg => .inr hg)
       have hb2 := HW1.out.2.1.mod m2' (fun e => own_ne HW1.out.2.2.2 HW1.out.2.1 (by decide) e)
       have hs2 := HW1.out.2.2.1.mod m2' (fun e => own_ne HW1.out.2.2.2 HW1.out.2.2.1 (by decide) e)
       rw [← u8s_append] at own1
       have hvb : ∀ g, v1.ownBlock = some g → InH hb sb (.slice rA r0 rc) g ∨ w.heap.size ≤ g := fun g hg => by
         rcases ob1 with e | e
         · rw [e] at hg; exact .inl (.inr (.inr hg))
         · rw [e] at hg; injection hg with hg; have := HW1.out.1.size; rw [World.size_alloc] at hg; exact .inr (by omega)
       have HC := Lib.hid (And.intro hb2 (And.intro hs2 (And.intro own1 (And.intro (HW1.out.1.trans m2) hvb))))
       clear own1 gr1 ob1 m2 m2' hb2 hs2 hvb))
  go_loopw [2] (fun x wr => ∃ (j m : Nat) (A' : Option Addr) (c' : Nat), j ≤ zrs r0 ∧ m = r0 + 1 + j ∧ x = .slice A' m c' ∧ wr.ownsRow 0 5 1 (.slice A' m c') m (u8s (rest t ++ 128 :: List.replicate j 0)) ∧ Blk wr hb 48 (hashC (.pointer (some ⟨sb, 0, none⟩)) (.slice rA r0 rc) (tl : Int) d st true z32) ∧ Blk wr sb 63 (wvs (stS t).l) ∧ Mod (InH hb sb (.slice rA r0 rc)) w wr ∧ (∀ g, Of A' g → InH hb sb (.slice rA r0 rc) g ∨ w.heap.size ≤ g)) (fun x _ => match x with | .slice _ m _ => r0 + 1 + 64 - m | _ => 0)
  case atStart =>
    obtain ⟨A', c', e, -, -⟩ := own_form HC.out.2.2.1
    exact ⟨0, r0 + 1, A', c', Nat.zero_le _, rfl, e, e ▸ HC.out.2.2.1, HC.out.1, HC.out.2.1, HC.out.2.2.2.1, fun g hg => HC.out.2.2.2.2 g (by rw [e]; exact of_own hg)⟩
  case round =>
    clear HC
    obtain ⟨j, m, A', c', hj, hmj, rfl, hown, hb, hs, hmd, hin⟩ := hrel
    obtain ⟨wo, rfl⟩ : ∃ wo : World, wo = wr := ⟨_, rfl⟩
    have HMJ := Lib.hid hmj
    have hz64 := zrs_lt r0
    by_cases hlt : j < zrs r0
    · have ht : ((m : Int) % 64 != 56) = true := by
        have := zrs_min r0 j hlt
        rw [bne_iff_ne]; rw [← hmj] at this; omega
      have hmb : m ≤ 200 := by omega
      clear hmj
      have HX := Lib.hid (And.intro hown (And.intro hb (And.intro hs (And.intro hmd hin))))
      clear hown hb hs hmd hin
      go_wp2_with (first
        | (with_reducible change wpList _ _ _ (⟨some 19, _, _, _, _, _⟩ :: _) _ _
           go_must (refine wpList_append_rd 22 _ _ rfl rfl 0 5 (.int .u8 0) 1 1 Tryd.underlying22 info8 rfl (by omega) (.slice A' m c') m _ rfl (own_mod HX.out.1 ((Mod.refl Nn _).alloc _) (fun _ _ f => f)) _ 1 1 (u8s [0]) rfl (Rd.of_blk0 (Blk.new _ _ _) rfl).toC (u8s_one _) (by omega) (by omega) (Nat.zero_le _) ?_)
           intro v1 wb own1 gr1 ob1))
      have m2' : Mod (fun g => (Value.slice A' m c').ownBlock = some g) wo wb := ((Mod.refl _ wo).alloc _).grown gr1 (fun g hg => .inr hg)
      have hb2 := HX.out.2.1.mod m2' (fun e => own_ne HX.out.1 HX.out.2.1 (by decide) e)
      have hs2 := HX.out.2.2.1.mod m2' (fun e => own_ne HX.out.1 HX.out.2.2.1 (by decide) e)
      rw [← u8s_append, show rest t ++ 128 :: List.replicate j 0 ++ [0] = rest t ++ 128 :: List.replicate (j + 1) 0 from by rw [List.append_assoc, List.cons_append, ← List.replicate_succ']] at own1
      have hmd2 : Mod (InH hb sb (.slice rA r0 rc)) w wb := HX.out.2.2.2.1.then_ m2' (fun g hg0 hg => by
        rcases HX.out.2.2.2.2 g (own_of hg) with h | h
        · exact h
        · omega)
      obtain ⟨A2, c2, rfl, -, hA2⟩ := own_form own1
      have hvb : ∀ g, Of A2 g → InH hb sb (.slice rA r0 rc) g ∨ w.heap.size ≤ g := fun g hg => by
        have hg' := of_own (m := m + 1) (c := c2) hg
        rcases ob1 with e | e
        · rw [e] at hg'; exact HX.out.2.2.2.2 g (own_of hg')
        · rw [e] at hg'; injection hg' with hg'; have := HX.out.2.2.2.1.size; rw [World.size_alloc] at hg'; exact .inr (by omega)
      refine ⟨⟨j + 1, m + 1, A2, c2, by omega, by have := HMJ.out; omega, rfl, own1, hb2, hs2, hmd2, hvb⟩, ?_⟩
      show r0 + 1 + 64 - (m + 1) < r0 + 1 + 64 - m
      have := HMJ.out
      omega
    · have hje : j = zrs r0 := by omega
      subst hje
      have hmb : m ≤ 200 := by omega
      have ht : ((m : Int) % 64 != 56) = false := by
        have h1 := zrs_mod r0
        rw [← hmj] at h1
        have : (m : Int) % 64 = 56 := by omega
        rw [this]; rfl
      have hM64 : (m + 8) % 64 = 0 := by have h1 := zrs_mod r0; rw [← hmj] at h1; omega
      have HX := Lib.hid (And.intro hown (And.intro hb (And.intro hs (And.intro hmd hin))))
      have HM64 := Lib.hid hM64
      clear hmj hown hb hs hmd hin hM64 hlt
      go_wp2
      clear ht
      go_loopw [2, 3] (fun x i wr => ∃ (z : Int) (q : Nat) (A2 : Option Addr) (c2 : Nat), i = .int .i64 z ∧ z = 7 - (q : Int) ∧ q ≤ 8 ∧ x = .slice A2 (m + q) c2 ∧ wr.ownsRow 0 5 1 (.slice A2 (m + q) c2) (m + q) (u8s (rest t ++ 128 :: List.replicate (zrs r0) 0 ++ (len8 tl).take q)) ∧ Blk wr hb 48 (hashC (.pointer (some ⟨sb, 0, none⟩)) (.slice rA r0 rc) (tl : Int) d st true z32) ∧ Blk wr sb 63 (wvs (stS t).l) ∧ Mod (InH hb sb (.slice rA r0 rc)) w wr ∧ (∀ g, Of A2 g → InH hb sb (.slice rA r0 rc) g ∨ w.heap.size ≤ g)) (fun _ i _ => (intOf i + 1).toNat)
      case atStart => exact ⟨7, 0, A', c', rfl, rfl, by omega, rfl, by simpa using HX.out.1, HX.out.2.1, HX.out.2.2.1, HX.out.2.2.2.1, HX.out.2.2.2.2⟩
      case round =>
        clear HX
        obtain ⟨z, q, A2, c2, rfl, hzq, hq, rfl, hown, hbk, hs, hmd, hin⟩ := hrel
        obtain ⟨wy, rfl⟩ : ∃ wy : World, wy = wr := ⟨_, rfl⟩
        have c2h : wy.cell? ⟨hb, 2, none⟩ = some (.int .u64 (tl : Int)) := (hbk.cell 2).trans hashC_2
        by_cases hlq : q < 8
        · obtain ⟨kk, hkk⟩ : ∃ kk, 7 - q = kk := ⟨_, rfl⟩
          have hz : z = (kk : Int) := by omega
          subst hz
          obtain ⟨s8, hs8⟩ : ∃ x, 8 * kk = x := ⟨_, rfl⟩
          obtain ⟨N8, hN8⟩ : ∃ x, 8 * tl = x := ⟨_, rfl⟩
          have hlen := len8_take tl kk (by omega)
          rw [show 7 - kk = q from by omega, hs8, hN8] at hlen
          have HLE := Lib.hid hlen
          have HX := Lib.hid (And.intro hown (And.intro hbk (And.intro hs (And.intro hmd (And.intro hin (And.intro hzq hkk))))))
          have e1 : (8 : Int) * (tl : Int) = (N8 : Int) := by omega
          have e2 : (8 : Int) * (kk : Int) = (s8 : Int) := by omega
          have hk7 : (kk : Int) ≤ 7 := by omega
          have hs64 : s8 ≤ 64 := by omega
          have hN8b : (N8 : Int) ≤ 8796093022208 := by omega
          clear hown hbk hs hmd hin hzq hlen hkk hs8 hN8
          go_wp2_with (first
            | (with_reducible change wpList _ _ _ (⟨some 32, _, _, _, _, _⟩ :: _) _ _
               go_must (refine wpList_val rfl (exec_shr64 N8 s8 _ _ _ _ rfl rfl rfl hs64) ?_))
            | (with_reducible change wpList _ _ _ (⟨some 33, _, _, _, _, _⟩ :: _) _ _
               go_must (refine wpList_val rfl (exec_low64 (N8 / 2 ^ s8) _ _ _ rfl rfl Tryd.underlying34 Tryd.underlying5) ?_)
               generalize hby : N8 / 2 ^ s8 % 256 = by8 at *
               clear e1 e2)
            | (with_reducible change wpList _ _ _ (⟨some 35, _, _, _, _, _⟩ :: _) _ _
               go_must (refine wpList_append_rd 22 _ _ rfl rfl 0 5 (.int .u8 0) 1 1 Tryd.underlying22 info8 rfl (by omega) (.slice A2 (m + q) c2) (m + q) _ rfl (own_mod HX.out.1 ((Mod.refl Nn _).alloc _) (fun _ _ f => f)) _ 1 1 (u8s [by8]) rfl (Rd.of_blk0 (Blk.new _ _ _) rfl).toC (u8s_one _) (by omega) (by omega) (Nat.zero_le _) ?_)
               intro v1 wb own1 gr1 ob1))
          have m2' : Mod (fun g => (Value.slice A2 (m + q) c2).ownBlock = some g) wy wb := ((Mod.refl _ wy).alloc _).grown gr1 (fun g hg => .inr hg)
          have hb2 := HX.out.2.1.mod m2' (fun e => own_ne HX.out.1 HX.out.2.1 (by decide) e)
          have hs2 := HX.out.2.2.1.mod m2' (fun e => own_ne HX.out.1 HX.out.2.2.1 (by decide) e)
          have hle := HLE.out
          rw [← u8s_append, List.append_assoc, ← hle] at own1
          have hmd2 : Mod (InH hb sb (.slice rA r0 rc)) w wb := HX.out.2.2.2.1.then_ m2' (fun g hg0 hg => by
            rcases HX.out.2.2.2.2.1 g (own_of hg) with h | h
            · exact h
            · omega)
          obtain ⟨A3, c3, rfl, -, hA3⟩ := own_form own1
          have hvb : ∀ g, Of A3 g → InH hb sb (.slice rA r0 rc) g ∨ w.heap.size ≤ g := fun g hg => by
            have hg' := of_own (m := m + q + 1) (c := c3) hg
            rcases ob1 with e | e
            · rw [e] at hg'; exact HX.out.2.2.2.2.1 g (own_of hg')
            · rw [e] at hg'; injection hg' with hg'; have := HX.out.2.2.2.1.size; rw [World.size_alloc] at hg'; exact .inr (by omega)
          have hzz := HX.out.2.2.2.2.2.1
          refine ⟨⟨(kk : Int) - 1, q + 1, A3, c3, rfl, by omega, by omega, rfl, own1, hb2, hs2, hmd2, hvb⟩, ?_⟩
          simp [intOf]
        · have hq8 : q = 8 := by omega
          subst hq8
          have hz1 : z = -1 := by omega
          subst hz1
          have hc0 : wy.cell? ⟨hb, 0, none⟩ = some (.pointer (some ⟨sb, 0, none⟩)) := (hbk.cell 0).trans hashC_0
          rw [List.take_of_length_le (by rw [len8_len]; exact Nat.le_refl _), List.append_assoc, List.cons_append] at hown
          have hta : (128 :: (List.replicate (zrs r0) 0 ++ len8 tl)) = tail8 t.length := by unfold tail8; rw [HZ.out, HTL.out]
          rw [hta] at hown
          have hgl := HG.out.mod hmd (fun e => by have := InH.n1 H.out 0 (by rw [HR0.out]; exact e); omega) (fun e => by have := InH.n1 H.out 1 (by rw [HR0.out]; exact e); omega)
          have hlt8 : ∀ z ∈ rest t ++ tail8 t.length, z < 256 := fun z hz => by
            rcases List.mem_append.1 hz with hz | hz
            · exact H.out.lt z (List.mem_of_mem_drop hz)
            · exact tail8_lt _ z hz
          have hcm : c2 ≤ maxLen := by
            rcases hown.2 with ⟨e, _⟩ | ⟨_, cap, _, e, _, _, _, hcap, _⟩
            · injection e with _ _ e; subst e; exact Nat.zero_le _
            · injection e with _ _ e; subst e; exact hcap
          have hcc : m + 8 ≤ c2 := by
            obtain ⟨_, _, e, hc, _⟩ := own_form hown
            injection e with _ _ e; subst e; exact hc
          have hcall := blocks_any hgl (stS t) hs H.out.s1 (Rd.of_own hown) hlt8 hcc hcm (fun g hg e => own_ne hown hs (by decide) (of_own (e ▸ hg)))
          have hml : (m + 8) / 64 = ((rest t).length + (tail8 t.length).length) / 64 := by
            have := hown.1; rw [u8s_len, List.length_append] at this; rw [this]; omega
          have hdig : blks (stS t) (rest t ++ tail8 t.length) ((m + 8) / 64) = digS t := by rw [hml]; exact dig_of t
          have HX := Lib.hid (And.intro hbk (And.intro hmd hdig))
          clear hown hbk hs hmd hin hta hgl hlt8 hcm hcc hml hdig hzq c2h
          go_wp2_with fail
          refine hcall.mono ?_
          rintro e w3 ⟨A4, c4, rfl, -, -, hs3, m3⟩
          rw [HX.out.2.2] at hs3
          have hb3 := HX.out.1.mod m3 (fun e => hne e)
          have hmd3 := HX.out.2.1.then_ m3 (fun g _ e => .inr (.inl e))
          have hc0' : w3.cell? ⟨hb, 0, none⟩ = some (.pointer (some ⟨sb, 0, none⟩)) := (hb3.cell 0).trans hashC_0
          have HY := Lib.hid (And.intro hb3 (And.intro hmd3 hs3))
          clear hcall hs3 m3 hb3 hmd3 hc0
          go_wp2_with fail
          refine (key_any (digS t) HY.out.2.2).mono ?_
          rintro e w4 ⟨rfl, m4⟩
          have hb4 := HY.out.1.mod m4 (fun f => f)
          have hkl : (u8s (keyL (digS t))).toArray.size = 32 := by simp [u8s_len, keyL_len]
          have hb5 := hash_key (k' := digL t) hb4 (by rw [show (digL t).length = 32 from keyL_len _]; rfl)
          have m5 := Mod.setCells_ (b := hb) (u8s (digL t)) 7 w4
          have hmd5 := (HY.out.2.1.nn_ m4).then_ m5 (fun g _ e => .inl e)
          rw [← HTL.out] at hb5
          have HE := Lib.hid (show FinP w hb sb (.slice rA r0 rc) t d st (.returned (.tuple #[])) (w4.setCells hb 7 (u8s (digL t))) from ⟨rfl, hb5, hmd5⟩)
          have hth := hash_there hb4 (by rfl)
          clear hb5 m5 hmd5 hb4 m4 hc0'
          go_wp2_with (first
            | (with_reducible change wpList _ _ _ (⟨none, Op.store 26 _ _, _, _, _, _⟩ :: _) _ _
               go_must (refine wpList_store_mid rfl 26 _ _ rfl hb 7 (u8s (keyL (digS t))).toArray rfl rfl (by rw [hkl]; exact hth) (by rw [sizeK, hkl]) (u8s_all _) ?_)))
          go_end0
          exact HE.out
end Go.Proofs.YtbocdgmkiajihaaDoor
