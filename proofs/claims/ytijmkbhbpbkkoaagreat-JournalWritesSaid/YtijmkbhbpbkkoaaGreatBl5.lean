/- blob without a cache; peatbanklaw20: full, awake, BlobNil. -/
import Derived.Test.YtijmkbhbpbkkoaaGreatBlA
import Derived.Test.YtijmkbhbpbkkoaaGreatCa7
import Derived.Test.YtijmkbhbpbkkoaaGreatBytes1
namespace Go.Proofs.YtijmkbhbpbkkoaaGreat
open Go.RowKit

section
variable {w : World} {p : Value}
set_option maxRecDepth 100000 in
set_option maxHeartbeats 400000 in
theorem bread_not (h : NotC w p) (a n : Int) : Calls Tryz.prog 30 #[p, .int .i64 a, .int .i64 n] w fun e w' => e = .returned (.tuple #[.slice none 0 0, .int .i64 1]) ∧ w = w' := by
  go_enter Tryz.func30, Tryz.ntmps30
  go_wp2_with fail
  refine (sectors_not h).mono ?_
  rintro r w1 ⟨rfl, rfl⟩
  clear h
  go_wp2
  go_ret2
  exact ⟨rfl, rfl⟩
set_option maxRecDepth 100000 in
set_option maxHeartbeats 400000 in
theorem bwrite_not {q : Option Addr} (h : NotC w (.pointer q)) (a : Int) {A : Option Addr} {n cc : Nat} : Calls Tryz.prog 28 #[.pointer q, .int .i64 a, .slice A n cc] w fun e w' => e = .returned (.int .i64 1) ∧ Mod Nn w w' := by
  have m1 : Mod Nn w ((w.alloc (.cells #[.pointer q] 32)).alloc (.cells #[.int .i64 0] 34)) := ((Mod.refl _ _).alloc _).alloc _
  have h1 := h.nn m1
  have hbx := Blk.new (w.alloc (.cells #[.pointer q] 32)) 34 #[.int .i64 0]
  rw [show (w.alloc (.cells #[.pointer q] 32)).heap.size = w.heap.size + 1 from by simp] at hbx
  have HBX := Lib.hid (And.intro hbx m1)
  clear h m1 hbx
  go_enter Tryz.func28, Tryz.ntmps28
  go_wp2_with fail
  refine (sectors_not h1).mono ?_
  rintro r w1 ⟨rfl, rfl⟩
  clear h1
  generalize hww : (w.alloc (.cells #[.pointer q] 32)).alloc (.cells #[.int .i64 0] 34) = ww at *
  clear hww
  have c6 : ww.cell? ⟨w.heap.size + 1, 0, none⟩ = some (.int .i64 0) := HBX.out.1.cell 0
  have f6 := HBX.out.1.frozen 0
  go_wp2
  have hc6 : (ww.setCell ⟨w.heap.size + 1, 0, none⟩ (.int .i64 1)).cell? ⟨w.heap.size + 1, 0, none⟩ = some (.int .i64 1) := World.cell?_setCell_same' _ _ _ (by rw [c6]; rfl)
  exact bodyPost_ret (v := .int .i64 1) (by simp [results, Tryz.results28, go_sem, hc6]) rfl ⟨rfl, HBX.out.2.new_ (Mod.cellAt ww (w.heap.size + 1) 0 (.int .i64 1)) (by omega)⟩
end

/-! ### one cache of one's own -/
section
variable {w0 w w' : World} {c b ms mo mk : Nat} {D : Dk} {most now hits misses : Int} {l : KL} {T : TL}
def OBW (w0 : World) (c b ms mo mk : Nat) (D' : Dk) (most hits misses : Int) (r : Int) (N : Int) (e : Ending) (w' : World) : Prop :=
  ∃ now' l' T', e = .returned (.int .i64 r) ∧ OwnC w0 w' c b ms mo mk D' most now' hits misses l' T' ∧ now' ≤ N
theorem ob_write (h : OwnC w0 w c b ms mo mk D most now hits misses l T) (at_ : Int) (ha : -9223372036854775808 ≤ at_ ∧ at_ ≤ 9223372036854775807) {A : Option Addr} {n cc : Nat} {bs : List Int} (hr : Rd w A n (bs.map (Value.int .u8))) (hcc : n ≤ cc) (hcm : cc ≤ 1152921504606846976)
    (hnow : now + ((n / 512 : Nat) : Int) ≤ 1152921504606846976) (hA : ∀ g, Of A g → ¬ InW c b ms mo mk g ∧ g < w.heap.size) {r : Int} {D' : Dk} (hw : bwrite D at_ bs = (r, D')) :
    Calls Tryz.prog 28 #[.pointer (some ⟨c, 0, none⟩), .int .i64 at_, .slice A n cc] w (OBW w0 c b ms mo mk D' most hits misses r (now + ((n / 512 : Nat) : Int))) :=
  (bwrite_any h.at_ at_ ha hr hcc hcm hnow hA).mono fun e w' ⟨now', l', T', he, hC, hT, hn⟩ => by
    rw [hw] at he hC
    have hL : bs.length = n := by simpa using hr.1
    rw [hL] at hn
    exact ⟨now', l', T', he, h.step hC hT, hn⟩
def OBR (w0 w : World) (c b ms mo mk : Nat) (D : Dk) (most : Int) (l : KL) (r : Int) (xs : List Int) (n : Nat) (N : Int) (e : Ending) (w' : World) : Prop :=
  ∃ v now' hits' misses' l' T', e = .returned (.tuple #[v, .int .i64 r]) ∧ OwnC w0 w' c b ms mo mk D most now' hits' misses' l' T' ∧ now' ≤ N ∧ w'.ownsRow w.heap.size 5 1 v n (xs.map (Value.int .u8)) ∧ (∀ g, v.ownBlock = some g → ¬ InA c b ms mo mk l' g) ∧ CTo w w' c b ms mo mk l l'
theorem ob_read (h : OwnC w0 w c b ms mo mk D most now hits misses l T) (at_ k : Int) (ha : -9223372036854775808 ≤ at_ ∧ at_ ≤ 9223372036854775807) (hnow : now ≤ 1000000000000) {r : Int} {xs : List Int} {n : Nat} (hb : bread D at_ k = (r, xs)) (hn : xs.length = n) :
    Calls Tryz.prog 30 #[.pointer (some ⟨c, 0, none⟩), .int .i64 at_, .int .i64 k] w (OBR w0 w c b ms mo mk D most l r xs n (now + 1024)) :=
  (bread_any h.at_ at_ k ha hnow).mono fun e w' ⟨v, now', hits', misses', l', T', he, hC, hT, hnw, ho, hnin⟩ => by
    rw [hb] at he ho
    rw [hn] at ho
    exact ⟨v, now', hits', misses', l', T', he, h.step hC hT, hnw, ho, hnin, hT⟩
/-- bytes just made lie apart -/
theorem OwnC.apart {g : Nat} (h : OwnC w0 w c b ms mo mk D most now hits misses l T) (hg : w.heap.size ≤ g) (hgl : g < w'.heap.size) : ∀ k, Of (some (⟨g, 0, none⟩ : Addr)) k → ¬ InW c b ms mo mk k ∧ k < w'.heap.size := fun k hk => by
  obtain ⟨a, ha, hka⟩ := hk; injection ha with ha; subst ha
  have hka : g = k := hka
  exact ⟨fun hin => by have := h.at_.lt k (inA_of hin); omega, by omega⟩
end

def awD : Dk := ((Dk.new 4).put 1 ((fulL 9 1024).take 512)).put 2 ((fulL 9 1024).drop 512)
theorem aw_w : bwrite (Dk.new 4) 1 (fulL 9 1024) = (0, awD) := by
  have hl : (fulL 9 1024).length = 1024 := fulL_len _ _
  have h1 : ((fulL 9 1024).take 512).length = 512 := by rw [List.length_take, hl]; rfl
  have h2 : ((fulL 9 1024).drop 512).length = 512 := by rw [List.length_drop, hl]
  have h3 : ((fulL 9 1024).drop 512).take 512 = (fulL 9 1024).drop 512 := List.take_of_length_le (by omega)
  unfold bwrite
  rw [hl, if_neg (by decide), if_neg (by decide)]
  show bw (Dk.new 4) 1 (fulL 9 1024) (1 + 1) = _
  unfold bw
  rw [write_up rfl rfl (by omega) (by decide) h1, if_pos rfl]
  unfold bw
  rw [h3, write_up rfl rfl (by omega) (by decide) h2, if_pos rfl]
  rfl
theorem aw_r : bread awD 1 3 = (0, fulL 9 1024 ++ zsec) := by
  unfold bread
  rw [if_neg (by decide), if_neg (by decide), if_neg (by decide)]
  show (0, rowsL awD 1 (0 + 1 + 1 + 1)) = _
  rw [rowsL_succ, rowsL_succ, rowsL_succ]
  have e1 : awD.latest (1 + (0 : Nat)) = (fulL 9 1024).take 512 := by unfold awD; rw [put_latest, if_neg (by decide), put_latest, if_pos (by decide)]
  have e2 : awD.latest (1 + ((0 + 1 : Nat) : Int)) = (fulL 9 1024).drop 512 := by unfold awD; rw [put_latest, if_pos (by decide)]
  have e3 : awD.latest (1 + ((0 + 1 + 1 : Nat) : Int)) = zsec := by unfold awD; rw [put_latest, if_neg (by decide), put_latest, if_neg (by decide)]; rfl
  rw [e1, e2, e3]
  show (0, ([] ++ (fulL 9 1024).take 512 ++ (fulL 9 1024).drop 512) ++ zsec) = _
  rw [List.nil_append, List.take_append_drop]
theorem aw_at : (fulL 9 1024 ++ zsec)[1024]? = some 0 := by
  rw [List.getElem?_append_right (by rw [fulL_len]; omega), fulL_len]; rfl
theorem aw_len : (fulL 9 1024 ++ zsec).length = 1536 := by rw [List.length_append, fulL_len, zsec_len]
theorem bw_bad {D : Dk} {at_ : Int} {bs : List Int} {k : Nat} (hl : bs.length = k) (h : k % 512 = 0) (hb : bmay D at_ ((k / 512 : Nat) : Int) = 6) : bwrite D at_ bs = (6, D) := by
  unfold bwrite; rw [hl, if_neg (by omega), if_pos (by rw [hb]; decide)]
theorem bw_odd {D : Dk} {at_ : Int} {bs : List Int} {k : Nat} (hl : bs.length = k) (h : k % 512 ≠ 0) : bwrite D at_ bs = (2, D) := by
  unfold bwrite; rw [hl, if_pos h]
end Go.Proofs.YtijmkbhbpbkkoaaGreat
