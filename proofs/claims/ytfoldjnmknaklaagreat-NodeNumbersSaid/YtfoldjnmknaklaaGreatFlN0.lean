/- Marks that are nodes: each with a fresh row of one number; rows whose marks are chosen while they are laid. -/
import Derived.Test.YtfoldjnmknaklaaGreatNdSx
import Derived.Test.YtfoldjnmknaklaaGreatApB1
import Derived.Test.YtfoldjnmknaklaaGreatKit23
namespace Go.Proofs.YtfoldjnmknaklaaGreat
open Go.RowKit

def ndX (g : Nat) : List Value := [.bool false, .slice none 0 0, .slice none 0 0, .slice (some ⟨g, 0, none⟩) 1 1]
theorem ndX_len (g : Nat) : (ndX g).length = 4 := rfl
theorem ndX_one (g : Nat) : ∀ u ∈ ndX g, u.oneCell' = true := fun u hu => by
  simp only [ndX, List.mem_cons, List.not_mem_nil, or_false] at hu
  rcases hu with h | h | h | h <;> subst h <;> rfl
theorem ndX_all (g : Nat) : (ndX g).toArray.all (·.oneCell') = true := by simp [ndX, Value.oneCell']
def upd (f : Nat → Nat → Nat) (k i g : Nat) : Nat → Nat → Nat := fun k' i' => if k' = k ∧ i' = i then g else f k' i'
theorem upd_eq (f : Nat → Nat → Nat) (k i g : Nat) : upd f k i g k i = g := by unfold upd; rw [if_pos ⟨rfl, rfl⟩]
theorem upd_ne {f : Nat → Nat → Nat} {k i g k' i' : Nat} (h : ¬ (k' = k ∧ i' = i)) : upd f k i g k' i' = f k' i' := by unfold upd; rw [if_neg h]
def EN (f : Nat → Nat → Nat) (k i : Nat) : List Value := ndX (f k i)
theorem EN_len (f : Nat → Nat → Nat) (k i : Nat) : (EN f k i).length = 4 := rfl
theorem mkN_re {f f' : Nat → Nat → Nat} {k : Nat} : ∀ {n : Nat}, (∀ i, i < n → f' k i = f k i) → mkR (EN f') k n = mkR (EN f) k n
  | 0, _ => rfl
  | n + 1, h => by rw [mkR_succ, mkR_succ, mkN_re (fun i hi => h i (by omega))]; unfold EN; rw [h n (by omega)]
theorem mkN_len (f : Nat → Nat → Nat) (k n : Nat) : (mkR (EN f) k n).length = n * 4 := mkR_len (EN_len f) k n
theorem mkN_one (f : Nat → Nat → Nat) (k n : Nat) : ∀ u ∈ mkR (EN f) k n, u.oneCell' = true := fun u hu => by
  unfold mkR flat EN at hu
  simp only [List.mem_flatMap] at hu
  obtain ⟨i, _, h⟩ := hu
  exact ndX_one _ u h
theorem mkN_at (f : Nat → Nat → Nat) (k : Nat) {i n : Nat} (h : i < n) : ∀ j v, (ndX (f k i))[j]? = some v → (mkR (EN f) k n)[i * 4 + j]? = some v := fun j v hv => by
  have hj : j < 4 := (List.getElem?_eq_some_iff.1 hv).1
  rw [mkR_at (EN_len f) k h hj]; exact hv
theorem info_slN : (Tryz.prog.info? 22).map (fun i => (i.zero, i.size, i.bytes)) = some (some (.slice none 0 0), 1, 24) := by kernel_rfl
theorem infoN : (Tryz.prog.info? 32).map (fun i => (i.zero, i.size, i.bytes)) = some (some (.agg #[.bool false, .slice none 0 0, .slice none 0 0, .slice none 0 0]), 4, 80) := by kernel_rfl
def ZmN (f : Nat → Nat → Nat) (j n : Nat) : List Value := mkR (EN f) j (n + 64)
def ZnN (f : Nat → Nat → Nat) (m j n : Nat) : List Value := mkR (EN f) j n ++ mkR (EN f) (j + m) 64
/-- the mark's row of one number -/
def Gd (w : World) (f : Nat → Nat → Nat) (k i : Nat) : Prop := Blk w (f k i) 3 #[.int .i64 (mk0 k i)]
section
variable {w w' w0 : World} {f f' : Nat → Nat → Nat} {S : Nat → Prop} {e : TypeId} {s G hb k n : Nat} {L H : List Row} {E E' : Nat → Nat → List Value} {Z Z' : Nat → Nat → List Value} {v : Value} {xs xs' : List Value} {r : Row}
theorem Gd.mod {k i : Nat} (h : Gd w f k i) (hm : Mod S w w') (hS : ∀ g cs, S g → Blk w g 3 cs → False) : Gd w' f k i := Blk.mod h hm (fun s => hS _ _ s h)
theorem Gd.nn {k i : Nat} (h : Gd w f k i) (hm : Mod Nn w w') : Gd w' f k i := h.mod hm (fun _ _ f _ => f)
theorem Gd.re {k i : Nat} (h : Gd w f k i) (hf : f' k i = f k i) : Gd w f' k i := by unfold Gd at h ⊢; rw [hf]; exact h
theorem no_int {g t : TypeId} {cs : Array Value} (h : Blk w g t cs) (ht : t ≠ 3) : ∀ g' cs', At g g' → Blk w g' 3 cs' → False := fun g' cs' e hb => by
  have e : g' = g := e
  subst e
  exact Blk.ne_ h hb ht rfl
theorem RowsM.re (h : RowsM w e s L E) (hE : ∀ j r', L[j]? = some r' → mkR E' j r'.n = mkR E j r'.n) : RowsM w e s L E' := fun j r hr => by rw [hE j r hr]; exact h j r hr
theorem GRows.re (h : GRows w e s L H Z G k) (hZ : ∀ j r', j < k → L[j]? = some r' → Z' j r'.n = Z j r'.n) : GRows w e s L H Z' G k := fun j hj r q hr hq => by
  obtain ⟨a, b, c⟩ := h j hj r q hr hq
  exact ⟨a, by rw [hZ j r hj hr]; exact b, c⟩
theorem Grow.re (h : Grow w0 w e s L H E Z G hb k r v n xs) (hr : L[k]? = some r) (hE : ∀ j r', L[j]? = some r' → mkR E' j r'.n = mkR E j r'.n) (hZ : ∀ j r', j < k → L[j]? = some r' → Z' j r'.n = Z j r'.n) (hx : xs' = xs) : Grow w0 w e s L H E' Z' G hb k r v n xs' := by
  subst hx
  exact ⟨h.rows.re hE, h.gs.re hZ, h.md, h.hv, ⟨h.pre.1, by rw [hE k r hr]; exact h.pre.2⟩, h.lies⟩
theorem ndX_ndr {g : Nat} {x : Int} (h : Blk w g 3 #[.int .i64 x]) : NdR w ⟨false, [], [], [x]⟩ none 0 none 0 (some ⟨g, 0, none⟩) 1 :=
  ⟨⟨rfl, fun h => absurd h (by omega)⟩, ⟨rfl, fun h => absurd h (by omega)⟩, Rd.of_blk0 h rfl, rfl, rfl, rfl, ⟨(fun r hr => by cases hr), (fun r hr => by cases hr)⟩, by omega, by omega, by omega⟩
set_option maxRecDepth 100000 in
set_option maxHeartbeats 1600000 in
theorem markN_any (k i : Int) (w : World) (k0 : 0 ≤ k) (k1 : k ≤ 1000) (i0 : 0 ≤ i) (i1 : i ≤ 281474976710656) :
    Calls Tryz.prog 103 #[.int .i64 k, .int .i64 i] w fun r w' => ∃ g, r = .returned (.agg (ndX g).toArray) ∧ Blk w' g 3 #[.int .i64 (mk0 k i)] ∧ Mod Nn w w' := by
  have h0 := fun w => mark_any k i w k0 k1 i0 i1
  generalize mk0 k i = M at *
  have H0 := Lib.hid h0; clear h0
  go_enter Tryz.func103, Tryz.ntmps103
  go_wp2_with (first
    | (with_reducible change wpList _ _ _ (⟨some 4, Op.alloc _, _, _, _, _⟩ :: _) _ _
       go_must (refine wpList_alloc_var 32 rfl rfl info_node ?_)
       intro w1 b1 m1 z1
       have B1 := Lib.hid (And.intro b1 (And.intro m1 z1))
       clear b1 m1 z1))
  refine (H0.out _).mono ?_
  rintro r w2 ⟨rfl, rfl⟩
  have B2 := Lib.hid (And.intro (B1.out.1.alloc (.cells #[.int .i64 M] 3)) (And.intro (B1.out.2.1.alloc (.cells #[.int .i64 M] 3)) (And.intro (Blk.new w1 3 #[.int .i64 M]) B1.out.2.2)))
  go_wp2_with (first
    | (with_reducible change wpList _ _ _ (⟨none, Op.store _ _ _, _, _, _, _⟩ :: _) _ _
       generalize w1.alloc (.cells #[.int .i64 M] 3) = w3 at *
       go_must (refine wpList_store_var 32 _ _ rfl rfl w.heap.size (ndX w1.heap.size).toArray _ _ rfl rfl B2.out.1 size_node rfl (ndX_all _) ?_)
       intro w9 b9 m9 z9
       have H9 := Lib.hid (And.intro (B2.out.2.1.new_ m9 (Nat.le_refl _)) (B2.out.2.2.1.mod m9 (fun e => by have e : w1.heap.size = w.heap.size := e; have := B2.out.2.2.2; omega)))
       have C0 := b9.cell 0; have C1 := b9.cell 1; have C2 := b9.cell 2; have C3 := b9.cell 3
       clear m9 b9 z9))
  refine bodyPost_ret (v := .agg (ndX w1.heap.size).toArray) (by simp [results, Tryz.results103, go_sem, C0, C1, C2, C3, ndX]) rfl ⟨_, rfl, H9.out.2, H9.out.1⟩
end
end Go.Proofs.YtfoldjnmknaklaaGreat
