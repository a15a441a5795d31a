/- A hash in memory; New. -/
import Derived.Test.YtbocdgmkiajihaaDoorSha5
import Derived.Deep.MidRow
namespace Go.Proofs.YtbocdgmkiajihaaDoor
open Go.RowKit

def z32 : List Nat := List.replicate 32 0
def hashC (s r : Value) (n d st : Int) (told : Bool) (k : List Nat) : Array Value := ([s, r, .int .u64 n, .int .u32 d, .int .i32 st, .int .u32 0, .bool told] ++ u8s k).toArray
section
variable {s r : Value} {n d st : Int} {told : Bool} {k : List Nat}
theorem hashC_0 : (hashC s r n d st told k)[0]? = some s := rfl
theorem hashC_1 : (hashC s r n d st told k)[1]? = some r := rfl
theorem hashC_2 : (hashC s r n d st told k)[2]? = some (.int .u64 n) := rfl
theorem hashC_3 : (hashC s r n d st told k)[3]? = some (.int .u32 d) := rfl
theorem hashC_4 : (hashC s r n d st told k)[4]? = some (.int .i32 st) := rfl
theorem hashC_6 : (hashC s r n d st told k)[6]? = some (.bool told) := rfl
theorem hashC_s1 (v : Value) : (hashC s r n d st told k).setIfInBounds 1 v = hashC s v n d st told k := by unfold hashC; rw [List.setIfInBounds_toArray]; rfl
theorem hashC_s2 (x : Int) : (hashC s r n d st told k).setIfInBounds 2 (.int .u64 x) = hashC s r x d st told k := by unfold hashC; rw [List.setIfInBounds_toArray]; rfl
theorem hashC_s3 (x : Int) : (hashC s r n d st told k).setIfInBounds 3 (.int .u32 x) = hashC s r n x st told k := by unfold hashC; rw [List.setIfInBounds_toArray]; rfl
theorem hashC_s4 (x : Int) : (hashC s r n d st told k).setIfInBounds 4 (.int .i32 x) = hashC s r n d x told k := by unfold hashC; rw [List.setIfInBounds_toArray]; rfl
theorem hashC_s6 (x : Bool) : (hashC s r n d st told k).setIfInBounds 6 (.bool x) = hashC s r n d st x k := by unfold hashC; rw [List.setIfInBounds_toArray]; rfl
end
theorem own_ne {w : World} {base n hb : Nat} {v : Value} {xs : List Value} {t : TypeId} {cs : Array Value} (h : w.ownsRow base 5 1 v n xs) (hb' : Blk w hb t cs) (ht : 5 ≠ t) : v.ownBlock ≠ some hb := by
  intro e
  rcases h.2 with ⟨rfl, _⟩ | ⟨g, cap, cur, rfl, _, hg, _⟩
  · cases e
  · injection e with e
    exact Blk.ne_ (show Blk w g 5 cur from hg) hb' ht e
/-- a hash of t -/
structure HA (w : World) (hb sb : Nat) (rv : Value) (t : List Nat) : Prop where
  blk : Blk w hb 48 (hashC (.pointer (some ⟨sb, 0, none⟩)) rv (t.length : Int) 0 0 false z32)
  st : Blk w sb 63 (wvs (stS t).l)
  row : w.ownsRow 0 5 1 rv (rest t).length (u8s (rest t))
  h1 : 1 < hb
  s1 : 1 < sb
  r0 : ∀ g, rv.ownBlock = some g → 1 < g
  lt : ∀ z ∈ t, z < 256
def InH (hb sb : Nat) (rv : Value) : Nat → Prop := fun g => g = hb ∨ g = sb ∨ rv.ownBlock = some g
section
variable {w w' : World} {hb sb : Nat} {rv : Value} {t : List Nat} {S : Nat → Prop}
theorem HA.mod (h : HA w hb sb rv t) (hm : Mod S w w') (hn : ∀ g, InH hb sb rv g → ¬ S g) : HA w' hb sb rv t :=
  ⟨h.blk.mod hm (hn _ (.inl rfl)), h.st.mod hm (hn _ (.inr (.inl rfl))), own_mod h.row hm (fun g hg => hn g (.inr (.inr hg))), h.h1, h.s1, h.r0, h.lt⟩
theorem HA.nn (h : HA w hb sb rv t) (hm : Mod Nn w w') : HA w' hb sb rv t := h.mod hm (fun _ _ f => f)
theorem HA.ne (h : HA w hb sb rv t) : hb ≠ sb := Blk.ne_ h.blk h.st (by decide)
theorem HA.r1 (h : HA w hb sb rv t) : rv.ownBlock ≠ some hb := own_ne h.row h.blk (by decide)
theorem HA.r2 (h : HA w hb sb rv t) : rv.ownBlock ≠ some sb := own_ne h.row h.st (by decide)
theorem HA.inlt (h : HA w hb sb rv t) : ∀ g, InH hb sb rv g → g < w.heap.size := by
  rintro g (rfl | rfl | hg)
  · exact h.blk.lt
  · exact h.st.lt
  · obtain ⟨A, c, rfl, _, hlt⟩ := own_form h.row
    exact (hlt g (own_of hg)).2
end
theorem size_hash : (Tryd.prog.info? 48).map (·.size) = some 39 := by kernel_rfl
set_option maxRecDepth 100000 in
theorem exec_buildH {o : Oper} {a : Act} {w : World} (x : Operand) (ho : o.op = .build 48 #[(0, x)]) {ad : Option Addr} (hx : a.eval x = .pointer ad) :
    (execOp a.eval o).run Tryd.prog w = .ok (.value (.agg (hashC (.pointer ad) (.slice none 0 0) 0 0 0 false z32))) w := by
  have hb : Tryd.prog.built 48 (#[(0, .pointer ad)] : Array (Nat × Value)).toList = some (hashC (.pointer ad) (.slice none 0 0) 0 0 0 false z32) := by kernel_rfl
  have hr := run_build (P := Tryd.prog) w 48 _ _ hb
  simp only [execOp, ho, List.map_toArray, List.map_cons, List.map_nil, hx]
  simp [hr, Result.andThen]
theorem zeroSt : (Tryd.prog.info? 63).map (fun i => (i.zero, i.size)) = some (some (.agg (wvs (List.replicate 8 0#32))), 8) := by kernel_rfl
theorem stS_nil : stS [] = iV := rfl
theorem rest_nil : rest [] = [] := rfl
set_option maxRecDepth 100000 in
set_option maxHeartbeats 1600000 in
theorem hnew_any {w : World} (hg : Gl w) : Calls Tryd.prog 16 #[] w fun e w' => ∃ hb sb, e = .returned (.pointer (some ⟨hb, 0, none⟩)) ∧ HA w' hb sb (.slice none 0 0) [] ∧ Mod Nn w w' ∧ w.heap.size ≤ hb ∧ w.heap.size ≤ sb := by
  have HG := Lib.hid hg; clear hg
  go_enter Tryd.func16, Tryd.ntmps16
  go_wp2_with (first
    | (with_reducible change wpList _ _ _ (⟨some 2, Op.load _ _, _, _, _, _⟩ :: _) _ _
       go_must (refine wpList_val rfl (exec_load_cells (P := Tryd.prog) 63 _ rfl (cs := iV.l.map wv) rfl HG.out.f Tryd.underlying63 rfl size_st) ?_)
       rw [show (List.map wv iV.l).toArray = wvs iV.l from rfl])
    | (with_reducible change wpList _ _ _ (⟨some 1, Op.alloc _, _, _, _, _⟩ :: _) _ _
       go_must (refine wpList_alloc_var 63 rfl rfl zeroSt ?_)
       intro w1 b1 m1 z1)
    | (with_reducible change wpList _ _ _ (⟨none, Op.store 63 _ _, _, _, _, _⟩ :: _) _ _
       go_must (refine wpList_store_var 63 _ _ rfl rfl _ (wvs iV.l) _ _ rfl rfl b1 (by rw [size_st]; rfl) (by show (wvs _).size = _; rw [wvs_size, wvs_size]; rfl) (wvs_one _) ?_)
       intro w2 b2 m2 z2
       have B2 := Lib.hid (And.intro b2 (And.intro (m1.new_ m2 (Nat.le_refl _)) HG.out.lt))
       clear b1 m1 z1 b2 m2 z2)
    | (with_reducible change wpList _ _ _ (⟨some 3, Op.build _ _, _, _, _, _⟩ :: _) _ _
       go_must (refine wpList_val rfl (exec_buildH _ rfl rfl) ?_)
       generalize hH : hashC (.pointer (some ⟨w.heap.size, 0, none⟩)) (.slice none 0 0) 0 0 0 false z32 = C at *))
  go_ret
  have hl := B2.out.1.lt
  refine ⟨w2.heap.size, w.heap.size, rfl, ⟨?_, B2.out.1.alloc _, World.ownsRow_nil _ _ _ _, by have := B2.out.2.2; omega, B2.out.2.2, fun g hg => (by cases hg), by simp⟩, B2.out.2.1.alloc _, by omega, Nat.le_refl _⟩
  rw [← hH]
  exact Blk.new _ _ _
end Go.Proofs.YtbocdgmkiajihaaDoor
