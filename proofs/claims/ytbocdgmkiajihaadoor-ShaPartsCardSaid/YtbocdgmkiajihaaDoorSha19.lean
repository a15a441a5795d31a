/- Write behind Sum; the parts' texts. -/
import Derived.Test.YtbocdgmkiajihaaDoorSha14
import Derived.Test.YtbocdgmkiajihaaDoorBytesO
import Derived.Test.YtbocdgmkiajihaaDoorOpen3
namespace Go.Proofs.YtbocdgmkiajihaaDoor
open Go.RowKit

set_option maxRecDepth 100000 in
theorem wtold_any {w : World} {hb sb : Nat} {rv : Value} {n : Int} {k : List Nat} (h : HT w hb sb rv n k) (v : Value) :
    Calls Tryd.prog 14 #[.pointer (some ⟨hb, 0, none⟩), v] w fun e w' => e = .returned (.int .i64 8) ∧ Mod Nn w w' := by
  have c0 : w.cell? ⟨hb, 0, none⟩ = some (.pointer (some ⟨sb, 0, none⟩)) := (Blk.cell h 0).trans hashC_0
  have c6 : w.cell? ⟨hb, 6, none⟩ = some (.bool true) := (Blk.cell h 6).trans hashC_6
  go_enter Tryd.func14, Tryd.ntmps14
  go_wp2
  go_ret
  exact ⟨rfl, Mod.refl _ _⟩
def bts (p : Part) : List Nat := p.zs.map Int.toNat
theorem part_rd {w : World} {p : Part} (h : p.ok w) : Rd w p.A p.n (u8s (bts p)) ∧ ∀ z ∈ bts p, z < 256 := by
  have hz' : ∀ z ∈ p.zs, 0 ≤ z ∧ z ≤ 255 := fun z hz => by simpa [Lit.wf, IntKind.min, IntKind.max, IntKind.signed, IntKind.bits] using h.2 z hz
  refine ⟨?_, fun z hz => ?_⟩
  · have : u8s (bts p) = p.zs.map (Value.int .u8) := by
      unfold u8s bts
      rw [List.map_map]
      refine List.map_congr_left fun z h => ?_
      show Value.int .u8 ((z.toNat : Nat) : Int) = _
      rw [Int.toNat_of_nonneg (hz' z h).1]
    rw [this]; exact h.1
  · obtain ⟨y, hy, rfl⟩ := List.mem_map.1 hz
    have := hz' y hy
    omega
theorem Part.ok.nn {w w' : World} {p : Part} (h : p.ok w) (hm : Mod Nn w w') : p.ok w' := ⟨h.1.mod hm (fun _ _ f => f), h.2⟩
/-- the first k parts, one behind another -/
def cat (L : List Part) (k : Nat) : List Nat := (L.take k).flatMap bts
theorem cat_succ {L : List Part} {k : Nat} {p : Part} (h : L[k]? = some p) : cat L (k + 1) = cat L k ++ bts p := by
  unfold cat
  rw [List.take_add_one, h, List.flatMap_append]; simp
theorem cat_lt {w : World} {L : List Part} (h : ∀ p ∈ L, p.ok w) (k : Nat) : ∀ z ∈ cat L k, z < 256 := fun z hz => by
  obtain ⟨p, hp, hz⟩ := List.mem_flatMap.1 hz
  exact (part_rd (h p (List.mem_of_mem_take hp))).2 z hz
end Go.Proofs.YtbocdgmkiajihaaDoor
