/- The device (dev.Disk): Wake. -/
import Derived.Test.YtijmkbhbpbkkoaaGreatDev5
import Derived.Test.YtijmkbhbpbkkoaaGreatKitB
namespace Go.Proofs.YtijmkbhbpbkkoaaGreat
open Go.RowKit

def Dk.up (D : Dk) : Dk := { D with armed := 0, down := false }
def Dk.wake (D : Dk) (fs : List Int) : Dk := ⟨D.n, fun j => if j ∈ fs then (D.opn j).or (D.safe j) else D.safe j, fun _ => none, 0, false⟩
theorem mid_skip {D : Dk} {done : List Int} {k : Int} (h : D.opn k = none) : D.mid (k :: done) = D.mid done := by
  unfold Dk.mid
  congr 1
  funext j
  by_cases hj : j = k
  · subst hj; simp [h]
  · simp [hj]

theorem up_at {w : World} {b ms mo : Nat} {D : Dk} (h : DiskAt w b ms mo D) :
    DiskAt ((w.setCell ⟨b, 4, none⟩ (.bool false)).setCell ⟨b, 3, none⟩ (.int .i64 0)) b ms mo D.up := by
  have hm : Mod (At b) w ((w.setCell ⟨b, 4, none⟩ (.bool false)).setCell ⟨b, 3, none⟩ (.int .i64 0)) := (Mod.cellAt w b 4 _).trans (Mod.cellAt _ b 3 _)
  have hb := (h.blk.set_ 4 (.bool false)).set_ 3 (.int .i64 0)
  refine ⟨hb, ?_, ?_, h.ne, ⟨h.ok.n1, h.ok.n2, Int.le_refl 0, (by decide : (0 : Int) ≤ 9223372036854775807), h.ok.sl, h.ok.ol⟩⟩
  · obtain ⟨l, hl, hk⟩ := h.smap; exact ⟨l, hl.mod hm h.nb1, hk⟩
  · obtain ⟨l, hl, hk⟩ := h.omap; exact ⟨l, hl.mod hm h.nb2, hk⟩

end Go.Proofs.YtijmkbhbpbkkoaaGreat
