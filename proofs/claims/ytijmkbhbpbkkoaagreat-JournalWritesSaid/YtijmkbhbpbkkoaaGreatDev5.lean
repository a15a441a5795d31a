/- The device (dev.Disk): Sync. -/
import Derived.Test.YtijmkbhbpbkkoaaGreatDvA
import Derived.Deep.LoopGhost
namespace Go.Proofs.YtijmkbhbpbkkoaaGreat
open Go.RowKit

def Dk.flush (D : Dk) : Dk := { D with safe := fun j => (D.opn j).or (D.safe j), opn := fun _ => none }
def Dk.sync (D : Dk) : Int × Dk := if D.may 0 = 0 then (if D.crash.down then (9, D.crash) else (0, D.crash.flush)) else (D.may 0, D)
def Dk.mid (D : Dk) (done : List Int) : Dk := { D with safe := fun j => if j ∈ done then (D.opn j).or (D.safe j) else D.safe j }

theorem mid_step {w w' : World} {b ms mo : Nat} {D : Dk} {done : List Int} (h : DiskAt w b ms mo (D.mid done)) {l l' : List (Int × List Int)} (hk : ∀ k, aget l k = (D.mid done).safe k) {k : Int} {bs : List Int}
    (ho : D.opn k = some bs) (hl : l' = aset l k bs) (h1 : MapE w' ms secV l') (hm : Mod (At ms) w w') : DiskAt w' b ms mo (D.mid (k :: done)) := by
  subst hl
  refine ⟨h.blk.mod hm (fun e => h.nb1 (e : b = ms).symm), ⟨_, h1, fun j => ?_⟩, ?_, h.ne, ⟨h.ok.n1, h.ok.n2, h.ok.a1, h.ok.a2, fun j v hv => ?_, h.ok.ol⟩⟩
  · rw [aget_aset, hk]
    simp only [Dk.mid, List.mem_cons]
    by_cases hj : j = k
    · subst hj; simp [ho]
    · simp [hj]
  · obtain ⟨lo, a, c⟩ := h.omap; exact ⟨lo, a.mod hm (fun e => h.ne (e : mo = ms).symm), c⟩
  · simp only [Dk.mid, List.mem_cons] at hv
    by_cases hj : j = k
    · subst hj; simp [ho] at hv; subst hv; exact h.ok.ol j _ ho
    · simp only [hj, false_or] at hv; exact h.ok.sl j v hv

theorem mid_nil (D : Dk) : D.mid [] = D := by simp [Dk.mid]
theorem mid_all {D : Dk} {l : List (Int × List Int)} {done : List Int} (hk : ∀ k, aget l k = D.opn k) (ha : ∀ e ∈ l, e.1 ∈ done) (j : Int) : (D.mid done).safe j = (D.opn j).or (D.safe j) := by
  simp only [Dk.mid]
  by_cases hj : j ∈ done
  · rw [if_pos hj]
  · rw [if_neg hj]
    have : D.opn j = none := by
      rw [← hk]; cases h : aget l j with
      | none => rfl
      | some v => exact absurd (ha _ (aget_mem h)) hj
    rw [this]; rfl

theorem clear_at {w w' : World} {b ms mo : Nat} {D D' : Dk} (h : DiskAt w b ms mo D) (h1 : MapE w' mo secV ([] : List (Int × List Int))) (hm : Mod (At mo) w w')
    (e1 : D'.n = D.n) (e2 : D'.armed = D.armed) (e3 : D'.down = D.down) (e4 : ∀ j, D'.safe j = D.safe j) (e5 : ∀ j, D'.opn j = none) : DiskAt w' b ms mo D' := by
  refine ⟨?_, ?_, ⟨_, h1, fun j => by rw [e5]; rfl⟩, h.ne, ⟨by rw [e1]; exact h.ok.n1, by rw [e1]; exact h.ok.n2, by rw [e2]; exact h.ok.a1, by rw [e2]; exact h.ok.a2, fun j v hv => h.ok.sl j v (by rw [← e4]; exact hv), fun j v hv => by rw [e5] at hv; cases hv⟩⟩
  · rw [e1, e2, e3]; exact h.blk.mod hm (fun e => h.nb2 (e : b = mo).symm)
  · obtain ⟨ls, a, c⟩ := h.smap; exact ⟨ls, a.mod hm h.ne, fun k => by rw [e4]; exact c k⟩

end Go.Proofs.YtijmkbhbpbkkoaaGreat
