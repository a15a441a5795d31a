/- The device (dev.Disk): its words in memory; may, crash. -/
import Derived.Test.YtgmkibckbbbhkaaRows
import Derived.Test.YtgmkibckbbbhkaaKitA
namespace Go.Proofs.Ytgmkibckbbbhkaa
open Go.RowKit

def secV (bs : List Int) : Value := .agg (bs.map (Value.int .u8)).toArray
def zsec : List Int := List.replicate 512 0

structure Dk where
  n : Int
  safe : Int → Option (List Int)
  opn : Int → Option (List Int)
  armed : Int
  down : Bool

structure Dk.ok (D : Dk) : Prop where
  n1 : 1 ≤ D.n
  n2 : D.n ≤ 262144
  a1 : 0 ≤ D.armed
  a2 : D.armed ≤ 9223372036854775807
  sl : ∀ k v, D.safe k = some v → v.length = 512
  ol : ∀ k v, D.opn k = some v → v.length = 512

def Dk.crash (D : Dk) : Dk := if 0 < D.armed then { D with armed := D.armed - 1, down := D.armed - 1 == 0 } else D
def Dk.may (D : Dk) (k : Int) : Int := if D.down then 9 else if k < 0 ∨ D.n ≤ k then 6 else 0

structure DiskAt (w : World) (b ms mo : Nat) (D : Dk) : Prop where
  blk : Blk w b 65 #[.int .i64 D.n, .map (some ms), .map (some mo), .int .i64 D.armed, .bool D.down]
  smap : ∃ l, MapE w ms secV l ∧ ∀ k, aget l k = D.safe k
  omap : ∃ l, MapE w mo secV l ∧ ∀ k, aget l k = D.opn k
  ne : ms ≠ mo
  ok : D.ok

def In3 (b ms mo : Nat) : Nat → Prop := fun k => k = b ∨ k = ms ∨ k = mo

section
variable {w w' : World} {b ms mo : Nat} {D : Dk} {S : Nat → Prop}
theorem DiskAt.nb1 (h : DiskAt w b ms mo D) : ms ≠ b := by obtain ⟨l, hl, _⟩ := h.smap; exact hl.ne_blk h.blk
theorem DiskAt.nb2 (h : DiskAt w b ms mo D) : mo ≠ b := by obtain ⟨l, hl, _⟩ := h.omap; exact hl.ne_blk h.blk
theorem DiskAt.lt (h : DiskAt w b ms mo D) : ∀ k, In3 b ms mo k → k < w.heap.size := by
  rintro k (rfl | rfl | rfl)
  · exact h.blk.lt
  · obtain ⟨l, hl, _⟩ := h.smap; exact hl.lt
  · obtain ⟨l, hl, _⟩ := h.omap; exact hl.lt
theorem DiskAt.mod (h : DiskAt w b ms mo D) (hm : Mod S w w') (hn : ∀ k, In3 b ms mo k → ¬ S k) : DiskAt w' b ms mo D :=
  ⟨h.blk.mod hm (hn _ (.inl rfl)), let ⟨l, a, c⟩ := h.smap; ⟨l, a.mod hm (hn _ (.inr (.inl rfl))), c⟩, let ⟨l, a, c⟩ := h.omap; ⟨l, a.mod hm (hn _ (.inr (.inr rfl))), c⟩, h.ne, h.ok⟩
theorem DiskAt.alloc (h : DiskAt w b ms mo D) (o : Obj) : DiskAt (w.alloc o) b ms mo D := h.mod ((Mod.refl Nn _).alloc o) (fun _ _ f => f)
theorem DiskAt.drew (h : DiskAt w b ms mo D) : DiskAt w.drew b ms mo D := ⟨h.blk, h.smap, h.omap, h.ne, h.ok⟩
theorem DiskAt.drewN (h : DiskAt w b ms mo D) (n : Nat) : DiskAt (w.drewN n) b ms mo D := ⟨h.blk, h.smap, h.omap, h.ne, h.ok⟩
theorem DiskAt.c0 (h : DiskAt w b ms mo D) : w.cell? ⟨b, 0, none⟩ = some (.int .i64 D.n) := h.blk.cell 0
theorem DiskAt.c1 (h : DiskAt w b ms mo D) : w.cell? ⟨b, 1, none⟩ = some (.map (some ms)) := h.blk.cell 1
theorem DiskAt.c2 (h : DiskAt w b ms mo D) : w.cell? ⟨b, 2, none⟩ = some (.map (some mo)) := h.blk.cell 2
theorem DiskAt.c3 (h : DiskAt w b ms mo D) : w.cell? ⟨b, 3, none⟩ = some (.int .i64 D.armed) := h.blk.cell 3
theorem DiskAt.c4 (h : DiskAt w b ms mo D) : w.cell? ⟨b, 4, none⟩ = some (.bool D.down) := h.blk.cell 4
end

set_option maxHeartbeats 400000 in
theorem crash_pos (b : Nat) (a : Int) (dn : Bool) (w : World) (h3 : w.cell? ⟨b, 3, none⟩ = some (.int .i64 a)) (h4 : w.cell? ⟨b, 4, none⟩ = some (.bool dn))
    (f3 : w.frozen? ⟨b, 3, none⟩ = false) (f4 : w.frozen? ⟨b, 4, none⟩ = false) (ha : 0 < a) (ha' : a ≤ 9223372036854775807) :
    Calls Try.prog 66 #[.pointer (some ⟨b, 0, none⟩)] w fun e w' =>
      e = .returned (.bool (a - 1 == 0)) ∧ (w.setCell ⟨b, 3, none⟩ (.int .i64 (a - 1))).setCell ⟨b, 4, none⟩ (.bool (a - 1 == 0)) = w' := by
  go_enter Try.func66, Try.ntmps66
  go_wp2
  go_ret
  exact ⟨rfl, rfl⟩
set_option maxHeartbeats 400000 in
theorem crash_zero (b : Nat) (a : Int) (dn : Bool) (w : World) (h3 : w.cell? ⟨b, 3, none⟩ = some (.int .i64 a)) (h4 : w.cell? ⟨b, 4, none⟩ = some (.bool dn)) (ha : ¬ 0 < a) :
    Calls Try.prog 66 #[.pointer (some ⟨b, 0, none⟩)] w fun e w' => e = .returned (.bool dn) ∧ w = w' := by
  go_enter Try.func66, Try.ntmps66
  go_wp2
  go_ret
  exact ⟨rfl, rfl⟩
set_option maxHeartbeats 400000 in
theorem may_down (b : Nat) (n k : Int) (w : World) (h0 : w.cell? ⟨b, 0, none⟩ = some (.int .i64 n)) (h4 : w.cell? ⟨b, 4, none⟩ = some (.bool true)) (hn : (n == 0) = false) :
    Calls Try.prog 65 #[.pointer (some ⟨b, 0, none⟩), .int .i64 k] w fun e w' => e = .returned (.int .i64 9) ∧ w = w' := by
  go_enter Try.func65, Try.ntmps65
  go_wp2
  go_ret
  exact ⟨rfl, rfl⟩
end Go.Proofs.Ytgmkibckbbbhkaa
