/- peatbanklaw20.BlobNil: no cache, and one that nobody made. -/
import Derived.Test.YtgmkibckbbbhkaaBl5
namespace Go.Proofs.Ytgmkibckbbbhkaa
open Go.RowKit

set_option maxRecDepth 100000 in
set_option maxHeartbeats 3200000 in
theorem blobnil_any (a n : Int) {A : Option Addr} {k cc : Nat} (w : World) : Calls Try.prog 13 #[.int .i64 a, .int .i64 n, .slice A k cc] w fun e w' => e = .returned (.bool true) ∧ Mod Nn w w' := by
  go_enter Try.func13, Try.ntmps13
  go_wp2_with fail
  refine (bawake_any _).mono ?_
  rintro r w1 ⟨rfl, m1⟩
  go_wp2
  have hb := Blk.new (w1.alloc (.cells #[.pointer none, .int .i64 0, .int .i64 0, .map none, .int .i64 0, .int .i64 0] 75)) 67 #[.pointer none, .pointer (some ⟨w1.heap.size, 0, none⟩)]
  have hz := (Blk.new w1 75 #[.pointer none, .int .i64 0, .int .i64 0, .map none, .int .i64 0, .int .i64 0]).alloc (.cells #[.pointer none, .pointer (some ⟨w1.heap.size, 0, none⟩)] 67)
  have M2 := (m1.alloc (.cells #[.pointer none, .int .i64 0, .int .i64 0, .map none, .int .i64 0, .int .i64 0] 75)).alloc (.cells #[.pointer none, .pointer (some ⟨w1.heap.size, 0, none⟩)] 67)
  rw [show (w1.alloc (.cells #[.pointer none, .int .i64 0, .int .i64 0, .map none, .int .i64 0, .int .i64 0] 75)).heap.size = w1.heap.size + 1 from by simp] at hb
  have hz1 := hz.cell 1
  generalize (w1.alloc (.cells #[.pointer none, .int .i64 0, .int .i64 0, .map none, .int .i64 0, .int .i64 0] 75)).alloc (.cells #[.pointer none, .pointer (some ⟨w1.heap.size, 0, none⟩)] 67) = w2 at *
  generalize w1.heap.size + 1 = g at *
  generalize w1.heap.size = z at *
  clear m1 hz
  have HB := Lib.hid (And.intro hb (And.intro (show NotC w2 (.pointer none) from .inl rfl) (show NotC w2 (.pointer (some ⟨z, 0, none⟩)) from .inr ⟨z, rfl, hz1⟩)))
  clear hb hz1
  go_loopw [8] (fun i wr => ∃ j : Int, (j = 0 ∨ j = 1 ∨ j = 2) ∧ i = .int .i64 j ∧ Mod Nn w2 wr) (fun i _ => (2 - intOf i).toNat)
  case atStart => exact ⟨0, .inl rfl, rfl, Mod.refl _ _⟩
  case round =>
    obtain ⟨j, hj, rfl, hmr⟩ := hrel
    obtain ⟨wo, rfl⟩ : ∃ wo : World, wo = wr := ⟨_, rfl⟩
    by_cases h2 : j = 2
    · subst h2
      have M := M2.nn_ hmr
      clear hmr hj M2
      go_wp2
      go_ret
      exact ⟨rfl, M⟩
    · have hp : ∃ q, (∀ w', Mod Nn w2 w' → w'.cell? ⟨g, j.toNat, none⟩ = some (.pointer q)) ∧ (∀ w', Mod Nn w2 w' → NotC w' (.pointer q)) := by
        obtain rfl | rfl : j = 0 ∨ j = 1 := by omega
        · exact ⟨_, fun w' hm => (HB.out.1.mod hm (fun f => f)).cell 0, fun w' hm => HB.out.2.1.nn hm⟩
        · exact ⟨_, fun w' hm => (HB.out.1.mod hm (fun f => f)).cell 1, fun w' hm => HB.out.2.2.nn hm⟩
      obtain ⟨q, hpc, hpn⟩ := hp
      have HP := Lib.hid (And.intro hpc hpn); clear hpc hpn
      have hjj : 0 ≤ j ∧ j < 2 := by omega
      have hj0 : 0 ≤ j := hjj.1
      have hj2 : j < 2 := hjj.2
      have hj2' : j.toNat < 2 := by omega
      clear hj h2 hjj
      have cc0 := HP.out.1 wo hmr
      go_wp2_with fail
      refine (bread_not (HP.out.2 wo hmr) a n).mono ?_
      rintro r w3 ⟨rfl, rfl⟩
      go_wp2_with fail
      refine (bwrite_not (HP.out.2 wo hmr) a).mono ?_
      rintro r w3 ⟨rfl, m3⟩
      have M3 := hmr.nn_ m3
      clear m3 hmr cc0
      go_wp2
      exact ⟨⟨j + 1, by omega, rfl, M3⟩, by simp [intOf]; omega⟩
end Go.Proofs.Ytgmkibckbbbhkaa
