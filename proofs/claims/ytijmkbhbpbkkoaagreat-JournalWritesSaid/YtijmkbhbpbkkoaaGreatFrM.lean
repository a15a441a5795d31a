/- frame.Put and the document's of any frame: one contract each. -/
import Derived.Test.YtijmkbhbpbkkoaaGreatFrG
import Derived.Test.YtijmkbhbpbkkoaaGreatKitB
namespace Go.Proofs.YtijmkbhbpbkkoaaGreat
open Go.RowKit

/-- which error -/
def perr (k e s : Int) (n : Nat) : Int := if k < 0 ∨ 255 < k ∨ e < 0 ∨ 1099511627776 < e ∨ s < 0 ∨ 1099511627776 < s then 2 else if 32768 < n then 3 else 0
/-- which bytes -/
def pbytes (k e s : Int) (D : List Nat) : List Nat := if perr k e s D.length = 0 then Fr.bytes ⟨k.toNat, e.toNat, s.toNat, D⟩ else []
theorem perr_zero {k e s : Int} {n : Nat} (h : perr k e s n = 0) : 0 ≤ k ∧ k ≤ 255 ∧ 0 ≤ e ∧ e ≤ 1099511627776 ∧ 0 ≤ s ∧ s ≤ 1099511627776 ∧ n ≤ 32768 := by
  unfold perr at h
  split at h
  · cases h
  · split at h
    · cases h
    · omega
theorem pbytes_lt {k e s : Int} {D : List Nat} (h : ∀ z ∈ D, z < 256) : ∀ z ∈ pbytes k e s D, z < 256 := by
  unfold pbytes
  split
  · exact Fr.bytes_lt _ h
  · intro z hz; cases hz
theorem pbytes_len (k e s : Int) (D : List Nat) : (pbytes k e s D).length ≤ 40000 := by
  unfold pbytes
  split
  · next h =>
    have := (perr_zero h).2.2.2.2.2.2
    rw [Fr.bytes_len]
    show 512 * fsec D.length ≤ 40000
    unfold fsec; omega
  · exact Nat.zero_le _
/-- what Put tells -/
def PutP (w : World) (k e s : Int) (D : List Nat) (r : Ending) (w' : World) : Prop :=
  ∃ (A' : Option Addr) (c' : Nat), r = .returned (.tuple #[.slice A' (pbytes k e s D).length c', .int .i64 (perr k e s D.length)]) ∧ w'.ownsRow w.heap.size 5 1 (.slice A' (pbytes k e s D).length c') (pbytes k e s D).length (bv (pbytes k e s D)) ∧ Mod Nn w w'
section
variable {w : World} {A : Option Addr} {n c : Nat} {D : List Nat}
theorem put_no {k e s : Int} {E : Int} {r : Ending} {w' : World} (hE : perr k e s D.length = E) (h0 : E ≠ 0) (hr : r = .returned (.tuple #[.slice none 0 0, .int .i64 E])) (hm : Mod Nn w w') : PutP w k e s D r w' := by
  have hb : pbytes k e s D = [] := by unfold pbytes; rw [if_neg (by rw [hE]; exact h0)]
  unfold PutP
  rw [hb, hE]
  exact ⟨none, 0, hr, own_nil _ _ _ _, hm⟩
theorem put_fr {k e s : Int} (h : perr k e s D.length = 0) : ∃ f : Fr, f.ok ∧ f.data = D ∧ (f.kind : Int) = k ∧ (f.epoch : Int) = e ∧ (f.seq : Int) = s ∧ pbytes k e s D = f.bytes := by
  obtain ⟨h1, h2, h3, h4, h5, h6, h7⟩ := perr_zero h
  refine ⟨⟨k.toNat, e.toNat, s.toNat, D⟩, ⟨by show k.toNat ≤ 255; omega, by show e.toNat ≤ _; omega, by show s.toNat ≤ _; omega, h7⟩, rfl, by show (k.toNat : Int) = k; omega, by show (e.toNat : Int) = e; omega, by show (s.toNat : Int) = s; omega, ?_⟩
  unfold pbytes; rw [if_pos h]
theorem put_cases (k e s : Int) (n : Nat) : (k < 0 ∨ 255 < k ∨ e < 0 ∨ 1099511627776 < e ∨ s < 0 ∨ 1099511627776 < s) ∧ perr k e s n = 2 ∨ (¬ (k < 0 ∨ 255 < k ∨ e < 0 ∨ 1099511627776 < e ∨ s < 0 ∨ 1099511627776 < s) ∧ 32768 < n) ∧ perr k e s n = 3 ∨ perr k e s n = 0 := by
  unfold perr
  by_cases h1 : k < 0 ∨ 255 < k ∨ e < 0 ∨ 1099511627776 < e ∨ s < 0 ∨ 1099511627776 < s
  · rw [if_pos h1]; exact .inl ⟨h1, rfl⟩
  · rw [if_neg h1]
    by_cases h2 : 32768 < n
    · rw [if_pos h2]; exact .inr (.inl ⟨⟨h1, h2⟩, rfl⟩)
    · rw [if_neg h2]; exact .inr (.inr rfl)
theorem fput_all (k e s : Int) (hr : Rd w A n (bv D)) (hl : ∀ z ∈ D, z < 256) : Calls Tryz.prog 33 #[frV k e s A n c] w (PutP w k e s D) := by
  have hL : D.length = n := by have := hr.1; simpa [bv] using this
  rcases put_cases k e s D.length with ⟨h1, h2⟩ | ⟨⟨h1, h3⟩, h2⟩ | h
  · exact (fput_arg k e s A n c w h1).mono fun r w' ⟨h3, h4⟩ => put_no h2 (by decide) h3 h4
  · exact (fput_long k e s A n c w (by omega) (by omega) (by omega) (by omega) (by omega) (by omega) (by omega)).mono fun r w' ⟨h3, h4⟩ => put_no h2 (by decide) h3 h4
  · obtain ⟨f, hf, rfl, rfl, rfl, rfl, hb⟩ := put_fr h
    refine (fput_ok f hf hr hl).mono fun r w' ⟨g, h1, h2, h3, h4⟩ => ?_
    unfold PutP
    rw [hb, h]
    have hbl : f.bytes.length = 512 * fsec n := by rw [f.bytes_len, hL]
    rw [hbl]
    have hsn := (perr_zero h).2.2.2.2.2.2
    exact ⟨_, _, h1, own_of_blk (h2.bytes hL) h4 (by simp [bv_len, hbl]) (by unfold fsec maxLen; omega) (Nat.le_refl _) (by rw [List.toList_toArray, List.take_of_length_le (by rw [bv_len, hbl]; exact Nat.le_refl _)]), h3⟩
theorem rput_all (k e s : Int) (hr : Rd w A n (bv D)) (hl : ∀ z ∈ D, z < 256) : Calls Tryz.prog 34 #[frV k e s A n c] w (PutP w k e s D) := by
  have hL : D.length = n := by have := hr.1; simpa [bv] using this
  rcases put_cases k e s D.length with ⟨h1, h2⟩ | ⟨⟨h1, h3⟩, h2⟩ | h
  · exact (rput_arg k e s A n c w h1).mono fun r w' ⟨h3, h4⟩ => put_no h2 (by decide) h3 h4
  · exact (rput_long k e s A n c w (by omega) (by omega) (by omega) (by omega) (by omega) (by omega) (by omega)).mono fun r w' ⟨h3, h4⟩ => put_no h2 (by decide) h3 h4
  · obtain ⟨f, hf, rfl, rfl, rfl, rfl, hb⟩ := put_fr h
    refine (rput_ok f hf hr hl).mono fun r w' ⟨v, h1, h2, h3⟩ => ?_
    unfold PutP
    rw [hb, h]
    have hbl : f.bytes.length = 512 * fsec n := by rw [f.bytes_len, hL]
    rw [hbl]
    obtain ⟨A', c', rfl, -, -⟩ := own_form h2
    exact ⟨_, _, h1, own_base h2 (fun g hg => by have := own_ge h2 g hg; omega), h3⟩
end
end Go.Proofs.YtijmkbhbpbkkoaaGreat
