/- law16's do. -/
import Derived.Test.YtkcpmkeckcnobaaTd4
import Derived.Test.YtkcpmkeckcnobaaTd5
import Derived.Test.YtkcpmkeckcnobaaTdR
namespace Go.Proofs.Ytkcpmkeckcnobaa
open Go.RowKit

theorem do16_any {w0 w : World} {b rb n c : Nat} {L : List (List Nat)} {G : List Nat} {A : Option Addr} {kd kv : Int} {v : Nat} (h : Dbl w0 w b rb L L G A n c) (hL : L.length ≤ 1000) (hv : v < 256) : Calls Try.prog 33 #[.pointer (some ⟨b, 0, none⟩), .pointer (some ⟨rb, 0, none⟩), deedV kd kv v] w (DoP w0 b rb (stepL L kd kv v)) := by
  have hr := pick_range kd 6 (by omega)
  unfold stepL
  by_cases h01 : pick kd 6 = 0 ∨ pick kd 6 = 1
  · rw [if_pos h01]; exact do16_set h hL hv h01
  · rw [if_neg h01]
    by_cases h2 : pick kd 6 = 2
    · rw [if_pos h2]; exact do16_del h hL hv h2
    · rw [if_neg h2]
      by_cases h3 : pick kd 6 = 3
      · exact do16_get h hL hv h3
      · have h45 : pick kd 6 = 4 ∨ pick kd 6 = 5 := by omega
        have ht : (v : Int).tmod 2 = ((v % 2 : Nat) : Int) := rfl
        rcases Nat.mod_two_eq_zero_or_one v with hm | hm
        · exact do16_after0 h hL hv (by rw [ht, hm]; rfl) h45
        · exact do16_after1 h hL hv (by rw [ht, hm]; rfl) h45
/-- the entries behind the first deeds -/
def runL (ds : List DeedR) : List (List Nat) := ds.foldl (fun L d => stepL L d.kd d.n d.v) []
theorem runL_take {ds : List DeedR} {i : Nat} {d : DeedR} (h : ds[i]? = some d) : runL (ds.take (i + 1)) = stepL (runL (ds.take i)) d.kd d.n d.v := by
  obtain ⟨h1, rfl⟩ := List.getElem?_eq_some_iff.1 h
  unfold runL
  rw [List.take_succ_eq_append_getElem h1, List.foldl_append]; rfl
theorem foldl_ok : ∀ (ds : List DeedR) {L : List (List Nat)}, Srt L → Srt (ds.foldl (fun L d => stepL L d.kd d.n d.v) L) ∧ (ds.foldl (fun L d => stepL L d.kd d.n d.v) L).length ≤ L.length + ds.length
  | [], _, h => ⟨h, Nat.le_refl _⟩
  | d :: ds, L, h => by
    have h1 := foldl_ok ds (stepL_srt h d.kd d.n d.v)
    have h2 := stepL_len h d.kd d.n d.v
    refine ⟨h1.1, Nat.le_trans h1.2 ?_⟩
    rw [List.length_cons]; omega
theorem runL_ok (ds : List DeedR) : Srt (runL ds) ∧ (runL ds).length ≤ ds.length := by
  have := foldl_ok ds (L := []) List.Pairwise.nil
  rw [List.length_nil, Nat.zero_add] at this
  exact this
end Go.Proofs.Ytkcpmkeckcnobaa
