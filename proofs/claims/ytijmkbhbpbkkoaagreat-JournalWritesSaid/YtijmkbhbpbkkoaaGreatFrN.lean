/- What Get tells, in one form. -/
import Derived.Test.YtijmkbhbpbkkoaaGreatFrG
import Derived.Test.YtijmkbhbpbkkoaaGreatFrM
namespace Go.Proofs.YtijmkbhbpbkkoaaGreat
open Go.RowKit

/-- a frame, so many sectors, an error -/
structure Tell where
  k : Int
  e : Int
  s : Int
  m : Nat
  d : List Nat
  q : Int
  r : Int
/-- what of these bytes is told -/
structure Tells (l : List Nat) (T : Tell) : Prop where
  big : T.m ≤ 32768
  dl : ∀ z ∈ T.d, z < 256
  yes : Holds l → T = ⟨(frOf l).kind, (frOf l).epoch, (frOf l).seq, frLong l, (frOf l).data, fsec (frLong l), 0⟩
  no : ¬ Holds l → T = ⟨0, 0, 0, 0, [], 0, 4⟩
def TellP (w : World) (T : Tell) (r : Ending) (w' : World) : Prop :=
  ∃ (A' : Option Addr) (c' : Nat), r = .returned (.tuple #[frV T.k T.e T.s A' T.m c', .int .i64 T.q, .int .i64 T.r]) ∧ w'.ownsRow (w.heap.size + 1) 5 1 (.slice A' T.m c') T.m (bv T.d) ∧ Mod Nn w w'
theorem tell_of (l : List Nat) (hl : ∀ z ∈ l, z < 256) : ∃ T, Tells l T ∧ ∀ w r w', GotP w l r w' → TellP w T r w' := by
  by_cases h : Holds l
  · refine ⟨⟨(frOf l).kind, (frOf l).epoch, (frOf l).seq, frLong l, (frOf l).data, fsec (frLong l), 0⟩, ⟨h.2.2.2.1, fun z hz => hl z (List.mem_of_mem_drop (List.mem_of_mem_take hz)), fun _ => rfl, fun h' => (h' h).elim⟩, ?_⟩
    rintro w r w' (⟨_, A', c', h1, h2, h3⟩ | ⟨h', _⟩)
    · exact ⟨A', c', h1, h2, h3⟩
    · exact (h' h).elim
  · refine ⟨⟨0, 0, 0, 0, [], 0, 4⟩, ⟨Nat.zero_le _, (fun _ hz => by cases hz), fun h' => (h h').elim, fun _ => rfl⟩, ?_⟩
    rintro w r w' (⟨h', _⟩ | ⟨_, h1, h2⟩)
    · exact (h h').elim
    · exact ⟨none, 0, h1, own_nil _ _ _ _, h2⟩
theorem own_max {w : World} {A : Option Addr} {n c base s : Nat} {e : TypeId} {xs : List Value} (h : w.ownsRow base e s (.slice A n c) n xs) : n ≤ c ∧ c ≤ maxLen := by
  rcases h.2 with ⟨e, h0⟩ | ⟨_, cap, _, e, _, _, h1, h2, _⟩
  · injection e with _ _ e; subst e; exact ⟨by omega, Nat.zero_le _⟩
  · injection e with _ _ e; subst e; exact ⟨h1, h2⟩
/-- what was put is got, whatever stands behind -/
theorem fget_back {w : World} {A : Option Addr} {n c : Nat} {k e s : Int} {D M : List Nat} (h : perr k e s D.length = 0) (hl : ∀ z ∈ D, z < 256) (hM : ∀ z ∈ M, z < 256) (hr : Rd w A n (bv (pbytes k e s D ++ M))) (hn : n ≤ 140737488355328) (hc : n ≤ c) (hcm : c ≤ maxLen) :
    Calls Tryz.prog 48 #[.slice A n c] w fun r w' => ∃ (A' : Option Addr) (c' : Nat), r = .returned (.tuple #[frV k e s A' D.length c', .int .i64 (fsec D.length), .int .i64 0]) ∧ w'.ownsRow (w.heap.size + 1) 5 1 (.slice A' D.length c') D.length (bv D) ∧ Mod Nn w w' := by
  obtain ⟨f, hf, rfl, rfl, rfl, rfl, hb⟩ := put_fr h
  rw [hb] at hr
  have hlt : ∀ z ∈ f.bytes ++ M, z < 256 := fun z hz => (List.mem_append.1 hz).elim (f.bytes_lt hl z) (hM z)
  refine (fget_any hr hlt hn hc hcm).mono ?_
  have hg := f.got hf M
  rintro r w' (⟨_, A', c', h1, h2, h3⟩ | ⟨h', _⟩)
  · rw [hg.1, hg.2] at h1 h2
    exact ⟨A', c', h1, h2, h3⟩
  · exact (h' (f.holds hf M)).elim
end Go.Proofs.YtijmkbhbpbkkoaaGreat
