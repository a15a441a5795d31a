/- ApartBytes over two rows, and over three. -/
import Derived.Test.YtodnhbiomooknaaGreatApB2
namespace Go.Proofs.YtodnhbiomooknaaGreat
open Go.RowKit

def two8 (a b : List Value) : Nat → List Value := fun j => match j with | 0 => a | 1 => b | _ => []
def three8 (a b c : List Value) : Nat → List Value := fun j => match j with | 0 => a | 1 => b | 2 => c | _ => []
theorem apartB2 {w : World} {B b1 b2 n1 n2 c1 c2 cc : Nat} {A1 A2 : Option Addr} {xs1 xs2 : List Value} (hB : Blk w B 26 #[.slice A1 n1 c1, .slice A2 n2 c2])
    (h1 : w.ownsRow b1 5 1 (.slice A1 n1 c1) n1 xs1) (h2 : w.ownsRow b2 5 1 (.slice A2 n2 c2) n2 xs2) (hn1 : n1 ≤ 1099511627776) (hn2 : n2 ≤ 1099511627776)
    (h12 : ∀ g, Of A1 g → ¬ Of A2 g) :
    Calls Tryz.prog 8 #[.slice (some ⟨B, 0, none⟩) 2 cc] w fun e w' => e = .returned (.bool true) ∧ Mod (fun g => Of A1 g ∨ Of A2 g) w w' := by
  have hr : Rd w (some ⟨B, 0, none⟩) 2 (([⟨A1, n1, c1⟩, ⟨A2, n2, c2⟩] : List Row).map Row.v) := Rd.of_blk0 hB rfl
  refine (apartB_any (Y := two8 xs1 xs2) hr (fun j r hj => ?_) (fun i j r q g hi hj hg hq => ?_) (by omega) (fun j r hj => ?_)).mono fun e w' ⟨he, hm⟩ => ⟨he, hm.mono (fun k _ ⟨j, r, hj, hk⟩ => ?_)⟩
  · match j, hj with
    | 0, hj => injection hj with hj; subst hj; exact own_base h1 (fun _ _ => Nat.zero_le _)
    | 1, hj => injection hj with hj; subst hj; exact own_base h2 (fun _ _ => Nat.zero_le _)
    | j + 2, hj => simp at hj
  · match i, j, hi, hj with
    | 0, 0, _, _ => rfl
    | 1, 1, _, _ => rfl
    | 0, 1, hi, hj => injection hi with hi; injection hj with hj; subst hi; subst hj; exact (h12 g (own_of hg) (own_of hq)).elim
    | 1, 0, hi, hj => injection hi with hi; injection hj with hj; subst hi; subst hj; exact (h12 g (own_of hq) (own_of hg)).elim
    | i + 2, _, hi, _ => simp at hi
    | _, j + 2, _, hj => simp at hj
  · match j, hj with
    | 0, hj => injection hj with hj; subst hj; exact hn1
    | 1, hj => injection hj with hj; subst hj; exact hn2
    | j + 2, hj => simp at hj
  · match j, hj with
    | 0, hj => injection hj with hj; subst hj; exact .inl (own_of hk)
    | 1, hj => injection hj with hj; subst hj; exact .inr (own_of hk)
    | j + 2, hj => simp at hj
theorem apartB3 {w : World} {B b1 b2 b3 n1 n2 n3 c1 c2 c3 cc : Nat} {A1 A2 A3 : Option Addr} {xs1 xs2 xs3 : List Value} (hB : Blk w B 26 #[.slice A1 n1 c1, .slice A2 n2 c2, .slice A3 n3 c3])
    (h1 : w.ownsRow b1 5 1 (.slice A1 n1 c1) n1 xs1) (h2 : w.ownsRow b2 5 1 (.slice A2 n2 c2) n2 xs2) (h3 : w.ownsRow b3 5 1 (.slice A3 n3 c3) n3 xs3)
    (hn1 : n1 ≤ 1099511627776) (hn2 : n2 ≤ 1099511627776) (hn3 : n3 ≤ 1099511627776)
    (h12 : ∀ g, Of A1 g → ¬ Of A2 g) (h13 : ∀ g, Of A1 g → ¬ Of A3 g) (h23 : ∀ g, Of A2 g → ¬ Of A3 g) :
    Calls Tryz.prog 8 #[.slice (some ⟨B, 0, none⟩) 3 cc] w fun e w' => e = .returned (.bool true) ∧ Mod (fun g => Of A1 g ∨ Of A2 g ∨ Of A3 g) w w' := by
  have hr : Rd w (some ⟨B, 0, none⟩) 3 (([⟨A1, n1, c1⟩, ⟨A2, n2, c2⟩, ⟨A3, n3, c3⟩] : List Row).map Row.v) := Rd.of_blk0 hB rfl
  refine (apartB_any (Y := three8 xs1 xs2 xs3) hr (fun j r hj => ?_) (fun i j r q g hi hj hg hq => ?_) (by omega) (fun j r hj => ?_)).mono fun e w' ⟨he, hm⟩ => ⟨he, hm.mono (fun k _ ⟨j, r, hj, hk⟩ => ?_)⟩
  · match j, hj with
    | 0, hj => injection hj with hj; subst hj; exact own_base h1 (fun _ _ => Nat.zero_le _)
    | 1, hj => injection hj with hj; subst hj; exact own_base h2 (fun _ _ => Nat.zero_le _)
    | 2, hj => injection hj with hj; subst hj; exact own_base h3 (fun _ _ => Nat.zero_le _)
    | j + 3, hj => simp at hj
  · match i, j, hi, hj with
    | 0, 0, _, _ => rfl
    | 1, 1, _, _ => rfl
    | 2, 2, _, _ => rfl
    | 0, 1, hi, hj => injection hi with hi; injection hj with hj; subst hi; subst hj; exact (h12 g (own_of hg) (own_of hq)).elim
    | 1, 0, hi, hj => injection hi with hi; injection hj with hj; subst hi; subst hj; exact (h12 g (own_of hq) (own_of hg)).elim
    | 0, 2, hi, hj => injection hi with hi; injection hj with hj; subst hi; subst hj; exact (h13 g (own_of hg) (own_of hq)).elim
    | 2, 0, hi, hj => injection hi with hi; injection hj with hj; subst hi; subst hj; exact (h13 g (own_of hq) (own_of hg)).elim
    | 1, 2, hi, hj => injection hi with hi; injection hj with hj; subst hi; subst hj; exact (h23 g (own_of hg) (own_of hq)).elim
    | 2, 1, hi, hj => injection hi with hi; injection hj with hj; subst hi; subst hj; exact (h23 g (own_of hq) (own_of hg)).elim
    | i + 3, _, hi, _ => simp at hi
    | _, j + 3, _, hj => simp at hj
  · match j, hj with
    | 0, hj => injection hj with hj; subst hj; exact hn1
    | 1, hj => injection hj with hj; subst hj; exact hn2
    | 2, hj => injection hj with hj; subst hj; exact hn3
    | j + 3, hj => simp at hj
  · match j, hj with
    | 0, hj => injection hj with hj; subst hj; exact .inl (own_of hk)
    | 1, hj => injection hj with hj; subst hj; exact .inr (.inl (own_of hk))
    | 2, hj => injection hj with hj; subst hj; exact .inr (.inr (own_of hk))
    | j + 3, hj => simp at hj
end Go.Proofs.YtodnhbiomooknaaGreat
