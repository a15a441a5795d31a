/- peatbankkit over bytes, in natural numbers: SameBytes, LentBytes, KeptBytes. -/
import Derived.Test.YtodnhbiomooknaaGreatFrG
import Derived.Test.YtodnhbiomooknaaGreatBytesSm
namespace Go.Proofs.YtodnhbiomooknaaGreat
open Go.RowKit

theorem bv_ints (l : List Nat) : (l.map (fun c : Nat => (c : Int))).map (Value.int .u8) = bv l := by unfold bv; rw [List.map_map]; rfl
def nats (l : List Nat) : List Int := l.map (fun c : Nat => (c : Int))
theorem bv_nats (l : List Nat) : (nats l).map (Value.int .u8) = bv l := bv_ints l
theorem nats_inj {l m : List Nat} : nats l = nats m ↔ l = m := by
  constructor
  · intro h
    unfold nats at h
    exact (List.map_inj_right (f := fun c : Nat => (c : Int)) (fun a b h => by have h : (a : Int) = b := h; omega)).1 h
  · rintro rfl; rfl
section
variable {w : World} {A B : Option Addr} {n m c d : Nat} {l r : List Nat}
/-- SameBytes of bytes -/
theorem sameb_any (ha : Rd w A n (bv l)) (hb : Rd w B m (bv r)) (hn : n ≤ 140737488355328) (hm : m ≤ 140737488355328) :
    Calls Tryz.prog 7 #[.slice A n c, .slice B m d] w fun e w' => e = .returned (.bool (decide (l = r))) ∧ Mod Nn w w' := by
  have h := same_any (ca := c) (cb := d) (xs := nats l) (ys := nats r) (by rw [bv_nats]; exact ha) (by rw [bv_nats]; exact hb) hn hm
  have e : decide (nats l = nats r) = decide (l = r) := by
    by_cases h : l = r
    · rw [decide_eq_true h, decide_eq_true (nats_inj.2 h)]
    · rw [decide_eq_false h, decide_eq_false (fun h' => h (nats_inj.1 h'))]
  rw [e] at h; exact h
theorem sameb_yes (ha : Rd w A n (bv l)) (hb : Rd w B n (bv l)) (hn : n ≤ 140737488355328) :
    Calls Tryz.prog 7 #[.slice A n c, .slice B n d] w fun e w' => e = .returned (.bool true) ∧ Mod Nn w w' := by
  have := sameb_any (c := c) (d := d) ha hb hn hn
  rwa [decide_eq_true rfl] at this
/-- an argument lent out, with room behind that is watched -/
theorem lentb_any (hr : Rd w A n (bv l)) (hn : n ≤ 1099511627776) :
    Calls Tryz.prog 24 #[.slice A n c] w fun r w' => ∃ g, r = .returned (.slice (some ⟨g, 0, none⟩) n (n + 12)) ∧ Blk w' g 5 ((nats l ++ mks 1 12).map (Value.int .u8)).toArray ∧ Mod Nn w w' ∧ w.heap.size ≤ g :=
  lent_any (xs := nats l) (by rw [bv_nats]; exact hr) hn
theorem keptb_any {g : Nat} (hr : Rd w A n (bv l)) (hb : Blk w g 5 ((nats l ++ mks 1 12).map (Value.int .u8)).toArray) (hn : n ≤ 1099511627776) :
    Calls Tryz.prog 27 #[.slice (some ⟨g, 0, none⟩) n (n + 12), .slice A n c] w fun r w' => r = .returned (.bool true) ∧ Mod Nn w w' :=
  kept_any (xs := nats l) (by rw [bv_nats]; exact hr) hb hn
theorem lent_rd {g : Nat} {t : TypeId} {ys : List Int} (h : Blk w g t ((nats l ++ ys).map (Value.int .u8)).toArray) (hl : l.length = n) : Rd w (some ⟨g, 0, none⟩) n (bv l) :=
  Rd.of_blk h 0 (by simpa [bv] using hl) (fun j v hv => by
    rw [List.getElem?_toArray, Nat.zero_add, List.map_append, bv_nats, List.getElem?_append_left (List.getElem?_eq_some_iff.1 hv).1]; exact hv)
end
end Go.Proofs.YtodnhbiomooknaaGreat
