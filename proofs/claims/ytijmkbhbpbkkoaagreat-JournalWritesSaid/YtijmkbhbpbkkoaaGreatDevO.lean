/- The device (dev.Disk): one disk of the call's own, its functions' contracts once more, for straight scripts. -/
import Derived.Test.YtijmkbhbpbkkoaaGreatDev8
namespace Go.Proofs.YtijmkbhbpbkkoaaGreat
open Go.RowKit

structure Own (w0 w : World) (b ms mo : Nat) (D : Dk) : Prop where
  at_ : DiskAt w b ms mo D
  md : Mod Nn w0 w
  fr : ∀ k, In3 b ms mo k → w0.heap.size ≤ k

section
variable {w0 w w' : World} {b ms mo : Nat} {D D' : Dk}
theorem Own.step (h : Own w0 w b ms mo D) (hd : DiskAt w' b ms mo D') (hm : Mod (In3 b ms mo) w w') : Own w0 w' b ms mo D' :=
  ⟨hd, h.md.then_ hm (fun k hk hin => by have := h.fr k hin; omega), h.fr⟩
theorem Own.quiet (h : Own w0 w b ms mo D) (hm : Mod Nn w w') : Own w0 w' b ms mo D := ⟨h.at_.mod hm (fun _ _ f => f), h.md.nn_ hm, h.fr⟩
theorem Own.alloc (h : Own w0 w b ms mo D) (o : Obj) : Own w0 (w.alloc o) b ms mo D := h.quiet ((Mod.refl _ _).alloc o)

theorem o_new (h : Mod Nn w0 w) (n : Int) (h1 : 1 ≤ n) (h2 : n ≤ 262144) :
    Calls Tryz.prog 25 #[.int .i64 n] w fun e w' => ∃ b ms mo, e = .returned (.pointer (some ⟨b, 0, none⟩)) ∧ Own w0 w' b ms mo (Dk.new n) :=
  (new_any n w h1 h2).mono fun e w' ⟨b, ms, mo, he, hd, hm, hf⟩ => ⟨b, ms, mo, he, hd, h.nn_ hm, fun k hk => by have := hf k hk; have := h.size; omega⟩
theorem o_write (h : Own w0 w b ms mo D) (k : Int) {A : Option Addr} {n c : Nat} {bs : List Int} (hr : Rd w A n (bs.map (Value.int .u8))) {r : Int} (hw : D.write k bs = (r, D')) :
    Calls Tryz.prog 60 #[.pointer (some ⟨b, 0, none⟩), .int .i64 k, .slice A n c] w fun e w' => e = .returned (.int .i64 r) ∧ Own w0 w' b ms mo D' :=
  (write_any h.at_ k hr).mono fun e w' ⟨he, hd, hm, _⟩ => by rw [hw] at he hd; exact ⟨he, h.step hd hm⟩
theorem o_read (h : Own w0 w b ms mo D) (k : Int) {r : Int} {l : List Int} {n : Nat} (hm : D.may k = r) (hl : D.read k = l) (hn : l.length = n) :
    Calls Tryz.prog 22 #[.pointer (some ⟨b, 0, none⟩), .int .i64 k] w fun e w' => ∃ A c, e = .returned (.tuple #[.slice A n c, .int .i64 r]) ∧ Rd w' A n (l.map (Value.int .u8)) ∧ Own w0 w' b ms mo D ∧ Mod Nn w w' ∧ (∀ g, Of A g → ¬ In3 b ms mo g) :=
  (read_any h.at_ k).mono fun e w' ⟨v, he, hv, hmo⟩ => by
    rw [hm] at he
    rw [hl, hn] at hv
    obtain ⟨A, c, rfl, hr, hg⟩ := own_rd hv
    exact ⟨A, c, he, hr, h.quiet hmo, hmo, fun g hA hin => by have := hg g hA; have := h.at_.lt g hin; omega⟩
theorem o_same (h : Own w0 w b ms mo D) {A B : Option Addr} {n m ca cb : Nat} {xs ys : List Int} (ha : Rd w A n (xs.map (Value.int .u8))) (hb : Rd w B m (ys.map (Value.int .u8))) (hn : n ≤ 140737488355328) (hm : m ≤ 140737488355328) {r : Bool} (hr : decide (xs = ys) = r) :
    Calls Tryz.prog 18 #[.slice A n ca, .slice B m cb] w fun e w' => e = .returned (.bool r) ∧ Own w0 w' b ms mo D ∧ Mod Nn w w' :=
  (same_any ha hb hn hm).mono fun e w' ⟨he, hmo⟩ => by rw [hr] at he; exact ⟨he, h.quiet hmo, hmo⟩
end
theorem write_eq {D : Dk} {k : Int} {bs : List Int} (hl : bs.length = 512) : D.write k bs = if D.may k = 0 then ((if (D.put k bs).crash.down then 9 else 0), (D.put k bs).crash) else (D.may k, D) := by
  unfold Dk.write; rw [if_pos hl]
theorem write_ne {D : Dk} {k : Int} {bs : List Int} (hl : bs.length ≠ 512) : D.write k bs = if D.may k = 0 then (2, D) else (D.may k, D) := by
  unfold Dk.write; rw [if_neg hl]
end Go.Proofs.YtijmkbhbpbkkoaaGreat
