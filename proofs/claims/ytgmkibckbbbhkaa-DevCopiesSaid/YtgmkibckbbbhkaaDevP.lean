/- The device and the document's side by side; what a step writes. -/
import Derived.Test.YtgmkibckbbbhkaaDevB
import Derived.Test.YtgmkibckbbbhkaaBytesO
import Derived.Test.YtgmkibckbbbhkaaFates1
import Derived.Test.YtgmkibckbbbhkaaDevO
import Derived.Test.YtgmkibckbbbhkaaDev9
namespace Go.Proofs.Ytgmkibckbbbhkaa
open Go.RowKit

structure Pr (w0 w : World) (b ms mo b' : Nat) (lv : Value) (F : Nat → Prop) (D E : Dk) (L : List Sec) : Prop where
  d : DiskAt w b ms mo D
  r : RefAt w b' lv F E L
  md : Mod Nn w0 w
  df : ∀ k, In3 b ms mo k → w0.heap.size ≤ k
  rf : ∀ k, InR b' lv k → w0.heap.size ≤ k
  sep : ∀ k, In3 b ms mo k → ¬ InR b' lv k ∧ ¬ F k
def InP (b ms mo b' : Nat) (lv : Value) : Nat → Prop := fun k => In3 b ms mo k ∨ InR b' lv k
structure PrTo (w w' : World) (b ms mo b' : Nat) (lv : Value) (F : Nat → Prop) (lv' : Value) (F' : Nat → Prop) : Prop where
  md : Mod (InP b ms mo b' lv) w w'
  lv : ∀ g, lv'.ownBlock = some g → lv.ownBlock = some g ∨ w.heap.size ≤ g
  F : ∀ g, F' g → F g ∨ w.heap.size ≤ g
section
variable {w0 w w1 w' : World} {b ms mo b' : Nat} {lv lv' lv'' : Value} {F F' F'' : Nat → Prop} {D E D' E' : Dk} {L L' : List Sec}
theorem Pr.quiet (h : Pr w0 w b ms mo b' lv F D E L) (hm : Mod Nn w w') : Pr w0 w' b ms mo b' lv F D E L :=
  ⟨h.d.mod hm (fun _ _ f => f), h.r.nn hm, h.md.nn_ hm, h.df, h.rf, h.sep⟩
theorem Pr.dev (h : Pr w0 w b ms mo b' lv F D E L) (hd : DiskAt w' b ms mo D') (hm : Mod (In3 b ms mo) w w') : Pr w0 w' b ms mo b' lv F D' E L :=
  ⟨hd, h.r.mod hm (fun k hk hin => by
    rcases hk with hk | hk
    · exact (h.sep k hin).1 hk
    · exact (h.sep k hin).2 hk), h.md.then_ hm (fun k hk hin => by have := h.df k hin; omega), h.df, h.rf, h.sep⟩
theorem Pr.ref (h : Pr w0 w b ms mo b' lv F D E L) (hR : RefAt w' b' lv' F' E' L') (hT : RefTo w w' b' lv F lv' F') : Pr w0 w' b ms mo b' lv' F' D E' L' :=
  ⟨h.d.mod hT.md (fun k hk hin => (h.sep k hk).1 hin), hR, h.md.then_ hT.md (fun k hk hin => by have := h.rf k hin; omega), h.df, fun k hk => by
    rcases hk with hk | hk
    · exact h.rf k (.inl hk)
    · rcases hT.lv k hk with h1 | h1
      · exact h.rf k (.inr h1)
      · have := h.md.size; omega, fun k hk => ⟨fun hin => by
    rcases hin with hin | hin
    · exact (h.sep k hk).1 (.inl hin)
    · rcases hT.lv k hin with h1 | h1
      · exact (h.sep k hk).1 (.inr h1)
      · have := h.d.lt k hk; omega, fun hin => by
    rcases hT.F k hin with h1 | h1
    · exact (h.sep k hk).2 h1
    · have := h.d.lt k hk; omega⟩⟩
theorem PrTo.refl (w : World) (b ms mo b' : Nat) (lv : Value) (F : Nat → Prop) : PrTo w w b ms mo b' lv F lv F := ⟨Mod.refl _ _, fun _ h => .inl h, fun _ h => .inl h⟩
theorem PrTo.quiet (hm : Mod Nn w w') : PrTo w w' b ms mo b' lv F lv F := ⟨hm.nn, fun _ h => .inl h, fun _ h => .inl h⟩
theorem PrTo.new_ {p : Nat} (hm : Mod (At p) w1 w') (h : PrTo w w1 b ms mo b' lv F lv' F') (hp : w.heap.size ≤ p) : PrTo w w' b ms mo b' lv F lv' F' := ⟨h.md.new_ hm hp, h.lv, h.F⟩
theorem PrTo.dev (hm : Mod (In3 b ms mo) w w') : PrTo w w' b ms mo b' lv F lv F := ⟨hm.mono (fun _ _ h => .inl h), fun _ h => .inl h, fun _ h => .inl h⟩
theorem PrTo.ref (hT : RefTo w w' b' lv F lv' F') : PrTo w w' b ms mo b' lv F lv' F' := ⟨hT.md.mono (fun _ _ h => .inr h), hT.lv, hT.F⟩
theorem PrTo.trans (h : PrTo w w1 b ms mo b' lv F lv' F') (k : PrTo w1 w' b ms mo b' lv' F' lv'' F'') : PrTo w w' b ms mo b' lv F lv'' F'' :=
  ⟨h.md.then_ k.md (fun g hg hin => by
    rcases hin with hin | hin | hin
    · exact .inl hin
    · exact .inr (.inl hin)
    · rcases h.lv g hin with h1 | h1
      · exact .inr (.inr h1)
      · omega), fun g hg => by
    rcases k.lv g hg with h1 | h1
    · exact h.lv g h1
    · have := h.md.size; exact .inr (by omega), fun g hg => by
    rcases k.F g hg with h1 | h1
    · exact h.F g h1
    · have := h.md.size; exact .inr (by omega)⟩
theorem Pr.lt (h : Pr w0 w b ms mo b' lv F D E L) : ∀ k, InP b ms mo b' lv k ∨ F k → k < w.heap.size := by
  rintro k ((hk | hk) | hk)
  · exact h.d.lt k hk
  · exact h.r.lt k (.inl hk)
  · exact h.r.lt k (.inr hk)
/-- what was before stays -/
theorem Pr.old (h : Pr w0 w b ms mo b' lv F D E L) {k : Nat} (hk : k < w0.heap.size) : ¬ In3 b ms mo k ∧ ¬ InR b' lv k :=
  ⟨fun hin => by have := h.df k hin; omega, fun hin => by have := h.rf k hin; omega⟩
/-- a pair, untouched by another's steps -/
theorem Pr.mod {S : Nat → Prop} (h : Pr w0 w b ms mo b' lv F D E L) (hm : Mod S w w') (hS : ∀ k, InP b ms mo b' lv k ∨ F k → ¬ S k) (h0 : ∀ k, k < w0.heap.size → ¬ S k) : Pr w0 w' b ms mo b' lv F D E L :=
  ⟨h.d.mod hm (fun k hk => hS k (.inl (.inl hk))), h.r.mod hm (fun k hk => hS k (hk.elim (fun h => .inl (.inr h)) .inr)), h.md.then_ hm (fun k hk hs => (h0 k hk hs).elim), h.df, h.rf, h.sep⟩
end

/-! ### what a step writes -/
def stLen (n : Int) : Nat := if n.tmod 7 = 3 then (pick n 512).toNat else 512
def stB (n byt : Int) : List Int := (fullL byt).take (stLen n)
theorem stLen_le (n : Int) : stLen n ≤ 512 := by
  have := pick_range n 512 (by omega)
  unfold stLen
  split <;> omega
theorem stB_len (n byt : Int) : (stB n byt).length = stLen n := by
  have := stLen_le n
  unfold stB; rw [List.length_take, fullL_len]; omega
set_option maxHeartbeats 800000 in
theorem dobytes_any (op sec n byt : Int) (sl : Value) (w : World) (hn : -9223372036854775808 ≤ n ∧ n ≤ 9223372036854775807) (hb : 0 ≤ byt ∧ byt ≤ 255) :
    Calls Try.prog 68 #[.agg #[.int .i64 op, .int .i64 sec, .int .i64 n, .int .u8 byt, sl]] w fun e w' => ∃ g c, e = .returned (.slice (some ⟨g, 0, none⟩) (stLen n) c) ∧ Rd w' (some ⟨g, 0, none⟩) (stLen n) ((stB n byt).map (Value.int .u8)) ∧ w.heap.size ≤ g ∧ g < w'.heap.size ∧ Mod Nn w w' := by
  have hsl := stLen_le n
  by_cases h3 : n.tmod 7 = 3
  · have hL : stLen n = (pick n 512).toNat := by unfold stLen; rw [if_pos h3]
    have hpk := pick_range n 512 (by omega)
    obtain ⟨p, hp⟩ : ∃ p : Nat, pick n 512 = p := ⟨(pick n 512).toNat, by omega⟩
    have hpick := pick_any n 512
    have HB := Lib.hid (show ∀ w g, Blk w g 5 ((fullL byt).map (Value.int .u8)).toArray → Rd w (some ⟨g, 0, none⟩) (stLen n) ((stB n byt).map (Value.int .u8)) from fun w g hb => by
      unfold stB
      rw [List.map_take]
      exact (by have := (Rd.of_blk0 hb (n := 512) (by simp [fullL_len])).pre (c := 512) (stLen n) hsl (by omega); rwa [subA_zero] at this))
    rw [hp] at hL hpk hpick
    have hL' : stLen n = p := by rw [hL]; omega
    have h3' : (n.tmod 7 == 3) = true := by rw [h3]; rfl
    rw [hL'] at HB ⊢
    clear hL hL' h3 hp hsl
    have hp5 : (p : Int) < 512 := hpk.2
    clear hpk
    go_enter Try.func68, Try.ntmps68
    go_wp2_with fail
    refine (full_any byt _ hb.1 hb.2).mono ?_
    rintro e w1 ⟨g, rfl, hb1, hg, m1⟩
    have hxl : w.heap.size < (w.alloc (.cells #[.int .i64 op, .int .i64 sec, .int .i64 n, .int .u8 byt, sl] 31)).heap.size := by simp
    have cN : w1.cell? ⟨w.heap.size, 2, none⟩ = some (.int .i64 n) := (m1.cell (p := ⟨w.heap.size, 2, none⟩) hxl (fun f => f)).trans ((Blk.new w 31 #[.int .i64 op, .int .i64 sec, .int .i64 n, .int .u8 byt, sl]).cell 2)
    have HF := Lib.hid (And.intro hb1 (And.intro hg (((Mod.refl Nn w).alloc (.cells #[.int .i64 op, .int .i64 sec, .int .i64 n, .int .u8 byt, sl] 31)).nn_ m1)))
    clear hb1 hg m1 hxl
    go_wp2_with fail
    refine (hpick _ (by omega)).mono ?_
    rintro e w2 ⟨rfl, rfl⟩
    clear hpick h3'
    go_wp2
    go_ret
    have hg := HF.out.2.1
    rw [World.size_alloc] at hg
    exact ⟨g, 512, rfl, HB.out _ _ HF.out.1, by omega, HF.out.1.lt, HF.out.2.2⟩
  · have hL' : stLen n = 512 := by unfold stLen; rw [if_neg h3]
    have HB := Lib.hid (show ∀ w g, Blk w g 5 ((fullL byt).map (Value.int .u8)).toArray → Rd w (some ⟨g, 0, none⟩) 512 ((stB n byt).map (Value.int .u8)) from fun w g hb => by
      unfold stB
      rw [hL', List.take_of_length_le (by rw [fullL_len]; omega)]
      exact Rd.of_blk0 hb (by simp [fullL_len]))
    have h3' : (n.tmod 7 == 3) = false := by simpa using h3
    rw [hL'] at ⊢
    clear hL' h3 hsl
    go_enter Try.func68, Try.ntmps68
    go_wp2_with fail
    refine (full_any byt _ hb.1 hb.2).mono ?_
    rintro e w1 ⟨g, rfl, hb1, hg, m1⟩
    have hxl : w.heap.size < (w.alloc (.cells #[.int .i64 op, .int .i64 sec, .int .i64 n, .int .u8 byt, sl] 31)).heap.size := by simp
    have cN : w1.cell? ⟨w.heap.size, 2, none⟩ = some (.int .i64 n) := (m1.cell (p := ⟨w.heap.size, 2, none⟩) hxl (fun f => f)).trans ((Blk.new w 31 #[.int .i64 op, .int .i64 sec, .int .i64 n, .int .u8 byt, sl]).cell 2)
    have HF := Lib.hid (And.intro hb1 (And.intro hg (((Mod.refl Nn w).alloc (.cells #[.int .i64 op, .int .i64 sec, .int .i64 n, .int .u8 byt, sl] 31)).nn_ m1)))
    clear hb1 hg m1 hxl
    go_wp2
    go_ret
    have hg := HF.out.2.1
    rw [World.size_alloc] at hg
    exact ⟨g, 512, rfl, HB.out _ _ HF.out.1, by omega, HF.out.1.lt, HF.out.2.2⟩
end Go.Proofs.Ytgmkibckbbbhkaa
