/- The cache (cache.Cache): its words in memory; atomic counters, bytes.Clone, known, Counts, Drop. -/
import Derived.Test.YtijmkbhbpbkkoaaGreatCa0
import Derived.Test.YtijmkbhbpbkkoaaGreatDvA
import Derived.Test.YtijmkbhbpbkkoaaGreatKitB
import Derived.Laws.LoneSync
import Derived.Laws.BytesArg
import Derived.Lib.SliceRun
namespace Go.Proofs.YtijmkbhbpbkkoaaGreat
open Go.RowKit

structure CMem (w : World) (c b mk : Nat) (most now hits misses : Int) (l : KL) : Prop where
  blk : Blk w c 66 #[.pointer (some ⟨b, 0, none⟩), .int .i64 most, .int .i64 now, .map (some mk), .int .i64 hits, .int .i64 misses]
  map : MapE w mk Kp.enc l
  rd : ∀ e ∈ l, Rd w e.2.A 512 (e.2.bs.map (Value.int .u8))
  ap : ∀ e ∈ l, ∀ g, Of e.2.A g → g < w.heap.size ∧ g ≠ c ∧ g ≠ mk
def InM (c mk : Nat) (l : KL) : Nat → Prop := fun k => k = c ∨ k = mk ∨ ∃ e ∈ l, Of e.2.A k
def InCM (c mk : Nat) : Nat → Prop := fun k => k = c ∨ k = mk

section
variable {P : Program} {w : World} {a : Act} {o : Oper} {α : Type} {enc : α → Value} {g : Nat} {l : List (Int × α)} {t kt et : TypeId}
theorem exec_len_map (m : Operand) (ho : o.op = .call { callee := .builtin .len, args := #[m], argTypes := #[t] }) (hm : a.eval m = .map (some g)) (h : MapE w g enc l) (ht : P.underlying t = some (.map kt et)) :
    (execOp a.eval o).run P w = .ok (.value (.int .i64 l.length)) w := by
  simp [execOp, ho, resolve, invoke, builtin, hm, run_len_map_ h ht, Result.andThen]
theorem exec_lookup_some (m x : Operand) (ho : o.op = .lookup t m x false) (k : Int) (y : α) (hm : a.eval m = .map (some g)) (hx : a.eval x = .int .i64 k) (h : MapE w g enc l)
    (ht : P.underlying t = some (.map kt et)) (hk : P.underlying kt = some (.int .i64)) {z : Value} {n : Nat} (hi : (P.info? et).map (fun i => (i.zero, i.size)) = some (some z, n)) (hy : aget l k = some y) {v : Value} (hv : enc y = v) :
    (execOp a.eval o).run P w = .ok (.value v) w := by
  have := exec_lookup (o := o) (a := a) m x false ho k hm hx h ht hk hi
  rw [hy] at this
  rw [this]; simp [hv]
end

section
variable {w w' : World} {c b mk : Nat} {most now hits misses : Int} {l : KL} {S : Nat → Prop}
theorem CMem.ne (h : CMem w c b mk most now hits misses l) : mk ≠ c := h.map.ne_blk h.blk
theorem CMem.mod (h : CMem w c b mk most now hits misses l) (hm : Mod S w w') (hn : ∀ k, InM c mk l k → ¬ S k) : CMem w' c b mk most now hits misses l :=
  ⟨h.blk.mod hm (hn _ (.inl rfl)), h.map.mod hm (hn _ (.inr (.inl rfl))), fun e he => (h.rd e he).mod hm (fun g hg => hn g (.inr (.inr ⟨e, he, hg⟩))), fun e he g hg => by
    have := h.ap e he g hg
    have := hm.size
    exact ⟨by omega, by omega, by omega⟩⟩
theorem CMem.drew (h : CMem w c b mk most now hits misses l) : CMem w.drew c b mk most now hits misses l := h.mod (Mod.refl Nn w).drew (fun _ _ f => f)
theorem CMem.lt (h : CMem w c b mk most now hits misses l) : ∀ k, InM c mk l k → k < w.heap.size := by
  rintro k (rfl | rfl | ⟨e, he, hk⟩)
  · exact h.blk.lt
  · exact h.map.lt
  · exact (h.ap e he k hk).1
/-- a number of the cache is written -/
theorem CMem.cellc (h : CMem w c b mk most now hits misses l) (hm : Mod (At c) w w') {most' now' hits' misses' : Int}
    (hb : Blk w' c 66 #[.pointer (some ⟨b, 0, none⟩), .int .i64 most', .int .i64 now', .map (some mk), .int .i64 hits', .int .i64 misses']) : CMem w' c b mk most' now' hits' misses' l :=
  ⟨hb, h.map.mod hm h.ne, fun e he => (h.rd e he).mod hm (fun g hg => (h.ap e he g hg).2.1), fun e he g hg => by
    have := h.ap e he g hg
    have := hm.size
    exact ⟨by omega, by omega, by omega⟩⟩

set_option maxRecDepth 100000 in
theorem aadd_any (i : Nat) (x : Int) (hc : w.cell? ⟨c, i, none⟩ = some (.int .i64 x)) (hz : w.frozen? ⟨c, i, none⟩ = false) (h0 : -9223372036854775808 ≤ x) (h1 : x + 1 ≤ 9223372036854775807) :
    Calls Tryz.prog 63 #[.pointer (some ⟨c, i, none⟩), .int .i64 1] w fun e w' => e = .returned (.int .i64 (x + 1)) ∧ w.setCell ⟨c, i, none⟩ (.int .i64 (x + 1)) = w' := by
  have hadd := run_call_add (P := Tryz.prog) Tryz.func71 (by kernel_rfl) (by kernel_rfl) (by kernel_rfl) .i64 (by kernel_rfl) (y := 1) (s := x + 1) hc hz (by simp [go_sem]; rw [IntKind.wrap_i64]; omega)
  go_enter Tryz.func63, Tryz.ntmps63
  go_wp2
  go_ret
  exact ⟨rfl, rfl⟩
theorem info_byteC : (Tryz.prog.info? 5).map (fun i => (i.zero, i.size, i.bytes)) = some (some (.int .u8 0), 1, 1) := by kernel_rfl
theorem own_made0C (w : World) : (w.alloc (.cells #[] 5)).ownsRow w.heap.size 5 1 (.slice (some ⟨w.heap.size, 0, none⟩) 0 0) 0 [] :=
  ⟨rfl, .inr ⟨w.heap.size, 0, #[], rfl, Nat.le_refl _, heap_alloc_new w _, Nat.le_refl _, Nat.zero_le _, rfl, rfl⟩⟩
set_option maxRecDepth 100000 in
theorem clone_any {A : Option Addr} {n cc : Nat} {bs : List Int} (h1 : Rd w A n (bs.map (Value.int .u8))) (hn : n ≤ 140737488355328) :
    Calls Tryz.prog 64 #[.slice A n cc] w fun e w' => ∃ v, e = .returned v ∧ w'.ownsRow w.heap.size 5 1 v n (bs.map (Value.int .u8)) ∧ Mod Nn w w' := by
  have q22 : ∀ (w : World) (a : Option Addr) (n c n' c' : Nat), (binOp .eql 29 (.slice a n c) (.slice none n' c')).run Tryz.prog w = .ok (.bool a.isNone) w := fun w a n c n' c' => Lib.run_eql_slice_nil w _ _ a n c n' c' Tryz.underlying29
  cases A with
  | none =>
    have hn0 : n = 0 := by
      rcases Nat.eq_zero_or_pos n with h | h
      · exact h
      · obtain ⟨_, _, h, _⟩ := h1.2 h; cases h
    subst hn0
    obtain rfl : bs = [] := List.eq_nil_of_length_eq_zero (by have := h1.1; simpa using this)
    go_enter Tryz.func64, Tryz.ntmps64
    go_wp2
    go_ret
    exact ⟨_, rfl, World.ownsRow_nil _ _ _ _, Mod.refl _ _⟩
  | some a =>
    go_enter Tryz.func64, Tryz.ntmps64
    go_wp2_with (first
      | (with_reducible change wpList _ _ _ (⟨some 7, _, _, _, _, _⟩ :: _) _ _
         have m1 : Mod Nn w (w.alloc (.cells #[] 5)) := (Mod.refl Nn w).alloc _
         go_must (refine wpList_append_rd 29 _ _ rfl rfl w.heap.size 5 (.int .u8 0) 1 1 Tryz.underlying29 info_byteC rfl (by omega) _ 0 [] rfl (own_made0C w) _ n _ (bs.map (Value.int .u8)) rfl (h1.mod m1 (fun _ _ f => f)).toC (ints_oneCell _ _) (by omega) (by omega) (by simp) ?_)
         intro v2 w2 o2 g2 b2
         have M2 := m1.grown g2 (fun g hg => .inl (by have hg : some w.heap.size = some g := hg; injection hg with hg; omega))
         rw [Nat.zero_add, List.nil_append] at o2
         have HO := Lib.hid o2
         clear g2 b2 m1 o2 h1 q22))
    go_ret
    exact ⟨_, rfl, HO.out, M2⟩

set_option maxRecDepth 100000 in
theorem known_any (h : CMem w c b mk most now hits misses l) (hm : 1 ≤ most) :
    Calls Tryz.prog 56 #[.pointer (some ⟨c, 0, none⟩)] w fun e w' => e = .returned (.bool true) ∧ w = w' := by
  have c1 : w.cell? ⟨c, 1, none⟩ = some (.int .i64 most) := h.blk.cell 1
  have hd : decide (0 < most) = true := by simp; omega
  have hp : 0 < most := by omega
  clear h hm
  go_enter Tryz.func56, Tryz.ntmps56
  go_wp2
  go_ret
  exact ⟨rfl, rfl⟩
set_option maxRecDepth 100000 in
theorem known_nil (w : World) : Calls Tryz.prog 56 #[.pointer none] w fun e w' => e = .returned (.bool false) ∧ w = w' := by
  go_enter Tryz.func56, Tryz.ntmps56
  go_wp2
  go_ret
  exact ⟨rfl, rfl⟩
set_option maxRecDepth 100000 in
theorem known_zero (c1 : w.cell? ⟨c, 1, none⟩ = some (.int .i64 0)) : Calls Tryz.prog 56 #[.pointer (some ⟨c, 0, none⟩)] w fun e w' => e = .returned (.bool false) ∧ w = w' := by
  go_enter Tryz.func56, Tryz.ntmps56
  go_wp2
  go_ret
  exact ⟨rfl, rfl⟩
end
end Go.Proofs.YtijmkbhbpbkkoaaGreat
