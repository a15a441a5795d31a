/- The cache (cache.Cache): Write, New. -/
import Derived.Test.YtijmkbhbpbkkoaaCa4
namespace Go.Proofs.Ytijmkbhbpbkkoaa
open Go.RowKit

theorem put_latest (D : Dk) (k : Int) (bs : List Int) (j : Int) : (D.put k bs).latest j = if j = k then bs else D.latest j := by
  unfold Dk.latest Dk.put
  by_cases h : j = k
  · simp [h]
  · simp [h]
theorem crash_latest (D : Dk) (k : Int) : D.crash.latest k = D.latest k := by unfold Dk.crash; split <;> rfl
theorem write_n (D : Dk) (k : Int) (bs : List Int) : (D.write k bs).2.n = D.n := by
  unfold Dk.write
  split
  · split
    · rw [crash_n]; rfl
    · rfl
  · rfl
/-- what a write changes -/
theorem write_latest (D : Dk) (k : Int) (bs : List Int) : ((D.write k bs).1 = 0 ∧ 0 ≤ k ∧ k < D.n ∧ bs.length = 512 ∧ D.down = false ∧ (D.write k bs).2.down = false ∧ (D.write k bs).2.latest k = bs ∧ ∀ j, j ≠ k → (D.write k bs).2.latest j = D.latest j) ∨
    ((D.write k bs).1 = 9 ∧ (D.write k bs).2.down = true ∧ ∀ j, j ≠ k → (D.write k bs).2.latest j = D.latest j) ∨
    ((D.write k bs).1 ≠ 0 ∧ (D.write k bs).1 ≠ 9 ∧ (D.write k bs).2 = D) := by
  unfold Dk.write
  by_cases hm : D.may k = 0
  · rw [if_pos hm]
    have hd : D.down = false ∧ 0 ≤ k ∧ k < D.n := by
      unfold Dk.may at hm
      cases hd : D.down with
      | true => rw [hd] at hm; simp at hm
      | false =>
        rw [hd] at hm
        by_cases hc : k < 0 ∨ D.n ≤ k
        · simp [hc] at hm
        · exact ⟨rfl, by omega, by omega⟩
    by_cases hl : bs.length = 512
    · rw [if_pos hl]
      cases hc : (D.put k bs).crash.down with
      | true => exact .inr (.inl ⟨by simp, rfl, fun j hj => by show ((D.put k bs).crash).latest j = _; rw [crash_latest, put_latest, if_neg hj]⟩)
      | false => exact .inl ⟨by simp, hd.2.1, hd.2.2, hl, hd.1, rfl, by show ((D.put k bs).crash).latest k = _; rw [crash_latest, put_latest, if_pos rfl], fun j hj => by show ((D.put k bs).crash).latest j = _; rw [crash_latest, put_latest, if_neg hj]⟩
    · rw [if_neg hl]
      exact .inr (.inr ⟨by show (2 : Int) ≠ 0; omega, by show (2 : Int) ≠ 9; omega, rfl⟩)
  · rw [if_neg hm]
    by_cases h9 : D.may k = 9
    · refine .inr (.inl ⟨h9, ?_, fun _ _ => rfl⟩)
      unfold Dk.may at h9
      show D.down = true
      cases hd : D.down with
      | true => rfl
      | false =>
        rw [hd] at h9
        by_cases hc : k < 0 ∨ D.n ≤ k <;> simp [hc] at h9
    · exact .inr (.inr ⟨hm, h9, rfl⟩)
/-- those that were touched, behind a write that answered r -/
def wroteT (T : TL) (k now r : Int) : TL := if r = 0 then touchL T k (now + 1) else if r = 9 then T.filter (fun e => !(e.1 == k)) else T
def wroteN (now r : Int) : Int := if r = 0 then now + 1 else now
def CWriteP (w : World) (c b ms mo mk : Nat) (D : Dk) (most now hits misses : Int) (l : KL) (T : TL) (k : Int) (bs : List Int) (e : Ending) (w' : World) : Prop :=
  ∃ l', e = .returned (.int .i64 (D.write k bs).1) ∧ CAt w' c b ms mo mk (D.write k bs).2 most (wroteN now (D.write k bs).1) hits misses l' (wroteT T k now (D.write k bs).1) ∧ CTo w w' c b ms mo mk l l'

section
variable {w w' : World} {c b ms mo mk : Nat} {D : Dk} {most now hits misses : Int} {l : KL} {T : TL} {S : Nat → Prop}
set_option maxRecDepth 100000 in
set_option maxHeartbeats 1600000 in
theorem cwrite_any (h : CAt w c b ms mo mk D most now hits misses l T) (k : Int) (hn : now ≤ 1152921504606846976) {A : Option Addr} {n cc : Nat} {bs : List Int} (hr : Rd w A n (bs.map (Value.int .u8)))
    (hA : ∀ g, Of A g → ¬ InW c b ms mo mk g) :
    Calls Try.prog 54 #[.pointer (some ⟨c, 0, none⟩), .int .i64 k, .slice A n cc] w (CWriteP w c b ms mo mk D most now hits misses l T k bs) := by
  have c0 : w.cell? ⟨c, 0, none⟩ = some (.pointer (some ⟨b, 0, none⟩)) := h.mem.blk.cell 0
  have hlen : bs.length = n := by simpa using hr.1
  have hwl := write_latest D k bs
  have HC : Hid (∀ w1, Mod (In3 b ms mo) w w1 → CMem w1 c b mk most now hits misses l) := Lib.hid (fun w1 m1 => h.mem.mod m1 (fun k hk hin => h.sep k hin hk))
  have HR : Hid (∀ w1, Mod (In3 b ms mo) w w1 → Rd w1 A n (bs.map (Value.int .u8))) := Lib.hid (fun w1 m1 => hr.mod m1 (fun g hg hin => hA g hg (.inr hin)))
  rcases hwl with ⟨hr0, hk0, hk1, hl, hdn, hdn', hlk, hlj⟩ | ⟨hr9, hdn', hlj⟩ | ⟨hr0, hr9, hD⟩
  · have hn5 : n = 512 := by omega
    subst hn5
    have HK : Hid (∀ w1, DiskAt w1 b ms mo (D.write k bs).2 → Mod (In3 b ms mo) w w1 → ∀ w2 l' x, Kept (aset l k x) most l' → x.bs = bs → x.t = now + 1 → CMem w2 c b mk most (now + 1) hits misses l' → (∀ g, Of x.A g → w1.heap.size ≤ g) → Mod (InCM c mk) w1 w2 →
        CWriteP w c b ms mo mk D most now hits misses l T k bs (.returned (.int .i64 0)) w2) := Lib.hid (by
      intro w1 hd1 m1 w2 l' x hk hxb hxt hC hxA m2
      have hmem : ∀ e ∈ l', (e ∈ l ∧ e.1 ≠ k) ∨ e = (k, x) := fun e he => (mem_aset h.mem.map.nd).1 (hk.mem he)
      have hG : ∀ e ∈ l', ∀ g, Of e.2.A g → (∃ x ∈ l, Of x.2.A g) ∨ w.heap.size ≤ g := fun e he g hg => by
        rcases hmem e he with ⟨h1, -⟩ | rfl
        · exact .inl ⟨e, h1, hg⟩
        · exact .inr (Nat.le_trans m1.size (hxA g hg))
      have hm : Mod (InW c b ms mo mk) w w2 := (m1.mono (fun _ _ e => .inr e)).then_ m2 (fun _ _ e => .inl e)
      refine ⟨l', by rw [hr0], ?_, hm, hG⟩
      rw [hr0]
      refine ⟨hC, hd1.mod m2 (fun j hj hin => h.sep j hj (inM_of hin)), fun e he => ?_, ?_, fun j hj hin => ?_, h.m1, by show 0 ≤ now + 1; have := h.n0; omega, h.h0, h.s0, by show hits + misses ≤ now + 1; have := h.hs; omega⟩
      · rw [write_n]
        rcases hmem e he with ⟨h1, h2⟩ | rfl
        · rw [hlj _ h2]; exact h.coh e h1
        · exact ⟨hxb.trans hlk.symm, hk0, hk1⟩
      · rw [hdn']
        have := h.lru
        rw [hdn] at this
        exact Kept.lru this h.m1 hxt hk
      · rcases hin with hin | hin | ⟨e, he, hin⟩
        · exact h.sep j hj (.inl hin)
        · exact h.sep j hj (.inr (.inl hin))
        · rcases hG e he j hin with ⟨y, hy, hyj⟩ | h1
          · exact h.sep j hj (.inr (.inr ⟨y, hy, hyj⟩))
          · have := h.d.lt j hj; omega)
    have HR0 := Lib.hid hr0; clear hr0 hlen hk0 hk1 hl hdn hdn' hlk hlj
    go_enter Try.func54, Try.ntmps54
    go_wp2_with fail
    refine (known_any h.mem h.m1).mono ?_
    rintro e w1 ⟨rfl, rfl⟩
    go_wp2_with fail
    refine (write_any h.d k hr).mono ?_
    rintro e w1 ⟨rfl, d1, m1, -⟩
    rw [HR0.out]
    go_wp2_with fail
    refine (keep_any (HC.out w1 m1) k (HR.out w1 m1) (fun g hg e => hA g hg (.inl (.inl e))) h.n0 hn).mono ?_
    rintro e w2 ⟨l', x, rfl, hk, hxb, hxt, hC, hxA, m2⟩
    have HP := Lib.hid (HK.out w1 d1 m1 w2 l' x hk hxb hxt hC hxA m2)
    clear d1 m1 hk hxb hxt hC hxA m2
    go_wp2
    go_ret
    exact HP.out
  · have HK : Hid (∀ w1, DiskAt w1 b ms mo (D.write k bs).2 → Mod (In3 b ms mo) w w1 → ∀ w2, MapE w2 mk Kp.enc (adel l k) → Mod (At mk) w1 w2 →
        CWriteP w c b ms mo mk D most now hits misses l T k bs (.returned (.int .i64 9)) w2) := Lib.hid (by
      intro w1 hd1 m1 w2 h2 m2
      have hm : Mod (InW c b ms mo mk) w w2 := (m1.mono (fun _ _ e => .inr e)).then_ m2 (fun _ _ e => .inl (.inr e))
      have hC1 := HC.out w1 m1
      have hC2 : CMem w2 c b mk most now hits misses (adel l k) :=
        ⟨hC1.blk.mod m2 (fun e => hC1.ne (e : c = mk).symm), h2, fun z hz => (hC1.rd z (mem_adel.1 hz).1).mod m2 (fun g hg => (hC1.ap z (mem_adel.1 hz).1 g hg).2.2), fun z hz g hg => by
            have := hC1.ap z (mem_adel.1 hz).1 g hg
            have := m2.size
            exact ⟨by omega, by omega, by omega⟩⟩
      refine ⟨adel l k, by rw [hr9], ?_, hm, fun e he g hg => .inl ⟨e, (mem_adel.1 he).1, hg⟩⟩
      rw [hr9]
      refine ⟨hC2, hd1.mod m2 (fun j hj hin => h.sep j hj (.inr (.inl hin))), fun e he => ?_, ?_, fun j hj hin => ?_, h.m1, h.n0, h.h0, h.s0, h.hs⟩
      · rw [write_n, hlj _ (mem_adel.1 he).2]; exact h.coh e (mem_adel.1 he).1
      · rw [hdn']; exact h.lru.forget k
      · rcases hin with hin | hin | ⟨e, he, hin⟩
        · exact h.sep j hj (.inl hin)
        · exact h.sep j hj (.inr (.inl hin))
        · exact h.sep j hj (.inr (.inr ⟨e, (mem_adel.1 he).1, hin⟩)))
    have HR9 := Lib.hid hr9; clear hr9 hlen hdn' hlj
    go_enter Try.func54, Try.ntmps54
    go_wp2_with fail
    refine (known_any h.mem h.m1).mono ?_
    rintro e w1 ⟨rfl, rfl⟩
    go_wp2_with fail
    refine (write_any h.d k hr).mono ?_
    rintro e w1 ⟨rfl, d1, m1, -⟩
    rw [HR9.out]
    have hC1 := HC.out w1 m1
    have c3 : w1.cell? ⟨c, 3, none⟩ = some (.map (some mk)) := hC1.blk.cell 3
    go_wp2_with (first
      | (with_reducible change wpList _ _ _ (⟨_, Op.call { callee := Callee.builtin Builtin.delete, args := _, argTypes := _ }, _, _, _, _⟩ :: _) _ _
         go_must (refine wpList_delete_E 70 _ _ _ rfl rfl mk k rfl rfl hC1.map Try.underlying70 Try.underlying3 ?_)
         intro w2 h2 m2 z2
         have HP := Lib.hid (HK.out w1 d1 m1 w2 h2 m2)
         clear d1 m1 h2 m2 z2 hC1 c3))
    go_ret
    exact HP.out
  · have HK : Hid (∀ w1, DiskAt w1 b ms mo (D.write k bs).2 → Mod (In3 b ms mo) w w1 → CWriteP w c b ms mo mk D most now hits misses l T k bs (.returned (.int .i64 (D.write k bs).1)) w1) := Lib.hid (by
      intro w1 hd1 m1
      refine ⟨l, rfl, ?_, CTo.same (m1.mono (fun _ _ e => .inr e))⟩
      have e1 : wroteN now (D.write k bs).1 = now := by unfold wroteN; rw [if_neg hr0]
      have e2 : wroteT T k now (D.write k bs).1 = T := by unfold wroteT; rw [if_neg hr0, if_neg hr9]
      rw [e1, e2]
      rw [hD] at hd1 ⊢
      exact ⟨HC.out w1 m1, hd1, h.coh, h.lru, h.sep, h.m1, h.n0, h.h0, h.s0, h.hs⟩)
    have hr0' : ((D.write k bs).1 == 0) = false := by rw [beq_eq_false_iff_ne]; exact hr0
    have hr9' : ((D.write k bs).1 == 9) = false := by rw [beq_eq_false_iff_ne]; exact hr9
    clear hlen hr0 hr9 hD
    generalize hrr : (D.write k bs).1 = r at *
    have HRR := Lib.hid hrr; clear hrr
    go_enter Try.func54, Try.ntmps54
    go_wp2_with fail
    refine (known_any h.mem h.m1).mono ?_
    rintro e w1 ⟨rfl, rfl⟩
    go_wp2_with fail
    refine (write_any h.d k hr).mono ?_
    rintro e w1 ⟨rfl, d1, m1, -⟩
    rw [HRR.out]
    have HP := Lib.hid (HK.out w1 d1 m1)
    clear d1 m1
    go_wp2
    go_ret
    exact HP.out

/-- a new cache -/
def CNewP (w : World) (b ms mo : Nat) (D : Dk) (most : Int) (e : Ending) (w' : World) : Prop :=
  ∃ c mk, e = .returned (.pointer (some ⟨c, 0, none⟩)) ∧ CAt w' c b ms mo mk D most 0 0 0 [] [] ∧ Mod Nn w w' ∧ w.heap.size ≤ c ∧ w.heap.size ≤ mk
set_option maxRecDepth 100000 in
set_option maxHeartbeats 800000 in
theorem cnew_any {w : World} {b ms mo : Nat} {D : Dk} (h : DiskAt w b ms mo D) (most : Int) (hm : 1 ≤ most) :
    Calls Try.prog 18 #[.pointer (some ⟨b, 0, none⟩), .int .i64 most] w (CNewP w b ms mo D most) := by
  have hmm := @run_makeMap Try.prog
  have hn := h.ok.n1
  have hn0 : (D.n == 0) = false := by rw [beq_eq_false_iff_ne]; omega
  have hm1 : ¬ most < 1 := by omega
  have HP : Hid (CNewP w b ms mo D most (.returned (.pointer (some ⟨w.heap.size + 1, 0, none⟩))) ((w.alloc (.map #[] 0)).alloc (.cells #[.pointer (some ⟨b, 0, none⟩), .int .i64 most, .int .i64 0, .map (some w.heap.size), .int .i64 0, .int .i64 0] 77))) := Lib.hid (by
    have hmd : Mod Nn w ((w.alloc (.map #[] 0)).alloc (.cells #[.pointer (some ⟨b, 0, none⟩), .int .i64 most, .int .i64 0, .map (some w.heap.size), .int .i64 0, .int .i64 0] 77)) := ((Mod.refl _ _).alloc _).alloc _
    refine ⟨w.heap.size + 1, w.heap.size, rfl, ⟨⟨?_, ?_, (fun e he => by cases he), (fun e he => by cases he)⟩, h.mod hmd (fun _ _ f => f), (fun e he => by cases he), Lru.nil _ _ (by omega) _, fun k hk hin => ?_, hm, Int.le_refl _, Int.le_refl _, Int.le_refl _, Int.le_refl _⟩, hmd, by omega, Nat.le_refl _⟩
    · have := Blk.new (w.alloc (.map #[] 0)) 77 #[.pointer (some ⟨b, 0, none⟩), .int .i64 most, .int .i64 0, .map (some w.heap.size), .int .i64 0, .int .i64 0]
      simpa using this
    · exact (MapE.new w Kp.enc).alloc _
    · have := h.lt k hk
      rcases hin with hin | hin | ⟨e, he, -⟩
      · omega
      · omega
      · cases he)
  generalize hN : D.n = N at *
  have HN := Lib.hid hN; clear hN hm
  go_enter Try.func18, Try.ntmps18
  go_wp2_with fail
  refine (sectors_any h).mono ?_
  rintro e w1 ⟨rfl, rfl⟩
  rw [HN.out]
  go_wp2
  go_ret
  exact HP.out
set_option maxRecDepth 100000 in
theorem cnew_nil (most : Int) (w : World) : Calls Try.prog 18 #[.pointer none, .int .i64 most] w fun e w' => e = .returned (.pointer none) ∧ w = w' := by
  go_enter Try.func18, Try.ntmps18
  go_wp2_with fail
  refine (sectors_nil _).mono ?_
  rintro e w1 ⟨rfl, rfl⟩
  go_wp2
  go_ret
  exact ⟨rfl, rfl⟩
set_option maxRecDepth 100000 in
theorem cnew_small {w : World} {b ms mo : Nat} {D : Dk} (h : DiskAt w b ms mo D) (most : Int) (hm : most < 1) :
    Calls Try.prog 18 #[.pointer (some ⟨b, 0, none⟩), .int .i64 most] w fun e w' => e = .returned (.pointer none) ∧ w = w' := by
  have hn := h.ok.n1
  have hn0 : (D.n == 0) = false := by rw [beq_eq_false_iff_ne]; omega
  generalize hN : D.n = N at *
  have HN := Lib.hid hN; clear hN
  go_enter Try.func18, Try.ntmps18
  go_wp2_with fail
  refine (sectors_any h).mono ?_
  rintro e w1 ⟨rfl, rfl⟩
  rw [HN.out]
  go_wp2
  go_ret
  exact ⟨rfl, rfl⟩
end
end Go.Proofs.Ytijmkbhbpbkkoaa
