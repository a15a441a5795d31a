/- The cache (cache.Cache): Read. -/
import Derived.Test.YtijmkbhbpbkkoaaCa3
namespace Go.Proofs.Ytijmkbhbpbkkoaa
open Go.RowKit

structure RdCnt (D : Dk) (k now hits misses : Int) (l : KL) (T : TL) (now' hits' misses' : Int) (T' : TL) : Prop where
  no : D.may k ≠ 0 → now' = now ∧ hits' = hits ∧ misses' = misses ∧ T' = T
  yes : D.may k = 0 → now' = now + 1 ∧ T' = touchL T k (now + 1) ∧ hits' = hits + (if (aget l k).isSome = true then 1 else 0) ∧ misses' = misses + (if (aget l k).isSome = true then 0 else 1)
theorem RdCnt.le {D : Dk} {k now hits misses now' hits' misses' : Int} {l : KL} {T T' : TL} (h : RdCnt D k now hits misses l T now' hits' misses' T') : now' ≤ now + 1 := by
  by_cases hm : D.may k = 0
  · have := (h.yes hm).1; omega
  · have := (h.no hm).1; omega
def CReadP (w : World) (c b ms mo mk : Nat) (D : Dk) (most now hits misses : Int) (l : KL) (T : TL) (k : Int) (e : Ending) (w' : World) : Prop :=
  ∃ v now' hits' misses' l' T', e = .returned (.tuple #[v, .int .i64 (D.may k)]) ∧ CAt w' c b ms mo mk D most now' hits' misses' l' T' ∧ CTo w w' c b ms mo mk l l' ∧
    w'.ownsRow w.heap.size 5 1 v (D.read k).length ((D.read k).map (Value.int .u8)) ∧ (∀ g, v.ownBlock = some g → ¬ InA c b ms mo mk l' g) ∧ RdCnt D k now hits misses l T now' hits' misses' T'

section
variable {w w' : World} {c b ms mo mk : Nat} {D : Dk} {most now hits misses : Int} {l : KL} {T : TL} {S : Nat → Prop}
set_option maxRecDepth 100000 in
set_option maxHeartbeats 1600000 in
theorem cread_hit (h : CAt w c b ms mo mk D most now hits misses l T) (k : Int) (hn : now ≤ 1152921504606846976) (hd : D.down = false) {x : Kp} (hx : aget l k = some x) :
    Calls Try.prog 46 #[.pointer (some ⟨c, 0, none⟩), .int .i64 k] w (CReadP w c b ms mo mk D most now hits misses l T k) := by
  have hmem := aget_mem hx
  obtain ⟨hcb, hk0, hk1⟩ := h.coh _ hmem
  simp only at hcb hk0 hk1
  have hmay : D.may k = 0 := may_ok hd hk0 hk1
  have hread : D.read k = D.latest k := by simp [Dk.read, hmay]
  have hlen := h.d.ok.latest_len k
  have hrx := h.mem.rd _ hmem
  have hax := h.mem.ap _ hmem
  simp only at hrx hax
  have c0 : w.cell? ⟨c, 0, none⟩ = some (.pointer (some ⟨b, 0, none⟩)) := h.mem.blk.cell 0
  have c3 : w.cell? ⟨c, 3, none⟩ = some (.map (some mk)) := h.mem.blk.cell 3
  have hlt := h.mem.lt
  have hcl : c < w.heap.size := hlt c (.inl rfl)
  have hml : mk < w.heap.size := hlt mk (.inr (.inl rfl))
  have hne := h.mem.ne
  have hh : 0 ≤ hits ∧ hits ≤ 1152921504606846976 := by have := h.h0; have := h.s0; have := h.hs; omega
  have HX := Lib.hid hx
  have HE := Lib.hid (And.intro hcb (And.intro hk0 (And.intro hk1 (And.intro hmay (And.intro hread hlen)))))
  clear hx hmem hcb hk0 hk1 hmay hread hlen
  have HLT := Lib.hid hlt; clear hlt
  have HD := Lib.hid hd; clear hd
  go_enter Try.func46, Try.ntmps46
  go_wp2_with fail
  refine (known_any h.mem h.m1).mono ?_
  rintro e w1 ⟨rfl, rfl⟩
  go_wp2_with fail
  refine (down_any h.d).mono ?_
  rintro e w1 ⟨rfl, rfl⟩
  rw [HD.out]
  go_wp2_with (first
    | (with_reducible change wpList _ _ _ (⟨_, Op.lookup _ _ _ true, _, _, _, _⟩ :: _) _ _
       go_must (refine wpList_lookup_E 70 _ _ true rfl rfl mk k rfl rfl h.mem.map Try.underlying70 Try.underlying3 info_kept (.tuple #[.agg #[.slice x.A 512 x.c, .int .i64 x.t], .bool true]) (by rw [HX.out]; rfl) ?_))
    | (with_reducible change wpList _ _ _ (⟨some 6, Op.alloc _, _, _, _, _⟩ :: _) _ _
       go_must (refine wpList_alloc_var 105 rfl rfl info_kept ?_)
       intro w1 b1 m1 z1
       have Z1 := Lib.hid z1; clear z1)
    | (with_reducible change wpList _ _ _ (⟨none, Op.store 105 (Operand.tmp 6) _, _, _, _, _⟩ :: _) _ _
       go_must (refine wpList_store_var 105 _ _ rfl rfl _ #[.slice x.A 512 x.c, .int .i64 x.t] _ _ rfl rfl b1 (by rw [size_kept]; rfl) rfl (by simp [Value.oneCell']) ?_)
       intro w2 b2 m2 z2
       have Z2 := Lib.hid z2; clear z2
       have M2 : Mod Nn w w2 := m1.new_ m2 (Nat.le_refl _)
       have hC2 := h.mem.mod M2 (fun _ _ f => f)
       have hr2 := hrx.mod M2 (fun _ _ f => f)
       have hx2 : w.heap.size < w2.heap.size := b2.lt
       clear m1 m2 b1 c0 c3))
  refine (aadd_any 4 hits (hC2.blk.cell 4) (hC2.blk.frozen 4) (by omega) (by omega)).mono ?_
  rintro e w3 ⟨rfl, hw3⟩
  have m3 : Mod (At c) w2 w3 := hw3 ▸ Mod.cellAt _ _ _ _
  have hC3 : CMem w3 c b mk most now (hits + 1) misses l := hC2.cellc m3 (hw3 ▸ hC2.blk.set_ 4 _)
  clear hw3
  have b3 := b2.mod m3 (fun e => by have e : w.heap.size = c := e; omega)
  have hr3 := hr2.mod m3 (fun g hg e => (hax g hg).2.1 e)
  have M3 : Mod (InCM c mk) w w3 := M2.nn.then_ m3 (fun _ _ e => .inl e)
  have cc0 := b3.cell 0
  have HN3 := Lib.hid (show w2.heap.size ≤ w3.heap.size from m3.size)
  clear hC2 hr2 m3 b2
  go_wp2_with fail
  refine (keep_any hC3 k hr3 (fun g hg => (hax g hg).2.1) h.n0 hn).mono ?_
  rintro e w4 ⟨l', y, rfl, hk4, hyb, hyt, hC4, hyA, m4⟩
  have b4 := b3.mod m4 (fun e => by rcases e with e | e <;> omega)
  have hr4 := hr3.mod m4 (fun g hg e => by have := hax g hg; rcases e with e | e <;> omega)
  have M4 := M3.trans m4
  have hh4 := h.kept hk4 hyb hyt hC4 hyA M4 M3.size HE.out.1 HE.out.2.1 HE.out.2.2.1 (by have := h.h0; omega) h.s0 (by have := h.hs; omega)
  have cc0 := b4.cell 0
  clear hC3 hr3 m4 b3 hk4 hyb hyt hC4 hyA M3
  go_wp2_with fail
  refine (clone_any hr4 (by omega)).mono ?_
  rintro e w5 ⟨v, rfl, o5, m5⟩
  have hv := own_ge5 o5
  have HP : Hid (CReadP w c b ms mo mk D most now hits misses l T k (.returned (.tuple #[v, .int .i64 0])) w5) := Lib.hid
    ⟨v, now + 1, hits + 1, misses, l', touchL T k (now + 1), by rw [HE.out.2.2.2.1], hh4.1.quiet m5, ⟨hh4.2.md.nn_ m5, hh4.2.G⟩, by
      rw [HE.out.2.2.2.2.1, HE.out.2.2.2.2.2, ← HE.out.1]
      exact own_base o5 (fun g hg => by have := hv g hg; have := M4.size; omega), fun g hg hin => by have := hv g hg; have := hh4.1.lt g hin; omega,
      ⟨fun h => absurd HE.out.2.2.2.1 h, fun _ => ⟨rfl, rfl, by rw [HX.out]; rfl, by rw [HX.out]; simp⟩⟩⟩
  clear hh4 o5 m5 hv b4 hr4 M4 cc0 h
  go_wp2
  go_ret2
  exact HP.out
set_option maxRecDepth 100000 in
set_option maxHeartbeats 1600000 in
theorem cread_miss (h : CAt w c b ms mo mk D most now hits misses l T) (k : Int) (hn : now ≤ 1152921504606846976) (hd : D.down = false) (hx : aget l k = none) :
    Calls Try.prog 46 #[.pointer (some ⟨c, 0, none⟩), .int .i64 k] w (CReadP w c b ms mo mk D most now hits misses l T k) := by
  have c0 : w.cell? ⟨c, 0, none⟩ = some (.pointer (some ⟨b, 0, none⟩)) := h.mem.blk.cell 0
  have c3 : w.cell? ⟨c, 3, none⟩ = some (.map (some mk)) := h.mem.blk.cell 3
  have hlt := h.mem.lt
  have hcl : c < w.heap.size := hlt c (.inl rfl)
  have hh : 0 ≤ misses ∧ misses ≤ 1152921504606846976 := by have := h.h0; have := h.s0; have := h.hs; omega
  have HX := Lib.hid hx; clear hx
  have HLT := Lib.hid hlt; clear hlt
  have HD := Lib.hid hd; clear hd
  generalize hM : D.may k = M at *
  generalize hR : D.read k = R at *
  have HM := Lib.hid hM; have HR := Lib.hid hR; clear hM hR
  go_enter Try.func46, Try.ntmps46
  go_wp2_with fail
  refine (known_any h.mem h.m1).mono ?_
  rintro e w1 ⟨rfl, rfl⟩
  go_wp2_with fail
  refine (down_any h.d).mono ?_
  rintro e w1 ⟨rfl, rfl⟩
  rw [HD.out]
  go_wp2_with (first
    | (with_reducible change wpList _ _ _ (⟨_, Op.lookup _ _ _ true, _, _, _, _⟩ :: _) _ _
       go_must (refine wpList_lookup_E 70 _ _ true rfl rfl mk k rfl rfl h.mem.map Try.underlying70 Try.underlying3 info_kept (.tuple #[.agg #[.slice none 0 0, .int .i64 0], .bool false]) (by rw [HX.out]; rfl) ?_))
    | (with_reducible change wpList _ _ _ (⟨some 6, Op.alloc _, _, _, _, _⟩ :: _) _ _
       go_must (refine wpList_alloc_var 105 rfl rfl info_kept ?_)
       intro w1 b1 m1 z1
       have Z1 := Lib.hid z1; clear z1)
    | (with_reducible change wpList _ _ _ (⟨none, Op.store 105 (Operand.tmp 6) _, _, _, _, _⟩ :: _) _ _
       go_must (refine wpList_store_var 105 _ _ rfl rfl _ #[.slice none 0 0, .int .i64 0] _ _ rfl rfl b1 (by rw [size_kept]; rfl) rfl (by simp [Value.oneCell']) ?_)
       intro w2 b2 m2 z2
       have Z2 := Lib.hid z2; clear z2
       have M2 : Mod Nn w w2 := m1.new_ m2 (Nat.le_refl _)
       have h2 := h.quiet M2
       have c0 : w2.cell? ⟨c, 0, none⟩ = some (.pointer (some ⟨b, 0, none⟩)) := h2.mem.blk.cell 0
       clear m1 m2 b1 c3 b2))
  refine (read_any h2.d k).mono ?_
  rintro e w3 ⟨v, rfl, o3, m3⟩
  rw [HM.out]
  rw [HR.out] at o3
  have h3 := h2.quiet m3
  have M3 : Mod Nn w w3 := M2.nn_ m3
  have hv := own_ge5 o3
  have o3' := own_base o3 (base' := w.heap.size) (fun g hg => by have := hv g hg; have := M2.size; omega)
  clear h2 M2 m3 o3
  obtain ⟨A3, cc3, rfl, hr3, hA3⟩ := own_rd o3'
  by_cases hm : M = 0
  · subst hm
    have hlen : R.length = 512 := by rw [← HR.out]; unfold Dk.read; rw [if_pos HM.out]; exact h.d.ok.latest_len k
    have hlat : R = D.latest k := by rw [← HR.out]; unfold Dk.read; rw [if_pos HM.out]
    have hkk : 0 ≤ k ∧ k < D.n := by
      have := HM.out
      unfold Dk.may at this
      rw [HD.out] at this
      by_cases hc : k < 0 ∨ D.n ≤ k
      · simp [hc] at this
      · omega
    have HE := Lib.hid (And.intro hlat hkk); clear hlat hkk
    rw [hlen] at o3' hr3 ⊢
    have HRL := Lib.hid hlen; clear hlen
    go_wp2_with fail
    refine (aadd_any 5 misses (h3.mem.blk.cell 5) (h3.mem.blk.frozen 5) (by omega) (by omega)).mono ?_
    rintro e w4 ⟨rfl, hw4⟩
    have m4 : Mod (At c) w3 w4 := hw4 ▸ Mod.cellAt _ _ _ _
    have hC4 : CMem w4 c b mk most now hits (misses + 1) l := h3.mem.cellc m4 (hw4 ▸ h3.mem.blk.set_ 5 _)
    clear hw4
    have hr4 := hr3.mod m4 (fun g hg e => by have := (hA3 g hg).1; have e : g = c := e; omega)
    have o4 := own_mod o3' m4 (fun g hg e => by have e : g = c := e; have h6 := (hA3 g (own_of hg)).1; omega)
    have M4 : Mod (InCM c mk) w w4 := M3.nn.then_ m4 (fun _ _ e => .inl e)
    have HN := Lib.hid m4.size
    clear m4
    go_wp2_with fail
    refine (keep_any hC4 k hr4 (fun g hg e => by have := (hA3 g hg).1; omega) h.n0 hn).mono ?_
    rintro e w5 ⟨l', y, rfl, hk4, hyb, hyt, hC5, hyA, m5⟩
    have hml : mk < w.heap.size := HLT.out mk (.inr (.inl rfl))
    have o5 := own_mod o4 m5 (fun g hg e => by have h6 := (hA3 g (own_of hg)).1; rcases e with e | e <;> omega)
    have M5 := M4.trans m5
    have hh5 := h.kept hk4 hyb hyt hC5 hyA M5 M4.size HE.out.1 HE.out.2.1 HE.out.2.2 h.h0 (by have := h.s0; omega) (by have := h.hs; omega)
    have HP : Hid (CReadP w c b ms mo mk D most now hits misses l T k (.returned (.tuple #[.slice A3 512 cc3, .int .i64 0])) w5) := Lib.hid
      ⟨_, now + 1, hits, misses + 1, l', touchL T k (now + 1), by rw [HM.out], hh5.1, hh5.2, by
        rw [HR.out, HRL.out]; exact o5, fun g hg hin => by
          have h6 := hA3 g (own_of hg)
          have h8 : InA c b ms mo mk l' g := hin
          rcases hin with (hin | hin | ⟨e, he, hin⟩) | hin
          · omega
          · omega
          · rcases (mem_aset h.mem.map.nd).1 (hk4.mem he) with ⟨h1, -⟩ | rfl
            · have := h.mem.ap e h1 g hin; omega
            · have := hyA g hin; have := M4.size; have h9 := hyA g hin; have : g < w3.heap.size := h6.2; have : w3.heap.size ≤ w4.heap.size := HN.out
              omega
          · have := h.d.lt g hin; omega,
        ⟨fun h => absurd HM.out h, fun _ => ⟨rfl, rfl, by rw [HX.out]; simp, by rw [HX.out]; rfl⟩⟩⟩
    clear hh5 o5 o4 m5 hv hr4 M4 c0 h h3 M5 hC5 hk4 hyb hyt hyA hC4
    go_wp2
    go_ret2
    exact HP.out
  · have hm' : (M == 0) = false := by rw [beq_eq_false_iff_ne]; exact hm
    have HP : Hid (CReadP w c b ms mo mk D most now hits misses l T k (.returned (.tuple #[.slice A3 R.length cc3, .int .i64 M])) w3) := Lib.hid
      ⟨_, now, hits, misses, l, T, by rw [HM.out], h3, CTo.same M3.nn, by rw [HR.out]; exact o3', fun g hg hin => by have h6 := (hA3 g (own_of hg)).1; have := h.lt g hin; omega,
        ⟨fun _ => ⟨rfl, rfl, rfl, rfl⟩, fun h => absurd (HM.out.symm.trans h) hm⟩⟩
    clear h3 o3' hr3 hA3 hv M3 c0 h hm
    go_wp2
    go_ret2
    exact HP.out
set_option maxRecDepth 100000 in
set_option maxHeartbeats 800000 in
theorem cread_down (h : CAt w c b ms mo mk D most now hits misses l T) (k : Int) (hd : D.down = true) :
    Calls Try.prog 46 #[.pointer (some ⟨c, 0, none⟩), .int .i64 k] w (CReadP w c b ms mo mk D most now hits misses l T k) := by
  have c0 : w.cell? ⟨c, 0, none⟩ = some (.pointer (some ⟨b, 0, none⟩)) := h.mem.blk.cell 0
  have hM : D.may k = 9 := by simp [Dk.may, hd]
  have hR : D.read k = [] := by simp [Dk.read, hM]
  have HP : Hid (CReadP w c b ms mo mk D most now hits misses l T k (.returned (.tuple #[.slice none 0 0, .int .i64 9])) w) := Lib.hid
    ⟨_, now, hits, misses, l, T, by rw [hM], h, CTo.same (Mod.refl _ _), by rw [hR]; exact World.ownsRow_nil _ _ _ _, (fun g hg => by cases hg), ⟨fun _ => ⟨rfl, rfl, rfl, rfl⟩, fun h => by rw [hM] at h; cases h⟩⟩
  have HD := Lib.hid hd; clear hd hM hR
  go_enter Try.func46, Try.ntmps46
  go_wp2_with fail
  refine (known_any h.mem h.m1).mono ?_
  rintro e w1 ⟨rfl, rfl⟩
  go_wp2_with fail
  refine (down_any h.d).mono ?_
  rintro e w1 ⟨rfl, rfl⟩
  rw [HD.out]
  go_wp2
  go_ret2
  exact HP.out
theorem cread_any (h : CAt w c b ms mo mk D most now hits misses l T) (k : Int) (hn : now ≤ 1152921504606846976) :
    Calls Try.prog 46 #[.pointer (some ⟨c, 0, none⟩), .int .i64 k] w (CReadP w c b ms mo mk D most now hits misses l T k) := by
  cases hd : D.down with
  | true => exact cread_down h k hd
  | false =>
    cases hx : aget l k with
    | none => exact cread_miss h k hn hd hx
    | some x => exact cread_hit h k hn hd hx
end
end Go.Proofs.Ytijmkbhbpbkkoaa
