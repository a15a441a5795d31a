/- blob: may, Write. -/
import Derived.Test.YtgmkibckbbbhkaaBl2
namespace Go.Proofs.Ytgmkibckbbbhkaa
open Go.RowKit Go.Shelf
attribute [local go_sem] Oper.semAt_some

def bmay (D : Dk) (at_ n : Int) : Int := if at_ < 0 ∨ D.n < at_ ∨ D.n - at_ < n then 6 else 0
theorem bmay_01 (D : Dk) (a n : Int) : bmay D a n = 0 ∨ bmay D a n = 6 := by unfold bmay; split <;> simp
/-- m sectors written one by one -/
def bw (D : Dk) (at_ : Int) (bs : List Int) : Nat → Int × Dk
  | 0 => (0, D)
  | m + 1 => if (D.write at_ (bs.take 512)).1 = 0 then bw (D.write at_ (bs.take 512)).2 (at_ + 1) (bs.drop 512) m else D.write at_ (bs.take 512)
def bwrite (D : Dk) (at_ : Int) (bs : List Int) : Int × Dk :=
  if bs.length % 512 ≠ 0 then (2, D) else if bmay D at_ ((bs.length / 512 : Nat) : Int) ≠ 0 then (6, D) else bw D at_ bs (bs.length / 512)
section
variable {w w' : World} {c b ms mo mk : Nat} {D : Dk} {most now hits misses : Int} {l : KL} {T : TL}
set_option maxRecDepth 100000 in
set_option maxHeartbeats 800000 in
theorem bmay_any (h : CAt w c b ms mo mk D most now hits misses l T) (at_ n : Int) (ha : -9223372036854775808 ≤ at_ ∧ at_ ≤ 9223372036854775807) :
    Calls Try.prog 88 #[.pointer (some ⟨c, 0, none⟩), .int .i64 at_, .int .i64 n] w fun e w' => e = .returned (.int .i64 (bmay D at_ n)) ∧ w = w' := by
  have hN := h.d.ok.n1
  have hN2 := h.d.ok.n2
  generalize hDn : D.n = N at *
  have HN := Lib.hid hDn; clear hDn
  by_cases h1 : at_ < 0
  · have HB := Lib.hid (show bmay D at_ n = 6 by unfold bmay; rw [if_pos (.inl h1)])
    go_enter Try.func88, Try.ntmps88
    go_wp2
    go_ret
    rw [HB.out]
    exact ⟨rfl, rfl⟩
  · by_cases h2 : N < at_
    · have HB := Lib.hid (show bmay D at_ n = 6 by unfold bmay; rw [if_pos (.inr (.inl (by rw [HN.out]; exact h2)))])
      go_enter Try.func88, Try.ntmps88
      go_wp2_with fail
      refine (csectors_any h).mono ?_
      rintro r w1 ⟨rfl, rfl⟩
      rw [HN.out]
      go_wp2
      go_ret
      rw [HB.out]
      exact ⟨rfl, rfl⟩
    · by_cases h3 : N - at_ < n
      · have HB := Lib.hid (show bmay D at_ n = 6 by unfold bmay; rw [if_pos (.inr (.inr (by rw [HN.out]; exact h3)))])
        go_enter Try.func88, Try.ntmps88
        go_wp2_with fail
        refine (csectors_any h).mono ?_
        rintro r w1 ⟨rfl, rfl⟩
        rw [HN.out]
        go_wp2_with fail
        refine (csectors_any h).mono ?_
        rintro r w1 ⟨rfl, rfl⟩
        rw [HN.out]
        go_wp2
        go_ret
        rw [HB.out]
        exact ⟨rfl, rfl⟩
      · have HB := Lib.hid (show bmay D at_ n = 0 by unfold bmay; rw [if_neg (by rw [HN.out]; omega)])
        go_enter Try.func88, Try.ntmps88
        go_wp2_with fail
        refine (csectors_any h).mono ?_
        rintro r w1 ⟨rfl, rfl⟩
        rw [HN.out]
        go_wp2_with fail
        refine (csectors_any h).mono ?_
        rintro r w1 ⟨rfl, rfl⟩
        rw [HN.out]
        go_wp2
        go_ret
        rw [HB.out]
        exact ⟨rfl, rfl⟩

def BWriteP (w : World) (c b ms mo mk : Nat) (D : Dk) (most now hits misses : Int) (l : KL) (at_ : Int) (bs : List Int) (e : Ending) (w' : World) : Prop :=
  ∃ now' l' T', e = .returned (.int .i64 (bwrite D at_ bs).1) ∧ CAt w' c b ms mo mk (bwrite D at_ bs).2 most now' hits misses l' T' ∧ CTo w w' c b ms mo mk l l' ∧ now' ≤ now + ((bs.length / 512 : Nat) : Int)
theorem CTo.trans {w1 w2 w3 : World} {l1 l2 l3 : KL} (h : CTo w1 w2 c b ms mo mk l1 l2) (k : CTo w2 w3 c b ms mo mk l2 l3) : CTo w1 w3 c b ms mo mk l1 l3 :=
  ⟨h.md.trans k.md, fun e he g hg => by
    rcases k.G e he g hg with ⟨x, hx, hxg⟩ | h1
    · exact h.G x hx g hxg
    · have := h.md.size; exact .inr (by omega)⟩
theorem CTo.pre {w1 w2 w3 : World} {l1 l2 : KL} (h : CTo w2 w3 c b ms mo mk l1 l2) (hm : Mod Nn w1 w2) : CTo w1 w3 c b ms mo mk l1 l2 :=
  ⟨(Mod.nn hm).trans h.md, fun e he g hg => by
    rcases h.G e he g hg with h1 | h1
    · exact .inl h1
    · have := hm.size; exact .inr (by omega)⟩

set_option maxRecDepth 100000 in
set_option maxHeartbeats 1600000 in
theorem bwrite_bad (h : CAt w c b ms mo mk D most now hits misses l T) (at_ : Int) (ha : -9223372036854775808 ≤ at_ ∧ at_ ≤ 9223372036854775807) {A : Option Addr} {n cc : Nat} {bs : List Int} (hr : Rd w A n (bs.map (Value.int .u8))) (hbad : n % 512 ≠ 0 ∨ bmay D at_ ((n / 512 : Nat) : Int) ≠ 0) (hn : n ≤ 1152921504606846976) :
    Calls Try.prog 62 #[.pointer (some ⟨c, 0, none⟩), .int .i64 at_, .slice A n cc] w (BWriteP w c b ms mo mk D most now hits misses l at_ bs) := by
  have hL : bs.length = n := by simpa using hr.1
  have m1 : Mod Nn w ((w.alloc (.cells #[.pointer (some ⟨c, 0, none⟩)] 67)).alloc (.cells #[.int .i64 0] 32)) := ((Mod.refl _ _).alloc _).alloc _
  have h1 := h.quiet m1
  have hN := h.d.ok.n1
  have hN0 : (D.n == 0) = false := by rw [beq_eq_false_iff_ne]; omega
  generalize hDn : D.n = N at *
  have HN := Lib.hid hDn; clear hDn
  have HP : Hid (∀ w' (r : Int), bwrite D at_ bs = (r, D) → Mod Nn ((w.alloc (.cells #[.pointer (some ⟨c, 0, none⟩)] 67)).alloc (.cells #[.int .i64 0] 32)) w' ∨ Mod (At (w.heap.size + 1)) ((w.alloc (.cells #[.pointer (some ⟨c, 0, none⟩)] 67)).alloc (.cells #[.int .i64 0] 32)) w' → BWriteP w c b ms mo mk D most now hits misses l at_ bs (.returned (.int .i64 r)) w') := Lib.hid (fun w' r hW hm => by
    have hM : Mod Nn w w' := hm.elim (fun hm => m1.nn_ hm) (fun hm => m1.new_ hm (by omega))
    exact ⟨now, l, T, by rw [hW], by rw [hW]; exact h.quiet hM, CTo.same hM.nn, by omega⟩)
  have hbx := Blk.new (w.alloc (.cells #[.pointer (some ⟨c, 0, none⟩)] 67)) 32 #[.int .i64 0]
  have hcx := (Blk.new w 67 #[.pointer (some ⟨c, 0, none⟩)]).alloc (.cells #[.int .i64 0] 32)
  rw [show (w.alloc (.cells #[.pointer (some ⟨c, 0, none⟩)] 67)).heap.size = w.heap.size + 1 from by simp] at hbx
  have HBX := Lib.hid (And.intro hbx hcx)
  clear h m1
  by_cases h512 : n % 512 = 0
  · have hb0 : bmay D at_ ((n : Int) / 512) ≠ 0 := by
      rcases hbad with h | h
      · exact absurd h512 h
      · rwa [show ((n / 512 : Nat) : Int) = (n : Int) / 512 from by omega] at h
    have hb6 : bmay D at_ ((n : Int) / 512) = 6 := (bmay_01 _ _ _).resolve_left hb0
    have hW : bwrite D at_ bs = (6, D) := by
      unfold bwrite
      rw [hL, if_neg (by omega), if_pos (by rwa [show ((n / 512 : Nat) : Int) = (n : Int) / 512 from by omega])]
    have hmod2 : (n : Int) % 512 = 0 := by omega
    have HB := Lib.hid (And.intro hb6 hW); clear hb0 hb6 hbad hW h512
    go_enter Try.func62, Try.ntmps62
    go_wp2_with fail
    refine (csectors_any h1).mono ?_
    rintro r w1 ⟨rfl, rfl⟩
    rw [HN.out]
    go_wp2_with fail
    refine (bmay_any h1 at_ _ ha).mono ?_
    rintro r w1 ⟨rfl, rfl⟩
    rw [HB.out.1]
    clear h1 hbx hcx
    generalize hww : (w.alloc (.cells #[.pointer (some ⟨c, 0, none⟩)] 67)).alloc (.cells #[.int .i64 0] 32) = ww at *
    clear hww
    have c6 : ww.cell? ⟨w.heap.size + 1, 0, none⟩ = some (.int .i64 0) := HBX.out.1.cell 0
    have f6 := HBX.out.1.frozen 0
    go_wp2
    have hc6 : (ww.setCell ⟨w.heap.size + 1, 0, none⟩ (.int .i64 6)).cell? ⟨w.heap.size + 1, 0, none⟩ = some (.int .i64 6) := World.cell?_setCell_same' _ _ _ (by rw [c6]; rfl)
    exact bodyPost_ret (v := .int .i64 6) (by simp [results, Try.results62, go_sem, hc6]) rfl (HP.out _ 6 HB.out.2 (.inr (Mod.cellAt _ _ _ _)))
  · have hW : bwrite D at_ bs = (2, D) := by unfold bwrite; rw [hL, if_pos (by omega)]
    have hmod2 : ((n : Int) % 512 == 0) = false := by rw [beq_eq_false_iff_ne]; omega
    have hmod3 : ((n : Int) % 512 != 0) = true := by rw [bne_iff_ne]; omega
    have HB := Lib.hid hW; clear hW hbad h512
    go_enter Try.func62, Try.ntmps62
    go_wp2_with fail
    refine (csectors_any h1).mono ?_
    rintro r w1 ⟨rfl, rfl⟩
    rw [HN.out]
    clear h1 hbx hcx
    generalize hww : (w.alloc (.cells #[.pointer (some ⟨c, 0, none⟩)] 67)).alloc (.cells #[.int .i64 0] 32) = ww at *
    clear hww
    have c6 : ww.cell? ⟨w.heap.size + 1, 0, none⟩ = some (.int .i64 0) := HBX.out.1.cell 0
    have f6 := HBX.out.1.frozen 0
    go_wp2
    have hc6 : (ww.setCell ⟨w.heap.size + 1, 0, none⟩ (.int .i64 2)).cell? ⟨w.heap.size + 1, 0, none⟩ = some (.int .i64 2) := World.cell?_setCell_same' _ _ _ (by rw [c6]; rfl)
    exact bodyPost_ret (v := .int .i64 2) (by simp [results, Try.results62, go_sem, hc6]) rfl (HP.out _ 2 HB.out (.inr (Mod.cellAt _ _ _ _)))

/-- between two rounds -/
structure BwI (w : World) (c b ms mo mk : Nat) (D : Dk) (most now hits misses : Int) (l : KL) (at_ : Int) (bs : List Int) (m d i : Nat) (W : World) (now' : Int) (l' : KL) (T' : TL) (Di : Dk) : Prop where
  ca : CAt W c b ms mo mk Di most now' hits misses l' T'
  to : CTo w W c b ms mo mk l l'
  g : ∀ k, InA c b ms mo mk l' k → InA c b ms mo mk l k ∨ d + 2 ≤ k
  nw : now' ≤ now + i
  bx : Blk W w.heap.size 67 #[.pointer (some ⟨c, 0, none⟩)]
structure BwR (w : World) (c b ms mo mk : Nat) (D : Dk) (most now hits misses : Int) (l : KL) (at_ : Int) (bs : List Int) (m d i : Nat) (W : World) (now' : Int) (l' : KL) (T' : TL) (Di : Dk) (r : Int) : Prop where
  i : BwI w c b ms mo mk D most now hits misses l at_ bs m d i W now' l' T' Di
  r : Blk W (w.heap.size + 1) 32 #[.int .i64 r]
theorem BwI.mod {W W' : World} {at_ : Int} {bs : List Int} {m d i : Nat} {now' : Int} {l' : KL} {T' : TL} {Di : Dk} {S : Nat → Prop} (h : BwI w c b ms mo mk D most now hits misses l at_ bs m d i W now' l' T' Di) (hm : Mod S W W')
    (hS : ∀ k, S k → w.heap.size < k ∧ k < d + 2) (hl : ∀ k, InA c b ms mo mk l k → k < w.heap.size) : BwI w c b ms mo mk D most now hits misses l at_ bs m d i W' now' l' T' Di :=
  ⟨h.ca.mod hm (fun k hk hs => by
    have h1 := hS k hs
    rcases h.g k hk with h2 | h2
    · have := hl k h2; omega
    · omega), ⟨h.to.md.then_ hm (fun k hk hs => by have := (hS k hs).1; omega), h.to.G⟩, h.g, h.nw, h.bx.mod hm (fun hs => by have := (hS _ hs).1; omega)⟩
theorem BwI.step {W W2 : World} {at_ : Int} {bs : List Int} {m d i : Nat} {now' n2 : Int} {l' l2 : KL} {T' T2 : TL} {Di D2 : Dk} (h : BwI w c b ms mo mk D most now hits misses l at_ bs m d i W now' l' T' Di) (hC : CAt W2 c b ms mo mk D2 most n2 hits misses l2 T2) (hT : CTo W W2 c b ms mo mk l' l2)
    (hd : d + 1 < W.heap.size) (hn : n2 ≤ now' + 1) (hl : ∀ k, InA c b ms mo mk l k → k < w.heap.size) : BwI w c b ms mo mk D most now hits misses l at_ bs m d (i + 1) W2 n2 l2 T2 D2 :=
  ⟨hC, h.to.trans hT, fun k hk => by
    rcases hT.A hk with h1 | h1
    · exact h.g k h1
    · exact .inr (by omega), by have := h.nw; omega, h.bx.mod hT.md (fun hin => by have := hl _ (inA_of hin); omega)⟩
theorem bw_succ (D : Dk) (at_ : Int) (bs : List Int) {k : Nat} (hk : 0 < k) : bw D at_ bs k = if (D.write at_ (bs.take 512)).1 = 0 then bw (D.write at_ (bs.take 512)).2 (at_ + 1) (bs.drop 512) (k - 1) else D.write at_ (bs.take 512) := by
  obtain ⟨j, rfl⟩ : ∃ j, k = j + 1 := ⟨k - 1, by omega⟩
  rfl

set_option maxRecDepth 100000 in
set_option maxHeartbeats 6400000 in
theorem bwrite_ok (h : CAt w c b ms mo mk D most now hits misses l T) (at_ : Int) {A : Option Addr} {cc m : Nat} {bs : List Int} (hr : Rd w A (512 * m) (bs.map (Value.int .u8))) (hok : bmay D at_ (m : Int) = 0) (hcc : 512 * m ≤ cc) (hcm : cc ≤ 1152921504606846976)
    (hnow : now + m ≤ 1152921504606846976) (hA : ∀ g, Of A g → ¬ InW c b ms mo mk g ∧ g < w.heap.size) :
    Calls Try.prog 62 #[.pointer (some ⟨c, 0, none⟩), .int .i64 at_, .slice A (512 * m) cc] w (BWriteP w c b ms mo mk D most now hits misses l at_ bs) := by
  have hL : bs.length = 512 * m := by simpa using hr.1
  have ha : 0 ≤ at_ ∧ at_ + m ≤ D.n := by
    unfold bmay at hok
    split at hok
    · cases hok
    · omega
  have hN2 := h.d.ok.n2
  have hN := h.d.ok.n1
  have hN0 : (D.n == 0) = false := by rw [beq_eq_false_iff_ne]; omega
  have hW : bwrite D at_ bs = bw D at_ bs m := by
    unfold bwrite
    rw [hL, if_neg (by omega), show 512 * m / 512 = m from by omega, if_neg (by simp [hok])]
  have hQ : bs.length / 512 = m := by omega
  have HD := Lib.hid (And.intro hL (And.intro hW (And.intro hok hQ)))
  clear hL hW hQ hok
  have hlA := h.lt
  have HLA := Lib.hid hlA; clear hlA
  have HA := Lib.hid hA; clear hA
  refine (callsIn_wide (n := 3)).1 ?_
  refine callsIn_of_wp_marks Try.func62 rfl trivial ?_ rfl
  simp only [Try.ntmps62, List.size_toArray, List.length_cons, List.length_nil, Nat.reduceAdd, Nat.reduceSub, Array.replicate_succ, Array.replicate_zero, List.push_toArray, List.append_toArray, List.nil_append, List.cons_append]
  have m1 : Mod Nn w ((w.alloc (.cells #[.pointer (some ⟨c, 0, none⟩)] 67)).alloc (.cells #[.int .i64 0] 32)) := ((Mod.refl _ _).alloc _).alloc _
  have h1 := h.quiet m1
  have hr1 := hr.mod m1 (fun _ _ f => f)
  generalize hDn : D.n = N at *
  have HN := Lib.hid hDn; clear hDn
  have hbx := Blk.new (w.alloc (.cells #[.pointer (some ⟨c, 0, none⟩)] 67)) 32 #[.int .i64 0]
  have hcx := (Blk.new w 67 #[.pointer (some ⟨c, 0, none⟩)]).alloc (.cells #[.int .i64 0] 32)
  rw [show (w.alloc (.cells #[.pointer (some ⟨c, 0, none⟩)] 67)).heap.size = w.heap.size + 1 from by simp] at hbx
  have hs1 : ((w.alloc (.cells #[.pointer (some ⟨c, 0, none⟩)] 67)).alloc (.cells #[.int .i64 0] 32)).heap.size = w.heap.size + 2 := by simp
  have HBX := Lib.hid (And.intro hbx (And.intro hcx (And.intro m1 (And.intro hs1 (And.intro h1 hr1)))))
  clear hbx hcx m1 hs1 hr hr1 h
  gi_wp2_with (first
    | (refine ⟨trivial, ?_⟩; gi_at_call 55; refine (callsIn_wide.2 (csectors_any h1)).mono ?_; rintro r w1 ⟨rfl, rfl⟩; rw [HN.out])
    | (refine ⟨trivial, ?_⟩; gi_at_call 88; refine (callsIn_wide.2 (bmay_any h1 at_ m (by omega))).mono ?_; rintro r w1 ⟨rfl, rfl⟩; rw [HD.out.2.2.1]; clear h1; generalize (w.alloc (.cells #[.pointer (some ⟨c, 0, none⟩)] 67)).alloc (.cells #[.int .i64 0] 32) = ww at *)
    | (refine ⟨trivial, ?_⟩; gi_at_call 89; refine (callsIn_wide.2 (sectors_it at_ (.slice A (512 * m) cc) rfl rfl ww)).mono ?_; rintro r w5 ⟨rfl, hw5⟩))
  have mw5 : Mod Nn ww w5 := by rw [← hw5]; exact ((Mod.refl _ _).alloc _).alloc _
  have sw5 : w5.heap.size = ww.heap.size + 2 := by rw [← hw5]; simp
  have hba : Blk w5 ww.heap.size 3 #[.int .i64 at_] := by rw [← hw5]; exact (Blk.new _ _ _).alloc _
  have hbb : Blk w5 (ww.heap.size + 1) 35 #[.slice A (512 * m) cc] := by
    rw [← hw5]
    have := Blk.new (ww.alloc (.cells #[.int .i64 at_] 3)) 35 #[.slice A (512 * m) cc]
    rwa [show (ww.alloc (.cells #[.int .i64 at_] 3)).heap.size = ww.heap.size + 1 from by simp] at this
  obtain ⟨hres, hbox, mww, sww, hca, hrd⟩ := HBX.out
  clear HBX hw5
  rw [sww] at hba hbb sw5 ⊢
  have hS0 : SC w5 (w.heap.size + 2) (w.heap.size + 2 + 1) at_ A (512 * m) cc bs 0 A := ⟨by simpa using hba, by simpa using hbb, fun g hg => hg, by simpa using hrd.mod mw5 (fun _ _ f => f)⟩
  have hI0 : BwI w c b ms mo mk D most now hits misses l at_ bs m w5.heap.size 0 w5 now l T D := ⟨hca.quiet mw5, CTo.same (Mod.nn (mww.nn_ mw5)), fun k hk => .inl hk, by omega, hbox.mod mw5 (fun f => f)⟩
  have hR0 := hres.mod mw5 (fun f => f)
  have HS := Lib.hid (And.intro hS0 (And.intro hI0 (And.intro hR0 (And.intro (mww.nn_ mw5) sw5))))
  clear hba hbb hres hbox hca hrd mw5 mww hS0 hI0 hR0
  refine range_secs (m := m) (n := 512 * m) (c := cc) (at0 := at_) (A := A) (bs := bs) (Ba := w.heap.size + 2) (Bb := w.heap.size + 2 + 1) rfl rfl rfl hcc (by omega) (fun g hg => by have := (HA.out g hg).2; omega) ha.1 (by omega) hcm (fun g hg => by have := (HA.out g hg).2; omega) HS.out.1
    (fun i W => ∃ now' l' T' Di, BwR w c b ms mo mk D most now hits misses l at_ bs m w5.heap.size i W now' l' T' Di 0 ∧ bw D at_ bs m = bw Di (at_ + i) (bs.drop (512 * i)) (m - i))
    (fun i W => ∃ now' l' T' Di r, BwR w c b ms mo mk D most now hits misses l at_ bs m w5.heap.size i W now' l' T' Di r ∧ r ≠ 0 ∧ bw D at_ bs m = (r, Di))
    ?hI ?hIx ?h0
    (fun i Ai => { tmps := #[.pointer (some ⟨c, 0, none⟩), .int .i64 at_, .slice A (512 * m) cc, .pointer (some ⟨w.heap.size, 0, none⟩), undef, undef, .pointer (some ⟨w.heap.size + 1, 0, none⟩), .int .i64 0, .int .i64 (at_ + i), .slice Ai 512 (cc - 512 * i), undef,
        .bool false, .pointer (some ⟨c, 0, none⟩), .int .i64 N, .bool false, .bool false, .slice A (512 * m) cc, .int .i64 (512 * ↑m), .int .i64 0, .bool false, .pointer (some ⟨c, 0, none⟩), .int .i64 at_, .slice A (512 * m) cc, .int .i64 (512 * ↑m), .int .i64 ↑m, .int .i64 0,
        .int .i64 0, .bool false, undef, .int .i64 at_, .slice A (512 * m) cc, .func (.func 119) #[] #[.pointer (some ⟨w.heap.size + 2 + 1, 0, none⟩), .pointer (some ⟨w.heap.size + 2, 0, none⟩)], .int .i64 (at_ + i), .slice Ai 512 (cc - 512 * i), undef, undef, undef, undef, undef, undef, undef], defers := [] })
    ?assign ?body ?done ?stop
  case hI =>
    rintro i W W' ⟨now', l', T', Di, hB, hb⟩ hm
    exact ⟨now', l', T', Di, ⟨hB.i.mod hm (fun k hk => by rcases hk with hk | hk | hk | hk <;> omega) HLA.out, hB.r.mod hm (fun hk => by rcases hk with hk | hk | hk | hk <;> omega)⟩, hb⟩
  case hIx =>
    rintro i W W' ⟨now', l', T', Di, r, hB, hb⟩ hm
    exact ⟨now', l', T', Di, r, ⟨hB.i.mod hm (fun k hk => by rcases hk with hk | hk <;> omega) HLA.out, hB.r.mod hm (fun hk => by rcases hk with hk | hk <;> omega)⟩, hb⟩
  case h0 => exact ⟨now, l, T, D, ⟨HS.out.2.1, HS.out.2.2.1⟩, by simp⟩
  case assign =>
    intro l i Ai W K hK
    gi_wp2
    exact hK
  case body =>
    rintro l1 i Ai W hi ⟨now', l', T', Di, hB, hb⟩ hsz hSC
    have hC := hB.i.ca
    have cbx : W.cell? ⟨w.heap.size, 0, none⟩ = some (.pointer (some ⟨c, 0, none⟩)) := hB.i.bx.cell 0
    have hsec := hSC.r.pre (c := cc - 512 * i) 512 (by omega) (by omega)
    rw [subA_zero, ← List.map_take] at hsec
    have hcall := cwrite_any hC (at_ + i) (by have := hB.i.nw; omega) (cc := cc - 512 * i) hsec (fun g hg => (HA.out g (hSC.o g hg)).1)
    have hbs := bw_succ Di (at_ + i) (bs.drop (512 * i)) (show 0 < m - i by omega)
    have HB := Lib.hid (And.intro hB (And.intro hb (And.intro hSC hbs)))
    clear hB hb hC hsec hSC hbs
    generalize hr : (Di.write (at_ + i) ((bs.drop (512 * i)).take 512)).1 = r at *
    have HR := Lib.hid hr; clear hr
    have hInl : ∀ k, InW c b ms mo mk k → k < w.heap.size := fun k hk => HLA.out k (inA_of hk)
    have HIn := Lib.hid hInl; clear hInl
    have hwn : wroteN now' r ≤ now' + 1 := by unfold wroteN; split <;> omega
    have HWN := Lib.hid hwn; clear hwn
    by_cases hr0 : r = 0
    · subst hr0
      gi_wp2_with (refine ⟨trivial, ?_⟩; gi_at_call 52; refine (CallsIn.inRound l1 (callsIn_wide.2 hcall)).mono ?_; clear hcall; rintro e W2 ⟨l2, rfl, hC2, hT2⟩; rw [HR.out] at hC2 ⊢)
      refine ⟨⟨hT2.md.block _ (by omega) (fun hin => by have := HIn.out _ hin; omega), hT2.md.block _ hsz (fun hin => by have := HIn.out _ hin; omega)⟩, ⟨_, l2, _, _, ⟨HB.out.1.i.step hC2 hT2 hsz HWN.out HLA.out, HB.out.1.r.mod hT2.md (fun hin => by have := HIn.out _ hin; omega)⟩, ?_⟩, HB.out.2.2.1.mod hT2.md (fun hin => by have := HIn.out _ hin; omega) (fun hin => by have := HIn.out _ hin; omega) (fun g hg => (HA.out g hg).1)⟩
      have h1 := HB.out.2.1
      rw [HB.out.2.2.2] at h1
      first | rw [if_pos trivial] at h1 | rw [if_pos rfl] at h1
      rw [h1]
      congr 1
      · omega
      · rw [List.drop_drop]; rfl
    · have hr' : (r != 0) = true := by rw [bne_iff_ne]; exact hr0
      have HR0 := Lib.hid hr0; clear hr0
      gi_wp2_with (refine ⟨trivial, ?_⟩; gi_at_call 52; refine (CallsIn.inRound l1 (callsIn_wide.2 hcall)).mono ?_; clear hcall; rintro e W2 ⟨l2, rfl, hC2, hT2⟩; rw [HR.out] at hC2 ⊢; have hres2 := HB.out.1.r.mod hT2.md (fun hin => by have := HIn.out _ hin; omega); have c6 : W2.cell? ⟨w.heap.size + 1, 0, none⟩ = some (.int .i64 0) := hres2.cell 0; have f6 := hres2.frozen 0)
      have mst : Mod (At (w.heap.size + 1)) W2 (W2.setCell ⟨w.heap.size + 1, 0, none⟩ (.int .i64 r)) := Mod.cellAt _ _ _ _
      have hsz2 := hT2.md.size
      have hw5 := HS.out.2.2.2.2
      refine ⟨⟨(mst.block _ (by omega) (fun e => by have e : w5.heap.size = w.heap.size + 1 := e; omega)).trans (hT2.md.block _ (by omega) (fun hin => by have := HIn.out _ hin; omega)), (mst.block _ (by omega) (fun e => by have e : w5.heap.size + 1 = w.heap.size + 1 := e; omega)).trans (hT2.md.block _ hsz (fun hin => by have := HIn.out _ hin; omega))⟩, ⟨_, l2, _, _, r, ⟨(HB.out.1.i.step hC2 hT2 hsz HWN.out HLA.out).mod mst (fun k e => by have e : k = w.heap.size + 1 := e; omega) HLA.out, hres2.set_ 0 _⟩, HR0.out, ?_⟩⟩
      have h1 := HB.out.2.1
      rw [HB.out.2.2.2, if_neg HR0.out] at h1
      rw [h1, ← HR.out]
  case done =>
    rintro W ⟨now', l', T', Di, hB, hb⟩ hK
    have c6 : W.cell? ⟨w.heap.size + 1, 0, none⟩ = some (.int .i64 0) := hB.r.cell 0
    have f6 := hB.r.frozen 0
    have HB := Lib.hid (And.intro hB hb); clear hB hb
    have hw5 := HS.out.2.2.2.2
    gi_wp2
    have hK2 : (W.setCell ⟨w.heap.size + 1, 0, none⟩ (.int .i64 0)).heap[w5.heap.size]? = some (.deferred (some [])) := ((Mod.cellAt W (w.heap.size + 1) 0 (.int .i64 0)).block _ (Array.getElem?_eq_some_iff.1 hK).1 (fun e => by have e : w5.heap.size = w.heap.size + 1 := e; omega)).trans hK
    refine ⟨by simp, .inl ⟨_, _, rfl, run_takeDeferred hK2, ?_⟩⟩
    have md := putObj_mod (W.setCell ⟨w.heap.size + 1, 0, none⟩ (.int .i64 0)) w5.heap.size (.deferred none)
    have hr6 := (HB.out.1.r.set_ 0 (.int .i64 0)).mod md (fun e => by have e : w.heap.size + 1 = w5.heap.size := e; omega)
    have hc6 := hr6.cell 0
    have hI := (HB.out.1.i.mod (Mod.cellAt W (w.heap.size + 1) 0 (.int .i64 0)) (fun k e => by have e : k = w.heap.size + 1 := e; omega) HLA.out).mod md (fun k e => by have e : k = w5.heap.size := e; omega) HLA.out
    have hbw : bwrite D at_ bs = (0, Di) := by rw [HD.out.2.1, HB.out.2, Nat.sub_self]; rfl
    refine ⟨.int .i64 0, by simp [results, Try.results62, go_sem, hc6], now', l', T', by rw [hbw], by rw [hbw]; exact hI.ca, hI.to, by rw [HD.out.2.2.2]; exact hI.nw⟩
  case stop =>
    rintro i W him ⟨now', l', T', Di, r, hB, hr0, hb⟩ hK
    have HB := Lib.hid (And.intro hB hb); clear hB hb hr0
    have hw5 := HS.out.2.2.2.2
    gi_wp2
    refine ⟨by simp, .inl ⟨_, _, rfl, run_takeDeferred hK, ?_⟩⟩
    have md := putObj_mod W w5.heap.size (.deferred none)
    have hr6 := HB.out.1.r.mod md (fun e => by have e : w.heap.size + 1 = w5.heap.size := e; omega)
    have hc6 := hr6.cell 0
    have hI := HB.out.1.i.mod md (fun k e => by have e : k = w5.heap.size := e; omega) HLA.out
    have hbw : bwrite D at_ bs = (r, Di) := by rw [HD.out.2.1]; exact HB.out.2
    refine ⟨.int .i64 r, by simp [results, Try.results62, go_sem, hc6], now', l', T', by rw [hbw], by rw [hbw]; exact hI.ca, hI.to, by rw [HD.out.2.2.2]; have := hI.nw; omega⟩
end
end Go.Proofs.Ytgmkibckbbbhkaa
