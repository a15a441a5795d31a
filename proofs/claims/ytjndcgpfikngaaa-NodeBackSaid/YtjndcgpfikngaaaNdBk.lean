/- peatbanklaw15.NodeBack: the walk (printed by wip/gen/ndback.py). -/
import Derived.Test.YtjndcgpfikngaaaNdM0
import Derived.Test.YtjndcgpfikngaaaNdRs
import Derived.Test.YtjndcgpfikngaaaBytesP
import Derived.Test.YtjndcgpfikngaaaCrc5
namespace Go.Proofs.Ytjndcgpfikngaaa
open Go.RowKit

theorem bit_intn (v : BitVec 32) (k : Nat) : bits .and .u32 ((v.toNat : Int) / 2 ^ k) 1 = if v.getLsbD k = true then 1 else 0 := by
  rw [b_shr, low_int, BitVec.getLsbD_ushiftRight, Nat.add_zero]
theorem xor_u8n (c d : Nat) (hc : c < 256) (hd : d < 256) : bits .xor .u8 (c : Int) (d : Int) = ((c ^^^ d : Nat) : Int) := by
  show IntKind.u8.wrap ((BitVec.ofInt 8 (c : Int) ^^^ BitVec.ofInt 8 (d : Int)).toNat : Int) = _
  have := xor8_lt c d hc hd
  rw [BitVec.ofInt_natCast, BitVec.ofInt_natCast, BitVec.toNat_xor, BitVec.toNat_ofNat, BitVec.toNat_ofNat, Nat.mod_eq_of_lt (show c < 2 ^ 8 by omega), Nat.mod_eq_of_lt (show d < 2 ^ 8 by omega), IntKind.wrap_u8]
  omega
/-- the page, of which the first k bits were turned -/
structure FinN (w w' : World) (g : Nat) (l : List Nat) (at_ : Nat) (v : BitVec 32) (k : Nat) : Prop where
  md : Mod Nn w w'
  row : ∃ (m : List Nat), Blk w' g 5 (bv m).toArray ∧ Flip l m (eAt at_ v k) ∧ (∀ z ∈ m, z < 256)
set_option maxRecDepth 100000 in
set_option maxHeartbeats 6400000 in
theorem nback_any {w : World} {N : Nd} {EA KA CA B : Option Addr} {en ec kn kc cn cc bn bc : Nat} {bl : List Nat} (x : Int) (v : BitVec 32) (h : NdQ w N EA en KA kn CA cn) (hs : en + kn + cn ≤ 9223372036854775807) (hb : Rd w B bn (bv bl)) (hbc : bn ≤ bc) (hbz : ∀ z ∈ bl, z < 256) (hbn : bn ≤ 9223372036854775807) :
    Calls Try.prog 9 #[ndV N.leaf EA en ec KA kn kc CA cn cc, .slice B bn bc, .int .i64 x, .int .u32 (v.toNat : Int)] w fun r w' => r = .returned (.bool true) ∧ Mod Nn w w' := by
  have m0 : Mod Nn w (w.alloc (.cells #[.bool N.leaf, .slice EA en ec, .slice KA kn kc, .slice CA cn cc] 48)) := (Mod.refl Nn w).alloc _
  have b0 : Blk (w.alloc (.cells #[.bool N.leaf, .slice EA en ec, .slice KA kn kc, .slice CA cn cc] 48)) w.heap.size 48 #[.bool N.leaf, .slice EA en ec, .slice KA kn kc, .slice CA cn cc] := Blk.new _ _ _
  have H0 := Lib.hid (And.intro m0 b0)
  have hg := fun w => great_any (w := w) (EA := EA) (KA := KA) (CA := CA) (ec := ec) (kc := kc) (cc := cc) (lf := N.leaf) hs
  have HG := Lib.hid hg
  have HB := Lib.hid (And.intro hb (And.intro hbc hbz))
  clear m0 b0 hg hb hbc hbz
  unfold ndV at *
  go_enter Try.func9, Try.ntmps9
  go_wp2_with fail
  refine (nd_awake _).mono ?_
  rintro r w1 ⟨rfl, m1⟩
  have H1 := Lib.hid (And.intro (H0.out.1.nn_ m1) (H0.out.2.mod m1 (fun f => f)))
  clear m1
  go_wp2_with (first
    | (with_reducible change wpList _ _ _ (⟨some 22, Op.load _ _, _, _, _, _⟩ :: _) _ _
       go_must (refine wpList_load_var 48 _ rfl rfl w.heap.size _ _ _ rfl H1.out.2 Try.underlying48 rfl size_node ?_))
  )
  refine (HG.out _).mono ?_
  rintro r w2 ⟨rfl, m2⟩
  have H2 := Lib.hid (And.intro (H1.out.1.nn_ m2) (H1.out.2.mod m2 (fun f => f)))
  clear m2
  by_cases hbig : 3000 < en + kn + cn
  · rw [decide_eq_true hbig]
    clear h
    go_wp2
    go_ret
    exact ⟨rfl, H2.out.1⟩
  rw [decide_eq_false hbig]
  by_cases hbl : 5000 < bn
  · have hbl' : (5000 : Int) < bn := by omega
    clear h
    go_wp2
    go_ret
    exact ⟨rfl, H2.out.1⟩
  have hbl' : ¬ (5000 : Int) < bn := by omega
  have hn := h.r hbig
  have HN := Lib.hid (show ∀ w', Mod Nn w w' → NdR w' N EA en KA kn CA cn from fun w' hm => hn.nn hm)
  have HK := Lib.hid hn.ok
  clear h hn hbig
  go_wp2_with (first
    | (with_reducible change wpList _ _ _ (⟨some 30, Op.load _ _, _, _, _, _⟩ :: _) _ _
       go_must (refine wpList_load_var 48 _ rfl rfl w.heap.size _ _ _ rfl H2.out.2 Try.underlying48 rfl size_node ?_))
  )
  by_cases hR : N.right = true
  · refine (nput_ok (ec := ec) (kc := kc) (cc := cc) (HN.out _ H2.out.1) hR).mono ?_
    rintro r w3 ⟨g, rfl, o3, m3, hg3⟩
    have hl := bytes_ok HK.out hR
    have h3 := o3.blk
    rw [hl.1, Nat.sub_self, List.replicate_zero, List.append_nil] at h3
    have hgw : w.heap.size ≤ g := by have := H2.out.1.size; omega
    have H3 := Lib.hid (And.intro (H2.out.1.nn_ m3) (And.intro (H2.out.2.mod m3 (fun f => f)) (And.intro h3 (And.intro hl hgw))))
    have HR := Lib.hid hR
    have HD := Lib.hid (nd_back HK.out hR)
    clear o3 m3 hg3 hl h3 hR hgw
    go_wp2_with (first
      | (with_reducible change wpList _ _ _ (⟨some 34, Op.load _ _, _, _, _, _⟩ :: _) _ _
         go_must (refine wpList_load_var 48 _ rfl rfl w.heap.size _ _ _ rfl H3.out.2.1 Try.underlying48 rfl size_node ?_))
    )
    refine (nright_any (ec := ec) (kc := kc) (cc := cc) (HN.out _ H3.out.1)).mono ?_
    rintro r w4 ⟨rfl, m4⟩
    rw [HR.out]
    have H4 := Lib.hid (And.intro (H3.out.1.nn_ m4) (And.intro (H3.out.2.1.mod m4 (fun f => f)) (H3.out.2.2.1.mod m4 (fun f => f))))
    clear m4
    go_wp2_with fail
    refine (nget_in (N := N) (Rd.of_blk0 H4.out.2.2 (by rw [bv_len, H3.out.2.2.2.1.1])) (Nat.le_refl _) HK.out HR.out).mono ?_
    rintro r w5 ⟨ev, kv, cv, rfl, n5, m5⟩
    have hl0 := nd_right HR.out
    obtain ⟨E5, e5, K5, k5, C5, c5, rfl, rfl, rfl, r5⟩ := n5.rd HK.out (by omega) (by omega) (by omega)
    have H5 := Lib.hid (And.intro (H4.out.1.nn_ m5) (And.intro (H4.out.2.1.mod m5 (fun f => f)) (And.intro (H4.out.2.2.mod m5 (fun f => f)) r5)))
    clear n5 m5 r5 hl0
    have hel := (HN.out _ (Mod.refl Nn w)).el; have hkl := (HN.out _ (Mod.refl Nn w)).kl; have hcl := (HN.out _ (Mod.refl Nn w)).cl
    rw [hel, hkl, hcl] at H5 ⊢
    clear hel hkl hcl
    go_wp2_with (first
      | (with_reducible change wpList _ _ _ (⟨some 11, Op.alloc _, _, _, _, _⟩ :: _) _ _
         go_must (refine wpList_alloc_var 48 rfl rfl info_node ?_)
         intro wa11 ba11 ma11 za11
         have HA11 := Lib.hid (And.intro ba11 ma11)
         clear ba11 ma11 za11)
      | (with_reducible change wpList _ _ _ (⟨none, Op.store _ (.tmp 11) _, _, _, _, _⟩ :: _) _ _
         go_must (refine wpList_store_var 48 _ _ rfl rfl w5.heap.size #[.bool N.leaf, .slice E5 en e5, .slice K5 kn k5, .slice C5 cn c5] _ _ rfl rfl HA11.out.1 size_node rfl (one_nd _ _ _ _ _ _ _ _ _ _) ?_)
         intro wb11 bb11 mb11 zb11
         have qb11 : Mod Nn w5 wb11 := HA11.out.2.new_ mb11 (Nat.le_refl _)
         have H6 := Lib.hid (And.intro (H5.out.1.nn_ qb11) (And.intro (H5.out.2.1.mod qb11 (fun f => f)) (And.intro (H5.out.2.2.1.mod qb11 (fun f => f)) (And.intro (H5.out.2.2.2.nn qb11) bb11))))
         clear bb11 mb11 zb11 qb11)
      | (with_reducible change wpList _ _ _ (⟨some 61, Op.load _ _, _, _, _, _⟩ :: _) _ _
         go_must (refine wpList_load_var 48 _ rfl rfl w.heap.size _ _ _ rfl H6.out.2.1 Try.underlying48 rfl size_node ?_))
      | (with_reducible change wpList _ _ _ (⟨some 62, Op.load _ _, _, _, _, _⟩ :: _) _ _
         go_must (refine wpList_load_var 48 _ rfl rfl w5.heap.size _ _ _ rfl H6.out.2.2.2.2 Try.underlying48 rfl size_node ?_))
    )
    refine (sameN_yes (lf := N.leaf) (N := N) (HN.out _ H6.out.1) H6.out.2.2.2.1).mono ?_
    rintro r w7 ⟨rfl, m7⟩
    have H7 := Lib.hid (And.intro (H6.out.1.nn_ m7) (H6.out.2.2.1.mod m7 (fun f => f)))
    clear m7
    by_cases hv : v = 0#32
    · have hv0 : ((v.toNat : Int) != 0) = false := by rw [hv]; rfl
      clear hv
      go_wp2_with fail
      refine (nget_any (HB.out.1.mod H7.out.1 (fun _ _ f => f)) HB.out.2.1 HB.out.2.2).mono ?_
      rintro r wtA (⟨hN, ev, kv, cv, rfl, nt, mt⟩ | ⟨hN, rfl, mt⟩)
      · have hok : (ndOf bl).ok := ndUp_ok hN.1 HB.out.2.2 hN.2.1 (Nat.le_refl _)
        have hrt := hN.2.2.1
        have hby := hN.2.2.2
        have hl0 := nd_right hrt
        have hb24 : bn = 1024 := by have h1 := HB.out.1.1; have h2 := hN.1; rw [bv_len] at h1; omega
        generalize ndOf bl = M at *
        obtain ⟨EM, me, KM, mk, CM, mc, rfl, rfl, rfl, rt⟩ := nt.rd hok (by omega) (by omega) (by omega)
        have HT := Lib.hid (And.intro ((H7.out.1).nn_ mt) (And.intro rt (And.intro hrt (And.intro hby hb24))))
        clear hN hok hrt hby hl0 hb24 nt rt mt
        go_wp2_with (first
          | (with_reducible change wpList _ _ _ (⟨some 16, Op.alloc _, _, _, _, _⟩ :: _) _ _
             go_must (refine wpList_alloc_var 48 rfl rfl info_node ?_)
             intro watA batA matA zatA
             have HAtA := Lib.hid (And.intro batA matA)
             clear batA matA zatA)
          | (with_reducible change wpList _ _ _ (⟨none, Op.store _ (.tmp 16) _, _, _, _, _⟩ :: _) _ _
             go_must (refine wpList_store_var 48 _ _ rfl rfl wtA.heap.size #[.bool M.leaf, .slice EM M.ents.length me, .slice KM M.keys.length mk, .slice CM M.kids.length mc] _ _ rfl rfl HAtA.out.1 size_node rfl (one_nd _ _ _ _ _ _ _ _ _ _) ?_)
             intro wbtA bbtA mbtA zbtA
             have qbtA : Mod Nn wtA wbtA := HAtA.out.2.new_ mbtA (Nat.le_refl _)
             have HU := Lib.hid (And.intro (HT.out.1.nn_ qbtA) (And.intro (HT.out.2.1.nn qbtA) bbtA))
             clear bbtA mbtA zbtA qbtA)
          | (with_reducible change wpList _ _ _ (⟨some 122, Op.load _ _, _, _, _, _⟩ :: _) _ _
             go_must (refine wpList_load_var 48 _ rfl rfl wtA.heap.size _ _ _ rfl HU.out.2.2 Try.underlying48 rfl size_node ?_))
        )
        refine (nput_ok (N := M) HU.out.2.1 HT.out.2.2.1).mono ?_
        rintro r wuA ⟨gu, rfl, ou, mu, -⟩
        rw [HT.out.2.2.2.1] at ou
        have HV := Lib.hid (And.intro (HU.out.1.nn_ mu) (And.intro (HU.out.2.1.nn mu) (And.intro (HU.out.2.2.mod mu (fun f => f)) ou)))
        clear ou mu
        go_wp2_with (first
          | (with_reducible change wpList _ _ _ (⟨some 126, Op.load _ _, _, _, _, _⟩ :: _) _ _
             go_must (refine wpList_load_var 48 _ rfl rfl wtA.heap.size _ _ _ rfl HV.out.2.2.1 Try.underlying48 rfl size_node ?_))
        )
        refine (nright_any (N := M) HV.out.2.1).mono ?_
        rintro r wvA ⟨rfl, mv⟩
        rw [HT.out.2.2.1]
        have HW := Lib.hid (And.intro (HV.out.1.nn_ mv) (HV.out.2.2.2.mod mv (fun f => f)))
        clear mv
        have hb24 := HT.out.2.2.2.2
        subst hb24
        go_wp2_with fail
        refine (sb_yes (HB.out.1.mod HW.out.1 (fun _ _ f => f)) (HW.out.2.rd (by have := HB.out.1.1; rwa [bv_len] at this)) (by omega)).mono ?_
        rintro r wwA ⟨rfl, mw⟩
        have HX := Lib.hid (HW.out.1.nn_ mw)
        clear mw
        go_wp2
        go_ret
        exact ⟨rfl, HX.out⟩
      · have HT := Lib.hid ((H7.out.1).nn_ mt)
        clear hN mt
        go_wp2_with (first
          | (with_reducible change wpList _ _ _ (⟨some 16, Op.alloc _, _, _, _, _⟩ :: _) _ _
             go_must (refine wpList_alloc_var 48 rfl rfl info_node ?_)
             intro watA batA matA zatA
             have HAtA := Lib.hid (And.intro batA matA)
             clear batA matA zatA)
          | (with_reducible change wpList _ _ _ (⟨none, Op.store _ (.tmp 16) _, _, _, _, _⟩ :: _) _ _
             go_must (refine wpList_store_var 48 _ _ rfl rfl wtA.heap.size #[.bool false, .slice none 0 0, .slice none 0 0, .slice none 0 0] _ _ rfl rfl HAtA.out.1 size_node rfl (one_nd _ _ _ _ _ _ _ _ _ _) ?_)
             intro wbtA bbtA mbtA zbtA
             have qbtA : Mod Nn wtA wbtA := HAtA.out.2.new_ mbtA (Nat.le_refl _)
             have HU := Lib.hid (And.intro (HT.out.nn_ qbtA) bbtA)
             clear bbtA mbtA zbtA qbtA)
          | (with_reducible change wpList _ _ _ (⟨some 117, Op.load _ _, _, _, _, _⟩ :: _) _ _
             go_must (refine wpList_load_var 48 _ rfl rfl wtA.heap.size _ _ _ rfl HU.out.2 Try.underlying48 rfl size_node ?_))
        )
        refine (sameN_yes (lf := false) (N := Nno) (ec := 0) (kc := 0) (cc := 0) (ed := 0) (kd := 0) (cd := 0) (no_ndr _ false) (no_ndr _ false)).mono ?_
        rintro r wuA ⟨rfl, mu⟩
        have HV := Lib.hid (HU.out.1.nn_ mu)
        clear mu
        go_wp2
        go_ret
        exact ⟨rfl, HV.out⟩
    · have hv0 : ((v.toNat : Int) != 0) = true := by
        have : v.toNat ≠ 0 := fun e => hv (BitVec.eq_of_toNat_eq e)
        simp; omega
      have HV := Lib.hid hv; clear hv
      go_wp2_with fail
      clear hv0
      refine (pick_any x _ _ (by omega)).mono ?_
      rintro r w8 ⟨rfl, rfl⟩
      have hpk := pick_range x 8129 (by omega)
      obtain ⟨at_, hk⟩ : ∃ k : Nat, pick x 8129 = k := ⟨(pick x 8129).toNat, by omega⟩
      rw [hk] at hpk ⊢
      clear hk
      have hat : at_ + 32 ≤ 8160 := by omega
      clear hpk
      have I0 : FinN w w7 g N.bytes at_ v 0 := ⟨H7.out.1, N.bytes, H7.out.2, flip_zero _ _ _, H3.out.2.2.2.1.2⟩
      go_wp2
      go_loopw [13] (fun i wr => ∃ k : Nat, k ≤ 32 ∧ i = .int .i64 k ∧ FinN w wr g N.bytes at_ v k) (fun i _ => 32 - (intOf i).toNat)
      case atStart => exact ⟨0, Nat.zero_le _, rfl, I0⟩
      case round =>
        clear I0
        obtain ⟨k, hk, rfl, I⟩ := hrel
        obtain ⟨wo, rfl⟩ : ∃ wo : World, wo = wr := ⟨_, rfl⟩
        by_cases hlt : k < 32
        · have hlt' : (k : Int) < 32 := by omega
          have hbit := bit_intn v k
          by_cases hb : v.getLsbD k = true
          · rw [if_pos hb] at hbit
            obtain ⟨m, hbl1, hfl, hm8⟩ := I.row
            have hml : m.length = 1024 := by rw [← hfl.1, H3.out.2.2.2.1.1]
            obtain ⟨i, hi⟩ : ∃ i : Nat, (at_ + k) / 8 = i := ⟨_, rfl⟩
            obtain ⟨s, hs1⟩ : ∃ s : Nat, (at_ + k) % 8 = s := ⟨_, rfl⟩
            have hs8 : s < 8 := by omega
            have hin : i < 1024 := by omega
            have hset := flip_set hfl hb hm8 (by rw [hi]; omega)
            rw [hi, hs1, getD_in (by rw [hml]; exact hin)] at hset
            have hz8 : m[i]'(by omega) < 256 := hm8 _ (List.getElem_mem _)
            have hxor := xor_u8n (m[i]'(by omega)) (2 ^ s) hz8 (pow_lt8 s hs8)
            have hx8 := xor8_lt _ _ hz8 (pow_lt8 s hs8)
            have cD : wo.cell? ⟨g, i, none⟩ = some (.int .u8 ((m[i]'(by omega) : Nat) : Int)) := by
              rw [hbl1.cell i, List.getElem?_toArray, bv_at, List.getElem?_eq_getElem]; rfl
            generalize m[i]'(by omega) ^^^ 2 ^ s = y at *
            generalize m[i]'(by omega) = z at *
            have HH := Lib.hid (And.intro hset (And.intro hx8 hml))
            have hfz := hbl1.frozen i
            have HBL := Lib.hid hbl1
            have HM8 := Lib.hid hm8
            have HC := Lib.hid (And.intro cD hfz)
            have HI := Lib.hid I.md
            have hw2 : ((at_ : Int) + k) / 8 = i := by omega
            have hw3 : ((at_ : Int) + k) % 8 = s := by omega
            have hiN : (i : Int) < 1024 := by omega
            have hs8' : (s : Int) < 8 := by omega
            have cD := HC.out.1
            have hfz := HC.out.2
            clear hset hx8 hml hbl1 I hi hs1 hfl hm8 hb
            have HXO := Lib.hid hxor
            clear hxor
            go_wp2
            have hp8 := pow_lt8 s hs8
            have hsh : ((2 : Int) ^ s % 256) = ((2 ^ s : Nat) : Int) := by
              rw [Int.natCast_pow] at *
              have : ((2 ^ s : Nat) : Int) < 256 := by omega
              rw [Int.natCast_pow] at this
              exact Int.emod_eq_of_lt (Int.pow_nonneg (by omega)) this
            rw [hsh, HXO.out]
            obtain ⟨hset, hx8, hml⟩ := HH.out
            have hD := HBL.out.set_ i (.int .u8 y)
            rw [List.setIfInBounds_toArray] at hD
            refine ⟨⟨k + 1, by omega, by go_num, HI.out.setCell (.inl H3.out.2.2.2.2) _, _, (by unfold bv at hD ⊢; rw [List.map_set]; exact hD), hset, fun z hz => ?_⟩, by simp [intOf]; omega⟩
            rcases List.mem_or_eq_of_mem_set hz with h | h
            · exact HM8.out z h
            · rw [h]; exact hx8
          · rw [if_neg hb] at hbit
            have I' : FinN w wo g N.bytes at_ v (k + 1) := by
              obtain ⟨m, hbl1, hfl, hm8⟩ := I.row
              exact ⟨I.md, m, hbl1, flip_skip hfl (by simpa using hb), hm8⟩
            clear hb I
            go_wp2
            exact ⟨⟨k + 1, by omega, by go_num, I'⟩, by simp [intOf]; omega⟩
        · have hlt' : ¬ (k : Int) < 32 := by omega
          have hk32 : k = 32 := by omega
          subst hk32
          obtain ⟨m, hbl1, hfl, hm8⟩ := I.row
          have hml : m.length = 1024 := by rw [← hfl.1, H3.out.2.2.2.1.1]
          have hno := page_burst HD.out.1 H3.out.2.2.2.1.2 hm8 hfl HV.out hat
          have HM := Lib.hid (And.intro I.md (And.intro hbl1 (And.intro hm8 (And.intro hno hml))))
          clear I hbl1 hfl hm8 hno hml hlt hlt'
          go_wp2_with fail
          refine (nget_any (Rd.of_blk0 HM.out.2.1 (by rw [bv_len, HM.out.2.2.2.2])) (Nat.le_refl _) HM.out.2.2.1).mono ?_
          rintro r wc (⟨hN, _⟩ | ⟨_, rfl, mc⟩)
          · exact (HM.out.2.2.2.1 hN).elim
          have Hc := Lib.hid (HM.out.1.nn_ mc)
          clear mc
          have hvt : Hid (∃ q, Mod Nn w q) := Lib.hid ⟨_, Hc.out⟩
          clear hvt
          go_wp2_with (first
            | (with_reducible change wpList _ _ _ (⟨some 14, Op.alloc _, _, _, _, _⟩ :: _) _ _
               go_must (refine wpList_alloc_var 48 rfl rfl info_node ?_)
               intro wa14 ba14 ma14 za14
               have HA14 := Lib.hid (And.intro ba14 ma14)
               clear ba14 ma14 za14)
            | (with_reducible change wpList _ _ _ (⟨none, Op.store _ (.tmp 14) _, _, _, _, _⟩ :: _) _ _
               go_must (refine wpList_store_var 48 _ _ rfl rfl wc.heap.size #[.bool false, .slice none 0 0, .slice none 0 0, .slice none 0 0] _ _ rfl rfl HA14.out.1 size_node rfl (one_nd _ _ _ _ _ _ _ _ _ _) ?_)
               intro wb14 bb14 mb14 zb14
               have qb14 : Mod Nn wc wb14 := HA14.out.2.new_ mb14 (Nat.le_refl _)
               have Hd := Lib.hid (Hc.out.nn_ qb14)
               clear bb14 mb14 zb14 qb14)
          )
          go_wp2_with fail
          refine (nget_any (HB.out.1.mod Hd.out (fun _ _ f => f)) HB.out.2.1 HB.out.2.2).mono ?_
          rintro r wtB (⟨hN, ev, kv, cv, rfl, nt, mt⟩ | ⟨hN, rfl, mt⟩)
          · have hok : (ndOf bl).ok := ndUp_ok hN.1 HB.out.2.2 hN.2.1 (Nat.le_refl _)
            have hrt := hN.2.2.1
            have hby := hN.2.2.2
            have hl0 := nd_right hrt
            have hb24 : bn = 1024 := by have h1 := HB.out.1.1; have h2 := hN.1; rw [bv_len] at h1; omega
            generalize ndOf bl = M at *
            obtain ⟨EM, me, KM, mk, CM, mc, rfl, rfl, rfl, rt⟩ := nt.rd hok (by omega) (by omega) (by omega)
            have HT := Lib.hid (And.intro ((Hd.out).nn_ mt) (And.intro rt (And.intro hrt (And.intro hby hb24))))
            clear hN hok hrt hby hl0 hb24 nt rt mt
            go_wp2_with (first
              | (with_reducible change wpList _ _ _ (⟨some 16, Op.alloc _, _, _, _, _⟩ :: _) _ _
                 go_must (refine wpList_alloc_var 48 rfl rfl info_node ?_)
                 intro watB batB matB zatB
                 have HAtB := Lib.hid (And.intro batB matB)
                 clear batB matB zatB)
              | (with_reducible change wpList _ _ _ (⟨none, Op.store _ (.tmp 16) _, _, _, _, _⟩ :: _) _ _
                 go_must (refine wpList_store_var 48 _ _ rfl rfl wtB.heap.size #[.bool M.leaf, .slice EM M.ents.length me, .slice KM M.keys.length mk, .slice CM M.kids.length mc] _ _ rfl rfl HAtB.out.1 size_node rfl (one_nd _ _ _ _ _ _ _ _ _ _) ?_)
                 intro wbtB bbtB mbtB zbtB
                 have qbtB : Mod Nn wtB wbtB := HAtB.out.2.new_ mbtB (Nat.le_refl _)
                 have HU := Lib.hid (And.intro (HT.out.1.nn_ qbtB) (And.intro (HT.out.2.1.nn qbtB) bbtB))
                 clear bbtB mbtB zbtB qbtB)
              | (with_reducible change wpList _ _ _ (⟨some 122, Op.load _ _, _, _, _, _⟩ :: _) _ _
                 go_must (refine wpList_load_var 48 _ rfl rfl wtB.heap.size _ _ _ rfl HU.out.2.2 Try.underlying48 rfl size_node ?_))
            )
            refine (nput_ok (N := M) HU.out.2.1 HT.out.2.2.1).mono ?_
            rintro r wuB ⟨gu, rfl, ou, mu, -⟩
            rw [HT.out.2.2.2.1] at ou
            have HV := Lib.hid (And.intro (HU.out.1.nn_ mu) (And.intro (HU.out.2.1.nn mu) (And.intro (HU.out.2.2.mod mu (fun f => f)) ou)))
            clear ou mu
            go_wp2_with (first
              | (with_reducible change wpList _ _ _ (⟨some 126, Op.load _ _, _, _, _, _⟩ :: _) _ _
                 go_must (refine wpList_load_var 48 _ rfl rfl wtB.heap.size _ _ _ rfl HV.out.2.2.1 Try.underlying48 rfl size_node ?_))
            )
            refine (nright_any (N := M) HV.out.2.1).mono ?_
            rintro r wvB ⟨rfl, mv⟩
            rw [HT.out.2.2.1]
            have HW := Lib.hid (And.intro (HV.out.1.nn_ mv) (HV.out.2.2.2.mod mv (fun f => f)))
            clear mv
            have hb24 := HT.out.2.2.2.2
            subst hb24
            go_wp2_with fail
            refine (sb_yes (HB.out.1.mod HW.out.1 (fun _ _ f => f)) (HW.out.2.rd (by have := HB.out.1.1; rwa [bv_len] at this)) (by omega)).mono ?_
            rintro r wwB ⟨rfl, mw⟩
            have HX := Lib.hid (HW.out.1.nn_ mw)
            clear mw
            go_wp2
            go_ret
            exact ⟨rfl, HX.out⟩
          · have HT := Lib.hid ((Hd.out).nn_ mt)
            clear hN mt
            go_wp2_with (first
              | (with_reducible change wpList _ _ _ (⟨some 16, Op.alloc _, _, _, _, _⟩ :: _) _ _
                 go_must (refine wpList_alloc_var 48 rfl rfl info_node ?_)
                 intro watB batB matB zatB
                 have HAtB := Lib.hid (And.intro batB matB)
                 clear batB matB zatB)
              | (with_reducible change wpList _ _ _ (⟨none, Op.store _ (.tmp 16) _, _, _, _, _⟩ :: _) _ _
                 go_must (refine wpList_store_var 48 _ _ rfl rfl wtB.heap.size #[.bool false, .slice none 0 0, .slice none 0 0, .slice none 0 0] _ _ rfl rfl HAtB.out.1 size_node rfl (one_nd _ _ _ _ _ _ _ _ _ _) ?_)
                 intro wbtB bbtB mbtB zbtB
                 have qbtB : Mod Nn wtB wbtB := HAtB.out.2.new_ mbtB (Nat.le_refl _)
                 have HU := Lib.hid (And.intro (HT.out.nn_ qbtB) bbtB)
                 clear bbtB mbtB zbtB qbtB)
              | (with_reducible change wpList _ _ _ (⟨some 117, Op.load _ _, _, _, _, _⟩ :: _) _ _
                 go_must (refine wpList_load_var 48 _ rfl rfl wtB.heap.size _ _ _ rfl HU.out.2 Try.underlying48 rfl size_node ?_))
            )
            refine (sameN_yes (lf := false) (N := Nno) (ec := 0) (kc := 0) (cc := 0) (ed := 0) (kd := 0) (cd := 0) (no_ndr _ false) (no_ndr _ false)).mono ?_
            rintro r wuB ⟨rfl, mu⟩
            have HV := Lib.hid (HU.out.1.nn_ mu)
            clear mu
            go_wp2
            go_ret
            exact ⟨rfl, HV.out⟩
  · have hR' : N.right = false := by simpa using hR
    refine (nput_bad (ec := ec) (kc := kc) (cc := cc) (HN.out _ H2.out.1) hR').mono ?_
    rintro r w3 ⟨rfl, m3⟩
    have H3 := Lib.hid (And.intro (H2.out.1.nn_ m3) (H2.out.2.mod m3 (fun f => f)))
    clear m3 hR
    go_wp2_with (first
      | (with_reducible change wpList _ _ _ (⟨some 34, Op.load _ _, _, _, _, _⟩ :: _) _ _
         go_must (refine wpList_load_var 48 _ rfl rfl w.heap.size _ _ _ rfl H3.out.2 Try.underlying48 rfl size_node ?_))
    )
    refine (nright_any (ec := ec) (kc := kc) (cc := cc) (HN.out _ H3.out.1)).mono ?_
    rintro r w4 ⟨rfl, m4⟩
    rw [hR']
    have H4 := Lib.hid (H3.out.1.nn_ m4)
    clear m4
    go_wp2
    go_ret
    exact ⟨rfl, H4.out⟩
end Go.Proofs.Ytjndcgpfikngaaa
