/- Own lemmas of several kinds, put together: NdR3, NdR4, NdR5. -/
import Derived.Test.YtfoldjnmknaklaaGreatNdRa
import Derived.Test.YtfoldjnmknaklaaGreatNd7
import Derived.Test.YtfoldjnmknaklaaGreatKitC
import Derived.Test.YtfoldjnmknaklaaGreatKitD
import Derived.Test.YtfoldjnmknaklaaGreatKitB
import Derived.Test.YtfoldjnmknaklaaGreatNdG
import Derived.Test.YtfoldjnmknaklaaGreatNdGx
/- peatbankref15.four, key. -/
namespace Go.Proofs.YtfoldjnmknaklaaGreat
open Go.RowKit

section
variable {w : World} {A : Option Addr} {n c : Nat} {l : List Nat}
set_option maxRecDepth 100000 in
set_option maxHeartbeats 1600000 in
theorem rfour_any (w : World) (N : Nat) (hN : N < 4294967296) :
    Calls Tryz.prog 59 #[.int .u32 (N : Int)] w fun e w' => e = .returned (.slice (some ⟨w.heap.size, 0, none⟩) 4 4) ∧ Rd w' (some ⟨w.heap.size, 0, none⟩) 4 (bv (num N 4)) ∧ Mod Nn w w' := by
  obtain ⟨b0, h0⟩ : ∃ b, N / 2 ^ 24 % 256 = b := ⟨_, rfl⟩
  obtain ⟨b1, h1⟩ : ∃ b, N / 2 ^ 16 % 256 = b := ⟨_, rfl⟩
  obtain ⟨b2, h2⟩ : ∃ b, N / 2 ^ 8 % 256 = b := ⟨_, rfl⟩
  obtain ⟨b3, h3⟩ : ∃ b, N % 256 = b := ⟨_, rfl⟩
  have e0 : (N : Int) / 16777216 = (b0 : Int) := by omega
  have e1 : (N : Int) / 65536 % 256 = (b1 : Int) := by omega
  have e2 : (N : Int) / 256 % 256 = (b2 : Int) := by omega
  have e3 : (N : Int) % 256 = (b3 : Int) := by omega
  have hN4 := num4 N
  rw [h0, h1, h2, h3] at hN4
  have HO := Lib.hid hN4
  clear h0 h1 h2 h3 hN4
  go_enter Tryz.func59, Tryz.ntmps59
  go_wp2
  go_ret
  refine ⟨rfl, ?_, (Mod.refl Nn w).alloc _⟩
  rw [HO.out]
  exact Rd.of_blk0 (Blk.new w _ _) rfl
theorem zero_tk : (Tryz.prog.info? 40).map (fun i => (i.zero, i.size)) = some (some (.agg (bv (List.replicate 40 0)).toArray), 40) := by kernel_rfl
set_option maxRecDepth 100000 in
set_option maxHeartbeats 1600000 in
theorem rkey_any (hr : Rd w A n (bv l)) (hn : 40 ≤ n) (hl : ∀ z ∈ l, z < 256) :
    Calls Tryz.prog 43 #[.slice A n c] w fun e w' => e = .returned (.agg (bv (l.take 40)).toArray) ∧ Mod Nn w w' := by
  have hL : l.length = n := by have := hr.1; rwa [bv_len] at this
  have HR := Lib.hid (And.intro hr (And.intro hL hl))
  clear hr hL hl
  go_enter Tryz.func43, Tryz.ntmps43
  go_wp2_with (first
    | (with_reducible change wpList _ _ _ (⟨some 2, Op.alloc _, _, _, _, _⟩ :: _) _ _
       go_must (refine wpList_alloc_var 40 rfl rfl zero_tk ?_)
       intro wa ba ma za
       have HA := Lib.hid (And.intro ba (And.intro ma za))
       clear ba ma za)
    | (with_reducible change wpList _ _ _ (⟨some 3, Op.alloc _, _, _, _, _⟩ :: _) _ _
       go_must (refine wpList_alloc_var 40 rfl rfl zero_tk ?_)
       intro wb bb mb zb
       have HB := Lib.hid (And.intro (HA.out.1.mod mb (fun f => f)) (And.intro (HA.out.2.1.trans mb) (And.intro bb (show w.heap.size < wa.heap.size by rw [HA.out.2.2]; omega))))
       clear bb mb zb))
  generalize hg : wa.heap.size = g at *
  have o0 : Out wb g 40 40 (l.take 0) := ⟨by simp, HB.out.2.2.1⟩
  have HO := Lib.hid o0
  clear o0 hg HA
  go_loopw [4] (fun i wr => ∃ k : Nat, k ≤ 40 ∧ i = .int .i64 k ∧ Out wr g 40 40 (l.take k) ∧ Mod Nn w wr ∧ Blk wr w.heap.size 40 (bv (List.replicate 40 0)).toArray) (fun i _ => 40 - (intOf i).toNat)
  case atStart => exact ⟨0, by omega, rfl, HO.out, HB.out.2.1, HB.out.1⟩
  case round =>
    obtain ⟨k, hk, rfl, hO, hm, hb⟩ := hrel
    by_cases hlt : k < 40
    · have hlt' : (k : Int) < 40 := by omega
      have hkn : (k : Int) < n := by omega
      obtain ⟨g0, off, v, rfl, hv, hc⟩ := (HR.out.1.mod hm (fun _ _ f => f)).at_ (k := k) (by omega)
      rw [bv_at] at hv
      obtain ⟨z, hz, rfl⟩ := Option.map_eq_some_iff.1 hv
      have htk : l.take (k + 1) = l.take k ++ [z] := by
        rw [List.take_add_one, hz]; rfl
      have o1 := hO.put1 (q := k) (by rw [List.length_take, HR.out.2.1]; omega) hlt z
      have HX := Lib.hid (And.intro hO (And.intro o1 (And.intro hm (And.intro hb htk))))
      clear hO o1 hm hb htk hv hz
      go_wp2_with (first
        | (with_reducible change wpList _ _ _ (⟨none, Op.store _ _ _, _, _, _, _⟩ :: _) _ _
           go_must (refine wpList_unit rfl (exec_store1 (P := Tryz.prog) (v := .int .u8 (z : Int)) 5 _ _ rfl rfl rfl (HX.out.1.get (i := k) hlt) (HX.out.1.blk.frozen _) rfl rfl rfl size_u8n) ?_)))
      go_roundw
      case rel =>
        refine ⟨k + 1, by omega, by go_num, ?_, HX.out.2.2.1.new_ (Mod.cellAt _ _ _ _) (Nat.le_of_lt HB.out.2.2.2), HX.out.2.2.2.1.far (show w.heap.size ≠ g by have := HB.out.2.2.2; omega) _⟩
        rw [HX.out.2.2.2.2]
        exact HX.out.2.1
      case measure => simp [intOf]; omega
    · obtain rfl : k = 40 := by omega
      have h40 : (l.take 40).length = 40 := by rw [List.length_take, HR.out.2.1]; omega
      have hbl : Blk wr g 40 (bv (l.take 40)).toArray := by
        have := hO.blk
        rwa [h40, Nat.sub_self, List.replicate_zero, List.append_nil] at this
      have HX := Lib.hid (And.intro hbl (And.intro hm (And.intro hb h40)))
      clear hbl hm hb hO h40
      go_wp2_with (first
        | (with_reducible change wpList _ _ _ (⟨_, Op.load _ _, _, _, _, _⟩ :: _) _ _
           go_must (refine wpList_load_var 40 _ rfl rfl g (bv (l.take 40)).toArray _ _ rfl HX.out.1 Tryz.underlying40 rfl (by rw [size_tk, bv_size, HX.out.2.2.2]) ?_))
        | (with_reducible change wpList _ _ _ (⟨none, Op.store _ (Operand.tmp 2) _, _, _, _, _⟩ :: _) _ _
           go_must (refine wpList_store_var 40 _ _ rfl rfl w.heap.size (bv (l.take 40)).toArray (bv (List.replicate 40 0)).toArray _ rfl rfl HX.out.2.2.1 (by rw [size_tk, bv_size, HX.out.2.2.2]) (by rw [bv_size, bv_size, HX.out.2.2.2]; rfl) (bv_all _) ?_)
           intro w9 b9 m9 z9))
      exact bodyPost_ret (results_cell_row (P := Tryz.prog) rfl _ w9 _ _ _ (0, 0) _ rfl b9 Tryz.underlying40 rfl (by rw [size_tk, bv_size, HX.out.2.2.2])) rfl ⟨rfl, HX.out.2.1.new_ m9 (Nat.le_refl _)⟩
end
end Go.Proofs.YtfoldjnmknaklaaGreat

/- peatbankref15.Put. -/
namespace Go.Proofs.YtfoldjnmknaklaaGreat
open Go.RowKit

theorem rdc_lt {w : World} {n k g off : Nat} {xs : List Value} (h : RdC w (some ⟨g, off, none⟩) n k xs) (hn : 0 < n) (hk : 0 < k) : g < w.heap.size := by
  obtain ⟨g', off', hA, hc⟩ := h.2 hn
  injection hA with hA; injection hA with h1 _ _; subst h1
  have h0 : 0 < xs.length := by rw [h.1]; exact Nat.mul_pos hn hk
  exact World.block_lt_of_cell? w _ (hc 0 xs[0] (List.getElem?_eq_getElem h0))
/-- the document's bytes under way -/
structure RPut (w wr : World) (cs : Array Value) (v : Value) (L : List Nat) : Prop where
  m : Mod Nn w wr
  box : Blk wr w.heap.size 32 cs
  own : wr.ownsRow (w.heap.size + 1) 5 1 v L.length (bv L)
section
variable {w wr w' : World} {cs : Array Value} {v v' : Value} {L M : List Nat}
theorem RPut.nn (h : RPut w wr cs v L) (hm : Mod Nn wr w') : RPut w w' cs v L := ⟨h.m.trans hm, h.box.mod hm (fun f => f), own_mod h.own hm (fun _ _ f => f)⟩
theorem RPut.app (h : RPut w wr cs v L) (ho : w'.ownsRow (w.heap.size + 1) 5 1 v' (L.length + M.length) (bv L ++ bv M)) (hg : wr.grownBy w' v.ownBlock) : RPut w w' cs v' (L ++ M) := by
  have hm : Mod (fun g => v.ownBlock = some g) wr w' := (Mod.refl _ wr).grown hg (fun g e => .inr e)
  refine ⟨h.m.then_ hm (fun g hg e => by have := own_ge h.own g e; omega), h.box.mod hm (fun e => by have := own_ge h.own _ e; omega), ?_⟩
  rw [bv_append, List.length_append]
  exact ho
/-- what the document's Put tells of what is right -/
def RPutP (w : World) (N : Nd) (e : Ending) (w' : World) : Prop := ∃ v, e = .returned (.tuple #[v, .int .i64 0]) ∧ w'.ownsRow w.heap.size 5 1 v 1024 (bv N.bytes) ∧ Mod Nn w w'
end
section
variable {w w' : World} {N : Nd} {EA KA CA : Option Addr} {en ec kn kc cn cc : Nat} {S : Nat → Prop}
set_option maxRecDepth 100000 in
set_option maxHeartbeats 3200000 in
theorem rput_bad (h : NdR w N EA en KA kn CA cn) (hr : N.right = false) :
    Calls Tryz.prog 32 #[ndV N.leaf EA en ec KA kn kc CA cn cc] w fun e w' => e = .returned (.tuple #[.slice none 0 0, .int .i64 4]) ∧ Mod Nn w w' := by
  have hn := rright_any (ec := ec) (kc := kc) (cc := cc) (h.nn ((Mod.refl Nn w).alloc (.cells #[.bool N.leaf, .slice EA en ec, .slice KA kn kc, .slice CA cn cc] 32)))
  have M : Mod Nn w (w.alloc (.cells #[.bool N.leaf, .slice EA en ec, .slice KA kn kc, .slice CA cn cc] 32)) := (Mod.refl Nn w).alloc _
  have B : Blk (w.alloc (.cells #[.bool N.leaf, .slice EA en ec, .slice KA kn kc, .slice CA cn cc] 32)) w.heap.size 32 #[.bool N.leaf, .slice EA en ec, .slice KA kn kc, .slice CA cn cc] := Blk.new w _ _
  unfold ndV at hn ⊢
  have HN := Lib.hid (And.intro hn (And.intro M B))
  clear hn M B h
  go_enter Tryz.func32, Tryz.ntmps32
  go_wp2_with (first
    | (with_reducible change wpList _ _ _ (⟨_, Op.load _ _, _, _, _, _⟩ :: _) _ _
       go_must (refine wpList_load_var 32 _ rfl rfl w.heap.size #[.bool N.leaf, .slice EA en ec, .slice KA kn kc, .slice CA cn cc] _ _ rfl HN.out.2.2 Tryz.underlying32 rfl size_node ?_)))
  refine HN.out.1.mono ?_
  rintro r w1 ⟨rfl, m1⟩
  rw [hr]
  go_wp2
  go_ret2
  exact ⟨rfl, HN.out.2.1.trans m1⟩
set_option maxRecDepth 100000 in
set_option maxHeartbeats 6400000 in
theorem rput_ok (h : NdR w N EA en KA kn CA cn) (hr : N.right = true) :
    Calls Tryz.prog 32 #[ndV N.leaf EA en ec KA kn kc CA cn cc] w (RPutP w N) := by
  obtain ⟨hen, hkn, hcn, hlf, hin⟩ := nd_kids h hr
  have hn := rright_any (ec := ec) (kc := kc) (cc := cc) (h.nn ((Mod.refl Nn w).alloc (.cells #[.bool N.leaf, .slice EA en ec, .slice KA kn kc, .slice CA cn cc] 32)))
  have M : Mod Nn w (w.alloc (.cells #[.bool N.leaf, .slice EA en ec, .slice KA kn kc, .slice CA cn cc] 32)) := (Mod.refl Nn w).alloc _
  have B : Blk (w.alloc (.cells #[.bool N.leaf, .slice EA en ec, .slice KA kn kc, .slice CA cn cc] 32)) w.heap.size 32 #[.bool N.leaf, .slice EA en ec, .slice KA kn kc, .slice CA cn cc] := Blk.new w _ _
  have hz0 : w.heap.size < (w.alloc (.cells #[.bool N.leaf, .slice EA en ec, .slice KA kn kc, .slice CA cn cc] 32)).heap.size := by simp
  unfold ndV at hn ⊢
  obtain ⟨hbl, hbz⟩ := body_ok h.ok hr
  have HN := Lib.hid (And.intro hn (And.intro M (And.intro B hz0)))
  have HR := Lib.hid h
  have HK := Lib.hid (And.intro hlf (And.intro hin (And.intro hbl hbz)))
  have HSUM := Lib.hid (show (crcS cas 0#32 N.body).toNat = N.sum ∧ N.sum < 4294967296 from ⟨rfl, (crcS cas 0#32 N.body).isLt⟩)
  clear hn M B h hlf hin hz0 hbl hbz
  have hlf0 : ∃ b, N.leaf = b := ⟨_, rfl⟩
  obtain ⟨lf, hlf⟩ := hlf0
  rw [hlf] at HN ⊢
  have HLF := Lib.hid hlf
  clear hlf
  have hroom : 4 + 80 * en + 4 * cn + 40 * kn ≤ 964 := by
    cases hl : N.leaf with
    | true => have := HK.out.1 hl; omega
    | false => have := HK.out.2.1 hl; omega
  go_enter Tryz.func32, Tryz.ntmps32
  go_wp2_with (first
    | (with_reducible change wpList _ _ _ (⟨_, Op.load _ _, _, _, _, _⟩ :: _) _ _
       go_must (refine wpList_load_var 32 _ rfl rfl w.heap.size #[.bool lf, .slice EA en ec, .slice KA kn kc, .slice CA cn cc] _ _ rfl HN.out.2.2.1 Tryz.underlying32 rfl size_node ?_)))
  refine HN.out.1.mono ?_
  rintro r w1 ⟨rfl, m1⟩
  rw [hr]
  have hb1 := HN.out.2.2.1.mod m1 (fun f => f)
  have C0 := hb1.cell 0; have C1 := hb1.cell 1; have C3 := hb1.cell 3
  have hz1 : w.heap.size < w1.heap.size := by have := HN.out.2.2.2; have := m1.size; omega
  have HP1 := Lib.hid (And.intro (HN.out.2.1.trans m1) hb1)
  clear m1 hb1
  have ecn : IntKind.u8.wrap (cn : Int) = (cn : Int) := by rw [IntKind.wrap_u8]; omega
  have een : IntKind.u8.wrap (en : Int) = (en : Int) := by rw [IntKind.wrap_u8]; omega
  go_upto_if 18 with fail
  go_cut [4] from 16 to 23 (fun v wx => RPut w wx #[.bool lf, .slice EA en ec, .slice KA kn kc, .slice CA cn cc] v N.hdr)
  case first =>
    cases lf
    case true =>
      have hl := HLF.out
      have e : N.hdr = [1, en, 0, 0] := by unfold Nd.hdr; rw [hl, HR.out.el, Nat.mod_eq_of_lt (show en < 256 by omega)]; rfl
      have p : RPut w (w1.alloc (.cells #[.int .u8 1, .int .u8 (en : Int), .int .u8 0, .int .u8 0] 5)) #[.bool true, .slice EA en ec, .slice KA kn kc, .slice CA cn cc] (.slice (some ⟨w1.heap.size, 0, none⟩) 4 4) N.hdr :=
        ⟨HP1.out.1.alloc _, HP1.out.2.alloc _, by rw [e]; exact own_of_blk (Blk.new w1 _ _) hz1 rfl (by unfold maxLen; omega) (Nat.le_refl _) rfl⟩
      have H := Lib.hid p
      clear p e hl
      go_wp2
      go_meet
      exact H.out
    case false =>
      have hl := HLF.out
      have e : N.hdr = [2, cn, 0, 0] := by unfold Nd.hdr; rw [hl, HR.out.cl, Nat.mod_eq_of_lt (show cn < 256 by omega)]; rfl
      have p : RPut w ((w1.alloc (.cells #[.int .u8 1, .int .u8 (en : Int), .int .u8 0, .int .u8 0] 5)).alloc (.cells #[.int .u8 2, .int .u8 (cn : Int), .int .u8 0, .int .u8 0] 5)) #[.bool false, .slice EA en ec, .slice KA kn kc, .slice CA cn cc] (.slice (some ⟨w1.heap.size + 1, 0, none⟩) 4 4) N.hdr :=
        ⟨(HP1.out.1.alloc _).alloc _, (HP1.out.2.alloc _).alloc _, by
          rw [e]
          have b := Blk.new (w1.alloc (.cells #[.int .u8 1, .int .u8 (en : Int), .int .u8 0, .int .u8 0] 5)) 5 #[.int .u8 2, .int .u8 (cn : Int), .int .u8 0, .int .u8 0]
          have hz : (w1.alloc (.cells #[.int .u8 1, .int .u8 (en : Int), .int .u8 0, .int .u8 0] 5)).heap.size = w1.heap.size + 1 := by simp
          rw [hz] at b
          exact own_of_blk b (by omega) rfl (by unfold maxLen; omega) (Nat.le_refl _) rfl⟩
      have H := Lib.hid p
      clear p e hl
      go_wp2
      go_meet
      exact H.out
  case rest =>
    clear C0 C1 C3
    have hl4 : N.hdr.length = 4 := by unfold Nd.hdr; split <;> rfl
    have H0 := Lib.hid hcut
    have HL4 := Lib.hid hl4
    clear hcut hl4
    obtain ⟨B0, hB0⟩ : ∃ B0, N.hdr = B0 := ⟨_, rfl⟩
    rw [hB0] at H0 HL4
    have HB0 := Lib.hid hB0
    clear hB0
    go_wp2
    go_loopw [4, 5] (fun v i wr => ∃ k : Nat, k ≤ en ∧ i = .int .i64 k ∧ RPut w wr #[.bool lf, .slice EA en ec, .slice KA kn kc, .slice CA cn cc] v (B0 ++ (N.ents.take k).flatten)) (fun _ i _ => en - (intOf i).toNat)
    case atStart => exact ⟨0, by omega, rfl, by simpa using H0.out⟩
    case round =>
      obtain ⟨k, hk, rfl, hp⟩ := hrel
      have HB := Lib.hid hp
      have C1 := hp.box.cell 1
      have hlB : (B0 ++ (N.ents.take k).flatten).length = 4 + 80 * k := by
        rw [List.length_append, HL4.out, rows_len (fun x hx => HR.out.ok.e x (List.mem_of_mem_take hx)), List.length_take, HR.out.el]; omega
      have HLB := Lib.hid hlB
      clear hp hlB
      by_cases hlt : k < en
      · have hlt' : (k : Int) < en := by omega
        have hk1 : k < N.ents.length := by rw [HR.out.el]; exact hlt
        have i1 : N.ents[k]? = some N.ents[k] := List.getElem?_eq_getElem hk1
        have ht1 : N.ents.take (k + 1) = N.ents.take k ++ [N.ents[k]] := List.take_succ_eq_append_getElem hk1
        generalize N.ents[k] = r1 at i1 ht1
        obtain ⟨l1, z1⟩ := HR.out.ok.e r1 (List.mem_of_getElem? i1)
        obtain ⟨g0, off, hEA, hc1⟩ := (HR.out.nn HB.out.m).e.row HR.out.ok.e i1 (by omega)
        subst hEA
        have hg0w : g0 < w.heap.size := rdc_lt HR.out.e (by omega) (by omega)
        have hg0 : g0 < wr.heap.size := Nat.lt_of_lt_of_le hg0w HB.out.m.size
        have r40 : ∀ w', (∀ i, w'.cell? ⟨g0, i, none⟩ = wr.cell? ⟨g0, i, none⟩) → Rd w' (some ⟨g0, off + k * 80, none⟩) 40 (bv (r1.take 40)) ∧ Rd w' (some ⟨g0, off + k * 80 + 40, none⟩) 40 (bv (r1.drop 40)) := fun w' hsame =>
          ⟨⟨by rw [bv_len, List.length_take, l1]; rfl, fun _ => ⟨g0, _, rfl, fun j v hv => by
            rw [hsame]
            refine hc1 j v ?_
            have hj := (List.getElem?_eq_some_iff.1 hv).1
            rw [bv_len, List.length_take, l1] at hj
            rw [bv_at, List.getElem?_take, if_pos (by omega)] at hv
            rw [bv_at]; exact hv⟩⟩,
           ⟨by rw [bv_len, List.length_drop, l1], fun _ => ⟨g0, _, rfl, fun j v hv => by
            rw [hsame, Nat.add_assoc]
            refine hc1 (40 + j) v ?_
            rw [bv_at, List.getElem?_drop] at hv
            rw [bv_at]; exact hv⟩⟩⟩
        have HC := Lib.hid (And.intro r40 (And.intro l1 (And.intro ht1 (And.intro hg0w hg0))))
        clear hc1 l1 ht1 i1 hk1 z1 r40 hg0 hg0w
        go_wp2_with (first
          | (with_reducible change wpList _ _ _ (⟨some 38, _, _, _, _, _⟩ :: _) _ _
             go_must (refine wpList_append_rd 24 _ _ rfl rfl (w.heap.size + 1) 5 (.int .u8 0) 1 1 Tryz.underlying24 info_u8n rfl (by omega) _ _ _ rfl HB.out.own _ 40 40 (bv (r1.take 40)) rfl (HC.out.1 wr (fun _ => rfl)).1.toC (bv_one' _) (by rw [HLB.out]; omega) (by rw [HLB.out]; omega) HB.out.box.lt ?_)
             intro v6 w6 o6 g6 q6
             have hs6 : ∀ i, w6.cell? ⟨g0, i, none⟩ = wr.cell? ⟨g0, i, none⟩ := fun i => ((Mod.refl (fun g => w.heap.size + 1 ≤ g) wr).grown g6 (fun g e => .inr (own_ge HB.out.own g e))).cell (p := ⟨g0, i, none⟩) HC.out.2.2.2.2 (fun e => by have := HC.out.2.2.2.1; have e : w.heap.size + 1 ≤ g0 := e; omega)
             have p6 := HB.out.app (M := r1.take 40) (by rw [List.length_take, HC.out.2.1]; exact o6) g6
             have l6 : (B0 ++ (N.ents.take k).flatten ++ r1.take 40).length = 4 + 80 * k + 40 := by rw [List.length_append, HLB.out, List.length_take, HC.out.2.1]; rfl
             have C1 := p6.box.cell 1
             have A6 := Lib.hid (And.intro p6 (And.intro (HC.out.1 w6 hs6).2 l6))
             clear o6 g6 q6 hs6 p6 l6)
          | (with_reducible change wpList _ _ _ (⟨some 46, _, _, _, _, _⟩ :: _) _ _
             go_must (refine wpList_append_rd 24 _ _ rfl rfl (w.heap.size + 1) 5 (.int .u8 0) 1 1 Tryz.underlying24 info_u8n rfl (by omega) _ _ _ rfl A6.out.1.own _ 40 40 (bv (r1.drop 40)) rfl A6.out.2.1.toC (bv_one' _) (by rw [A6.out.2.2]; omega) (by rw [A6.out.2.2]; omega) A6.out.1.box.lt ?_)
             intro v7 w7 o7 g7 q7
             have p7 := A6.out.1.app (M := r1.drop 40) (by rw [List.length_drop, HC.out.2.1]; exact o7) g7
             have q7 : RPut w w7 #[.bool lf, .slice (some ⟨g0, off, none⟩) en ec, .slice KA kn kc, .slice CA cn cc] v7 (B0 ++ (N.ents.take (k + 1)).flatten) := by
               have e : B0 ++ (N.ents.take k).flatten ++ r1.take 40 ++ r1.drop 40 = B0 ++ (N.ents.take (k + 1)).flatten := by
                 rw [HC.out.2.2.1, List.flatten_append, List.append_assoc, List.append_assoc, List.take_append_drop]
                 simp
               rw [e] at p7
               exact p7
             have A7 := Lib.hid q7
             clear o7 g7 q7 p7))
        go_roundw
        case rel => exact ⟨k + 1, by omega, by go_num, A7.out⟩
        case measure => simp [intOf]; omega
      · have hke : k = en := by omega
        subst hke
        have htk : N.ents.take k = N.ents := List.take_of_length_le (by rw [HR.out.el]; omega)
        have C3 := HB.out.box.cell 3
        have hlt' : ¬ (k : Int) < (k : Int) := by omega
        obtain ⟨B1, hB1⟩ : ∃ B1, B0 ++ (N.ents.take k).flatten = B1 := ⟨_, rfl⟩
        rw [hB1] at HB HLB
        rw [htk] at hB1
        have HE1 := Lib.hid hB1
        clear hB1 htk H0
        go_wp2
        clear C1 C3
        go_loopw [4, 6] (fun v i wx => ∃ j : Nat, j ≤ cn ∧ i = .int .i64 j ∧ RPut w wx #[.bool lf, .slice EA k ec, .slice KA kn kc, .slice CA cn cc] v (B1 ++ kidsB (N.kids.take j))) (fun _ i _ => cn - (intOf i).toNat)
        case atStart => exact ⟨0, by omega, rfl, by simpa [kidsB] using HB.out⟩
        case round =>
          obtain ⟨j, hj, rfl, hp⟩ := hrel
          have HB2 := Lib.hid hp
          have C3 := hp.box.cell 3
          have hlB : (B1 ++ kidsB (N.kids.take j)).length = 4 + 80 * k + 4 * j := by
            rw [List.length_append, HLB.out, kidsB_len, List.length_take, HR.out.cl]; omega
          have HLB2 := Lib.hid hlB
          clear hp hlB
          by_cases hjt : j < cn
          · have hjt' : (j : Int) < cn := by omega
            obtain ⟨g1, off1, v, rfl, hv, hc⟩ := (HR.out.nn HB2.out.m).c.at_ hjt
            rw [List.getElem?_map] at hv
            obtain ⟨z, hz, rfl⟩ := Option.map_eq_some_iff.1 hv
            have hkz : kidOk z = true := by
              cases hl : N.leaf with
              | true => have := HK.out.1 hl; omega
              | false => exact List.all_eq_true.1 (HK.out.2.1 hl).2.2 z (List.mem_of_getElem? hz)
            unfold kidOk at hkz
            have hz0 := of_decide_eq_true hkz
            obtain ⟨Z, rfl⟩ : ∃ Z : Nat, z = Z := ⟨z.toNat, by omega⟩
            have hZ : Z ≤ 1048576 := by omega
            have hsn : N.kids.take (j + 1) = N.kids.take j ++ [(Z : Int)] := by
              have h1 : j < N.kids.length := (List.getElem?_eq_some_iff.1 hz).1
              rw [List.take_succ_eq_append_getElem h1, (List.getElem?_eq_some_iff.1 hz).2]
            have HS := Lib.hid hsn
            have eZ : IntKind.u32.wrap (Z : Int) = (Z : Int) := by rw [IntKind.wrap_u32]; omega
            clear hv hz hkz hz0 hsn
            go_wp2_with fail
            refine (rfour_any _ Z (by omega)).mono ?_
            rintro r w5 ⟨rfl, r5, m5⟩
            have A5 := Lib.hid (And.intro (HB2.out.nn m5) r5)
            clear m5 r5
            go_wp2_with (first
              | (with_reducible change wpList _ _ _ (⟨some 62, _, _, _, _, _⟩ :: _) _ _
                 go_must (refine wpList_append_rd 24 _ _ rfl rfl (w.heap.size + 1) 5 (.int .u8 0) 1 1 Tryz.underlying24 info_u8n rfl (by omega) _ _ _ rfl A5.out.1.own _ 4 4 (bv (num Z 4)) rfl A5.out.2.toC (bv_one' _) (by rw [HLB2.out]; omega) (by rw [HLB2.out]; omega) A5.out.1.box.lt ?_)
                 intro v7 w7 o7 g7 q7
                 have p7 := A5.out.1.app (M := num Z 4) (by rw [num_len]; exact o7) g7
                 have q7 : RPut w w7 #[.bool lf, .slice EA k ec, .slice KA kn kc, .slice (some ⟨g1, off1, none⟩) cn cc] v7 (B1 ++ kidsB (N.kids.take (j + 1))) := by
                   rw [HS.out, kidsB_snoc, ← List.append_assoc]
                   exact p7
                 have A7 := Lib.hid q7
                 clear o7 g7 q7 p7))
            clear C3
            go_roundw
            case rel => exact ⟨j + 1, by omega, by go_num, A7.out⟩
            case measure => simp [intOf]; omega
          · have hje : j = cn := by omega
            subst hje
            have htk : N.kids.take j = N.kids := List.take_of_length_le (by rw [HR.out.cl]; omega)
            have C2 := HB2.out.box.cell 2
            have hjt' : ¬ (j : Int) < (j : Int) := by omega
            obtain ⟨B2, hB2⟩ : ∃ B2, B1 ++ kidsB (N.kids.take j) = B2 := ⟨_, rfl⟩
            rw [hB2] at HB2 HLB2
            rw [htk] at hB2
            have HE2 := Lib.hid hB2
            clear hB2 htk HB
            go_wp2
            clear C2 C3
            go_loopw [4, 7] (fun v i wx => ∃ n : Nat, n ≤ kn ∧ i = .int .i64 n ∧ RPut w wx #[.bool lf, .slice EA k ec, .slice KA kn kc, .slice CA j cc] v (B2 ++ (N.keys.take n).flatten)) (fun _ i _ => kn - (intOf i).toNat)
            case atStart => exact ⟨0, by omega, rfl, by simpa using HB2.out⟩
            case round =>
              obtain ⟨i, hi, rfl, hp⟩ := hrel
              have HB3 := Lib.hid hp
              have C2 := hp.box.cell 2
              have hlB : (B2 ++ (N.keys.take i).flatten).length = 4 + 80 * k + 4 * j + 40 * i := by
                rw [List.length_append, HLB2.out, rows_len (fun x hx => HR.out.ok.k x (List.mem_of_mem_take hx)), List.length_take, HR.out.kl]; omega
              have HLB3 := Lib.hid hlB
              clear hp hlB
              by_cases hit : i < kn
              · have hit' : (i : Int) < kn := by omega
                have hk1 : i < N.keys.length := by rw [HR.out.kl]; exact hit
                have i1 : N.keys[i]? = some N.keys[i] := List.getElem?_eq_getElem hk1
                have ht1 : N.keys.take (i + 1) = N.keys.take i ++ [N.keys[i]] := List.take_succ_eq_append_getElem hk1
                generalize N.keys[i] = r1 at i1 ht1
                obtain ⟨l1, z1⟩ := HR.out.ok.k r1 (List.mem_of_getElem? i1)
                obtain ⟨g0, off, hKA, hc1⟩ := (HR.out.nn HB3.out.m).k.row HR.out.ok.k i1 (by omega)
                subst hKA
                have r40 : Rd wr (some ⟨g0, off + i * 40, none⟩) 40 (bv r1) := ⟨by rw [bv_len, l1], fun _ => ⟨g0, _, rfl, hc1⟩⟩
                have HC := Lib.hid (And.intro r40 (And.intro l1 ht1))
                clear hc1 l1 ht1 i1 hk1 z1 r40
                go_wp2_with (first
                  | (with_reducible change wpList _ _ _ (⟨some 76, _, _, _, _, _⟩ :: _) _ _
                     go_must (refine wpList_append_rd 24 _ _ rfl rfl (w.heap.size + 1) 5 (.int .u8 0) 1 1 Tryz.underlying24 info_u8n rfl (by omega) _ _ _ rfl HB3.out.own _ 40 40 (bv r1) rfl HC.out.1.toC (bv_one' _) (by rw [HLB3.out]; omega) (by rw [HLB3.out]; omega) HB3.out.box.lt ?_)
                     intro v7 w7 o7 g7 q7
                     have p7 := HB3.out.app (M := r1) (by rw [HC.out.2.1]; exact o7) g7
                     have q7 : RPut w w7 #[.bool lf, .slice EA k ec, .slice (some ⟨g0, off, none⟩) kn kc, .slice CA j cc] v7 (B2 ++ (N.keys.take (i + 1)).flatten) := by
                       have e : B2 ++ (N.keys.take i).flatten ++ r1 = B2 ++ (N.keys.take (i + 1)).flatten := by
                         rw [HC.out.2.2, List.flatten_append, List.append_assoc]
                         simp
                       rw [e] at p7
                       exact p7
                     have A7 := Lib.hid q7
                     clear o7 g7 q7 p7))
                clear C2
                go_roundw
                case rel => exact ⟨i + 1, by omega, by go_num, A7.out⟩
                case measure => simp [intOf]; omega
              · have hie : i = kn := by omega
                subst hie
                have htk : N.keys.take i = N.keys := List.take_of_length_le (by rw [HR.out.kl]; omega)
                have hit' : ¬ (i : Int) < (i : Int) := by omega
                obtain ⟨B3, hB3⟩ : ∃ B3, B2 ++ (N.keys.take i).flatten = B3 := ⟨_, rfl⟩
                rw [hB3] at HB3 HLB3
                rw [htk] at hB3
                have hbody : N.body = B3 ++ List.replicate (1020 - B3.length) 0 := by
                  rw [← hB3, ← HE2.out, ← HE1.out, ← HB0.out]
                  rfl
                obtain ⟨m, hm⟩ : ∃ m, 1020 - B3.length = m := ⟨_, rfl⟩
                rw [hm] at hbody
                have hL3 := HLB3.out
                obtain ⟨ln, hln⟩ : ∃ ln, B3.length = ln := ⟨_, rfl⟩
                have hmm : (1020 : Int) - (ln : Int) = (m : Int) := by omega
                have hmw : IntKind.i64.wrap (m : Int) = (m : Int) := by rw [IntKind.wrap_i64]; omega
                have hm0 : 0 < m := by omega
                have hlm : ln + m = 1020 := by omega
                obtain ⟨VA, vc, rfl, hvc, hVA⟩ := own_form HB3.out.own
                have HF := Lib.hid (And.intro hbody hln)
                rw [hln] at HB3 ⊢
                clear hbody hB3 htk HB2 hm hL3 hln HLB3 hvc hVA
                go_wp2_with (first
                  | (with_reducible change wpList _ _ _ (⟨some 81, _, _, _, _, _⟩ :: _) _ _
                     go_must (refine wpList_append_zeros 24 3 _ _ rfl rfl (w.heap.size + 1) 5 (.int .u8 0) 1 Tryz.underlying24 Tryz.underlying3 info_u8n rfl rfl _ B3.length _ rfl HB3.out.own m rfl hm0 (by rw [HF.out.2]; omega) (by rw [HF.out.2]; omega) HB3.out.box.lt ?_)
                     intro v6 w6 o6 g6 q6
                     have p6 := HB3.out.app (M := List.replicate m 0) (by
                       rw [List.length_replicate]
                       have e : bv (List.replicate m 0) = List.replicate m (Value.int .u8 0) := by unfold bv; rw [List.map_replicate]; rfl
                       rw [e]
                       exact o6) g6
                     rw [← HF.out.1] at p6
                     have A6 := Lib.hid p6
                     clear o6 g6 q6 p6))
                obtain ⟨VB, vb, rfl, hvb, hVB⟩ := own_form A6.out.own
                have hbl := HK.out.2.2.1
                have H6 := Lib.hid (And.intro A6.out (Rd.of_own A6.out.own))
                rw [hbl] at H6 ⊢
                clear hvb hVB A6
                have HBL := Lib.hid hbl
                clear hbl
                refine (ref_sum H6.out.2 HK.out.2.2.2 (by omega)).mono ?_
                rintro r w7 ⟨rfl, rfl⟩
                rw [HSUM.out.1]
                have hSl := HSUM.out.2
                obtain ⟨S, hS⟩ : ∃ S, N.sum = S := ⟨_, rfl⟩
                rw [hS] at hSl ⊢
                have HS := Lib.hid hS
                clear hS
                go_wp2_with fail
                refine (rfour_any _ S hSl).mono ?_
                rintro r w8 ⟨rfl, r8, m8⟩
                have A8 := Lib.hid (And.intro (H6.out.1.nn m8) r8)
                clear m8 r8
                go_wp2_with (first
                  | (with_reducible change wpList _ _ _ (⟨some 86, _, _, _, _, _⟩ :: _) _ _
                     go_must (refine wpList_append_rd 24 _ _ rfl rfl (w.heap.size + 1) 5 (.int .u8 0) 1 1 Tryz.underlying24 info_u8n rfl (by omega) _ N.body.length _ rfl A8.out.1.own _ 4 4 (bv (num S 4)) rfl A8.out.2.toC (bv_one' _) (by rw [HBL.out]; omega) (by rw [HBL.out]; omega) A8.out.1.box.lt ?_)
                     intro v9 w9 o9 g9 q9
                     have p9 := A8.out.1.app (M := num S 4) (by rw [num_len]; exact o9) g9
                     have A9 := Lib.hid p9
                     clear o9 g9 q9 p9))
                go_ret2
                refine ⟨v9, rfl, ?_, A9.out.m⟩
                have o := own_base (base' := w.heap.size) A9.out.own (fun g hg => by have := own_ge A9.out.own g hg; omega)
                have e : N.body ++ num S 4 = N.bytes := by unfold Nd.bytes; rw [HS.out]
                rw [e] at o
                have e2 : N.bytes.length = 1024 := by unfold Nd.bytes; rw [List.length_append, HBL.out, num_len]
                rwa [e2] at o
end
end Go.Proofs.YtfoldjnmknaklaaGreat

/- peatbankref15.Get: bytes that are none. Printed by gen/ndrget.py. -/
namespace Go.Proofs.YtfoldjnmknaklaaGreat
open Go.RowKit

theorem isNd_first {l : List Nat} (h : isNd l) : l.getD 0 0 = 1 ∨ l.getD 0 0 = 2 := by
  have hb := h.2.2.2
  by_cases h1 : l.getD 0 0 = 1
  · exact .inl h1
  · right
    have e : (ndOf l).leaf = false := by unfold ndOf; rw [ndUp_lf]; exact decide_eq_false h1
    have e2 : (ndOf l).bytes.getD 0 0 = 2 := by
      unfold Nd.bytes Nd.body
      rw [if_neg (by rw [e]; exact Bool.false_ne_true)]
      simp
    rw [hb] at e2
    exact e2
section
variable {w w' : World} {A : Option Addr} {n c : Nat} {l : List Nat}
set_option maxRecDepth 100000 in
set_option maxHeartbeats 1600000 in
theorem rget_len (hr : Rd w A n (bv l)) (hn : n ≠ 1024) : Calls Tryz.prog 24 #[.slice A n c] w (GetP w l) := by
  have hb : ((n : Int) != 1024) = true := by simp; omega
  have HNO := Lib.hid (show ¬ isNd l from fun h => hn (by have := hr.1; rw [bv_len] at this; rw [← this]; exact h.1))
  clear hr hn
  go_enter Tryz.func24, Tryz.ntmps24
  go_wp2_with (first
  | (with_reducible change wpList _ _ _ (⟨some 2, Op.alloc _, _, _, _, _⟩ :: _) _ _
     go_must (refine wpList_alloc_var 32 rfl rfl info_node ?_)
     intro wa ba ma za
     have HA := Lib.hid (And.intro ba (And.intro ma za))
     clear ba ma za)
  | (with_reducible change wpList _ _ _ (⟨none, Op.store _ (Operand.tmp 2) _, _, _, _, _⟩ :: _) _ _
     go_must (refine wpList_store_var 32 _ _ rfl rfl w.heap.size #[.bool false, .slice none 0 0, .slice none 0 0, .slice none 0 0] _ _ rfl rfl HA.out.1 size_node rfl (nd4 _ _ _ _ _ _ _ _ _ _) ?_)
     intro wb bb mb zb
     have MB := HA.out.2.1.new_ mb (Nat.le_refl _)
     have C0 := bb.cell 0; have C1 := bb.cell 1; have C2 := bb.cell 2; have C3 := bb.cell 3
     clear bb mb zb))
  refine bodyPost_ret (v := .tuple #[.agg #[.bool false, .slice none 0 0, .slice none 0 0, .slice none 0 0], .int .i64 4]) (by simp [results, Tryz.results24, go_sem, C0, C1, C2, C3]) rfl (.inr ⟨HNO.out, rfl, MB⟩)
set_option maxRecDepth 100000 in
set_option maxHeartbeats 1600000 in
theorem rget_b0 (hr : Rd w A n (bv l)) (hn : n = 1024) (hc : n ≤ c) (hz : ∀ z ∈ l, z < 256) (hbad : l.getD 0 0 = 0) : Calls Tryz.prog 24 #[.slice A n c] w (GetP w l) := by
  have HNO := Lib.hid (show ¬ isNd l from fun h => by rcases isNd_first h with h | h <;> omega)
  obtain ⟨g, off, rfl, hcell⟩ := hr.2 (by rw [hn]; omega)
  subst hn
  obtain ⟨b0, hb0⟩ : ∃ b, l.getD 0 0 = b := ⟨_, rfl⟩
  obtain ⟨b1, hb1⟩ : ∃ b, l.getD 1 0 = b := ⟨_, rfl⟩
  have hL : l.length = 1024 := by have := hr.1; rwa [bv_len] at this
  have hg : g < w.heap.size := World.block_lt_of_cell? w _ (hcell 0 _ (List.getElem?_eq_getElem (by rw [bv_len]; omega)))
  have hat : ∀ w', Mod Nn w w' → ∀ i, i < 1024 → w'.cell? ⟨g, off + i, none⟩ = some (.int .u8 ((l.getD i 0 : Nat) : Int)) := fun w' hm i hi => by
    refine (hm.cell (p := ⟨g, off + i, none⟩) hg (fun f => f)).trans (hcell i _ ?_)
    rw [bv_at, List.getD_eq_getElem?_getD, List.getElem?_eq_getElem (by omega)]
    rfl
  have hrow : ∀ w', Mod Nn w w' → ∀ o m, o + m ≤ 1024 → ∀ j v, (bv ((l.drop o).take m))[j]? = some v → w'.cell? ⟨g, off + o + j, none⟩ = some v := fun w' hm o m hom j v hv => by
    refine (hm.cell (p := ⟨g, off + o + j, none⟩) hg (fun f => f)).trans ?_
    rw [Nat.add_assoc]
    refine hcell (o + j) v ?_
    rw [bv_at, List.getElem?_take] at hv
    split at hv
    · rw [List.getElem?_drop] at hv
      rw [bv_at]
      exact hv
    · cases hv
  have hpost : ∀ w', Mod Nn w w' → ∀ s, s ≤ 1024 → s < c → Rd w' (some ⟨g, off + s, none⟩) (1024 - s) (bv (l.drop s)) := fun w' hm s hs hsc => by
    have h := (hr.mod hm (fun _ _ f => f)).post (c := c) s hs hc
    rw [sub_at g off c s hsc] at h
    have e : (bv l).drop s = bv (l.drop s) := by unfold bv; rw [List.map_drop]
    rwa [e] at h
  have HPO := Lib.hid hpost
  clear hpost
  have h0 := fun w' hm => hat w' hm 0 (by omega)
  have h1 := fun w' hm => hat w' hm 1 (by omega)
  rw [hb0] at h0
  rw [hb1] at h1
  have hb0' : b0 < 256 := hb0 ▸ getD_lt hz 0
  have hb1' : b1 < 256 := hb1 ▸ getD_lt hz 1
  have HX := Lib.hid (And.intro h0 h1)
  have HR := Lib.hid hr
  have HAT := Lib.hid (And.intro hat (And.intro hL (And.intro hz (And.intro hb0 (And.intro hb1 hrow)))))
  clear h0 h1 hat hcell hb0 hb1 hz hr hL hrow
  rw [HAT.out.2.2.2.1] at hbad
  have c0 : w.cell? ⟨g, off, none⟩ = some (.int .u8 (b0 : Int)) := HX.out.1 w (Mod.refl _ _)
  have c1 : w.cell? ⟨g, off + 1, none⟩ = some (.int .u8 (b1 : Int)) := HX.out.2 w (Mod.refl _ _)
  have HC := Lib.hid (And.intro c0 c1)
  clear c0 c1
  have gd0 : decide ((b0 : Int) < 1) = true := by
    first | exact decide_eq_true (by omega) | (simp; omega)
  have gd1 : decide (b0 < 1) = true := by
    first | exact decide_eq_true (by omega) | (simp; omega)
  have gd2 : (b0 == 0) = true := by
    first | exact decide_eq_true (by omega) | (simp; omega)
  go_enter Tryz.func24, Tryz.ntmps24
  go_upto_region 1 with (first
  | (with_reducible change wpList _ _ _ (⟨some 2, Op.alloc _, _, _, _, _⟩ :: _) _ _
     go_must (refine wpList_alloc_var 32 rfl rfl info_node ?_)
     intro wa ba ma za
     have HA := Lib.hid (And.intro ba (And.intro ma za))
     clear ba ma za))
  have c0 := (HA.out.2.1.cell (p := ⟨g, off, none⟩) hg (fun f => f)).trans HC.out.1
  have c1 := (HA.out.2.1.cell (p := ⟨g, off + 1, none⟩) hg (fun f => f)).trans HC.out.2
  go_wp2_with (first
  | (with_reducible change wpList _ _ _ (⟨none, Op.store _ (Operand.tmp 2) _, _, _, _, _⟩ :: _) _ _
     go_must (refine wpList_store_var 32 _ _ rfl rfl w.heap.size #[.bool false, .slice none 0 0, .slice none 0 0, .slice none 0 0] _ _ rfl rfl HA.out.1 size_node rfl (nd4 _ _ _ _ _ _ _ _ _ _) ?_)
     intro wb bb mb zb
     have MB := HA.out.2.1.new_ mb (Nat.le_refl _)
     have C0 := bb.cell 0; have C1 := bb.cell 1; have C2 := bb.cell 2; have C3 := bb.cell 3
     clear bb mb zb))
  refine bodyPost_ret (v := .tuple #[.agg #[.bool false, .slice none 0 0, .slice none 0 0, .slice none 0 0], .int .i64 4]) (by simp [results, Tryz.results24, go_sem, C0, C1, C2, C3]) rfl (.inr ⟨HNO.out, rfl, MB⟩)
set_option maxRecDepth 100000 in
set_option maxHeartbeats 1600000 in
theorem rget_b2 (hr : Rd w A n (bv l)) (hn : n = 1024) (hc : n ≤ c) (hz : ∀ z ∈ l, z < 256) (hbad : 2 < l.getD 0 0) : Calls Tryz.prog 24 #[.slice A n c] w (GetP w l) := by
  have HNO := Lib.hid (show ¬ isNd l from fun h => by rcases isNd_first h with h | h <;> omega)
  obtain ⟨g, off, rfl, hcell⟩ := hr.2 (by rw [hn]; omega)
  subst hn
  obtain ⟨b0, hb0⟩ : ∃ b, l.getD 0 0 = b := ⟨_, rfl⟩
  obtain ⟨b1, hb1⟩ : ∃ b, l.getD 1 0 = b := ⟨_, rfl⟩
  have hL : l.length = 1024 := by have := hr.1; rwa [bv_len] at this
  have hg : g < w.heap.size := World.block_lt_of_cell? w _ (hcell 0 _ (List.getElem?_eq_getElem (by rw [bv_len]; omega)))
  have hat : ∀ w', Mod Nn w w' → ∀ i, i < 1024 → w'.cell? ⟨g, off + i, none⟩ = some (.int .u8 ((l.getD i 0 : Nat) : Int)) := fun w' hm i hi => by
    refine (hm.cell (p := ⟨g, off + i, none⟩) hg (fun f => f)).trans (hcell i _ ?_)
    rw [bv_at, List.getD_eq_getElem?_getD, List.getElem?_eq_getElem (by omega)]
    rfl
  have hrow : ∀ w', Mod Nn w w' → ∀ o m, o + m ≤ 1024 → ∀ j v, (bv ((l.drop o).take m))[j]? = some v → w'.cell? ⟨g, off + o + j, none⟩ = some v := fun w' hm o m hom j v hv => by
    refine (hm.cell (p := ⟨g, off + o + j, none⟩) hg (fun f => f)).trans ?_
    rw [Nat.add_assoc]
    refine hcell (o + j) v ?_
    rw [bv_at, List.getElem?_take] at hv
    split at hv
    · rw [List.getElem?_drop] at hv
      rw [bv_at]
      exact hv
    · cases hv
  have hpost : ∀ w', Mod Nn w w' → ∀ s, s ≤ 1024 → s < c → Rd w' (some ⟨g, off + s, none⟩) (1024 - s) (bv (l.drop s)) := fun w' hm s hs hsc => by
    have h := (hr.mod hm (fun _ _ f => f)).post (c := c) s hs hc
    rw [sub_at g off c s hsc] at h
    have e : (bv l).drop s = bv (l.drop s) := by unfold bv; rw [List.map_drop]
    rwa [e] at h
  have HPO := Lib.hid hpost
  clear hpost
  have h0 := fun w' hm => hat w' hm 0 (by omega)
  have h1 := fun w' hm => hat w' hm 1 (by omega)
  rw [hb0] at h0
  rw [hb1] at h1
  have hb0' : b0 < 256 := hb0 ▸ getD_lt hz 0
  have hb1' : b1 < 256 := hb1 ▸ getD_lt hz 1
  have HX := Lib.hid (And.intro h0 h1)
  have HR := Lib.hid hr
  have HAT := Lib.hid (And.intro hat (And.intro hL (And.intro hz (And.intro hb0 (And.intro hb1 hrow)))))
  clear h0 h1 hat hcell hb0 hb1 hz hr hL hrow
  rw [HAT.out.2.2.2.1] at hbad
  have c0 : w.cell? ⟨g, off, none⟩ = some (.int .u8 (b0 : Int)) := HX.out.1 w (Mod.refl _ _)
  have c1 : w.cell? ⟨g, off + 1, none⟩ = some (.int .u8 (b1 : Int)) := HX.out.2 w (Mod.refl _ _)
  have HC := Lib.hid (And.intro c0 c1)
  clear c0 c1
  have gd0 : decide ((b0 : Int) < 1) = false := by
    first | exact decide_eq_false (by omega) | (simp; omega)
  have gd1 : decide ((b0 : Int) > 2) = true := by
    first | exact decide_eq_true (by omega) | (simp; omega)
  go_enter Tryz.func24, Tryz.ntmps24
  go_upto_region 1 with (first
  | (with_reducible change wpList _ _ _ (⟨some 2, Op.alloc _, _, _, _, _⟩ :: _) _ _
     go_must (refine wpList_alloc_var 32 rfl rfl info_node ?_)
     intro wa ba ma za
     have HA := Lib.hid (And.intro ba (And.intro ma za))
     clear ba ma za))
  have c0 := (HA.out.2.1.cell (p := ⟨g, off, none⟩) hg (fun f => f)).trans HC.out.1
  have c1 := (HA.out.2.1.cell (p := ⟨g, off + 1, none⟩) hg (fun f => f)).trans HC.out.2
  go_wp2_with (first
  | (with_reducible change wpList _ _ _ (⟨none, Op.store _ (Operand.tmp 2) _, _, _, _, _⟩ :: _) _ _
     go_must (refine wpList_store_var 32 _ _ rfl rfl w.heap.size #[.bool false, .slice none 0 0, .slice none 0 0, .slice none 0 0] _ _ rfl rfl HA.out.1 size_node rfl (nd4 _ _ _ _ _ _ _ _ _ _) ?_)
     intro wb bb mb zb
     have MB := HA.out.2.1.new_ mb (Nat.le_refl _)
     have C0 := bb.cell 0; have C1 := bb.cell 1; have C2 := bb.cell 2; have C3 := bb.cell 3
     clear bb mb zb))
  refine bodyPost_ret (v := .tuple #[.agg #[.bool false, .slice none 0 0, .slice none 0 0, .slice none 0 0], .int .i64 4]) (by simp [results, Tryz.results24, go_sem, C0, C1, C2, C3]) rfl (.inr ⟨HNO.out, rfl, MB⟩)
set_option maxRecDepth 100000 in
set_option maxHeartbeats 1600000 in
theorem rget_b20 (hr : Rd w A n (bv l)) (hn : n = 1024) (hc : n ≤ c) (hz : ∀ z ∈ l, z < 256) (hbad : 1 ≤ l.getD 0 0 ∧ l.getD 0 0 ≤ 2 ∧ 20 < l.getD 1 0) : Calls Tryz.prog 24 #[.slice A n c] w (GetP w l) := by
  have HNO := Lib.hid (show ¬ isNd l from fun h => by have := h.2.1.1; omega)
  obtain ⟨g, off, rfl, hcell⟩ := hr.2 (by rw [hn]; omega)
  subst hn
  obtain ⟨b0, hb0⟩ : ∃ b, l.getD 0 0 = b := ⟨_, rfl⟩
  obtain ⟨b1, hb1⟩ : ∃ b, l.getD 1 0 = b := ⟨_, rfl⟩
  have hL : l.length = 1024 := by have := hr.1; rwa [bv_len] at this
  have hg : g < w.heap.size := World.block_lt_of_cell? w _ (hcell 0 _ (List.getElem?_eq_getElem (by rw [bv_len]; omega)))
  have hat : ∀ w', Mod Nn w w' → ∀ i, i < 1024 → w'.cell? ⟨g, off + i, none⟩ = some (.int .u8 ((l.getD i 0 : Nat) : Int)) := fun w' hm i hi => by
    refine (hm.cell (p := ⟨g, off + i, none⟩) hg (fun f => f)).trans (hcell i _ ?_)
    rw [bv_at, List.getD_eq_getElem?_getD, List.getElem?_eq_getElem (by omega)]
    rfl
  have hrow : ∀ w', Mod Nn w w' → ∀ o m, o + m ≤ 1024 → ∀ j v, (bv ((l.drop o).take m))[j]? = some v → w'.cell? ⟨g, off + o + j, none⟩ = some v := fun w' hm o m hom j v hv => by
    refine (hm.cell (p := ⟨g, off + o + j, none⟩) hg (fun f => f)).trans ?_
    rw [Nat.add_assoc]
    refine hcell (o + j) v ?_
    rw [bv_at, List.getElem?_take] at hv
    split at hv
    · rw [List.getElem?_drop] at hv
      rw [bv_at]
      exact hv
    · cases hv
  have hpost : ∀ w', Mod Nn w w' → ∀ s, s ≤ 1024 → s < c → Rd w' (some ⟨g, off + s, none⟩) (1024 - s) (bv (l.drop s)) := fun w' hm s hs hsc => by
    have h := (hr.mod hm (fun _ _ f => f)).post (c := c) s hs hc
    rw [sub_at g off c s hsc] at h
    have e : (bv l).drop s = bv (l.drop s) := by unfold bv; rw [List.map_drop]
    rwa [e] at h
  have HPO := Lib.hid hpost
  clear hpost
  have h0 := fun w' hm => hat w' hm 0 (by omega)
  have h1 := fun w' hm => hat w' hm 1 (by omega)
  rw [hb0] at h0
  rw [hb1] at h1
  have hb0' : b0 < 256 := hb0 ▸ getD_lt hz 0
  have hb1' : b1 < 256 := hb1 ▸ getD_lt hz 1
  have HX := Lib.hid (And.intro h0 h1)
  have HR := Lib.hid hr
  have HAT := Lib.hid (And.intro hat (And.intro hL (And.intro hz (And.intro hb0 (And.intro hb1 hrow)))))
  clear h0 h1 hat hcell hb0 hb1 hz hr hL hrow
  rw [HAT.out.2.2.2.1] at hbad
  rw [HAT.out.2.2.2.2.1] at hbad
  have c0 : w.cell? ⟨g, off, none⟩ = some (.int .u8 (b0 : Int)) := HX.out.1 w (Mod.refl _ _)
  have c1 : w.cell? ⟨g, off + 1, none⟩ = some (.int .u8 (b1 : Int)) := HX.out.2 w (Mod.refl _ _)
  have HC := Lib.hid (And.intro c0 c1)
  clear c0 c1
  have gd0 : decide ((b0 : Int) < 1) = false := by
    first | exact decide_eq_false (by omega) | (simp; omega)
  have gd1 : decide ((b0 : Int) > 2) = false := by
    first | exact decide_eq_false (by omega) | (simp; omega)
  have gd2 : decide ((b1 : Int) > 20) = true := by
    first | exact decide_eq_true (by omega) | (simp; omega)
  go_enter Tryz.func24, Tryz.ntmps24
  go_upto_region 1 with (first
  | (with_reducible change wpList _ _ _ (⟨some 2, Op.alloc _, _, _, _, _⟩ :: _) _ _
     go_must (refine wpList_alloc_var 32 rfl rfl info_node ?_)
     intro wa ba ma za
     have HA := Lib.hid (And.intro ba (And.intro ma za))
     clear ba ma za))
  have c0 := (HA.out.2.1.cell (p := ⟨g, off, none⟩) hg (fun f => f)).trans HC.out.1
  have c1 := (HA.out.2.1.cell (p := ⟨g, off + 1, none⟩) hg (fun f => f)).trans HC.out.2
  go_wp2_with (first
  | (with_reducible change wpList _ _ _ (⟨none, Op.store _ (Operand.tmp 2) _, _, _, _, _⟩ :: _) _ _
     go_must (refine wpList_store_var 32 _ _ rfl rfl w.heap.size #[.bool false, .slice none 0 0, .slice none 0 0, .slice none 0 0] _ _ rfl rfl HA.out.1 size_node rfl (nd4 _ _ _ _ _ _ _ _ _ _) ?_)
     intro wb bb mb zb
     have MB := HA.out.2.1.new_ mb (Nat.le_refl _)
     have C0 := bb.cell 0; have C1 := bb.cell 1; have C2 := bb.cell 2; have C3 := bb.cell 3
     clear bb mb zb))
  refine bodyPost_ret (v := .tuple #[.agg #[.bool false, .slice none 0 0, .slice none 0 0, .slice none 0 0], .int .i64 4]) (by simp [results, Tryz.results24, go_sem, C0, C1, C2, C3]) rfl (.inr ⟨HNO.out, rfl, MB⟩)
set_option maxRecDepth 100000 in
set_option maxHeartbeats 1600000 in
theorem rget_b12 (hr : Rd w A n (bv l)) (hn : n = 1024) (hc : n ≤ c) (hz : ∀ z ∈ l, z < 256) (hbad : l.getD 0 0 = 1 ∧ l.getD 1 0 ≤ 20 ∧ 12 < l.getD 1 0) : Calls Tryz.prog 24 #[.slice A n c] w (GetP w l) := by
  have HNO := Lib.hid (show ¬ isNd l from fun h => by have := h.2.1.2 hbad.1; omega)
  obtain ⟨g, off, rfl, hcell⟩ := hr.2 (by rw [hn]; omega)
  subst hn
  obtain ⟨b0, hb0⟩ : ∃ b, l.getD 0 0 = b := ⟨_, rfl⟩
  obtain ⟨b1, hb1⟩ : ∃ b, l.getD 1 0 = b := ⟨_, rfl⟩
  have hL : l.length = 1024 := by have := hr.1; rwa [bv_len] at this
  have hg : g < w.heap.size := World.block_lt_of_cell? w _ (hcell 0 _ (List.getElem?_eq_getElem (by rw [bv_len]; omega)))
  have hat : ∀ w', Mod Nn w w' → ∀ i, i < 1024 → w'.cell? ⟨g, off + i, none⟩ = some (.int .u8 ((l.getD i 0 : Nat) : Int)) := fun w' hm i hi => by
    refine (hm.cell (p := ⟨g, off + i, none⟩) hg (fun f => f)).trans (hcell i _ ?_)
    rw [bv_at, List.getD_eq_getElem?_getD, List.getElem?_eq_getElem (by omega)]
    rfl
  have hrow : ∀ w', Mod Nn w w' → ∀ o m, o + m ≤ 1024 → ∀ j v, (bv ((l.drop o).take m))[j]? = some v → w'.cell? ⟨g, off + o + j, none⟩ = some v := fun w' hm o m hom j v hv => by
    refine (hm.cell (p := ⟨g, off + o + j, none⟩) hg (fun f => f)).trans ?_
    rw [Nat.add_assoc]
    refine hcell (o + j) v ?_
    rw [bv_at, List.getElem?_take] at hv
    split at hv
    · rw [List.getElem?_drop] at hv
      rw [bv_at]
      exact hv
    · cases hv
  have hpost : ∀ w', Mod Nn w w' → ∀ s, s ≤ 1024 → s < c → Rd w' (some ⟨g, off + s, none⟩) (1024 - s) (bv (l.drop s)) := fun w' hm s hs hsc => by
    have h := (hr.mod hm (fun _ _ f => f)).post (c := c) s hs hc
    rw [sub_at g off c s hsc] at h
    have e : (bv l).drop s = bv (l.drop s) := by unfold bv; rw [List.map_drop]
    rwa [e] at h
  have HPO := Lib.hid hpost
  clear hpost
  have h0 := fun w' hm => hat w' hm 0 (by omega)
  have h1 := fun w' hm => hat w' hm 1 (by omega)
  rw [hb0] at h0
  rw [hb1] at h1
  have hb0' : b0 < 256 := hb0 ▸ getD_lt hz 0
  have hb1' : b1 < 256 := hb1 ▸ getD_lt hz 1
  have HX := Lib.hid (And.intro h0 h1)
  have HR := Lib.hid hr
  have HAT := Lib.hid (And.intro hat (And.intro hL (And.intro hz (And.intro hb0 (And.intro hb1 hrow)))))
  clear h0 h1 hat hcell hb0 hb1 hz hr hL hrow
  rw [HAT.out.2.2.2.1] at hbad
  rw [HAT.out.2.2.2.2.1] at hbad
  have c0 : w.cell? ⟨g, off, none⟩ = some (.int .u8 (b0 : Int)) := HX.out.1 w (Mod.refl _ _)
  have c1 : w.cell? ⟨g, off + 1, none⟩ = some (.int .u8 (b1 : Int)) := HX.out.2 w (Mod.refl _ _)
  have HC := Lib.hid (And.intro c0 c1)
  clear c0 c1
  have gd0 : decide ((b0 : Int) < 1) = false := by
    first | exact decide_eq_false (by omega) | (simp; omega)
  have gd1 : decide ((b0 : Int) > 2) = false := by
    first | exact decide_eq_false (by omega) | (simp; omega)
  have gd2 : decide ((b1 : Int) > 20) = false := by
    first | exact decide_eq_false (by omega) | (simp; omega)
  have gd3 : ((b0 : Int) == 1) = true := by
    first | exact decide_eq_true (by omega) | (simp; omega)
  have gd4 : decide ((b1 : Int) > 12) = true := by
    first | exact decide_eq_true (by omega) | (simp; omega)
  go_enter Tryz.func24, Tryz.ntmps24
  go_upto_region 1 with (first
  | (with_reducible change wpList _ _ _ (⟨some 2, Op.alloc _, _, _, _, _⟩ :: _) _ _
     go_must (refine wpList_alloc_var 32 rfl rfl info_node ?_)
     intro wa ba ma za
     have HA := Lib.hid (And.intro ba (And.intro ma za))
     clear ba ma za))
  have c0 := (HA.out.2.1.cell (p := ⟨g, off, none⟩) hg (fun f => f)).trans HC.out.1
  have c1 := (HA.out.2.1.cell (p := ⟨g, off + 1, none⟩) hg (fun f => f)).trans HC.out.2
  go_wp2_with (first
  | (with_reducible change wpList _ _ _ (⟨none, Op.store _ (Operand.tmp 2) _, _, _, _, _⟩ :: _) _ _
     go_must (refine wpList_store_var 32 _ _ rfl rfl w.heap.size #[.bool false, .slice none 0 0, .slice none 0 0, .slice none 0 0] _ _ rfl rfl HA.out.1 size_node rfl (nd4 _ _ _ _ _ _ _ _ _ _) ?_)
     intro wb bb mb zb
     have MB := HA.out.2.1.new_ mb (Nat.le_refl _)
     have C0 := bb.cell 0; have C1 := bb.cell 1; have C2 := bb.cell 2; have C3 := bb.cell 3
     clear bb mb zb))
  refine bodyPost_ret (v := .tuple #[.agg #[.bool false, .slice none 0 0, .slice none 0 0, .slice none 0 0], .int .i64 4]) (by simp [results, Tryz.results24, go_sem, C0, C1, C2, C3]) rfl (.inr ⟨HNO.out, rfl, MB⟩)
end
end Go.Proofs.YtfoldjnmknaklaaGreat
