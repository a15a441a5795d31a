/- peatbanklaw20.BlobBack: the walk. -/
import Derived.Test.YtgmkibckbbbhkaaBl14
namespace Go.Proofs.Ytgmkibckbbbhkaa
open Go.RowKit

set_option maxRecDepth 100000 in
set_option maxHeartbeats 12800000 in
theorem back_A2 (w : World) (x0 x1 x2 x3 bb : Int) (hbb : 0 ≤ bb ∧ bb ≤ 255) {at_ n cut r : Nat} (hat : pick x0 13 = at_) (hn : pick x1 (13 - (at_ : Int)) = n) (hcut : pick x2 ((n : Int) + 1) = cut) (hr : pick x3 15 = r)
    (h12 : at_ + n ≤ 12) (hcn : cut ≤ n) (hr14 : r ≤ 14) (c1 : (1 : Int) ≤ r) (c2 : (r : Int) ≤ n) (c3 : ((r : Int) == n) = false) :
    Calls Try.prog 17 #[.int .i64 x0, .int .i64 x1, .int .i64 x2, .int .i64 x3, .int .u8 bb] w fun e w' => e = .returned (.bool true) ∧ Mod Nn w w' := by
  have HL := Lib.hid (@back_law at_ n cut r h12 hcn (fulL (IntKind.u8.wrap (bb + 1)) 6144) (fulL (IntKind.u8.wrap (bb + 77)) (512 * n)) (fulL_len _ _) (fulL_len _ _))
  have hd1 := u8w (bb + 1)
  have hd2 := u8w (bb + 77)
  have HW := Lib.hid (fulL_len (IntKind.u8.wrap (bb + 1)) 6144)
  have HR := Lib.hid (fulL_len (IntKind.u8.wrap (bb + 77)) (512 * n))
  have HP := Lib.hid (And.intro hat (And.intro hn (And.intro hcut hr))); clear hat hn hcut hr
  go_enter Try.func17, Try.ntmps17
  go_wp2_with fail
  refine (bawake_any _).mono ?_
  rintro q w1 ⟨rfl, m1⟩
  go_wp2_with fail
  refine (pick_any x0 13 _ (by omega)).mono ?_
  rintro q _ ⟨rfl, rfl⟩
  rw [HP.out.1]
  go_wp2_with fail
  refine (pick_any x1 (13 - (at_ : Int)) _ (by omega)).mono ?_
  rintro q _ ⟨rfl, rfl⟩
  rw [HP.out.2.1]
  go_wp2_with fail
  refine (pick_any x2 ((n : Int) + 1) _ (by omega)).mono ?_
  rintro q _ ⟨rfl, rfl⟩
  rw [HP.out.2.2.1]
  go_wp2_with fail
  refine (pick_any x3 15 _ (by omega)).mono ?_
  rintro q _ ⟨rfl, rfl⟩
  rw [HP.out.2.2.2]
  clear HP
  go_wp2_with fail
  refine (new_any 12 _ (by omega) (by omega)).mono ?_
  rintro e w2 ⟨b, ms, mo, rfl, hd, m2, hfr⟩
  go_wp2_with fail
  refine (cnew_any hd 4 (by omega)).mono ?_
  rintro e w3 ⟨c, mk, rfl, hC3, m3, hc3, hmk3⟩
  have h3 : OwnC w1 w3 c b ms mo mk (Dk.new 12) 4 0 0 0 [] [] := ⟨hC3, m2.nn_ m3, fun k hk => by
    have hz := m2.size
    rcases hk with (rfl | rfl | ⟨e, he, -⟩) | hk
    · omega
    · omega
    · cases he
    · exact hfr k hk⟩
  clear hd m2 hfr hC3 m3 hc3 hmk3
  go_wp2_with fail
  refine (ful20_any (IntKind.u8.wrap (bb + 1)) 6144 _ hd1.1 hd1.2 (by omega)).mono ?_
  rintro e w4 ⟨gw, rfl, bw4, lw4, m4⟩
  generalize fulL (IntKind.u8.wrap (bb + 1)) 6144 = was at *
  obtain ⟨D1, D2, D4, hb1, hsy, hb4, hn4, hby, hrd⟩ := HL.out
  clear HL
  have rw4 : RowA w4 c b ms mo mk [] gw 6144 was := RowA.new h3 bw4 lw4 HW.out
  have h4 := h3.quiet m4
  clear bw4 h3 m4 lw4
  go_wp2_with fail
  refine (ob_writeT h4 0 (by omega) rw4 (by omega) (by omega) hb1).mono ?_
  rintro e w5 ⟨now5, l5, T5, rfl, h5, hT5, n5⟩
  have rw5 := rw4.step hT5
  have hn5 : now5 ≤ 12 := by omega
  clear h4 rw4 hT5 n5 hb1
  go_wp2_with fail
  refine (csync_any h5.at_).mono ?_
  rintro e w6 ⟨rfl, hC6, hT6⟩
  rw [hsy] at hC6 ⊢
  try simp only at hC6 ⊢
  have h6 := h5.step hC6 hT6
  have rw6 := rw5.step hT6
  clear h5 rw5 hC6 hT6 hsy
  go_wp2_with fail
  refine (arm_any h6.at_.d (r : Int) (by omega)).mono ?_
  rintro e w7 ⟨rfl, d7, m7, -⟩
  have h7 := h6.arm d7 m7
  have rw7 := rw6.arm m7
  clear h6 rw6 d7 m7
  go_wp2_with fail
  rw [show (n : Int) * 512 = ((512 * n : Nat) : Int) from by omega]
  refine (ful20_any (IntKind.u8.wrap (bb + 77)) (512 * n) _ hd2.1 hd2.2 (by omega)).mono ?_
  rintro e w8 ⟨gr, rfl, br8, lr8, m8⟩
  generalize fulL (IntKind.u8.wrap (bb + 77)) (512 * n) = row at *
  have rr8 : RowA w8 c b ms mo mk l5 gr (512 * n) row := RowA.new h7 br8 lr8 HR.out
  have h8 := h7.quiet m8
  have rw8 := rw7.quiet m8
  clear br8 h7 m8 lr8 rw7
  rw [if_pos (show 1 ≤ r ∧ r ≤ n from by omega)] at hb4
  have hdn : doneN r n = r := by unfold doneN; rw [if_pos (show 1 ≤ r ∧ r ≤ n from by omega)]
  rw [hdn] at hby
  clear hdn
  go_wp2_with fail
  refine (ob_writeT h8 at_ (by omega) rr8 (by omega) (by omega) hb4).mono ?_
  rintro e w9 ⟨now9, l9, T9, rfl, h9, hT9, n9⟩
  have rw9 := rw8.step hT9
  have rr9 := rr8.step hT9
  have hn9 : now9 ≤ 24 := by omega
  clear h8 rw8 rr8 hT9 n9 hb4 hn5 hd1 hd2
  go_wp2_with fail
  -- zzREG
  refine wp_region_planT (fun _ => True) 17 [(1, 0), (2, 0), (3, 0), (4, 1), (6, 0), (7, 0), (8, 0), (9, 1), (11, 0), (12, 0), (13, 0), (14, 0), (15, 0), (16, 1), (0, 2), (5, 2), (10, 2), (17, 2), (18, 0)] (by kernel_rfl) (by kernel_rfl) trivial ?_
  iterate 3 (refine pt_pure rfl rfl (fun K hK => ?_); go_simp; refine hK _ ?_; clear hK K)
  rw [show IntKind.i64.wrap (512 * (at_ : Int)) = ((512 * at_ : Nat) : Int) from by rw [IntKind.wrap_i64]; omega]
  refine pt_take _ rfl rfl (fun w' _ => exec_sub_h (P := Try.prog) 35 _ _ rfl 5 1 Try.underlying35 (by kernel_rfl) (A := some ⟨gw, 0, none⟩) (n := 6144) (c := 6144) (h := 512 * at_) rfl rfl (by omega)) (fun K hK => ?_); go_simp; refine hK _ ?_; clear hK K
  iterate 3 (refine pt_pure rfl rfl (fun K hK => ?_); go_simp; refine hK _ ?_; clear hK K)
  rw [show IntKind.i64.wrap (512 * (r : Int)) = ((512 * r : Nat) : Int) from by rw [IntKind.wrap_i64]; omega]
  refine pt_take _ rfl rfl (fun w' _ => exec_sub_h (P := Try.prog) 35 _ _ rfl 5 1 Try.underlying35 (by kernel_rfl) (A := some ⟨gr, 0, none⟩) (n := 512 * n) (c := 512 * n) (h := 512 * r) rfl rfl (by omega)) (fun K hK => ?_); go_simp; refine hK _ ?_; clear hK K
  iterate 5 (refine pt_pure rfl rfl (fun K hK => ?_); go_simp; refine hK _ ?_; clear hK K)
  rw [show IntKind.i64.wrap (512 * IntKind.i64.wrap ((at_ : Int) + (r : Int))) = ((512 * (at_ + r) : Nat) : Int) from by rw [IntKind.wrap_i64, IntKind.wrap_i64]; omega]
  refine pt_take _ rfl rfl (fun w' _ => exec_sub_l (P := Try.prog) 35 _ _ rfl 5 1 Try.underlying35 (by kernel_rfl) (A := some ⟨gw, 0, none⟩) (n := 6144) (c := 6144) (l := 512 * (at_ + r)) rfl rfl (by omega)) (fun K hK => ?_); go_simp; refine hK _ ?_; clear hK K
  refine pt_mem rfl rfl (fun K hK => ?_); go_simp; refine ⟨_, _, ⟨rfl, rfl⟩, hK _ _ ?_ ?_⟩; clear hK K
  · exact fun _ => trivial
  have mA : Mod Nn w9 (w9.alloc (.cells #[] 5)).drew := ((Mod.refl Nn w9).alloc _).drew
  refine pt_append 35 _ _ rfl rfl rfl w9.heap.size 5 (.int .u8 0) 1 1 Try.underlying35 info_byte rfl (by omega) _ 0 [] rfl (own_empty w9.heap.size (Nat.le_refl _)) _ (512 * at_) _ ((was.map (Value.int .u8)).take (512 * at_)) rfl ((rw9.rd.mod mA (fun _ _ f => f)).pre (c := 6144) (512 * at_) (by omega) (by omega)).toC (by rw [← List.map_take]; exact ints_oneCell _ _) (by omega) (by omega) (by simp) ?_
  intro v1 wA own1 gr1 ob1
  have mB : Mod Nn w9 wA := mA.grown gr1 (fun g h => .inl (by have h' : some w9.heap.size = some g := h; injection h' with h'; omega))
  refine ⟨fun _ => trivial, fun K hK => ?_⟩; go_simp; refine hK _ ?_; clear hK K
  refine pt_append 35 _ _ rfl rfl rfl w9.heap.size 5 (.int .u8 0) 1 1 Try.underlying35 info_byte rfl (by omega) _ (0 + 512 * at_) _ rfl own1 _ (512 * r) _ ((row.map (Value.int .u8)).take (512 * r)) rfl ((rr9.rd.mod mB (fun _ _ f => f)).pre (c := 512 * n) (512 * r) (by omega) (by omega)).toC (by rw [← List.map_take]; exact ints_oneCell _ _) (by omega) (by omega) mB.size ?_
  intro v2 wB own2 gr2 ob2
  have mC : Mod Nn w9 wB := mB.grown gr2 (fun g h => .inl (own_row_ge own1 h))
  refine ⟨fun _ => trivial, fun K hK => ?_⟩; go_simp; refine hK _ ?_; clear hK K
  refine pt_append 35 _ _ rfl rfl rfl w9.heap.size 5 (.int .u8 0) 1 1 Try.underlying35 info_byte rfl (by omega) _ (0 + 512 * at_ + 512 * r) _ rfl own2 _ (6144 - 512 * (at_ + r)) _ ((was.map (Value.int .u8)).drop (512 * (at_ + r))) rfl ((rw9.rd.mod mC (fun _ _ f => f)).post (c := 6144) (512 * (at_ + r)) (by omega) (by omega)).toC (by rw [← List.map_drop]; exact ints_oneCell _ _) (by omega) (by omega) mC.size ?_
  intro v3 wC own3 gr3 ob3
  have mD : Mod Nn w9 wC := mC.grown gr3 (fun g h => .inl (own_row_ge own2 h))
  refine ⟨fun _ => trivial, fun K hK => ?_⟩; go_simp; refine hK _ ?_; clear hK K
  iterate 1 (refine pt_pure rfl rfl (fun K hK => ?_); go_simp; refine hK _ ?_; clear hK K)
  refine pt_nil ?_
  have own4 : wC.ownsRow w9.heap.size 5 1 v3 6144 ((bytesN D4 12).map (Value.int .u8)) := by
    have e : 0 + 512 * at_ + 512 * r + (6144 - 512 * (at_ + r)) = 6144 := by omega
    rw [e] at own3
    rw [hby, List.map_append, List.map_append, List.map_take, List.map_take, List.map_drop]
    simpa using own3
  have hA := h9.quiet mD
  have rrA := rr9.quiet mD
  obtain ⟨A4, c4, rfl, rd4, -⟩ := own_rd own4
  clear own1 own2 own3 own4 gr1 gr2 gr3 ob1 ob2 ob3 mA mB mC mD h9 rw9 rr9 hby
  go_wp2_with fail
  refine (bytes_any hA.at_.d).mono ?_
  rintro q w10 ⟨v10, rfl, o10, m10⟩
  rw [hn4] at o10
  have hB := hA.quiet m10
  have rrB := rrA.quiet m10
  have rdB := rd4.mod m10 (fun _ _ f => f)
  obtain ⟨A10, c10, rfl, r10, -⟩ := own_rd o10
  clear hA rrA rd4 o10 m10 hn4
  go_wp2_with fail
  refine (same_any r10 rdB (by show 512 * 12 ≤ _; omega) (by omega)).mono ?_
  rintro q w11 ⟨rfl, m11⟩
  rw [show decide (bytesN D4 (Int.toNat 12) = bytesN D4 12) = true from by simp]
  have hC := hB.quiet m11
  have rrC := rrB.quiet m11
  clear hB rrB rdB r10 m11
  have HM := Lib.hid (m1.nn_ hC.md)
  clear hC rrC hrd
  go_wp2
  go_ret
  exact ⟨rfl, HM.out⟩
end Go.Proofs.Ytgmkibckbbbhkaa
