/- head.Put. -/
import Derived.Test.YtodnhbiomooknaaGreatHd4
import Derived.Test.YtodnhbiomooknaaGreatFrN
namespace Go.Proofs.YtodnhbiomooknaaGreat
open Go.RowKit

theorem hflat_take (l : List Int) : ∀ k : Nat, (l.flatMap (fun n => num n.toNat 4)).take (4 * k) = (l.take k).flatMap (fun n => num n.toNat 4) := by
  induction l with
  | nil => intro k; simp
  | cons a l ih =>
    intro k
    cases k with
    | zero => simp
    | succ k =>
      rw [List.flatMap_cons, List.take_succ_cons, List.flatMap_cons, ← ih k, List.take_append, num_len, show 4 * (k + 1) - 4 = 4 * k from by omega, List.take_of_length_le (by rw [num_len]; omega)]
/-- the k-th of a head's numbers, four bytes more -/
theorem Hd.step (h : Hd) (hr : h.inner) {k : Nat} (hk : k < 8) : ∃ N : Nat, h.nums[k]? = some (N : Int) ∧ N < 4294967296 ∧ h.data.take (4 * (k + 1)) = h.data.take (4 * k) ++ num N 4 := by
  obtain ⟨x, hx⟩ : ∃ x, h.nums[k]? = some x := ⟨_, List.getElem?_eq_getElem (show k < h.nums.length from hk)⟩
  have hb := Hd.nums_le hr x (List.mem_of_getElem? hx)
  refine ⟨x.toNat, by rw [hx]; congr 1; omega, by omega, ?_⟩
  show (h.nums.flatMap (fun n => num n.toNat 4)).take (4 * (k + 1)) = (h.nums.flatMap (fun n => num n.toNat 4)).take (4 * k) ++ num x.toNat 4
  rw [hflat_take, hflat_take, List.take_add_one, hx, List.flatMap_append]
  simp
def herr (h : Hd) : Int := if h.right then 0 else 2
def hbytes (h : Hd) : List Nat := if h.right then h.fr.bytes else []
/-- what Put tells -/
def HPutP (w : World) (h : Hd) (r : Ending) (w' : World) : Prop :=
  ∃ (A' : Option Addr) (c' : Nat), r = .returned (.tuple #[.slice A' (hbytes h).length c', .int .i64 (herr h)]) ∧ w'.ownsRow w.heap.size 5 1 (.slice A' (hbytes h).length c') (hbytes h).length (bv (hbytes h)) ∧ Mod Nn w w'
theorem hput_not {w w' : World} {h : Hd} {r : Ending} (hn : ¬ h.right) (hr : r = .returned (.tuple #[.slice none 0 0, .int .i64 2])) (hm : Mod Nn w w') : HPutP w h r w' := by
  unfold HPutP
  rw [show hbytes h = [] from if_neg hn, show herr h = 2 from if_neg hn]
  exact ⟨none, 0, hr, own_nil _ _ _ _, hm⟩
/-- frame.Put of a head's frame tells what the head's Put tells -/
theorem hput_of {w w1 : World} {h : Hd} (hi : h.inner) (hm : Mod Nn w w1) {r : Ending} {w' : World} (hp : PutP w1 1 h.n 0 h.data r w') : HPutP w h r w' := by
  obtain ⟨A, c, h1, h2, h3⟩ := hp
  have hd := h.data_len
  have e1 : perr 1 h.n 0 h.data.length = herr h := by
    rw [hd]
    unfold perr herr
    by_cases hr : h.right
    · rw [if_pos hr, if_neg (by have := hr.2; omega), if_neg (by omega)]
    · rw [if_neg hr, if_pos]
      have : ¬ (0 ≤ h.n ∧ h.n ≤ 1099511627776) := fun e => hr ⟨hi, e.1, e.2⟩
      omega
  have e2 : pbytes 1 h.n 0 h.data = hbytes h := by
    unfold pbytes hbytes
    rw [e1]
    unfold herr
    by_cases hr : h.right
    · rw [if_pos hr, if_pos hr, if_pos rfl]; rfl
    · rw [if_neg hr, if_neg hr, if_neg (by decide)]
  unfold HPutP
  rw [e1, e2] at h1
  rw [e2] at h2
  exact ⟨A, c, h1, own_base h2 (fun g hg => by have := own_ge h2 g hg; have := hm.size; omega), hm.nn_ h3⟩
theorem hnum4 (N : Nat) : num N 4 = [N / 16777216 % 256, N / 65536 % 256, N / 256 % 256, N % 256] := by
  simp [num, Nat.div_div_eq_div_mul]
theorem size_sl8 : (Tryz.prog.info? 26).map (·.size) = some 1 := by kernel_rfl
theorem hC_at (h : Hd) {k N : Nat} (hk : k < 8) (hn : h.nums[k]? = some (N : Int)) : (hC h)[hpos k]? = some (.int .i64 (N : Int)) := by
  match k, hk with
  | 0, _ | 1, _ | 2, _ | 3, _ | 4, _ | 5, _ | 6, _ | 7, _ => simp [Hd.nums] at hn; simp [hC, hpos, hn]
section
variable {w : World}
set_option maxRecDepth 100000 in
set_option maxHeartbeats 6400000 in
theorem hput_any (h : Hd) (w : World) : Calls Tryz.prog 5 #[hdV h] w (HPutP w h) := by
  unfold hdV
  have m1 : Mod Nn w (w.alloc (.cells (hC h) 25)) := (Mod.refl Nn w).alloc _
  have b1 : Blk (w.alloc (.cells (hC h) 25)) w.heap.size 25 (hC h) := Blk.new _ _ _
  have H1 := Lib.hid (And.intro m1 b1)
  have HR := Lib.hid (fun w => hright_any h w)
  unfold hdV at HR
  clear m1 b1
  by_cases hi : h.inner
  case neg =>
    rw [decide_eq_false hi] at HR
    have hn : ¬ h.right := fun e => hi e.1
    have HN := Lib.hid hn
    clear hi hn
    go_enter Tryz.func5, Tryz.ntmps5
    go_wp2_with (first
      | (with_reducible change wpList _ _ _ (⟨some 7, Op.load _ _, _, _, _, _⟩ :: _) _ _
         go_must (refine wpList_load_var 25 _ rfl rfl w.heap.size (hC h) _ _ rfl H1.out.2 Tryz.underlying25 rfl size_head ?_))
      | ((with_reducible refine (HR.out _).mono ?_); rintro r w2 ⟨rfl, m2⟩
         have H2 := Lib.hid (H1.out.1.nn_ m2); clear m2))
    go_ret2
    exact hput_not HN.out rfl H2.out
  rw [decide_eq_true hi] at HR
  have HI := Lib.hid hi
  clear hi
  go_enter Tryz.func5, Tryz.ntmps5
  go_wp2_with (first
    | (with_reducible change wpList _ _ _ (⟨some 7, Op.load _ _, _, _, _, _⟩ :: _) _ _
       go_must (refine wpList_load_var 25 _ rfl rfl w.heap.size (hC h) _ _ rfl H1.out.2 Tryz.underlying25 rfl size_head ?_))
    | ((with_reducible refine (HR.out _).mono ?_); rintro r w2 ⟨rfl, m2⟩
       have C5 : w2.cell? ⟨w.heap.size, 5, none⟩ = some (.int .i64 h.n) := (H1.out.2.mod m2 (fun f => f)).cell 5
       have hw2 : w.heap.size < w2.heap.size := (H1.out.2.mod m2 (fun f => f)).lt
       have H2 := Lib.hid (And.intro (H1.out.1.nn_ m2) (H1.out.2.mod m2 (fun f => f))); clear m2)
    | (with_reducible change wpList _ _ _ (⟨some 4, Op.alloc _, _, _, _, _⟩ :: _) _ _
       go_must (refine wpList_alloc_var 45 rfl rfl info_frame ?_)
       intro w3 b3 m3 z3
       have H3 := Lib.hid (And.intro (H2.out.1.nn_ m3) (And.intro (H2.out.2.mod m3 (fun f => f)) b3))
       clear b3 m3)
    | (with_reducible change wpList _ _ _ (⟨none, Op.store _ (Operand.tmp 4) _, _, _, _, _⟩ :: _) _ _
       go_must (refine wpList_store_var 45 _ _ rfl rfl w2.heap.size #[.int .i64 1, .int .i64 h.n, .int .i64 0, .slice none 0 0] _ _ rfl rfl H3.out.2.2 size_frame rfl (one4 _ _ _ _ _ _) ?_)
       intro w4 b4 m4 z4
       have H4 := Lib.hid (And.intro (H3.out.1.new_ m4 (Nat.le_of_lt hw2)) (And.intro (H3.out.2.1.mod m4 (fun e => by have e : w.heap.size = w2.heap.size := e; omega)) b4))
       clear b4 m4 z4)
    | ((with_reducible refine (hnums_any _ _).mono ?_); rintro r w5 ⟨rfl, m5⟩
       have H5 := Lib.hid (And.intro (H4.out.1.nn_ m5) (And.intro (H4.out.2.1.mod m5 (fun f => f)) (H4.out.2.2.mod m5 (fun f => f))))
       clear m5 C5))
  generalize hfb : w2.heap.size = fb at *
  clear H4 H3 H2 hfb
  go_loopw [14] (fun i wr => ∃ k : Nat, k ≤ 8 ∧ i = .int .i64 k ∧ Mod Nn w wr ∧ Blk wr w.heap.size 25 (hC h) ∧ ∃ A c, Blk wr fb 45 #[.int .i64 1, .int .i64 h.n, .int .i64 0, .slice A (4 * k : Nat) c] ∧ wr.ownsRow w.heap.size 5 1 (.slice A (4 * k : Nat) c) (4 * k) (bv (h.data.take (4 * k))) ∧ ∀ g, Of A g → g ≠ fb ∧ g ≠ w.heap.size) (fun i _ => 8 - (intOf i).toNat)
  case atStart => exact ⟨0, by omega, rfl, H5.out.1, H5.out.2.1, none, 0, H5.out.2.2, own_nil _ _ _ _, fun g ⟨_, e, _⟩ => by cases e⟩
  case round =>
    obtain ⟨k, hk, rfl, hm, hb1, A, c, hb2, ho, hA⟩ := hrel
    have HX := Lib.hid (And.intro hm (And.intro hb1 (And.intro hb2 (And.intro ho hA))))
    clear hm hb1 hb2 ho hA
    by_cases hlt : k < 8
    · have hlt' : (k : Int) < 8 := by omega
      obtain ⟨N, hN, hN4, hst⟩ := Hd.step h HI.out hlt
      have HC := Lib.hid (And.intro (hC_at h hlt hN) hst)
      clear hN hst
      have hix := fun w' => ptr8_at w.heap.size w' k hlt
      have hS0 : (fun w' : World => w'.cell? ⟨w.heap.size, hpos k, none⟩ = some (.int .i64 (N : Int)) ∧ w'.cell? ⟨fb, 3, none⟩ = some (.slice A (4 * k : Nat) c)) wr.drew :=
        ⟨(HX.out.2.1.drew.cell (hpos k)).trans HC.out.1, HX.out.2.2.1.drew.cell 3⟩
      have HS0 := Lib.hid hS0
      clear hS0
      go_wp2_with fail
      refine wp_region_planT (fun w' => w'.cell? ⟨w.heap.size, hpos k, none⟩ = some (.int .i64 (N : Int)) ∧ w'.cell? ⟨fb, 3, none⟩ = some (.slice A (4 * k : Nat) c)) 24 [(0, 0), (1, 1), (2, 0), (3, 0), (4, 1), (5, 0), (6, 0), (7, 0), (8, 0), (9, 1), (10, 0), (11, 0), (12, 0), (13, 0), (14, 1), (15, 0), (16, 0), (17, 0), (18, 0), (19, 1), (20, 0), (21, 2), (22, 2), (23, 0), (24, 2)] (by kernel_rfl) (by kernel_rfl) HS0.out ?_
      iterate 1 (refine pt_pure rfl rfl (fun K hK => ?_); go_simp; refine hK _ ?_; clear hK K)
      refine pt_take (.slice A (4 * k : Nat) c) rfl rfl (fun w' hS => exec_load1 (P := Tryz.prog) 26 _ rfl rfl hS.2 Tryz.underlying26 rfl) (fun K hK => ?_); go_simp; refine hK _ ?_; clear hK K
      iterate 2 (refine pt_pure rfl rfl (fun K hK => ?_); go_simp; refine hK _ ?_; clear hK K)
      refine pt_take (.int .i64 (N : Int)) rfl rfl (fun w' hS => exec_load1 (P := Tryz.prog) 3 _ rfl rfl hS.1 Tryz.underlying3 rfl) (fun K hK => ?_); go_simp; refine hK _ ?_; clear hK K
      iterate 4 (refine pt_pure rfl rfl (fun K hK => ?_); go_simp; refine hK _ ?_; clear hK K)
      refine pt_take (.int .i64 (N : Int)) rfl rfl (fun w' hS => exec_load1 (P := Tryz.prog) 3 _ rfl rfl hS.1 Tryz.underlying3 rfl) (fun K hK => ?_); go_simp; refine hK _ ?_; clear hK K
      iterate 4 (refine pt_pure rfl rfl (fun K hK => ?_); go_simp; refine hK _ ?_; clear hK K)
      refine pt_take (.int .i64 (N : Int)) rfl rfl (fun w' hS => exec_load1 (P := Tryz.prog) 3 _ rfl rfl hS.1 Tryz.underlying3 rfl) (fun K hK => ?_); go_simp; refine hK _ ?_; clear hK K
      iterate 4 (refine pt_pure rfl rfl (fun K hK => ?_); go_simp; refine hK _ ?_; clear hK K)
      refine pt_take (.int .i64 (N : Int)) rfl rfl (fun w' hS => exec_load1 (P := Tryz.prog) 3 _ rfl rfl hS.1 Tryz.underlying3 rfl) (fun K hK => ?_); go_simp; refine hK _ ?_; clear hK K
      iterate 1 (refine pt_pure rfl rfl (fun K hK => ?_); go_simp; refine hK _ ?_; clear hK K)
      obtain ⟨b0, h0⟩ : ∃ b, N / 16777216 % 256 = b := ⟨_, rfl⟩
      obtain ⟨b1, h1⟩ : ∃ b, N / 65536 % 256 = b := ⟨_, rfl⟩
      obtain ⟨b2, h2⟩ : ∃ b, N / 256 % 256 = b := ⟨_, rfl⟩
      obtain ⟨b3, h3⟩ : ∃ b, N % 256 = b := ⟨_, rfl⟩
      rw [show IntKind.u8.wrap ((N : Int) / 16777216) = (b0 : Int) from by rw [IntKind.wrap_u8]; omega, show IntKind.u8.wrap ((N : Int) / 65536) = (b1 : Int) from by rw [IntKind.wrap_u8]; omega, show IntKind.u8.wrap ((N : Int) / 256) = (b2 : Int) from by rw [IntKind.wrap_u8]; omega, show IntKind.u8.wrap (N : Int) = (b3 : Int) from by rw [IntKind.wrap_u8]; omega]
      have hnum := hnum4 N
      rw [h0, h1, h2, h3] at hnum
      have HNUM := Lib.hid hnum
      clear h0 h1 h2 h3 hnum
      have mA : Mod Nn wr ((wr.alloc (.cells #[.int .u8 (b0 : Int), .int .u8 (b1 : Int), .int .u8 (b2 : Int), .int .u8 (b3 : Int)] 5)).drew) := ((Mod.refl Nn wr).alloc _).drew
      have rA : Rd ((wr.alloc (.cells #[.int .u8 (b0 : Int), .int .u8 (b1 : Int), .int .u8 (b2 : Int), .int .u8 (b3 : Int)] 5)).drew) (some ⟨wr.heap.size, 0, none⟩) 4 (bv [b0, b1, b2, b3]) := (Rd.of_blk0 (Blk.new _ _ _) rfl).drew
      have zA : ((wr.alloc (.cells #[.int .u8 (b0 : Int), .int .u8 (b1 : Int), .int .u8 (b2 : Int), .int .u8 (b3 : Int)] 5)).drew).heap.size = wr.heap.size + 1 := by simp
      have HA := Lib.hid (And.intro mA (And.intro rA zA))
      clear mA rA zA
      refine pt_mem rfl rfl (fun K hK => ?_); go_simp; refine ⟨_, _, ⟨rfl, rfl⟩, hK _ _ ?_ ?_⟩; clear hK K
      · exact fun _ => ⟨((HX.out.2.1.mod HA.out.1 (fun f => f)).cell (hpos k)).trans HC.out.1, (HX.out.2.2.1.mod HA.out.1 (fun f => f)).cell 3⟩
      have mB := HX.out.1.nn_ HA.out.1
      have HB := Lib.hid (And.intro (HX.out.2.1.mod HA.out.1 (fun f => f)) (And.intro (HX.out.2.2.1.mod HA.out.1 (fun f => f)) (And.intro (own_mod HX.out.2.2.2.1 HA.out.1 (fun _ _ f => f)) mB)))
      have hszB := mB.size
      clear mB
      generalize hwA : (wr.alloc (.cells #[.int .u8 (b0 : Int), .int .u8 (b1 : Int), .int .u8 (b2 : Int), .int .u8 (b3 : Int)] 5)).drew = wA at *
      clear hwA
      refine pt_append 26 _ _ rfl rfl rfl w.heap.size 5 (.int .u8 0) 1 1 Tryz.underlying26 info_u8 rfl (by omega) _ (4 * k) _ rfl HB.out.2.2.1 _ 4 _ (bv [b0, b1, b2, b3]) rfl HA.out.2.1.toC (bv_one _) (by omega) (by omega) hszB ?_
      intro v3 w3' o3 g3 ob3
      have mC : Mod (Of A) wA w3' := (Mod.refl (Of A) wA).grown g3 (fun g hg => .inr (own_of hg))
      have mD : Mod Nn w w3' := HB.out.2.2.2.grown g3 (fun g hg => .inl (own_ge HB.out.2.2.1 g hg))
      have bh := HB.out.1.mod mC (fun e => (HX.out.2.2.2.2 _ e).2 rfl)
      have bf := HB.out.2.1.mod mC (fun e => (HX.out.2.2.2.2 _ e).1 rfl)
      obtain ⟨A3, c3, rfl, -, hA3⟩ := own_form o3
      have hwr : fb < wr.heap.size := HX.out.2.2.1.lt
      have hne : ∀ g, Of A3 g → g ≠ fb ∧ g ≠ w.heap.size := fun g hg => by
        rcases ob3 with e | e
        · rw [of_own hg] at e; exact HX.out.2.2.2.2 g (own_of e.symm)
        · rw [of_own hg] at e; injection e with e; rw [HA.out.2.2] at e; omega
      rw [← bv_append, ← HNUM.out, ← HC.out.2] at o3
      have HD := Lib.hid (And.intro mD (And.intro bh (And.intro bf (And.intro o3 hne))))
      clear mC mD bh bf o3 g3 ob3 hne hA3
      refine ⟨fun _ => ⟨(HD.out.2.1.cell (hpos k)).trans HC.out.1, HD.out.2.2.1.cell 3⟩, fun K hK => ?_⟩; go_simp; refine hK _ ?_; clear hK K
      iterate 1 (refine pt_pure rfl rfl (fun K hK => ?_); go_simp; refine hK _ ?_; clear hK K)
      refine pt_unit rfl rfl (exec_store1 (P := Tryz.prog) (v := .slice A3 (4 * k + 4 : Nat) c3) 26 _ _ rfl rfl rfl (show _ = some (.slice A (4 * k : Nat) c) from HD.out.2.2.1.cell 3) (HD.out.2.2.1.frozen _) rfl rfl rfl size_sl8) (fun h => by simp at h) (fun K hK => ?_); go_simp; refine hK _ ?_; clear hK K
      refine pt_nil ?_
      have HE := Lib.hid (And.intro (HD.out.1.new_ (Mod.cellAt w3' fb 3 (.slice A3 (4 * k + 4 : Nat) c3)) (by omega)) (And.intro (HD.out.2.1.far (show w.heap.size ≠ fb by omega) (p := ⟨fb, 3, none⟩) (.slice A3 (4 * k + 4 : Nat) c3)) (And.intro (HD.out.2.2.1.set_ 3 (.slice A3 (4 * k + 4 : Nat) c3)) (And.intro (own_mod HD.out.2.2.2.1 (Mod.cellAt w3' fb 3 (.slice A3 (4 * k + 4 : Nat) c3)) (fun g hg => (HD.out.2.2.2.2 g (own_of hg)).1)) HD.out.2.2.2.2))))
      clear hix
      go_wp2
      exact ⟨⟨k + 1, by omega, by go_num, HE.out.1, HE.out.2.1, A3, c3, HE.out.2.2.1, HE.out.2.2.2.1, HE.out.2.2.2.2⟩, by simp [intOf]; omega⟩
    · obtain rfl : k = 8 := by omega
      have hd : h.data.take (4 * 8) = h.data := List.take_of_length_le (by rw [h.data_len]; omega)
      have ho := HX.out.2.2.2.1
      rw [hd] at ho
      have HO := Lib.hid (Rd.of_own ho)
      clear ho hd
      go_wp2_with (first
        | (with_reducible change wpList _ _ _ (⟨some 42, Op.load _ _, _, _, _, _⟩ :: _) _ _
           go_must (refine wpList_load_var 45 _ rfl rfl fb #[.int .i64 1, .int .i64 h.n, .int .i64 0, .slice A (4 * 8 : Nat) c] _ _ rfl HX.out.2.2.1 Tryz.underlying45 rfl size_frame ?_)))
      refine (fput_all (n := 32) 1 h.n 0 HO.out h.data_lt).mono ?_
      intro r w9 hp
      obtain ⟨A', c', rfl, o9, m9⟩ := hput_of HI.out HX.out.1 hp
      have H9 := Lib.hid (And.intro o9 m9)
      clear o9 m9 hp
      go_wp2
      go_ret2
      exact ⟨A', c', rfl, H9.out.1, H9.out.2⟩
end
end Go.Proofs.YtodnhbiomooknaaGreat
