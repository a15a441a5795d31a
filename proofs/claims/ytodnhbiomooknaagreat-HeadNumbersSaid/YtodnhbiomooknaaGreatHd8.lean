/- peatbankref12.Put. -/
import Derived.Test.YtodnhbiomooknaaGreatHd5
import Derived.Test.YtodnhbiomooknaaGreatHd7
namespace Go.Proofs.YtodnhbiomooknaaGreat
open Go.RowKit

def nC (h : Hd) : Array Value := #[.int .i64 h.g.v, .int .i64 h.g.S, .int .i64 h.g.s, .int .i64 h.g.u, .int .i64 h.g.j, .int .i64 h.p, .int .i64 h.r, .int .i64 h.k]
theorem nC_at (h : Hd) {k N : Nat} (hk : k < 8) (hn : h.nums[k]? = some (N : Int)) : (nC h)[k]? = some (.int .i64 (N : Int)) := by
  match k, hk with
  | 0, _ | 1, _ | 2, _ | 3, _ | 4, _ | 5, _ | 6, _ | 7, _ => simp [Hd.nums] at hn; simp [nC, hn]
section
variable {w : World}
set_option maxRecDepth 100000 in
set_option maxHeartbeats 6400000 in
theorem r12put_any (h : Hd) (w : World) : Calls Tryz.prog 6 #[hdV h] w (HPutP w h) := by
  unfold hdV
  have m1 : Mod Nn w (w.alloc (.cells (hC h) 25)) := (Mod.refl Nn w).alloc _
  have b1 : Blk (w.alloc (.cells (hC h) 25)) w.heap.size 25 (hC h) := Blk.new _ _ _
  have H1 := Lib.hid (And.intro m1 b1)
  have HR := Lib.hid (fun w => r12right_any h w)
  unfold hdV at HR
  clear m1 b1
  by_cases hi : h.right
  case neg =>
    rw [decide_eq_false hi] at HR
    have HN := Lib.hid hi
    clear hi
    go_enter Tryz.func6, Tryz.ntmps6
    go_wp2_with (first
      | (with_reducible change wpList _ _ _ (⟨some 9, Op.load _ _, _, _, _, _⟩ :: _) _ _
         go_must (refine wpList_load_var 25 _ rfl rfl w.heap.size (hC h) _ _ rfl H1.out.2 Tryz.underlying25 rfl size_head ?_))
      | ((with_reducible refine (HR.out _).mono ?_); rintro r w2 ⟨rfl, m2⟩
         have H2 := Lib.hid (H1.out.1.nn_ m2); clear m2))
    go_ret2
    exact hput_not HN.out rfl H2.out
  rw [decide_eq_true hi] at HR
  have HI := Lib.hid hi
  clear hi
  go_enter Tryz.func6, Tryz.ntmps6
  go_wp2_with (first
    | (with_reducible change wpList _ _ _ (⟨some 9, Op.load _ _, _, _, _, _⟩ :: _) _ _
       go_must (refine wpList_load_var 25 _ rfl rfl w.heap.size (hC h) _ _ rfl H1.out.2 Tryz.underlying25 rfl size_head ?_))
    | ((with_reducible refine (HR.out _).mono ?_); rintro r w2 ⟨rfl, m2⟩
       have C0 : w2.cell? ⟨w.heap.size, 0, none⟩ = some (.int .i64 h.g.v) := (H1.out.2.mod m2 (fun f => f)).cell 0
       have C1 : w2.cell? ⟨w.heap.size, 1, none⟩ = some (.int .i64 h.g.S) := (H1.out.2.mod m2 (fun f => f)).cell 1
       have C2 : w2.cell? ⟨w.heap.size, 2, none⟩ = some (.int .i64 h.g.s) := (H1.out.2.mod m2 (fun f => f)).cell 2
       have C3 : w2.cell? ⟨w.heap.size, 3, none⟩ = some (.int .i64 h.g.u) := (H1.out.2.mod m2 (fun f => f)).cell 3
       have C4 : w2.cell? ⟨w.heap.size, 4, none⟩ = some (.int .i64 h.g.j) := (H1.out.2.mod m2 (fun f => f)).cell 4
       have C6 : w2.cell? ⟨w.heap.size, 6, none⟩ = some (.int .i64 h.p) := (H1.out.2.mod m2 (fun f => f)).cell 6
       have C7 : w2.cell? ⟨w.heap.size, 7, none⟩ = some (.int .i64 h.r) := (H1.out.2.mod m2 (fun f => f)).cell 7
       have C8 : w2.cell? ⟨w.heap.size, 8, none⟩ = some (.int .i64 h.k) := (H1.out.2.mod m2 (fun f => f)).cell 8
       have hw2 : w.heap.size < w2.heap.size := (H1.out.2.mod m2 (fun f => f)).lt
       have H2 := Lib.hid (And.intro (H1.out.1.nn_ m2) (H1.out.2.mod m2 (fun f => f))); clear m2))
  have m3 : Mod Nn w2 (w2.alloc (.cells (nC h) 3)) := (Mod.refl Nn w2).alloc _
  have b3 : Blk (w2.alloc (.cells (nC h) 3)) w2.heap.size 3 (nC h) := Blk.new _ _ _
  have H3 := Lib.hid (And.intro (H2.out.1.nn_ m3) (And.intro (H2.out.2.mod m3 (fun f => f)) b3))
  change Code.wp _ _ _ _ (w2.alloc (.cells (nC h) 3))
  generalize w2.alloc (.cells (nC h) 3) = w3 at *
  generalize w2.heap.size = lb at *
  clear C0 C1 C2 C3 C4 C6 C7 C8 H2 m3 b3
  go_loopw [5, 6] (fun v i wr => ∃ k : Nat, k ≤ 8 ∧ i = .int .i64 k ∧ Mod Nn w wr ∧ Blk wr w.heap.size 25 (hC h) ∧ Blk wr lb 3 (nC h) ∧ ∃ A c, v = .slice A (4 * k : Nat) c ∧ wr.ownsRow w.heap.size 5 1 (.slice A (4 * k : Nat) c) (4 * k) (bv (h.data.take (4 * k))) ∧ ∀ g, Of A g → g ≠ lb ∧ g ≠ w.heap.size) (fun _ i _ => 8 - (intOf i).toNat)
  case atStart => exact ⟨0, by omega, rfl, H3.out.1, H3.out.2.1, H3.out.2.2, none, 0, rfl, own_nil _ _ _ _, fun g ⟨_, e, _⟩ => by cases e⟩
  case round =>
    obtain ⟨k, hk, rfl, hm, hb1, hb2, A, c, rfl, ho, hA⟩ := hrel
    have HX := Lib.hid (And.intro hm (And.intro hb1 (And.intro hb2 (And.intro ho hA))))
    clear hm hb1 hb2 ho hA
    by_cases hlt : k < 8
    · have hlt' : (k : Int) < 8 := by omega
      obtain ⟨N, hN, hN4, hst⟩ := Hd.step h HI.out.1 hlt
      have HC := Lib.hid (And.intro (nC_at h hlt hN) hst)
      clear hN hst
      have hS0 : (fun w' : World => w'.cell? ⟨lb, k, none⟩ = some (.int .i64 (N : Int))) wr.drew := (HX.out.2.2.1.drew.cell k).trans HC.out.1
      have HS0 := Lib.hid hS0
      clear hS0
      go_wp2_with fail
      refine wp_region_planT (fun w' => w'.cell? ⟨lb, k, none⟩ = some (.int .i64 (N : Int))) 25 [(0, 0), (1, 0), (2, 0), (3, 0), (4, 1), (5, 0), (6, 0), (7, 0), (8, 0), (9, 0), (10, 1), (11, 0), (12, 0), (13, 0), (14, 0), (15, 0), (16, 1), (17, 0), (18, 0), (19, 0), (20, 0), (21, 0), (22, 1), (23, 0), (24, 2), (25, 2), (26, 0)] (by kernel_rfl) (by kernel_rfl) HS0.out ?_
      iterate 4 (refine pt_pure rfl rfl (fun K hK => ?_); go_simp; refine hK _ ?_; clear hK K)
      refine pt_take (.int .i64 (N : Int)) rfl rfl (fun w' hS => exec_load1 (P := Tryz.prog) 3 _ rfl rfl hS Tryz.underlying3 rfl) (fun K hK => ?_); go_simp; refine hK _ ?_; clear hK K
      iterate 5 (refine pt_pure rfl rfl (fun K hK => ?_); go_simp; refine hK _ ?_; clear hK K)
      refine pt_take (.int .i64 (N : Int)) rfl rfl (fun w' hS => exec_load1 (P := Tryz.prog) 3 _ rfl rfl hS Tryz.underlying3 rfl) (fun K hK => ?_); go_simp; refine hK _ ?_; clear hK K
      iterate 5 (refine pt_pure rfl rfl (fun K hK => ?_); go_simp; refine hK _ ?_; clear hK K)
      refine pt_take (.int .i64 (N : Int)) rfl rfl (fun w' hS => exec_load1 (P := Tryz.prog) 3 _ rfl rfl hS Tryz.underlying3 rfl) (fun K hK => ?_); go_simp; refine hK _ ?_; clear hK K
      iterate 5 (refine pt_pure rfl rfl (fun K hK => ?_); go_simp; refine hK _ ?_; clear hK K)
      refine pt_take (.int .i64 (N : Int)) rfl rfl (fun w' hS => exec_load1 (P := Tryz.prog) 3 _ rfl rfl hS Tryz.underlying3 rfl) (fun K hK => ?_); go_simp; refine hK _ ?_; clear hK K
      iterate 1 (refine pt_pure rfl rfl (fun K hK => ?_); go_simp; refine hK _ ?_; clear hK K)
      obtain ⟨b0, h0⟩ : ∃ b, N / 16777216 % 256 = b := ⟨_, rfl⟩
      obtain ⟨b1, h1⟩ : ∃ b, N / 65536 % 256 = b := ⟨_, rfl⟩
      obtain ⟨b2, h2⟩ : ∃ b, N / 256 % 256 = b := ⟨_, rfl⟩
      obtain ⟨b3, h3⟩ : ∃ b, N % 256 = b := ⟨_, rfl⟩
      rw [show IntKind.u8.wrap ((N : Int) / 16777216) = (b0 : Int) from by rw [IntKind.wrap_u8]; omega, show IntKind.u8.wrap ((N : Int) / 65536) = (b1 : Int) from by rw [IntKind.wrap_u8]; omega, show IntKind.u8.wrap ((N : Int) / 256) = (b2 : Int) from by rw [IntKind.wrap_u8]; omega, show IntKind.u8.wrap (N : Int) = (b3 : Int) from by rw [IntKind.wrap_u8]; omega]
      have hnum := hnum4 N
      rw [h0, h1, h2, h3] at hnum
      have HNUM := Lib.hid hnum
      clear h0 h1 h2 h3 hnum
      have mA : Mod Nn wr (wr.alloc (.cells #[.int .u8 (b0 : Int), .int .u8 (b1 : Int), .int .u8 (b2 : Int), .int .u8 (b3 : Int)] 5)).drew := ((Mod.refl Nn wr).alloc _).drew
      have rA : Rd (wr.alloc (.cells #[.int .u8 (b0 : Int), .int .u8 (b1 : Int), .int .u8 (b2 : Int), .int .u8 (b3 : Int)] 5)).drew (some ⟨wr.heap.size, 0, none⟩) 4 (bv [b0, b1, b2, b3]) := (Rd.of_blk0 (Blk.new _ _ _) rfl).drew
      have zA : (wr.alloc (.cells #[.int .u8 (b0 : Int), .int .u8 (b1 : Int), .int .u8 (b2 : Int), .int .u8 (b3 : Int)] 5)).drew.heap.size = wr.heap.size + 1 := by simp
      have HA := Lib.hid (And.intro mA (And.intro rA zA))
      clear mA rA zA
      refine pt_mem rfl rfl (fun K hK => ?_); go_simp; refine ⟨_, _, ⟨rfl, rfl⟩, hK _ _ ?_ ?_⟩; clear hK K
      · exact fun _ => ((HX.out.2.2.1.mod HA.out.1 (fun f => f)).cell k).trans HC.out.1
      have mB := HX.out.1.nn_ HA.out.1
      have HB := Lib.hid (And.intro (HX.out.2.1.mod HA.out.1 (fun f => f)) (And.intro (HX.out.2.2.1.mod HA.out.1 (fun f => f)) (And.intro (own_mod HX.out.2.2.2.1 HA.out.1 (fun _ _ f => f)) mB)))
      have hszB := mB.size
      clear mB
      generalize hwA : (wr.alloc (.cells #[.int .u8 (b0 : Int), .int .u8 (b1 : Int), .int .u8 (b2 : Int), .int .u8 (b3 : Int)] 5)).drew = wA at *
      clear hwA
      refine pt_append 26 _ _ rfl rfl rfl w.heap.size 5 (.int .u8 0) 1 1 Tryz.underlying26 info_u8 rfl (by omega) _ (4 * k) _ rfl HB.out.2.2.1 _ 4 _ (bv [b0, b1, b2, b3]) rfl HA.out.2.1.toC (bv_one _) (by omega) (by omega) hszB ?_
      intro v3 w3' o3 g3 ob3
      have mC : Mod (Of A) wA w3' := (Mod.refl (Of A) wA).grown g3 (fun g hg => .inr (own_of hg))
      have mD : Mod Nn w w3' := HB.out.2.2.2.grown g3 (fun g hg => .inl (own_ge HB.out.2.2.1 g hg))
      have bh := HB.out.1.mod mC (fun e => (HX.out.2.2.2.2 _ e).2 rfl)
      have bf := HB.out.2.1.mod mC (fun e => (HX.out.2.2.2.2 _ e).1 rfl)
      obtain ⟨A3, c3, rfl, -, hA3⟩ := own_form o3
      have hwr : lb < wr.heap.size := HX.out.2.2.1.lt
      have hwr2 : w.heap.size < wr.heap.size := HX.out.2.1.lt
      have hne : ∀ g, Of A3 g → g ≠ lb ∧ g ≠ w.heap.size := fun g hg => by
        rcases ob3 with e | e
        · rw [of_own hg] at e; exact HX.out.2.2.2.2 g (own_of e.symm)
        · rw [of_own hg] at e; injection e with e; rw [HA.out.2.2] at e; omega
      rw [← bv_append, ← HNUM.out, ← HC.out.2] at o3
      have HD := Lib.hid (And.intro mD (And.intro bh (And.intro bf (And.intro o3 hne))))
      clear mC mD bh bf o3 g3 ob3 hne hA3
      refine ⟨fun h => by simp at h, fun K hK => ?_⟩; go_simp; refine hK _ ?_; clear hK K
      iterate 1 (refine pt_pure rfl rfl (fun K hK => ?_); go_simp; refine hK _ ?_; clear hK K)
      refine pt_nil ?_
      go_wp2
      exact ⟨⟨k + 1, by omega, by go_num, HD.out.1, HD.out.2.1, HD.out.2.2.1, A3, c3, rfl, HD.out.2.2.2.1, HD.out.2.2.2.2⟩, by simp [intOf]; omega⟩
    · obtain rfl : k = 8 := by omega
      have hd : h.data.take (4 * 8) = h.data := List.take_of_length_le (by rw [h.data_len]; omega)
      have ho := HX.out.2.2.2.1
      rw [hd] at ho
      have HO := Lib.hid (Rd.of_own ho)
      have C5 : wr.cell? ⟨w.heap.size, 5, none⟩ = some (.int .i64 h.n) := HX.out.2.1.cell 5
      clear ho hd
      go_wp2_with fail
      refine (rput_all (n := 32) 1 h.n 0 HO.out h.data_lt).mono ?_
      intro r w9 hp
      obtain ⟨A', c', rfl, o9, m9⟩ := hput_of HI.out.1 HX.out.1 hp
      have H9 := Lib.hid (And.intro o9 m9)
      have he : herr h = 0 := if_pos HI.out
      have HE := Lib.hid he
      clear o9 m9 hp he C5
      go_wp2
      go_ret2
      exact ⟨A', c', by rw [HE.out]; rfl, H9.out.1, H9.out.2⟩
end
end Go.Proofs.YtodnhbiomooknaaGreat
