/- peatbanklaw12.HeadNumbers: the walk (printed by wip/gen/hdnum.py). -/
import Derived.Test.YtodnhbiomooknaaGreatHd21
namespace Go.Proofs.YtodnhbiomooknaaGreat
open Go.RowKit

def nuL : List Int := [-9223372036854775808, -1, 0, 1, 2, 7, 8, 16, 18, 36, 64, 65, 256, 257, 1024, 1025, 4096, 4104, 262144, 1073741824, 1073741825, 4294967296, 1099511627776, 1099511627777, 9223372036854775807]
structure Num (w : World) (gn gl gb : Nat) : Prop where
  n : Blk w gn 3 (nuL.map (Value.int .i64)).toArray
  l : ∀ q, q < 2 → ∀ j v, (hC (twoHd q)).toList[j]? = some v → w.cell? ⟨gl, q * 9 + j, none⟩ = some v
  ll : gl < w.heap.size
  b : Rd w (some ⟨gb, 0, none⟩) 512 (bv smb)
theorem Num.nn {w w' : World} {gn gl gb : Nat} (h : Num w gn gl gb) (m : Mod Nn w w') : Num w' gn gl gb :=
  ⟨h.n.mod m (fun f => f), fun q hq j v hv => (m.cell (p := ⟨gl, _, none⟩) h.ll (fun f => f)).trans (h.l q hq j v hv), by have := h.ll; have := m.size; omega, h.b.mod m (fun _ _ f => f)⟩
theorem two_cells {w : World} {gl : Nat} (h : Blk w gl 25 #[.int .i64 sm.g.v, .int .i64 sm.g.S, .int .i64 sm.g.s, .int .i64 sm.g.u, .int .i64 sm.g.j, .int .i64 sm.n, .int .i64 sm.p, .int .i64 sm.r, .int .i64 sm.k, .int .i64 wideHd.g.v, .int .i64 wideHd.g.S, .int .i64 wideHd.g.s, .int .i64 wideHd.g.u, .int .i64 wideHd.g.j, .int .i64 wideHd.n, .int .i64 wideHd.p, .int .i64 wideHd.r, .int .i64 wideHd.k]) : ∀ q, q < 2 → ∀ j v, (hC (twoHd q)).toList[j]? = some v → w.cell? ⟨gl, q * 9 + j, none⟩ = some v := fun q hq j v hv => by
  rw [h.cell]
  obtain rfl | rfl : q = 0 ∨ q = 1 := by omega
  · match j, hv with
    | 0, hv | 1, hv | 2, hv | 3, hv | 4, hv | 5, hv | 6, hv | 7, hv | 8, hv => exact hv
    | j + 9, hv => cases hv
  · match j, hv with
    | 0, hv | 1, hv | 2, hv | 3, hv | 4, hv | 5, hv | 6, hv | 7, hv | 8, hv => exact hv
    | j + 9, hv => cases hv
/-- a row that may be read -/
def RowOk (w : World) (A : Option Addr) (n c : Nat) (L : List Nat) : Prop := Rd w A n (bv L) ∧ n ≤ c ∧ c ≤ maxLen
theorem own_row_ok {w : World} {base n c : Nat} {A : Option Addr} {e : TypeId} {L : List Nat} (h : w.ownsRow base e 1 (.slice A n c) n (bv L)) : RowOk w A n c L := ⟨Rd.of_own h, own_max h⟩
def OddP (w : World) (g : Nat) : Prop := g < w.heap.size ∧ ∀ q, q < 8 → ∃ A n c L, w.cell? ⟨g, q, none⟩ = some (.slice A n c) ∧ Rd w A n (bv L) ∧ L ∈ odds ∧ n ≤ 1024 ∧ n ≤ c ∧ c ≤ maxLen
theorem OddP.nn {w w' : World} {g : Nat} (h : OddP w g) (m : Mod Nn w w') : OddP w' g := ⟨by have := h.1; have := m.size; omega, fun q hq => by
  obtain ⟨A, n, c, L, h1, h2, h3, h4, h5, h6⟩ := h.2 q hq
  exact ⟨A, n, c, L, (m.cell (p := ⟨g, q, none⟩) h.1 (fun f => f)).trans h1, h2.mod m (fun _ _ f => f), h3, h4, h5, h6⟩⟩
theorem odds_le : ∀ L ∈ odds, L.length ≤ 1024 := fun L hL => by
  have h : L.length ∈ odds.map List.length := List.mem_map_of_mem hL
  rw [odds_len] at h
  simp only [List.mem_cons, List.not_mem_nil, or_false] at h
  omega
theorem odd_new {w : World} {A0 A1 A2 A3 A4 A5 A6 A7 : Option Addr} {n0 n1 n2 n3 n4 n5 n6 n7 c0 c1 c2 c3 c4 c5 c6 c7 : Nat} (h0 : RowOk w A0 n0 c0 (pbytes 2 7 0 smd)) (h1 : RowOk w A1 n1 c1 (pbytes 1 7 1 smd)) (h2 : RowOk w A2 n2 c2 (pbytes 1 7 0 (smd.take 28))) (h3 : RowOk w A3 n3 c3 (pbytes 1 7 0 (smd ++ [0, 0, 0, 1])))
    (h4 : RowOk w A4 n4 c4 (pbytes 1 7 0 (List.replicate 32 0))) (h5 : RowOk w A5 n5 c5 (smb.take 511)) (h6 : RowOk w A6 n6 c6 (smb ++ [0])) (h7 : RowOk w A7 n7 c7 (smb ++ smb)) {t : TypeId} :
    OddP (w.alloc (.cells #[.slice A0 n0 c0, .slice A1 n1 c1, .slice A2 n2 c2, .slice A3 n3 c3, .slice A4 n4 c4, .slice A5 n5 c5, .slice A6 n6 c6, .slice A7 n7 c7] t)) w.heap.size := by
  have b := Blk.new w t #[.slice A0 n0 c0, .slice A1 n1 c1, .slice A2 n2 c2, .slice A3 n3 c3, .slice A4 n4 c4, .slice A5 n5 c5, .slice A6 n6 c6, .slice A7 n7 c7]
  have m : Mod Nn w (w.alloc (.cells #[.slice A0 n0 c0, .slice A1 n1 c1, .slice A2 n2 c2, .slice A3 n3 c3, .slice A4 n4 c4, .slice A5 n5 c5, .slice A6 n6 c6, .slice A7 n7 c7] t)) := (Mod.refl Nn w).alloc _
  have key : ∀ (A : Option Addr) (n c : Nat) (L : List Nat) (q : Nat), RowOk w A n c L → L ∈ odds → (#[.slice A0 n0 c0, .slice A1 n1 c1, .slice A2 n2 c2, .slice A3 n3 c3, .slice A4 n4 c4, .slice A5 n5 c5, .slice A6 n6 c6, .slice A7 n7 c7] : Array Value)[q]? = some (.slice A n c) → ∃ A n c L, (w.alloc (.cells #[.slice A0 n0 c0, .slice A1 n1 c1, .slice A2 n2 c2, .slice A3 n3 c3, .slice A4 n4 c4, .slice A5 n5 c5, .slice A6 n6 c6, .slice A7 n7 c7] t)).cell? ⟨w.heap.size, q, none⟩ = some (.slice A n c) ∧ Rd (w.alloc (.cells #[.slice A0 n0 c0, .slice A1 n1 c1, .slice A2 n2 c2, .slice A3 n3 c3, .slice A4 n4 c4, .slice A5 n5 c5, .slice A6 n6 c6, .slice A7 n7 c7] t)) A n (bv L) ∧ L ∈ odds ∧ n ≤ 1024 ∧ n ≤ c ∧ c ≤ maxLen := fun A n c L q h hL hq =>
    ⟨A, n, c, L, (b.cell q).trans hq, h.1.mod m (fun _ _ f => f), hL, by have h1 := h.1.1; rw [bv_len] at h1; have := odds_le L hL; omega, h.2⟩
  refine ⟨b.lt, fun q hq => ?_⟩
  obtain rfl | rfl | rfl | rfl | rfl | rfl | rfl | rfl : q = 0 ∨ q = 1 ∨ q = 2 ∨ q = 3 ∨ q = 4 ∨ q = 5 ∨ q = 6 ∨ q = 7 := by omega
  · exact key _ _ _ _ 0 h0 (by simp [odds]) rfl
  · exact key _ _ _ _ 1 h1 (by simp [odds]) rfl
  · exact key _ _ _ _ 2 h2 (by simp [odds]) rfl
  · exact key _ _ _ _ 3 h3 (by simp [odds]) rfl
  · exact key _ _ _ _ 4 h4 (by simp [odds]) rfl
  · exact key _ _ _ _ 5 h5 (by simp [odds]) rfl
  · exact key _ _ _ _ 6 h6 (by simp [odds]) rfl
  · exact key _ _ _ _ 7 h7 (by simp [odds]) rfl
theorem nuL_at {k : Nat} (hk : k < 25) : ∃ z, nuL[k]? = some z := ⟨_, List.getElem?_eq_getElem (show k < nuL.length from hk)⟩
set_option maxRecDepth 100000 in
set_option maxHeartbeats 102400000 in
theorem hnumbers_any (w : World) : Calls Tryz.prog 4 #[] w fun r w' => r = .returned (.bool true) ∧ Mod Nn w w' := by
  have mN : Mod Nn w (w.alloc (.cells #[.int .i64 (-9223372036854775808), .int .i64 (-1), .int .i64 0, .int .i64 1, .int .i64 2, .int .i64 7, .int .i64 8, .int .i64 16, .int .i64 18, .int .i64 36, .int .i64 64, .int .i64 65, .int .i64 256, .int .i64 257, .int .i64 1024, .int .i64 1025, .int .i64 4096, .int .i64 4104, .int .i64 262144, .int .i64 1073741824, .int .i64 1073741825, .int .i64 4294967296, .int .i64 1099511627776, .int .i64 1099511627777, .int .i64 9223372036854775807] 3)) := (Mod.refl Nn w).alloc _
  have bN : Blk (w.alloc (.cells #[.int .i64 (-9223372036854775808), .int .i64 (-1), .int .i64 0, .int .i64 1, .int .i64 2, .int .i64 7, .int .i64 8, .int .i64 16, .int .i64 18, .int .i64 36, .int .i64 64, .int .i64 65, .int .i64 256, .int .i64 257, .int .i64 1024, .int .i64 1025, .int .i64 4096, .int .i64 4104, .int .i64 262144, .int .i64 1073741824, .int .i64 1073741825, .int .i64 4294967296, .int .i64 1099511627776, .int .i64 1099511627777, .int .i64 9223372036854775807] 3)) w.heap.size 3 (nuL.map (Value.int .i64)).toArray := Blk.new _ _ _
  have HN := Lib.hid (And.intro mN bN)
  clear mN bN
  go_enter Tryz.func4, Tryz.ntmps4
  go_wp2_with fail
  refine (small_any _).mono ?_
  rintro r w1 ⟨rfl, m1⟩
  have H1 := Lib.hid (And.intro (HN.out.1.nn_ m1) (HN.out.2.mod m1 (fun f => f)))
  have hlt : w.heap.size < w1.heap.size := H1.out.2.lt
  have hne : w.heap.size ≠ w1.heap.size := by omega
  clear m1 HN
  -- zzA
  go_wp2_with (first
    | (with_reducible change wpList _ _ _ (⟨some 2, Op.alloc _, _, _, _, _⟩ :: _) _ _
       go_must (refine wpList_alloc_var 25 rfl rfl zero_head ?_)
       intro w2 b2 m2 z2
       clear z2
       have H2 := Lib.hid (And.intro m2 b2)
       clear m2 b2)
    | (with_reducible change wpList _ _ _ (⟨none, Op.store _ (Operand.tmp 2) _, _, _, _, _⟩ :: _) _ _
       go_must (refine wpList_store_var 25 _ _ rfl rfl w1.heap.size (hC sm) _ _ rfl rfl H2.out.2 size_head rfl (hC_one _) ?_)
       intro w3 b3 m3 z3
       clear z3
       have mm := H2.out.1.new_ m3 (Nat.le_refl _)
       have H3 := Lib.hid (And.intro (H1.out.1.nn_ mm) (And.intro (H1.out.2.mod mm (fun f => f)) b3))
       clear b3 m3 mm H2 H1)
    | (with_reducible change wpList _ _ _ (⟨none, Op.store _ (Operand.tmp 23) _, _, _, _, _⟩ :: _) _ _
       go_must (refine wpList_unit rfl (exec_store1 (P := Tryz.prog) (ad := ⟨w1.heap.size, 6, none⟩) (v := .int .i64 38) (u := .int .i64 1) 3 _ _ rfl rfl rfl (H3.out.2.2.cell 6) (H3.out.2.2.frozen 6) rfl rfl rfl size_int) ?_)
       have b4 := H3.out.2.2.set_ 6 (.int .i64 38)
       have m4 := Mod.cellAt w3 w1.heap.size 6 (.int .i64 38)
       obtain ⟨w4, hw4⟩ : ∃ w4, w3.setCell ⟨w1.heap.size, 6, none⟩ (.int .i64 38) = w4 := ⟨_, rfl⟩
       rw [hw4] at b4 m4 ⊢
       have H4 := Lib.hid (And.intro (H3.out.1.new_ m4 (Nat.le_of_lt hlt)) (And.intro (H3.out.2.1.mod m4 hne) b4))
       clear b4 m4 hw4)
    | (with_reducible change wpList _ _ _ (⟨none, Op.store _ (Operand.tmp 24) _, _, _, _, _⟩ :: _) _ _
       go_must (refine wpList_unit rfl (exec_store1 (P := Tryz.prog) (ad := ⟨w1.heap.size, 7, none⟩) (v := .int .i64 37) (u := .int .i64 0) 3 _ _ rfl rfl rfl (H4.out.2.2.cell 7) (H4.out.2.2.frozen 7) rfl rfl rfl size_int) ?_)
       have b5 := H4.out.2.2.set_ 7 (.int .i64 37)
       have m5 := Mod.cellAt w4 w1.heap.size 7 (.int .i64 37)
       obtain ⟨w5, hw5⟩ : ∃ w5, w4.setCell ⟨w1.heap.size, 7, none⟩ (.int .i64 37) = w5 := ⟨_, rfl⟩
       rw [hw5] at b5 m5 ⊢
       have H5 := Lib.hid (And.intro (H4.out.1.new_ m5 (Nat.le_of_lt hlt)) (And.intro (H4.out.2.1.mod m5 hne) (show Blk w5 w1.heap.size 25 (hC wideHd) from b5)))
       clear b5 m5 hw5))
  -- zzR4
  refine wp_region_planC (fun w' => Blk w' w1.heap.size 25 (hC wideHd)) [(1, true), (0, false), (2, false), (3, true)] (by kernel_rfl) (by kernel_rfl) H5.out.2.2.drew ?_
  refine pc_take (.agg (hC wideHd)) rfl rfl (fun w' hS => exec_load_row (P := Tryz.prog) 25 _ rfl rfl hS Tryz.underlying25 rfl size_head) (fun K hK => ?_); go_simp; refine hK _ ?_; clear hK K
  refine pc_call rfl rfl (fun K hK => ?_); go_simp; refine ⟨_, _, ⟨rfl, rfl⟩, hK _ _ _ ?_⟩; clear hK K
  refine (small_any _).mono ?_
  rintro r w6 ⟨rfl, m6⟩
  have H6 := Lib.hid (And.intro (H5.out.1.drew.nn_ m6) (And.intro (H5.out.2.1.drew.mod m6 (fun f => f)) (H5.out.2.2.drew.mod m6 (fun f => f))))
  clear m6 H5
  refine ⟨_, rfl, H6.out.2.2, ?_⟩
  refine pc_val rfl rfl (exec_bheads rfl sm wideHd rfl rfl) (H6.out.2.2.alloc _) (fun K hK => ?_); go_simp; refine hK _ ?_; clear hK K
  iterate 1 (refine pc_pure rfl rfl (fun K hK => ?_); go_simp; refine hK _ ?_; clear hK K)
  refine pc_nil ?_
  have b7 : Blk (w6.alloc (.cells #[.int .i64 sm.g.v, .int .i64 sm.g.S, .int .i64 sm.g.s, .int .i64 sm.g.u, .int .i64 sm.g.j, .int .i64 sm.n, .int .i64 sm.p, .int .i64 sm.r, .int .i64 sm.k, .int .i64 wideHd.g.v, .int .i64 wideHd.g.S, .int .i64 wideHd.g.s, .int .i64 wideHd.g.u, .int .i64 wideHd.g.j, .int .i64 wideHd.n, .int .i64 wideHd.p, .int .i64 wideHd.r, .int .i64 wideHd.k] 25)) w6.heap.size 25 #[.int .i64 sm.g.v, .int .i64 sm.g.S, .int .i64 sm.g.s, .int .i64 sm.g.u, .int .i64 sm.g.j, .int .i64 sm.n, .int .i64 sm.p, .int .i64 sm.r, .int .i64 sm.k, .int .i64 wideHd.g.v, .int .i64 wideHd.g.S, .int .i64 wideHd.g.s, .int .i64 wideHd.g.u, .int .i64 wideHd.g.j, .int .i64 wideHd.n, .int .i64 wideHd.p, .int .i64 wideHd.r, .int .i64 wideHd.k] := Blk.new _ _ _
  have m7 : Mod Nn w6 (w6.alloc (.cells #[.int .i64 sm.g.v, .int .i64 sm.g.S, .int .i64 sm.g.s, .int .i64 sm.g.u, .int .i64 sm.g.j, .int .i64 sm.n, .int .i64 sm.p, .int .i64 sm.r, .int .i64 sm.k, .int .i64 wideHd.g.v, .int .i64 wideHd.g.S, .int .i64 wideHd.g.s, .int .i64 wideHd.g.u, .int .i64 wideHd.g.j, .int .i64 wideHd.n, .int .i64 wideHd.p, .int .i64 wideHd.r, .int .i64 wideHd.k] 25)) := (Mod.refl Nn w6).alloc _
  have H7 := Lib.hid (And.intro (H6.out.1.nn_ m7) (And.intro (H6.out.2.1.mod m7 (fun f => f)) (And.intro (two_cells b7) b7.lt)))
  clear b7 m7 H6 hlt hne
  -- zzR5
  go_wp2_with fail
  refine (small_any _).mono ?_
  rintro r w8 ⟨rfl, m8⟩
  go_wp2_with fail
  refine (r12put_sm _).mono ?_
  rintro r w9 ⟨gb, cb, rfl, r9, hcb, hcbm, hgb, m9⟩
  have m89 := m8.nn_ m9
  have num : Num w9 w.heap.size w6.heap.size gb := ⟨H7.out.2.1.mod m89 (fun f => f), fun q hq j v hv => (m89.cell (p := ⟨w6.heap.size, _, none⟩) H7.out.2.2.2 (fun f => f)).trans (H7.out.2.2.1 q hq j v hv), by have := H7.out.2.2.2; have := m89.size; omega, r9⟩
  have HU := Lib.hid (And.intro (H7.out.1.nn_ m89) num)
  have HCB := Lib.hid (And.intro hcb hcbm)
  clear m8 m9 m89 r9 hcbm H7 num
  generalize w6.heap.size = gl at *
  generalize hgn : w.heap.size = gn at *
  -- zzLOOPS
  go_wp2
  go_loopw [6] (fun i wr => ∃ q : Nat, q ≤ 2 ∧ i = .int .i64 q ∧ Mod Nn w9 wr) (fun i _ => 2 - (intOf i).toNat)
  case atStart => exact ⟨0, by omega, rfl, Mod.refl _ _⟩
  case round =>
    obtain ⟨i, hi, rfl, hmi⟩ := hrel
    obtain ⟨wi, rfl⟩ : ∃ wo : World, wo = wr := ⟨_, rfl⟩
    by_cases hil : i < 2
    · have hil' : (i : Int) < 2 := by omega
      go_wp2
      go_loopw [7] (fun n wr => ∃ q : Nat, q ≤ 9 ∧ n = .int .i64 q ∧ Mod Nn wi wr) (fun n _ => 9 - (intOf n).toNat)
      case atStart => exact ⟨0, by omega, rfl, Mod.refl _ _⟩
      case round =>
        obtain ⟨n, hn, rfl, hmn⟩ := hrel
        obtain ⟨wn, rfl⟩ : ∃ wo : World, wo = wr := ⟨_, rfl⟩
        by_cases hnl : n < 9
        · have hnl' : (n : Int) < 9 := by omega
          go_wp2
          go_loopw [8] (fun k wr => ∃ q : Nat, q ≤ 25 ∧ k = .int .i64 q ∧ Mod Nn wn wr) (fun k _ => 25 - (intOf k).toNat)
          case atStart => exact ⟨0, by omega, rfl, Mod.refl _ _⟩
          case round =>
            obtain ⟨k, hk, rfl, hmk⟩ := hrel
            obtain ⟨wk, rfl⟩ : ∃ wo : World, wo = wr := ⟨_, rfl⟩
            by_cases hkl : k < 25
            · have hkl' : (k : Int) < 25 := by omega
              obtain ⟨z, hz⟩ := nuL_at hkl
              have M1 := hmi.nn_ (hmn.nn_ hmk)
              have HK := Lib.hid (And.intro (HU.out.2.nn M1) (And.intro hz (And.intro hmk (And.intro M1 (And.intro hil (And.intro hnl hkl))))))
              clear M1 hz hmk
              go_wp2_with fail
              -- zzR15
              refine wp_region_kinds [.val (.slice (some ⟨gl, 0, none⟩) 2 2), .val (.int .i64 i), .val (.pointer (some ⟨gl, 0 + i * 9, none⟩)), .val (.agg (hC (twoHd i))), .val (.int .i64 n), .val (.slice (some ⟨gn, 0, none⟩) 25 25), .val (.int .i64 k), .val (.pointer (some ⟨gn, 0 + k * 1, none⟩)), .val (.int .i64 z), .any (fun v => ∃ x, v = .agg (hC x)), .blk 25 #[.int .i64 0, .int .i64 0, .int .i64 0, .int .i64 0, .int .i64 0, .int .i64 0, .int .i64 0, .int .i64 0, .int .i64 0]] (fun _ => none) 11 [(11, false)] (by kernel_rfl) (by kernel_rfl) rfl (by kernel_rfl) (fun q o hq ho b w1 E => ?_) (fun vs w' hm hR => ?_)
              · have NU := HK.out.1.nn E.mod
                obtain rfl | rfl | rfl | rfl | rfl | rfl | rfl | rfl | rfl | rfl | rfl : q = 0 ∨ q = 1 ∨ q = 2 ∨ q = 3 ∨ q = 4 ∨ q = 5 ∨ q = 6 ∨ q = 7 ∨ q = 8 ∨ q = 9 ∨ q = 10 := by omega
                all_goals (injection ho with ho; subst ho)
                · exact ks_val rfl (exec_move (.tmp 3) rfl (E.kept (by kernel_rfl) (by kernel_rfl))) rfl
                · exact ks_val rfl (exec_move (.tmp 6) rfl (E.kept (by kernel_rfl) (by kernel_rfl))) rfl
                · exact ks_val rfl (exec_elem 37 (.tmp 49) (.tmp 50) rfl 25 9 Tryz.underlying37 size_head (E.new (j := 0) (by omega) (by kernel_rfl) (by kernel_rfl)) (E.new (j := 1) (by omega) (by kernel_rfl) (by kernel_rfl)) HK.out.2.2.2.2.1) rfl
                · exact ks_val rfl (exec_load_cells (cs := (hC (twoHd i)).toList) 25 (.tmp 51) rfl (E.new (j := 2) (by omega) (by kernel_rfl) (by kernel_rfl)) (fun j v hv => by rw [Nat.zero_add]; exact NU.l i HK.out.2.2.2.2.1 j v hv) Tryz.underlying25 rfl size_head) (by rw [Array.toArray_toList])
                · exact ks_val rfl (exec_move (.tmp 7) rfl (E.kept (by kernel_rfl) (by kernel_rfl))) rfl
                · exact ks_val rfl (exec_move (.tmp 1) rfl (E.kept (by kernel_rfl) (by kernel_rfl))) rfl
                · exact ks_val rfl (exec_move (.tmp 8) rfl (E.kept (by kernel_rfl) (by kernel_rfl))) rfl
                · exact ks_val rfl (exec_elem 35 (.tmp 54) (.tmp 55) rfl 3 1 Tryz.underlying35 size_int (E.new (j := 5) (by omega) (by kernel_rfl) (by kernel_rfl)) (E.new (j := 6) (by omega) (by kernel_rfl) (by kernel_rfl)) HK.out.2.2.2.2.2.2) rfl
                · exact ks_val rfl (exec_load1 3 (.tmp 56) rfl (E.new (j := 7) (by omega) (by kernel_rfl) (by kernel_rfl)) (by rw [Nat.zero_add, Nat.mul_one, NU.n.cell, List.getElem?_toArray, List.getElem?_map, HK.out.2.1]; rfl) Tryz.underlying3 rfl) rfl
                · have e3 : b.eval (.tmp 52) = .agg (hC (twoHd i)) := E.new (j := 3) (by omega) (by kernel_rfl) (by kernel_rfl)
                  have e4 : b.eval (.tmp 53) = .int .i64 n := E.new (j := 4) (by omega) (by kernel_rfl) (by kernel_rfl)
                  have e8 : b.eval (.tmp 57) = .int .i64 z := E.new (j := 8) (by omega) (by kernel_rfl) (by kernel_rfl)
                  exact ks_say rfl (exec_enter (f := 11) (vs := #[.agg (hC (twoHd i)), .int .i64 n, .int .i64 z]) rfl (by simp only [List.map_toArray, List.map_cons, List.map_nil, e3, e4, e8]) Tryz.func11 (by kernel_rfl) (by kernel_rfl)) ((bent_any (twoHd i) z w1 n HK.out.2.2.2.2.2.1).mono fun r w2 ⟨x, h1, h2⟩ => ⟨_, h1, ⟨x, rfl⟩, h2⟩)
                · exact ks_blk rfl (exec_alloc 25 rfl info_headz) (Blk.new _ _ _) ((Mod.refl Nn w1).alloc _) E.mod.size
              -- zzS
              · obtain ⟨hh, e9⟩ : ∃ x, vs 9 = .agg (hC x) := hR 9 (by omega) (by kernel_rfl)
                obtain ⟨g9, e10, hg9, b9⟩ : ∃ g, vs 10 = .pointer (some ⟨g, 0, none⟩) ∧ wk.heap.size ≤ g ∧ Blk w' g 25 #[.int .i64 0, .int .i64 0, .int .i64 0, .int .i64 0, .int .i64 0, .int .i64 0, .int .i64 0, .int .i64 0, .int .i64 0] := hR 10 (by omega) (by kernel_rfl)
                -- zzE
                change wpPlC _ _ _ _ _ (Act.put (Act.put (Act.put (Act.put (Act.put (Act.put (Act.put (Act.put (Act.put (Act.put (Act.put _ (some 49) (vs 0)) (some 50) (vs 1)) (some 51) (vs 2)) (some 52) (vs 3)) (some 53) (vs 4)) (some 54) (vs 5)) (some 55) (vs 6)) (some 56) (vs 7)) (some 57) (vs 8)) (some 58) (vs 9)) (some 9) (vs 10)) _
                -- zzF
                rw [e9, e10, fillA_nil]
                clear hR e9 e10
                have m9 := hm.new_ (Mod.rowAt w' g9 (hC hh)) hg9
                have HB := Lib.hid (And.intro b9 (And.intro (HK.out.2.2.1.nn_ m9) (b9.setRow_ (hC hh))))
                have NU := Lib.hid (HK.out.1.nn m9)
                clear m9 b9 hg9 hm
                -- zzG
                refine plc_norm (fun K hK => ?_); go_simp; refine hK _ ?_; clear hK K
                -- zzG1
                refine pc_unit rfl rfl (exec_store_row (P := Tryz.prog) (g := g9) (cells := hC hh) 25 (.tmp 9) (.tmp 58) rfl rfl rfl HB.out.1 size_head rfl (hC_one _)) trivial (fun K hK => ?_); go_simp; refine hK _ ?_; clear hK K
                -- zzH
                refine pc_nil ?_
                generalize w'.setRow g9 (hC hh) = wa at *
                go_wp2_with (first
                  | (with_reducible change wpList _ _ _ (⟨some 60, Op.load _ _, _, _, _, _⟩ :: _) _ _
                     go_must (refine wpList_load_var 25 _ rfl rfl g9 (hC hh) _ _ rfl HB.out.2.2 Tryz.underlying25 rfl size_head ?_)))
                -- zzR16
                refine (r12put_any hh _).mono ?_
                rintro r wb ⟨A10, c10, rfl, o10, m10⟩
                have hl10 := hbytes_lt hh
                have hz10 := hbytes_z hh
                have hcc := own_max o10
                have HC := Lib.hid (And.intro (HB.out.2.1.nn_ m10) (And.intro (HB.out.2.2.mod m10 (fun f => f)) (And.intro (Rd.of_own o10) (And.intro (NU.out.nn m10) (And.intro hz10 hcc)))))
                clear m10 o10 hz10 hcc HB NU
                generalize (hbytes hh).length = L10 at *
                go_wp2_with (first
                  | (with_reducible change wpList _ _ _ (⟨some 64, Op.load _ _, _, _, _, _⟩ :: _) _ _
                     go_must (refine wpList_load_var 25 _ rfl rfl g9 (hC hh) _ _ rfl HC.out.2.1 Tryz.underlying25 rfl size_head ?_)))
                -- zzR17
                refine (hputs_any hh _).mono ?_
                rintro r wc ⟨rfl, m11⟩
                have HD := Lib.hid (And.intro (HC.out.1.nn_ m11) (And.intro (HC.out.2.2.1.mod m11 (fun _ _ f => f)) (HC.out.2.2.2.1.nn m11)))
                clear m11
                go_wp2_with fail
                refine (hgets_any HD.out.2.1 HC.out.2.2.2.2.1 HC.out.2.2.2.2.2.1 HC.out.2.2.2.2.2.2 HD.out.2.2.b smb_lt HCB.out.1 HCB.out.2).mono ?_
                rintro r wd ⟨rfl, m12⟩
                have HE := Lib.hid (And.intro (HD.out.1.nn_ m12) (And.intro (HD.out.2.1.mod m12 (fun _ _ f => f)) (HD.out.2.2.nn m12)))
                clear m12 HD
                go_wp2_with fail
                refine (hgets_any HE.out.2.2.b smb_lt HCB.out.1 HCB.out.2 HE.out.2.1 HC.out.2.2.2.2.1 HC.out.2.2.2.2.2.1 HC.out.2.2.2.2.2.2).mono ?_
                rintro r we ⟨rfl, m13⟩
                have HF := Lib.hid (HE.out.1.nn_ m13)
                clear m13 HE HC
                go_wp2
                exact ⟨⟨k + 1, by omega, by go_num, HF.out⟩, by simp [intOf]; omega⟩
            · have hkl' : ¬ (k : Int) < 25 := by omega
              have HM := Lib.hid (hmn.nn_ hmk)
              clear hmk hmn
              go_wp2
              exact ⟨⟨n + 1, by omega, by go_num, HM.out⟩, by simp [intOf]; omega⟩
        · have hnl' : ¬ (n : Int) < 9 := by omega
          have HM := Lib.hid (hmi.nn_ hmn)
          clear hmi hmn
          go_wp2
          exact ⟨⟨i + 1, by omega, by go_num, HM.out⟩, by simp [intOf]; omega⟩
    · have hil' : ¬ (i : Int) < 2 := by omega
      have HV := Lib.hid (And.intro (HU.out.1.nn_ hmi) (HU.out.2.nn hmi))
      clear hmi HU
      go_wp2
      -- zzLOOP2
      go_loopw [12] (fun k wr => ∃ q : Nat, q ≤ 512 ∧ k = .int .i64 q ∧ Mod Nn wi wr) (fun k _ => 512 - (intOf k).toNat)
      case atStart => exact ⟨0, by omega, rfl, Mod.refl _ _⟩
      case round =>
        obtain ⟨j, hj, rfl, hmj⟩ := hrel
        obtain ⟨wj, rfl⟩ : ∃ wo : World, wo = wr := ⟨_, rfl⟩
        by_cases hjl : j < 512
        · have hjl' : (j : Int) < 512 := by omega
          obtain ⟨ri, hri⟩ : ∃ ri : Nat, j % 8 = ri := ⟨_, rfl⟩
          have hr8 : ri < 8 := by omega
          obtain ⟨z, hz⟩ : ∃ z, smb[j]? = some z := ⟨_, List.getElem?_eq_getElem (by rw [smb_len]; exact hjl)⟩
          have HJ := Lib.hid (And.intro (HV.out.2.nn hmj) (And.intro hjl (And.intro hz (And.intro hr8 hmj))))
          clear hmj hz
          go_wp2_with fail
          refine (copyb_any HJ.out.1.b (by omega)).mono ?_
          rintro r wa ⟨v, rfl, own, ma⟩
          obtain ⟨g, cap, cur, rfl, hg, hb, hcap, hcapm, -, -⟩ := own_blk own (by omega)
          have hz8 : z < 256 := smb_lt z (List.mem_of_getElem? HJ.out.2.2.1)
          have hx8 := xor8_lt z (2 ^ ri) hz8 (pow_lt8 ri hr8)
          have hcz : wa.cell? ⟨g, j, none⟩ = some (.int .u8 (z : Int)) := own_cell own (by unfold bv; rw [List.getElem?_map, HJ.out.2.2.1]; rfl)
          have hfz := own_free own j
          have hxo := hxor_u8 z (2 ^ ri) hz8 (pow_lt8 ri hr8)
          have ho6 := own_set own j (.int .u8 ((z ^^^ 2 ^ ri : Nat) : Int))
          rw [hbv_set] at ho6
          have hl6 : ∀ u ∈ smb.set j (z ^^^ 2 ^ ri), u < 256 := fun u hu => by
            rcases List.mem_or_eq_of_mem_set hu with e | e
            · exact smb_lt u e
            · rw [e]; exact hx8
          have hturn := hget_turned sm_right j ri z hjl hr8 HJ.out.2.2.1
          have M6 : Mod Nn wj (wa.setCell ⟨g, j, none⟩ (.int .u8 ((z ^^^ 2 ^ ri : Nat) : Int))) := ma.setCell (.inl hg) _
          have HX := Lib.hid (And.intro ho6 (And.intro hl6 (And.intro (HJ.out.2.2.2.2.nn_ M6) (And.intro hturn (And.intro hcap hcapm)))))
          have hw3 : (j : Int) % 8 = ri := by omega
          have hr8' : (ri : Int) < 8 := by omega
          have HXO := Lib.hid hxo
          clear ho6 hl6 M6 hz8 hx8 hxo hturn hri own ma hg hb hcap hcapm
          -- zzX1
          go_wp2_with fail
          have hp8 := pow_lt8 ri hr8
          have hsh : ((2 : Int) ^ ri % 256) = ((2 ^ ri : Nat) : Int) := by
            rw [Int.natCast_pow] at *
            have : ((2 ^ ri : Nat) : Int) < 256 := by omega
            rw [Int.natCast_pow] at this
            exact Int.emod_eq_of_lt (Int.pow_nonneg (by omega)) this
          rw [hsh, HXO.out]
          clear hsh hp8
          -- zzX2
          generalize wa.setCell ⟨g, j, none⟩ (.int .u8 ((z ^^^ 2 ^ ri : Nat) : Int)) = wb at *
          clear hcz hfz
          refine (hget_any HX.out.2.2.2.1 (Rd.of_own HX.out.1) HX.out.2.1 (by omega) HX.out.2.2.2.2.1 HX.out.2.2.2.2.2).mono ?_
          rintro r wc ⟨rfl, mc⟩
          have HC := Lib.hid (HX.out.2.2.1.nn_ mc)
          clear mc HX
          go_wp2_with (first
            | (with_reducible change wpList _ _ _ (⟨some 14, Op.alloc _, _, _, _, _⟩ :: _) _ _
               go_must (refine wpList_alloc_var 25 rfl rfl zero_head ?_)
               intro wd b2 m2 z2
               clear z2
               have HA := Lib.hid (And.intro m2 b2)
               clear m2 b2)
            | (with_reducible change wpList _ _ _ (⟨none, Op.store _ (Operand.tmp 14) _, _, _, _, _⟩ :: _) _ _
               go_must (refine wpList_store_var 25 _ _ rfl rfl wc.heap.size (hC hd0) _ _ rfl rfl HA.out.2 size_head rfl (hC_one _) ?_)
               intro we bb mb zb
               clear zb
               have mm := HA.out.1.new_ mb (Nat.le_refl _)
               have C0 : we.cell? ⟨wc.heap.size, 0, none⟩ = some (.int .i64 0) := bb.cell 0
               have C1 : we.cell? ⟨wc.heap.size, 1, none⟩ = some (.int .i64 0) := bb.cell 1
               have C2 : we.cell? ⟨wc.heap.size, 2, none⟩ = some (.int .i64 0) := bb.cell 2
               have C3 : we.cell? ⟨wc.heap.size, 3, none⟩ = some (.int .i64 0) := bb.cell 3
               have C4 : we.cell? ⟨wc.heap.size, 4, none⟩ = some (.int .i64 0) := bb.cell 4
               have C5 : we.cell? ⟨wc.heap.size, 5, none⟩ = some (.int .i64 0) := bb.cell 5
               have C6 : we.cell? ⟨wc.heap.size, 6, none⟩ = some (.int .i64 0) := bb.cell 6
               have C7 : we.cell? ⟨wc.heap.size, 7, none⟩ = some (.int .i64 0) := bb.cell 7
               have C8 : we.cell? ⟨wc.heap.size, 8, none⟩ = some (.int .i64 0) := bb.cell 8
               have HD := Lib.hid (HC.out.nn_ mm)
               clear bb mb mm HA))
          exact ⟨⟨j + 1, by omega, by go_num, HD.out⟩, by simp [intOf]; omega⟩
        · have hjl' : ¬ (j : Int) < 512 := by omega
          have HW := Lib.hid (And.intro (HV.out.1.nn_ hmj) (HV.out.2.nn hmj))
          clear hmj HV
          -- zzR27
          go_wp2_with (first
            | (with_reducible change wpList _ _ _ (⟨some 110, Op.slice _ _ _ _ _, _, _, _, _⟩ :: _) _ _
               go_must (refine wpList_sub_lh (A := some ⟨gb, 0, none⟩) (n := 512) (c := cb) 26 _ _ _ rfl rfl 5 1 Tryz.underlying26 (by kernel_rfl) 28 60 rfl rfl rfl (by omega) (by omega) ?_)))
          have rd27 := HW.out.2.b.sub (c := cb) 28 32 (by omega) HCB.out.1
          rw [show ((bv smb).drop 28).take 32 = bv smd from by rw [← smb_data]; unfold bv; rw [List.map_take, List.map_drop]] at rd27
          refine (copyb_any rd27 (by omega)).mono ?_
          rintro r wa ⟨v, rfl, own, ma⟩
          obtain ⟨gd, cd, cur, rfl, hg, hb, hcd, hcdm, -, -⟩ := own_blk own (by omega)
          have HY := Lib.hid (And.intro (HW.out.1.nn_ ma) (And.intro (HW.out.2.nn ma) (And.intro (Rd.of_own own) hcdm)))
          clear rd27 own ma hg hb cur hcdm HW
          -- zzR28
          go_wp2_with fail
          refine wp_region_kinds [.val (.slice (some ⟨gd, 0, none⟩) 32 cd), .own 5 1 ((pbytes 2 7 0 smd).length) (bv (pbytes 2 7 0 smd)), .val (.slice (some ⟨gd, 0, none⟩) 32 cd), .own 5 1 ((pbytes 1 7 1 smd).length) (bv (pbytes 1 7 1 smd)), .val (.slice (some ⟨gd, 0, none⟩) 32 cd), .val (.slice (subA (some ⟨gd, 0, none⟩) cd 0 1) 28 cd), .own 5 1 ((pbytes 1 7 0 (smd.take 28)).length) (bv (pbytes 1 7 0 (smd.take 28))), .val (.slice (some ⟨gd, 0, none⟩) 32 cd), .own 5 1 (32) (bv smd), .own 5 1 (4) (bv [0, 0, 0, 1]), .own 5 1 (32 + 4) (bv smd ++ bv [0, 0, 0, 1]), .own 5 1 ((pbytes 1 7 0 (smd ++ [0, 0, 0, 1])).length) (bv (pbytes 1 7 0 (smd ++ [0, 0, 0, 1]))), .own 5 1 (32) (bv (List.replicate 32 0)), .own 5 1 ((pbytes 1 7 0 (List.replicate 32 0)).length) (bv (pbytes 1 7 0 (List.replicate 32 0))), .val (.slice (some ⟨gb, 0, none⟩) 512 cb), .val (.slice (subA (some ⟨gb, 0, none⟩) cb 0 1) 511 cb), .val (.slice (some ⟨gb, 0, none⟩) 512 cb), .own 5 1 (512) (bv smb), .own 5 1 (1) (bv [0]), .own 5 1 (512 + 1) (bv smb ++ bv [0]), .val (.slice (some ⟨gb, 0, none⟩) 512 cb), .own 5 1 (512) (bv smb), .val (.slice (some ⟨gb, 0, none⟩) 512 cb), .own 5 1 (512 + 512) (bv smb ++ bv smb)] (fun k => if k = 10 then some 8 else if k = 19 then some 17 else if k = 23 then some 21 else none) 24 [(24, false), (25, true)] (by kernel_rfl) (by kernel_rfl) rfl (by kernel_rfl) (fun q o hq ho b w1 E => ?_) (fun vs w' hm hR => ?_)
          · have NU := HY.out.2.1.nn E.mod
            have RD := HY.out.2.2.1.mod E.mod (fun _ _ f => f)
            have hbz := E.mod.size
            have uu : Tryz.prog.underlying 26 = some (.slice 5) := Tryz.underlying26
            obtain rfl | rfl | rfl | rfl | rfl | rfl | rfl | rfl | rfl | rfl | rfl | rfl | rfl | rfl | rfl | rfl | rfl | rfl | rfl | rfl | rfl | rfl | rfl | rfl : q = 0 ∨ q = 1 ∨ q = 2 ∨ q = 3 ∨ q = 4 ∨ q = 5 ∨ q = 6 ∨ q = 7 ∨ q = 8 ∨ q = 9 ∨ q = 10 ∨ q = 11 ∨ q = 12 ∨ q = 13 ∨ q = 14 ∨ q = 15 ∨ q = 16 ∨ q = 17 ∨ q = 18 ∨ q = 19 ∨ q = 20 ∨ q = 21 ∨ q = 22 ∨ q = 23 := by omega
            all_goals (injection ho with ho; subst ho)
            · exact ks_val rfl (exec_move (.tmp 16) rfl (E.kept (by kernel_rfl) (by kernel_rfl))) rfl
            · have e := (show b.eval (.tmp 112) = .slice (some ⟨gd, 0, none⟩) 32 cd from (E.new (j := 0) (by omega) (by kernel_rfl) (by kernel_rfl)))
              exact ks_call rfl (exec_enter (f := 15) (vs := #[.int .i64 2, .int .i64 7, .int .i64 0, .slice (some ⟨gd, 0, none⟩) 32 cd]) rfl (by simp only [List.map_toArray, List.map_cons, List.map_nil, e]; rfl) Tryz.func15 (by kernel_rfl) (by kernel_rfl)) (framed_any 2 7 0 RD smd_lt) hbz
            · exact ks_val rfl (exec_move (.tmp 16) rfl (E.kept (by kernel_rfl) (by kernel_rfl))) rfl
            · have e := (show b.eval (.tmp 114) = .slice (some ⟨gd, 0, none⟩) 32 cd from (E.new (j := 2) (by omega) (by kernel_rfl) (by kernel_rfl)))
              exact ks_call rfl (exec_enter (f := 15) (vs := #[.int .i64 1, .int .i64 7, .int .i64 1, .slice (some ⟨gd, 0, none⟩) 32 cd]) rfl (by simp only [List.map_toArray, List.map_cons, List.map_nil, e]; rfl) Tryz.func15 (by kernel_rfl) (by kernel_rfl)) (framed_any 1 7 1 RD smd_lt) hbz
            · exact ks_val rfl (exec_move (.tmp 16) rfl (E.kept (by kernel_rfl) (by kernel_rfl))) rfl
            · exact ks_val rfl (exec_sub_h (P := Tryz.prog) 26 (.tmp 116) _ rfl 5 1 uu (by kernel_rfl) (A := some ⟨gd, 0, none⟩) (n := 32) (c := cd) (h := 28) (E.new (j := 4) (by omega) (by kernel_rfl) (by kernel_rfl)) rfl (by omega)) rfl
            · have rp := RD.pre (c := cd) 28 (by omega) hcd
              rw [show (bv smd).take 28 = bv (smd.take 28) from by unfold bv; rw [List.map_take]] at rp
              have e := (show b.eval (.tmp 117) = .slice (subA (some ⟨gd, 0, none⟩) cd 0 1) 28 cd from (E.new (j := 5) (by omega) (by kernel_rfl) (by kernel_rfl)))
              exact ks_call rfl (exec_enter (f := 15) (vs := #[.int .i64 1, .int .i64 7, .int .i64 0, .slice (subA (some ⟨gd, 0, none⟩) cd 0 1) 28 cd]) rfl (by simp only [List.map_toArray, List.map_cons, List.map_nil, e]; rfl) Tryz.func15 (by kernel_rfl) (by kernel_rfl)) (framed_any 1 7 0 rp (fun z hz => smd_lt z (List.mem_of_mem_take hz))) hbz
            · exact ks_val rfl (exec_move (.tmp 16) rfl (E.kept (by kernel_rfl) (by kernel_rfl))) rfl
            · have e := (show b.eval (.tmp 119) = .slice (some ⟨gd, 0, none⟩) 32 cd from (E.new (j := 7) (by omega) (by kernel_rfl) (by kernel_rfl)))
              exact ks_call rfl (exec_enter (f := 13) (vs := #[.slice (some ⟨gd, 0, none⟩) 32 cd]) rfl (by simp only [List.map_toArray, List.map_cons, List.map_nil, e]) Tryz.func13 (by kernel_rfl) (by kernel_rfl)) (copyb_any RD (by omega)) hbz
            · exact ks_make rfl (exec_bconsts (t := 26) (e := 5) rfl (bv [0, 0, 0, 1]) uu (by kernel_rfl) (by omega) (by kernel_rfl)) (own_new (Nat.le_refl _) (Blk.new _ _ _) rfl (by unfold maxLen; omega)) ((Mod.refl Nn w1).alloc _) hbz
            · have o := (show w1.ownsRow wa.heap.size 5 1 (b.eval (.tmp 121)) (4) (bv [0, 0, 0, 1]) from (E.new (j := 9) (by omega) (by kernel_rfl) (by kernel_rfl)))
              obtain ⟨A, c, e, -, -⟩ := own_form o
              rw [e] at o
              exact ks_append (j := 8) (tj := 120) rfl rfl 26 (.tmp 120) (.tmp 121) rfl rfl 5 (.int .u8 0) 1 1 uu info_u8 rfl (by omega) (show w1.ownsRow wa.heap.size 5 1 (b.eval (.tmp 120)) (32) (bv smd) from (E.new (j := 8) (by omega) (by kernel_rfl) (by kernel_rfl))) e (Rd.of_own o).toC (bv_one _) (by omega) (by omega) hbz rfl
            · have o := (show w1.ownsRow wa.heap.size 5 1 (b.eval (.tmp 122)) (32 + 4) (bv smd ++ bv [0, 0, 0, 1]) from (E.new (j := 10) (by omega) (by kernel_rfl) (by kernel_rfl)))
              obtain ⟨A, c, e, -, -⟩ := own_form o
              rw [e, ← bv_append] at o
              exact ks_call rfl (exec_enter (f := 15) (vs := #[.int .i64 1, .int .i64 7, .int .i64 0, .slice A (32 + 4) c]) rfl (by simp only [List.map_toArray, List.map_cons, List.map_nil, e]; rfl) Tryz.func15 (by kernel_rfl) (by kernel_rfl)) (framed_any 1 7 0 (Rd.of_own o) (fun z hz => (List.mem_append.1 hz).elim (smd_lt z) (fun h => by revert z; decide))) hbz
            · exact ks_make rfl (exec_make1 26 _ _ rfl 5 (.int .u8 0) 1 uu info_u8 rfl 32 32 rfl rfl (Nat.le_refl _) (by omega) (by omega)) (own_new (Nat.le_refl _) (by rw [bv_zeros, List.toArray_replicate]; exact Blk.new w1 5 (Array.replicate 32 (Value.int .u8 0))) (by simp [bv]) (by unfold maxLen; omega)) ((Mod.refl Nn w1).alloc _) hbz
            · have o := (show w1.ownsRow wa.heap.size 5 1 (b.eval (.tmp 124)) (32) (bv (List.replicate 32 0)) from (E.new (j := 12) (by omega) (by kernel_rfl) (by kernel_rfl)))
              obtain ⟨A, c, e, -, -⟩ := own_form o
              rw [e] at o
              exact ks_call rfl (exec_enter (f := 15) (vs := #[.int .i64 1, .int .i64 7, .int .i64 0, .slice A (32) c]) rfl (by simp only [List.map_toArray, List.map_cons, List.map_nil, e]; rfl) Tryz.func15 (by kernel_rfl) (by kernel_rfl)) (framed_any 1 7 0 (Rd.of_own o) (fun z hz => by rw [List.eq_of_mem_replicate hz]; omega)) hbz
            · exact ks_val rfl (exec_move (.tmp 4) rfl (E.kept (by kernel_rfl) (by kernel_rfl))) rfl
            · exact ks_val rfl (exec_sub_h (P := Tryz.prog) 26 (.tmp 126) _ rfl 5 1 uu (by kernel_rfl) (A := some ⟨gb, 0, none⟩) (n := 512) (c := cb) (h := 511) (E.new (j := 14) (by omega) (by kernel_rfl) (by kernel_rfl)) rfl (by omega)) rfl
            · exact ks_val rfl (exec_move (.tmp 4) rfl (E.kept (by kernel_rfl) (by kernel_rfl))) rfl
            · have e := (show b.eval (.tmp 128) = .slice (some ⟨gb, 0, none⟩) 512 cb from (E.new (j := 16) (by omega) (by kernel_rfl) (by kernel_rfl)))
              exact ks_call rfl (exec_enter (f := 13) (vs := #[.slice (some ⟨gb, 0, none⟩) 512 cb]) rfl (by simp only [List.map_toArray, List.map_cons, List.map_nil, e]) Tryz.func13 (by kernel_rfl) (by kernel_rfl)) (copyb_any NU.b (by omega)) hbz
            · exact ks_make rfl (exec_bconsts (t := 26) (e := 5) rfl (bv [0]) uu (by kernel_rfl) (by omega) (by kernel_rfl)) (own_new (Nat.le_refl _) (Blk.new _ _ _) rfl (by unfold maxLen; omega)) ((Mod.refl Nn w1).alloc _) hbz
            · have o := (show w1.ownsRow wa.heap.size 5 1 (b.eval (.tmp 130)) (1) (bv [0]) from (E.new (j := 18) (by omega) (by kernel_rfl) (by kernel_rfl)))
              obtain ⟨A, c, e, -, -⟩ := own_form o
              rw [e] at o
              exact ks_append (j := 17) (tj := 129) rfl rfl 26 (.tmp 129) (.tmp 130) rfl rfl 5 (.int .u8 0) 1 1 uu info_u8 rfl (by omega) (show w1.ownsRow wa.heap.size 5 1 (b.eval (.tmp 129)) (512) (bv smb) from (E.new (j := 17) (by omega) (by kernel_rfl) (by kernel_rfl))) e (Rd.of_own o).toC (bv_one _) (by omega) (by omega) hbz rfl
            · exact ks_val rfl (exec_move (.tmp 4) rfl (E.kept (by kernel_rfl) (by kernel_rfl))) rfl
            · have e := (show b.eval (.tmp 132) = .slice (some ⟨gb, 0, none⟩) 512 cb from (E.new (j := 20) (by omega) (by kernel_rfl) (by kernel_rfl)))
              exact ks_call rfl (exec_enter (f := 13) (vs := #[.slice (some ⟨gb, 0, none⟩) 512 cb]) rfl (by simp only [List.map_toArray, List.map_cons, List.map_nil, e]) Tryz.func13 (by kernel_rfl) (by kernel_rfl)) (copyb_any NU.b (by omega)) hbz
            · exact ks_val rfl (exec_move (.tmp 4) rfl (E.kept (by kernel_rfl) (by kernel_rfl))) rfl
            · exact ks_append (j := 21) (tj := 133) rfl rfl 26 (.tmp 133) (.tmp 134) rfl rfl 5 (.int .u8 0) 1 1 uu info_u8 rfl (by omega) (show w1.ownsRow wa.heap.size 5 1 (b.eval (.tmp 133)) (512) (bv smb) from (E.new (j := 21) (by omega) (by kernel_rfl) (by kernel_rfl))) (show b.eval (.tmp 134) = .slice (some ⟨gb, 0, none⟩) 512 cb from (E.new (j := 22) (by omega) (by kernel_rfl) (by kernel_rfl))) NU.b.toC (bv_one _) (by omega) (by omega) hbz rfl
          -- zzE28
          · obtain ⟨A1, c1, e1, -, -⟩ := own_form (show w'.ownsRow wa.heap.size 5 1 (vs 1) (pbytes 2 7 0 smd).length (bv (pbytes 2 7 0 smd)) from hR 1 (by omega) (by kernel_rfl))
            obtain ⟨A3, c3, e3, -, -⟩ := own_form (show w'.ownsRow wa.heap.size 5 1 (vs 3) (pbytes 1 7 1 smd).length (bv (pbytes 1 7 1 smd)) from hR 3 (by omega) (by kernel_rfl))
            obtain ⟨A6, c6, e6, -, -⟩ := own_form (show w'.ownsRow wa.heap.size 5 1 (vs 6) (pbytes 1 7 0 (smd.take 28)).length (bv (pbytes 1 7 0 (smd.take 28))) from hR 6 (by omega) (by kernel_rfl))
            obtain ⟨A11, c11, e11, -, -⟩ := own_form (show w'.ownsRow wa.heap.size 5 1 (vs 11) (pbytes 1 7 0 (smd ++ [0, 0, 0, 1])).length (bv (pbytes 1 7 0 (smd ++ [0, 0, 0, 1]))) from hR 11 (by omega) (by kernel_rfl))
            obtain ⟨A13, c13, e13, -, -⟩ := own_form (show w'.ownsRow wa.heap.size 5 1 (vs 13) (pbytes 1 7 0 (List.replicate 32 0)).length (bv (pbytes 1 7 0 (List.replicate 32 0))) from hR 13 (by omega) (by kernel_rfl))
            have e15 : vs 15 = .slice (subA (some ⟨gb, 0, none⟩) cb 0 1) 511 cb := hR 15 (by omega) (by kernel_rfl)
            obtain ⟨A19, c19, e19, -, -⟩ := own_form (show w'.ownsRow wa.heap.size 5 1 (vs 19) (512 + 1) (bv smb ++ bv [0]) from hR 19 (by omega) (by kernel_rfl))
            obtain ⟨A23, c23, e23, -, -⟩ := own_form (show w'.ownsRow wa.heap.size 5 1 (vs 23) (512 + 512) (bv smb ++ bv smb) from hR 23 (by omega) (by kernel_rfl))
            have o1 : w'.ownsRow wa.heap.size 5 1 (vs 1) (pbytes 2 7 0 smd).length (bv (pbytes 2 7 0 smd)) := hR 1 (by omega) (by kernel_rfl)
            have o3 : w'.ownsRow wa.heap.size 5 1 (vs 3) (pbytes 1 7 1 smd).length (bv (pbytes 1 7 1 smd)) := hR 3 (by omega) (by kernel_rfl)
            have o6 : w'.ownsRow wa.heap.size 5 1 (vs 6) (pbytes 1 7 0 (smd.take 28)).length (bv (pbytes 1 7 0 (smd.take 28))) := hR 6 (by omega) (by kernel_rfl)
            have o11 : w'.ownsRow wa.heap.size 5 1 (vs 11) (pbytes 1 7 0 (smd ++ [0, 0, 0, 1])).length (bv (pbytes 1 7 0 (smd ++ [0, 0, 0, 1]))) := hR 11 (by omega) (by kernel_rfl)
            have o13 : w'.ownsRow wa.heap.size 5 1 (vs 13) (pbytes 1 7 0 (List.replicate 32 0)).length (bv (pbytes 1 7 0 (List.replicate 32 0))) := hR 13 (by omega) (by kernel_rfl)
            have o19 : w'.ownsRow wa.heap.size 5 1 (vs 19) (512 + 1) (bv smb ++ bv [0]) := hR 19 (by omega) (by kernel_rfl)
            have o23 : w'.ownsRow wa.heap.size 5 1 (vs 23) (512 + 512) (bv smb ++ bv smb) := hR 23 (by omega) (by kernel_rfl)
            rw [e1] at o1; rw [e3] at o3; rw [e6] at o6; rw [e11] at o11; rw [e13] at o13; rw [e19, ← bv_append] at o19; rw [e23, ← bv_append] at o23
            have NU := HY.out.2.1.nn hm
            have r15 := NU.b.pre (c := cb) 511 (by omega) HCB.out.1
            rw [show (bv smb).take 511 = bv (smb.take 511) from by unfold bv; rw [List.map_take]] at r15
            have k1 := own_row_ok o1
            have k3 := own_row_ok o3
            have k6 := own_row_ok o6
            have k11 := own_row_ok o11
            have k13 := own_row_ok o13
            have k19 := own_row_ok o19
            have k23 := own_row_ok o23
            have HKK := Lib.hid (And.intro k1 (And.intro k3 (And.intro k6 (And.intro k11 (And.intro k13 (And.intro k19 k23))))))
            clear k1 k3 k6 k11 k13 k19 k23 o1 o3 o6 o11 o13 o19 o23
            generalize (pbytes 2 7 0 smd).length = n1 at *
            generalize (pbytes 1 7 1 smd).length = n3 at *
            generalize (pbytes 1 7 0 (smd.take 28)).length = n6 at *
            generalize (pbytes 1 7 0 (smd ++ [0, 0, 0, 1])).length = n11 at *
            generalize (pbytes 1 7 0 (List.replicate 32 0)).length = n13 at *
            generalize (512 + 1 : Nat) = n19 at *
            generalize (512 + 512 : Nat) = n23 at *
            -- zzF28
            change wpPlC _ _ _ _ _ (Act.put (Act.put (Act.put (Act.put (Act.put (Act.put (Act.put (Act.put (Act.put (Act.put (Act.put (Act.put (Act.put (Act.put (Act.put (Act.put (Act.put (Act.put (Act.put (Act.put (Act.put (Act.put (Act.put (Act.put _ (some 112) (vs 0)) (some 113) (vs 1)) (some 114) (vs 2)) (some 115) (vs 3)) (some 116) (vs 4)) (some 117) (vs 5)) (some 118) (vs 6)) (some 119) (vs 7)) (some 120) (vs 8)) (some 121) (vs 9)) (some 122) (vs 10)) (some 123) (vs 11)) (some 124) (vs 12)) (some 125) (vs 13)) (some 126) (vs 14)) (some 127) (vs 15)) (some 128) (vs 16)) (some 129) (vs 17)) (some 130) (vs 18)) (some 131) (vs 19)) (some 132) (vs 20)) (some 133) (vs 21)) (some 134) (vs 22)) (some 135) (vs 23)) _
            rw [e1, e3, e6, e11, e13, e15, e19, e23, fillA_nil]
            clear hR e1 e3 e6 e11 e13 e15 e19 e23
            refine plc_norm (fun K hK => ?_); go_simp; refine hK _ ?_; clear hK K
            -- zzG28
            refine pc_val rfl rfl (exec_bslice8 rfl rfl rfl rfl rfl rfl rfl rfl rfl) trivial (fun K hK => ?_); go_simp; refine hK _ ?_; clear hK K
            iterate 1 (refine pc_pure rfl rfl (fun K hK => ?_); go_simp; refine hK _ ?_; clear hK K)
            refine pc_nil ?_
            have hodd : OddP (w'.alloc (.cells #[.slice A1 n1 c1, .slice A3 n3 c3, .slice A6 n6 c6, .slice A11 n11 c11, .slice A13 n13 c13, .slice (subA (some ⟨gb, 0, none⟩) cb 0 1) 511 cb, .slice A19 n19 c19, .slice A23 n23 c23] 26)) w'.heap.size := odd_new HKK.out.1 HKK.out.2.1 HKK.out.2.2.1 HKK.out.2.2.2.1 HKK.out.2.2.2.2.1 ⟨r15, Nat.le_trans (by omega) HCB.out.1, HCB.out.2⟩ HKK.out.2.2.2.2.2.1 HKK.out.2.2.2.2.2.2
            have mz : Mod Nn wa (w'.alloc (.cells #[.slice A1 n1 c1, .slice A3 n3 c3, .slice A6 n6 c6, .slice A11 n11 c11, .slice A13 n13 c13, .slice (subA (some ⟨gb, 0, none⟩) cb 0 1) 511 cb, .slice A19 n19 c19, .slice A23 n23 c23] 26)) := hm.alloc _
            generalize w'.alloc (.cells #[.slice A1 n1 c1, .slice A3 n3 c3, .slice A6 n6 c6, .slice A11 n11 c11, .slice A13 n13 c13, .slice (subA (some ⟨gb, 0, none⟩) cb 0 1) 511 cb, .slice A19 n19 c19, .slice A23 n23 c23] 26) = wz at *
            generalize w'.heap.size = go at *
            have HZ := Lib.hid (And.intro (HY.out.1.nn_ mz) (And.intro (HY.out.2.1.nn mz) (And.intro (HY.out.2.2.1.mod mz (fun _ _ f => f)) hodd)))
            have HCD := Lib.hid HY.out.2.2.2
            clear HKK r15 NU hm mz hodd HY
            -- zzLOOP3
            go_wp2
            go_loopw [18] (fun k wr => ∃ q : Nat, q ≤ 8 ∧ k = .int .i64 q ∧ Mod Nn wz wr) (fun k _ => 8 - (intOf k).toNat)
            case atStart => exact ⟨0, by omega, rfl, Mod.refl _ _⟩
            case round =>
              obtain ⟨q, hq, rfl, hmq⟩ := hrel
              obtain ⟨wq, rfl⟩ : ∃ wo : World, wo = wr := ⟨_, rfl⟩
              by_cases hql : q < 8
              · have hql' : (q : Int) < 8 := by omega
                obtain ⟨A, n, c, L, hcell0, -, -, -, -, -⟩ := HZ.out.2.2.2.2 q hql
                obtain ⟨A', n', c', L', hcell, hrd, hL, hn, hnc, hcm⟩ := (HZ.out.2.2.2.nn hmq).2 q hql
                have hsame := ((hmq.cell (p := ⟨go, q, none⟩) HZ.out.2.2.2.1 (fun f => f)).trans hcell0).symm.trans hcell
                injection hsame with hsame; injection hsame with s1 s2 s3; subst s1; subst s2; subst s3
                have HCELL := Lib.hid hcell0
                clear hcell0 L
                obtain ⟨L, rfl⟩ : ∃ L, L = L' := ⟨_, rfl⟩
                have HQ := Lib.hid (And.intro hmq (And.intro hrd (And.intro hL (And.intro (odds_lt L hL) (And.intro hnc (And.intro hcm hql))))))
                clear hmq hrd hL hnc hcm
                -- zzQ1
                go_wp2_with fail
                refine (hget_any (.inr ⟨odds_not L HQ.out.2.2.1, rfl, rfl⟩) HQ.out.2.1 HQ.out.2.2.2.1 (by omega) HQ.out.2.2.2.2.1 HQ.out.2.2.2.2.2.1).mono ?_
                rintro r w2 ⟨rfl, m2⟩
                have HR2 := Lib.hid (HQ.out.1.nn_ m2)
                have HX2 := Lib.hid m2
                clear m2 hcell
                go_wp2_with (first
                  | (with_reducible change wpList _ _ _ (⟨some 19, Op.alloc _, _, _, _, _⟩ :: _) _ _
                     go_must (refine wpList_alloc_var 25 rfl rfl zero_head ?_)
                     intro w3 b2 m2 z2
                     clear z2
                     have HA := Lib.hid (And.intro m2 b2)
                     clear m2 b2)
                  | (with_reducible change wpList _ _ _ (⟨none, Op.store _ (Operand.tmp 19) _, _, _, _, _⟩ :: _) _ _
                     go_must (refine wpList_store_var 25 _ _ rfl rfl w2.heap.size (hC hd0) _ _ rfl rfl HA.out.2 size_head rfl (hC_one _) ?_)
                     intro w4 bb mb zb
                     clear zb
                     have mm := HA.out.1.new_ mb (Nat.le_refl _)
                     have C0 : w4.cell? ⟨w2.heap.size, 0, none⟩ = some (.int .i64 0) := bb.cell 0
                     have C1 : w4.cell? ⟨w2.heap.size, 1, none⟩ = some (.int .i64 0) := bb.cell 1
                     have C2 : w4.cell? ⟨w2.heap.size, 2, none⟩ = some (.int .i64 0) := bb.cell 2
                     have C3 : w4.cell? ⟨w2.heap.size, 3, none⟩ = some (.int .i64 0) := bb.cell 3
                     have C4 : w4.cell? ⟨w2.heap.size, 4, none⟩ = some (.int .i64 0) := bb.cell 4
                     have C5 : w4.cell? ⟨w2.heap.size, 5, none⟩ = some (.int .i64 0) := bb.cell 5
                     have C6 : w4.cell? ⟨w2.heap.size, 6, none⟩ = some (.int .i64 0) := bb.cell 6
                     have C7 : w4.cell? ⟨w2.heap.size, 7, none⟩ = some (.int .i64 0) := bb.cell 7
                     have C8 : w4.cell? ⟨w2.heap.size, 8, none⟩ = some (.int .i64 0) := bb.cell 8
                     have hcell4 : w4.cell? ⟨go, q, none⟩ = some (.slice A n c) := ((HR2.out.nn_ mm).cell (p := ⟨go, q, none⟩) HZ.out.2.2.2.1 (fun f => f)).trans HCELL.out
                     have HR3 := Lib.hid (And.intro (HR2.out.nn_ mm) (And.intro (HQ.out.2.1.mod (HX2.out.nn_ mm) (fun _ _ f => f)) (And.intro (HZ.out.2.1.nn (HR2.out.nn_ mm)) (show go < w4.heap.size by have := HZ.out.2.2.2.1; have := (HR2.out.nn_ mm).size; omega))))
                     clear bb mb mm HA))
                -- zzQ2
                refine (hgets_any HR3.out.2.1 HQ.out.2.2.2.1 HQ.out.2.2.2.2.1 HQ.out.2.2.2.2.2.1 HR3.out.2.2.1.b smb_lt HCB.out.1 HCB.out.2).mono ?_
                rintro r w5 ⟨rfl, m5⟩
                have hcell5 : w5.cell? ⟨go, q, none⟩ = some (.slice A n c) := (m5.cell (p := ⟨go, q, none⟩) HR3.out.2.2.2 (fun f => f)).trans hcell4
                have HR5 := Lib.hid (And.intro (HR3.out.1.nn_ m5) (And.intro (HR3.out.2.1.mod m5 (fun _ _ f => f)) (HR3.out.2.2.1.nn m5)))
                clear m5 HR3 hcell4 C0 C1 C2 C3 C4 C5 C6 C7 C8
                go_wp2_with fail
                refine (hgets_any HR5.out.2.2.b smb_lt HCB.out.1 HCB.out.2 HR5.out.2.1 HQ.out.2.2.2.1 HQ.out.2.2.2.2.1 HQ.out.2.2.2.2.2.1).mono ?_
                rintro r w6 ⟨rfl, m6⟩
                have HR6 := Lib.hid (HR5.out.1.nn_ m6)
                clear m6 HR5 hcell5
                go_wp2
                exact ⟨⟨q + 1, by omega, by go_num, HR6.out⟩, by simp [intOf]; omega⟩
              · have hql' : ¬ (q : Int) < 8 := by omega
                have HF := Lib.hid (And.intro (HZ.out.1.nn_ hmq) (HZ.out.2.2.1.mod hmq (fun _ _ f => f)))
                clear hmq HZ
                -- zzEND
                go_wp2_with fail
                refine (framed_any 1 7 0 HF.out.2 smd_lt).mono ?_
                rintro r w2 ⟨v, rfl, o2, m2⟩
                obtain ⟨A2, c2, rfl, -, -⟩ := own_form o2
                have hl2 := pbytes_len 1 7 0 smd
                have hcc := own_max o2
                have HG := Lib.hid (And.intro (HF.out.1.nn_ m2) (And.intro (Rd.of_own o2) hcc))
                have hz2 : ∀ z ∈ pbytes 1 7 0 smd, z < 256 := pbytes_lt smd_lt
                clear o2 m2 hcc HF
                generalize (pbytes 1 7 0 smd).length = n2 at *
                go_wp2_with fail
                refine (hgets_any (lb := []) HG.out.2.1 hz2 HG.out.2.2.1 HG.out.2.2.2 (Rd.nil _ _) (fun z hz => by cases hz) (Nat.le_refl 0) (by unfold maxLen; omega)).mono ?_
                rintro r w3 ⟨rfl, m3⟩
                have HG3 := Lib.hid (HG.out.1.nn_ m3)
                clear m3 HG
                go_wp2_with fail
                refine (hd_awake _).mono ?_
                rintro r w4 ⟨rfl, m4⟩
                have HG4 := Lib.hid (HG3.out.nn_ m4)
                clear m4 HG3
                go_wp2
                go_ret
                exact ⟨rfl, HG4.out⟩
end Go.Proofs.YtodnhbiomooknaaGreat
