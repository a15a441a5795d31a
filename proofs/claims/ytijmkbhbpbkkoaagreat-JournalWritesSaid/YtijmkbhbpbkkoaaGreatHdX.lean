/- Own lemmas of several kinds, put together: Hd0, Hd1, Hd2, Hd6a. -/
import Derived.Test.YtijmkbhbpbkkoaaGreatFr1
import Derived.Test.YtijmkbhbpbkkoaaGreatFr3
import Derived.Test.YtijmkbhbpbkkoaaGreatKitD
import Derived.Test.YtijmkbhbpbkkoaaGreatKitB
import Derived.Test.YtijmkbhbpbkkoaaGreatRows
import Derived.Lib.MinMax
/- Heads (layer 12) and geometries (layer 11) in plain words. No program is named. -/
namespace Go.Proofs.YtijmkbhbpbkkoaaGreat

structure Geo where
  v : Int
  S : Int
  s : Int
  u : Int
  j : Int
deriving DecidableEq
def Geo.fields (g : Geo) : Prop := 8 ≤ g.v ∧ g.v ≤ 4096 ∧ g.v % 8 = 0 ∧ 2 ≤ g.S ∧ g.S ≤ 256 ∧ 1 ≤ g.u ∧ g.u ≤ 16 ∧ 16 ≤ g.s ∧ 2 * (8 * g.u + 1) ≤ g.s ∧ g.s ≤ 1024 ∧ 8 ≤ g.j ∧ g.j ≤ 64
def Geo.pages (g : Geo) : Int := 2 + (g.S * g.s + 9 * (g.v / 8) + 8) / 4
def Geo.sectors (g : Geo) : Int := 2 + 2 * g.j + 4 * g.pages + g.S * g.s
def Geo.right (g : Geo) : Prop := g.fields ∧ g.sectors ≤ 262144
instance (g : Geo) : Decidable g.fields := by unfold Geo.fields; infer_instance
instance (g : Geo) : Decidable g.right := by unfold Geo.right; infer_instance
def Geo.npages (g : Geo) : Int := if g.right then g.pages else 0
theorem prod_le {a b : Int} (ha : 2 ≤ a) (hA : a ≤ 256) (hb : 16 ≤ b) (hB : b ≤ 1024) : 32 ≤ a * b ∧ a * b ≤ 262144 :=
  ⟨show (2 : Int) * 16 ≤ a * b from Int.mul_le_mul ha hb (by omega) (by omega), show a * b ≤ 256 * 1024 from Int.mul_le_mul hA hB (by omega) (by omega)⟩
theorem Geo.prod {g : Geo} (h : g.fields) : 32 ≤ g.S * g.s ∧ g.S * g.s ≤ 262144 := by
  obtain ⟨_, _, _, h1, h2, _, _, h3, _, h4, _⟩ := h
  exact prod_le h1 h2 h3 h4
theorem Geo.pages_le {g : Geo} (h : g.fields) : 2 ≤ g.pages ∧ g.pages ≤ 70000 := by
  have hp := Geo.prod h
  obtain ⟨h0, h0', _⟩ := h
  unfold Geo.pages; omega

structure Hd where
  g : Geo
  n : Int
  p : Int
  r : Int
  k : Int
deriving DecidableEq
/-- what stands in the data is right -/
def Hd.inner (h : Hd) : Prop := h.g.right ∧ 1 ≤ h.p ∧ h.p ≤ h.g.pages ∧ 0 ≤ h.r ∧ h.r < h.p ∧ 1 ≤ h.k ∧ h.k ≤ 1073741824
def Hd.right (h : Hd) : Prop := h.inner ∧ 0 ≤ h.n ∧ h.n ≤ 1099511627776
instance (h : Hd) : Decidable h.inner := by unfold Hd.inner; infer_instance
instance (h : Hd) : Decidable h.right := by unfold Hd.right; infer_instance
def Hd.nums (h : Hd) : List Int := [h.g.v, h.g.S, h.g.s, h.g.u, h.g.j, h.p, h.r, h.k]
def Hd.data (h : Hd) : List Nat := h.nums.flatMap (fun n => num n.toNat 4)
def Hd.fr (h : Hd) : Fr := ⟨1, h.n.toNat, 0, h.data⟩
def hd0 : Hd := ⟨⟨0, 0, 0, 0, 0⟩, 0, 0, 0, 0⟩
theorem hd0_not : ¬ hd0.right := by decide
theorem Hd.nums_le {h : Hd} (hr : h.inner) : ∀ x ∈ h.nums, 0 ≤ x ∧ x < 4294967296 := by
  obtain ⟨hg, h1, h2, h3, h4, h5, h6⟩ := hr
  have hp := Geo.pages_le hg.1
  obtain ⟨g1, g2, g3, g4, g5, g6, g7, g8, g9, g10, g11, g12⟩ := hg.1
  intro x hx
  simp only [Hd.nums, List.mem_cons, List.not_mem_nil, or_false] at hx
  rcases hx with rfl | rfl | rfl | rfl | rfl | rfl | rfl | rfl <;> omega
theorem Hd.data_len (h : Hd) : h.data.length = 32 := by simp [Hd.data, Hd.nums, num_len]
theorem Hd.data_lt (h : Hd) : ∀ z ∈ h.data, z < 256 := by
  intro z hz
  obtain ⟨n, _, hn⟩ := List.mem_flatMap.1 hz
  exact num_lt _ _ z hn
theorem Hd.fr_ok {h : Hd} (hr : h.right) : h.fr.ok :=
  ⟨by show 1 ≤ 255; omega, by show h.n.toNat ≤ _; have := hr.2; omega, Nat.zero_le _, by show h.data.length ≤ _; rw [h.data_len]; decide⟩
theorem Hd.bytes_len (h : Hd) : h.fr.bytes.length = 512 := by
  rw [Fr.bytes_len]; show 512 * fsec h.data.length = 512; rw [h.data_len]; decide
/-- four bytes' number -/
def w4 (d : List Nat) (i : Nat) : Int := (said ((d.drop (4 * i)).take 4) : Nat)
def hdOf (l : List Nat) : Hd := ⟨⟨w4 (frOf l).data 0, w4 (frOf l).data 1, w4 (frOf l).data 2, w4 (frOf l).data 3, w4 (frOf l).data 4⟩, (frOf l).epoch, w4 (frOf l).data 5, w4 (frOf l).data 6, w4 (frOf l).data 7⟩
/-- do bytes hold a head? -/
def HoldsH (l : List Nat) : Prop := l.length = 512 ∧ Holds l ∧ frLong l = 32 ∧ (hdOf l).right ∧ (hdOf l).fr.bytes = l
/-- what Get tells of bytes -/
def HGet (l : List Nat) (h : Hd) (e : Int) : Prop := (HoldsH l ∧ h = hdOf l ∧ e = 0) ∨ (¬ HoldsH l ∧ h = hd0 ∧ e = 4)
theorem hget_of (l : List Nat) : ∃ h e, HGet l h e := by
  by_cases H : HoldsH l
  · exact ⟨_, _, .inl ⟨H, rfl, rfl⟩⟩
  · exact ⟨_, _, .inr ⟨H, rfl, rfl⟩⟩
theorem HGet.iff {l : List Nat} {h : Hd} {e : Int} (H : HGet l h e) : (e = 0 ↔ HoldsH l) ∧ (e = 0 ∨ e = 4) ∧ (e = 0 ↔ h.right) := by
  rcases H with ⟨h1, rfl, rfl⟩ | ⟨h1, rfl, rfl⟩
  · exact ⟨⟨fun _ => h1, fun _ => rfl⟩, .inl rfl, ⟨fun _ => h1.2.2.2.1, fun _ => rfl⟩⟩
  · exact ⟨⟨fun e => absurd e (by decide), fun h => (h1 h).elim⟩, .inr rfl, ⟨fun e => absurd e (by decide), fun h => (hd0_not h).elim⟩⟩
theorem HGet.uniq {l : List Nat} {h k : Hd} {e f : Int} (H : HGet l h e) (K : HGet l k f) : h = k ∧ e = f := by
  rcases H with ⟨h1, rfl, rfl⟩ | ⟨h1, rfl, rfl⟩ <;> rcases K with ⟨k1, rfl, rfl⟩ | ⟨k1, rfl, rfl⟩
  · exact ⟨rfl, rfl⟩
  · exact (k1 h1).elim
  · exact (h1 k1).elim
  · exact ⟨rfl, rfl⟩
/-- the eight numbers are got out of the data -/
theorem w4_data (h : Hd) (hi : h.inner) : [w4 h.data 0, w4 h.data 1, w4 h.data 2, w4 h.data 3, w4 h.data 4, w4 h.data 5, w4 h.data 6, w4 h.data 7] = h.nums := by
  have hn := Hd.nums_le hi
  have key : ∀ x ∈ h.nums, ((said (num x.toNat 4) : Nat) : Int) = x := fun x hx => by
    have := hn x hx
    have h4 : x.toNat < 256 ^ 4 := by rw [show (256 : Nat) ^ 4 = 4294967296 from by decide]; omega
    rw [said_num_lt _ _ h4]; omega
  obtain ⟨g, n, p, r, k⟩ := h
  obtain ⟨v, S, s, u, j⟩ := g
  simp only [Hd.nums] at key ⊢
  have e : (⟨⟨v, S, s, u, j⟩, n, p, r, k⟩ : Hd).data = num v.toNat 4 ++ (num S.toNat 4 ++ (num s.toNat 4 ++ (num u.toNat 4 ++ (num j.toNat 4 ++ (num p.toNat 4 ++ (num r.toNat 4 ++ (num k.toNat 4))))))) := by
    simp [Hd.data, Hd.nums]
  rw [e]
  simp only [List.mem_cons, List.not_mem_nil, or_false, forall_eq_or_imp, forall_eq] at key
  obtain ⟨k0, k1, k2, k3, k4, k5, k6, k7⟩ := key
  generalize hA : num v.toNat 4 = a0 at *
  generalize hB : num S.toNat 4 = a1 at *
  generalize hC : num s.toNat 4 = a2 at *
  generalize hD : num u.toNat 4 = a3 at *
  generalize hE : num j.toNat 4 = a4 at *
  generalize hF : num p.toNat 4 = a5 at *
  generalize hG : num r.toNat 4 = a6 at *
  generalize hH : num k.toNat 4 = a7 at *
  have l0 : a0.length = 4 := by rw [← hA, num_len]
  have l1 : a1.length = 4 := by rw [← hB, num_len]
  have l2 : a2.length = 4 := by rw [← hC, num_len]
  have l3 : a3.length = 4 := by rw [← hD, num_len]
  have l4 : a4.length = 4 := by rw [← hE, num_len]
  have l5 : a5.length = 4 := by rw [← hF, num_len]
  have l6 : a6.length = 4 := by rw [← hG, num_len]
  have l7 : a7.length = 4 := by rw [← hH, num_len]
  clear hA hB hC hD hE hF hG hH hn e hi
  simp [w4, List.drop_append, List.take_append, l0, l1, l2, l3, l4, l5, l6, l7, List.drop_of_length_le, List.take_of_length_le, k0, k1, k2, k3, k4, k5, k6, k7]
/-- what a head's bytes are got as -/
theorem Hd.back {h : Hd} (hr : h.right) : HoldsH h.fr.bytes ∧ hdOf h.fr.bytes = h := by
  have hg := h.fr.got (Hd.fr_ok hr) []
  have hh := h.fr.holds (Hd.fr_ok hr) []
  rw [List.append_nil] at hg hh
  have e : hdOf h.fr.bytes = h := by
    unfold hdOf
    rw [hg.2]
    have hw := w4_data h hr.1
    have hd : h.fr.data = h.data := rfl
    have he : ((h.fr.epoch : Nat) : Int) = h.n := by show ((h.n.toNat : Nat) : Int) = _; have := hr.2; omega
    rw [hd, he]
    simp only [Hd.nums, List.cons.injEq, and_true] at hw
    obtain ⟨h0, h1, h2, h3, h4, h5, h6, h7⟩ := hw
    rw [h0, h1, h2, h3, h4, h5, h6, h7]
  refine ⟨⟨h.bytes_len, hh, ?_, by rw [e]; exact hr, by rw [e]⟩, e⟩
  rw [hg.1]; exact h.data_len
/-- what a head's Pick tells -/
def hpick (h : Hd) (e : Int) (k : Hd) (f : Int) : Hd × Int := if f = 0 ∧ (e ≠ 0 ∨ h.n < k.n) then (k, 1) else if e = 0 then (h, 0) else (hd0, -1)
theorem hd_eta (h : Hd) : h = ⟨⟨h.g.v, h.g.S, h.g.s, h.g.u, h.g.j⟩, h.n, h.p, h.r, h.k⟩ := rfl
end Go.Proofs.YtijmkbhbpbkkoaaGreat

/- layout.pages, plan, Right, Pages. -/
namespace Go.Proofs.YtijmkbhbpbkkoaaGreat
open Go.RowKit

def gV (g : Geo) : Value := .agg #[.int .i64 g.v, .int .i64 g.S, .int .i64 g.s, .int .i64 g.u, .int .i64 g.j]
def gC (g : Geo) : Array Value := #[.int .i64 g.v, .int .i64 g.S, .int .i64 g.s, .int .i64 g.u, .int .i64 g.j]
theorem size_geo : (Tryz.prog.info? 23).map (·.size) = some 5 := by kernel_rfl
section
variable {w : World}
set_option maxRecDepth 100000 in
theorem lpages_any (g : Geo) (w : World) (h : g.fields) : Calls Tryz.prog 69 #[gV g] w fun e w' => e = .returned (.int .i64 g.pages) ∧ Mod Nn w w' := by
  have hp := Geo.prod h
  have hP : g.pages = 2 + (g.S * g.s + 9 * (g.v / 8) + 8) / 4 := rfl
  obtain ⟨h1, h2, h3, h4, h5, h6, h7, h8, h9, h10, h11, h12⟩ := h
  obtain ⟨v, S, s, u, j⟩ := g
  rw [hP]
  unfold gV
  simp only at *
  have M : Mod Nn w (w.alloc (.cells #[.int .i64 v, .int .i64 S, .int .i64 s, .int .i64 u, .int .i64 j] 23)) := (Mod.refl Nn w).alloc _
  have HM := Lib.hid M
  clear hP M
  go_enter Tryz.func69, Tryz.ntmps69
  go_wp2
  go_ret
  exact ⟨rfl, HM.out⟩
set_option maxRecDepth 100000 in
theorem lfrom_any (n a b : Int) (w : World) : Calls Tryz.prog 57 #[.int .i64 n, .int .i64 a, .int .i64 b] w fun e w' => e = .returned (.bool (decide (a ≤ n ∧ n ≤ b))) ∧ w = w' := by
  by_cases h0 : a ≤ n
  · by_cases h1 : n ≤ b
    · rw [decide_eq_true ⟨h0, h1⟩]
      go_enter Tryz.func57, Tryz.ntmps57
      go_wp2
      go_ret
      exact ⟨rfl, rfl⟩
    · rw [decide_eq_false (fun h => h1 h.2)]
      go_enter Tryz.func57, Tryz.ntmps57
      go_wp2
      go_ret
      exact ⟨rfl, rfl⟩
  · rw [decide_eq_false (fun h => h0 h.1)]
    go_enter Tryz.func57, Tryz.ntmps57
    go_wp2
    go_ret
    exact ⟨rfl, rfl⟩
theorem lfrom_yes (n a b : Int) (w : World) (h0 : a ≤ n) (h1 : n ≤ b) : Calls Tryz.prog 57 #[.int .i64 n, .int .i64 a, .int .i64 b] w fun e w' => e = .returned (.bool true) ∧ w = w' := by
  have := lfrom_any n a b w
  rwa [decide_eq_true ⟨h0, h1⟩] at this
theorem lfrom_no (n a b : Int) (w : World) (h : ¬ (a ≤ n ∧ n ≤ b)) : Calls Tryz.prog 57 #[.int .i64 n, .int .i64 a, .int .i64 b] w fun e w' => e = .returned (.bool false) ∧ w = w' := by
  have := lfrom_any n a b w
  rwa [decide_eq_false h] at this
/-- the four places, as far as they stand -/
def plans (a b c d : Int) : Nat → Array Value
  | 0 => #[.int .i64 0, .int .i64 0, .int .i64 0, .int .i64 0]
  | 1 => #[.int .i64 a, .int .i64 0, .int .i64 0, .int .i64 0]
  | 2 => #[.int .i64 a, .int .i64 b, .int .i64 0, .int .i64 0]
  | _ => #[.int .i64 a, .int .i64 b, .int .i64 c, .int .i64 0]
def plan4 (g : Geo) : Value := .agg #[.int .i64 2, .int .i64 (2 + 2 * g.j), .int .i64 (2 + 2 * g.j + 4 * g.pages), .int .i64 g.sectors]
theorem size_pl : (Tryz.prog.info? 99).map (·.size) = some 4 := by kernel_rfl
theorem zero_pl : (Tryz.prog.info? 99).map (fun i => (i.zero, i.size)) = some (some (.agg #[.int .i64 0, .int .i64 0, .int .i64 0, .int .i64 0]), 4) := by kernel_rfl
theorem size_int : (Tryz.prog.info? 3).map (·.size) = some 1 := by kernel_rfl
set_option maxRecDepth 100000 in
set_option maxHeartbeats 1600000 in
theorem lplan_any (g : Geo) (w : World) (h : g.fields) : Calls Tryz.prog 58 #[gV g] w fun e w' => e = .returned (plan4 g) ∧ Mod Nn w w' := by
  have hp := Geo.prod h
  have hpg := Geo.pages_le h
  have hP : plan4 g = .agg #[.int .i64 2, .int .i64 (2 + 2 * g.j), .int .i64 (2 + 2 * g.j + 4 * g.pages), .int .i64 (2 + 2 * g.j + 4 * g.pages + g.S * g.s)] := rfl
  have HPG := Lib.hid (fun w => lpages_any g w h)
  obtain ⟨_, _, _, h4, h5, _, _, h8, _, h10, h11, h12⟩ := h
  rw [hP]
  generalize g.pages = pg at *
  generalize hps : g.S * g.s = ps at *
  have HPS := Lib.hid hps
  clear hps hP
  unfold gV at *
  obtain ⟨v, S, s, u, j⟩ := g
  simp only at *
  have m1 : Mod Nn w (w.alloc (.cells #[.int .i64 v, .int .i64 S, .int .i64 s, .int .i64 u, .int .i64 j] 23)) := (Mod.refl Nn w).alloc _
  have b1 : Blk (w.alloc (.cells #[.int .i64 v, .int .i64 S, .int .i64 s, .int .i64 u, .int .i64 j] 23)) w.heap.size 23 #[.int .i64 v, .int .i64 S, .int .i64 s, .int .i64 u, .int .i64 j] := Blk.new _ _ _
  have z1 : (w.alloc (.cells #[.int .i64 v, .int .i64 S, .int .i64 s, .int .i64 u, .int .i64 j] 23)).heap.size = w.heap.size + 1 := by simp
  have H1 := Lib.hid (And.intro m1 (And.intro b1 z1))
  clear m1 b1 z1
  go_enter Tryz.func58, Tryz.ntmps58
  go_wp2_with (first
    | (with_reducible change wpList _ _ _ (⟨some 2, Op.alloc _, _, _, _, _⟩ :: _) _ _
       go_must (refine wpList_alloc_var 99 rfl rfl zero_pl ?_)
       intro w2 b2 m2 z2
       rw [H1.out.2.2] at b2 z2 ⊢
       have H2 := Lib.hid (And.intro (H1.out.1.trans m2) (And.intro (H1.out.2.1.mod m2 (fun f => f)) (And.intro b2 z2)))
       clear b2 m2 z2)
    | (with_reducible change wpList _ _ _ (⟨some 3, Op.alloc _, _, _, _, _⟩ :: _) _ _
       go_must (refine wpList_alloc_var 99 rfl rfl zero_pl ?_)
       intro w3 b3 m3 z3
       rw [H2.out.2.2.2] at b3 z3 ⊢
       have H3 := Lib.hid (And.intro (H2.out.1.trans m3) (And.intro (H2.out.2.1.mod m3 (fun f => f)) (And.intro (H2.out.2.2.1.mod m3 (fun f => f)) b3)))
       clear b3 m3 z3))
  refine wp_region_planC (fun w' => Blk w' w.heap.size 23 #[.int .i64 v, .int .i64 S, .int .i64 s, .int .i64 u, .int .i64 j]) [(0, true), (1, true), (2, true), (3, true), (6, true), (7, true), (8, true), (9, true), (10, true), (12, true), (4, false), (5, true), (11, true)] (by kernel_rfl) (by kernel_rfl) H3.out.2.1.drew ?_
  iterate 1 (refine pc_pure rfl rfl (fun K hK => ?_); go_simp; refine hK _ ?_; clear hK K)
  refine pc_take _ rfl rfl (fun w' hS => exec_load1 (P := Tryz.prog) 3 _ rfl rfl (hS.cell 4) Tryz.underlying3 rfl) (fun K hK => ?_); go_simp; refine hK _ ?_; clear hK K
  iterate 1 (refine pc_pure rfl rfl (fun K hK => ?_); go_simp; refine hK _ ?_; clear hK K)
  refine pc_take _ rfl rfl (fun w' hS => exec_load_row (P := Tryz.prog) 23 _ rfl rfl hS Tryz.underlying23 rfl size_geo) (fun K hK => ?_); go_simp; refine hK _ ?_; clear hK K
  iterate 1 (refine pc_pure rfl rfl (fun K hK => ?_); go_simp; refine hK _ ?_; clear hK K)
  refine pc_take _ rfl rfl (fun w' hS => exec_load1 (P := Tryz.prog) 3 _ rfl rfl (hS.cell 1) Tryz.underlying3 rfl) (fun K hK => ?_); go_simp; refine hK _ ?_; clear hK K
  iterate 1 (refine pc_pure rfl rfl (fun K hK => ?_); go_simp; refine hK _ ?_; clear hK K)
  refine pc_take _ rfl rfl (fun w' hS => exec_load1 (P := Tryz.prog) 3 _ rfl rfl (hS.cell 2) Tryz.underlying3 rfl) (fun K hK => ?_); go_simp; refine hK _ ?_; clear hK K
  iterate 2 (refine pc_pure rfl rfl (fun K hK => ?_); go_simp; refine hK _ ?_; clear hK K)
  rw [show IntKind.i64.wrap (S * s) = ps from by rw [HPS.out, IntKind.wrap_i64]; omega]
  refine pc_call rfl rfl (fun K hK => ?_); go_simp; refine ⟨_, _, ⟨rfl, rfl⟩, hK _ _ _ ?_⟩; clear hK K
  refine (HPG.out _).mono ?_
  rintro r w4 ⟨rfl, m4⟩
  refine ⟨_, rfl, H3.out.2.1.drew.mod m4 (fun f => f), ?_⟩
  iterate 2 (refine pc_pure rfl rfl (fun K hK => ?_); go_simp; refine hK _ ?_; clear hK K)
  rw [show IntKind.i64.wrap (2 * j) = 2 * j from by rw [IntKind.wrap_i64]; omega, show IntKind.i64.wrap (4 * pg) = 4 * pg from by rw [IntKind.wrap_i64]; omega]
  refine pc_nil ?_
  have H4 := Lib.hid (And.intro (H3.out.1.drew.nn_ m4) (And.intro (H3.out.2.2.1.drew.mod m4 (fun f => f)) (H3.out.2.2.2.drew.mod m4 (fun f => f))))
  clear m4
  go_wp2_with fail
  go_loopw [4, 19] (fun q i wr => ∃ k : Nat, k ≤ 3 ∧ i = .int .i64 k ∧ (q = match k with | 0 => .int .i64 2 | 1 => .int .i64 (2 + 2 * j) | 2 => .int .i64 (2 + 2 * j + 4 * pg) | _ => .int .i64 (2 + 2 * j + 4 * pg + ps)) ∧ Mod Nn w wr ∧ Blk wr (w.heap.size + 1) 99 #[.int .i64 0, .int .i64 0, .int .i64 0, .int .i64 0] ∧ Blk wr (w.heap.size + 2) 99 (plans 2 (2 + 2 * j) (2 + 2 * j + 4 * pg) 0 k)) (fun _ i _ => 3 - (intOf i).toNat)
  case atStart => exact ⟨0, by omega, rfl, rfl, H4.out.1, H4.out.2.1, H4.out.2.2⟩
  case round =>
    obtain ⟨k, hk, rfl, rfl, hm, hb1, hb2⟩ := hrel
    have HX := Lib.hid (And.intro hm (And.intro hb1 hb2))
    have h3 : k = 0 ∨ k = 1 ∨ k = 2 ∨ k = 3 := by omega
    rcases h3 with rfl | rfl | rfl | rfl
    · have hix : ∀ w : World, (Instr.index 108 (.agg #[.int .i64 (2 * j), .int .i64 (4 * pg), .int .i64 ps]) (.int .i64 0)).run Tryz.prog w = .ok (.int .i64 (2 * j)) w := fun _ => by kernel_rfl
      clear hm hb1 hb2
      go_wp2_with (first
        | (with_reducible change wpList _ _ _ (⟨none, Op.store _ _ _, _, _, _, _⟩ :: _) _ _
           go_must (refine wpList_unit rfl (exec_store1 (P := Tryz.prog) (v := .int .i64 (2)) 3 _ _ rfl rfl rfl (show _ = some (.int .i64 0) from HX.out.2.2.cell 0) (HX.out.2.2.frozen _) rfl rfl rfl size_int) ?_)))
      go_roundw
      case rel => exact ⟨1, by omega, rfl, rfl, HX.out.1.new_ (Mod.cellAt _ _ _ _) (by omega), HX.out.2.1.far (show w.heap.size + 1 ≠ w.heap.size + 2 by omega) _, HX.out.2.2.set_ _ _⟩
      case measure => simp [intOf]
    · have hix : ∀ w : World, (Instr.index 108 (.agg #[.int .i64 (2 * j), .int .i64 (4 * pg), .int .i64 ps]) (.int .i64 1)).run Tryz.prog w = .ok (.int .i64 (4 * pg)) w := fun _ => by kernel_rfl
      clear hm hb1 hb2
      go_wp2_with (first
        | (with_reducible change wpList _ _ _ (⟨none, Op.store _ _ _, _, _, _, _⟩ :: _) _ _
           go_must (refine wpList_unit rfl (exec_store1 (P := Tryz.prog) (v := .int .i64 (2 + 2 * j)) 3 _ _ rfl rfl rfl (show _ = some (.int .i64 0) from HX.out.2.2.cell 1) (HX.out.2.2.frozen _) rfl rfl rfl size_int) ?_)))
      go_roundw
      case rel => exact ⟨2, by omega, rfl, rfl, HX.out.1.new_ (Mod.cellAt _ _ _ _) (by omega), HX.out.2.1.far (show w.heap.size + 1 ≠ w.heap.size + 2 by omega) _, HX.out.2.2.set_ _ _⟩
      case measure => simp [intOf]
    · have hix : ∀ w : World, (Instr.index 108 (.agg #[.int .i64 (2 * j), .int .i64 (4 * pg), .int .i64 ps]) (.int .i64 2)).run Tryz.prog w = .ok (.int .i64 (ps)) w := fun _ => by kernel_rfl
      clear hm hb1 hb2
      go_wp2_with (first
        | (with_reducible change wpList _ _ _ (⟨none, Op.store _ _ _, _, _, _, _⟩ :: _) _ _
           go_must (refine wpList_unit rfl (exec_store1 (P := Tryz.prog) (v := .int .i64 (2 + 2 * j + 4 * pg)) 3 _ _ rfl rfl rfl (show _ = some (.int .i64 0) from HX.out.2.2.cell 2) (HX.out.2.2.frozen _) rfl rfl rfl size_int) ?_)))
      go_roundw
      case rel => exact ⟨3, by omega, rfl, rfl, HX.out.1.new_ (Mod.cellAt _ _ _ _) (by omega), HX.out.2.1.far (show w.heap.size + 1 ≠ w.heap.size + 2 by omega) _, HX.out.2.2.set_ _ _⟩
      case measure => simp [intOf]
    · clear hm hb1 hb2
      go_wp2_with (first
        | (with_reducible change wpList _ _ _ (⟨none, Op.store _ (Operand.tmp 31) _, _, _, _, _⟩ :: _) _ _
           go_must (refine wpList_unit rfl (exec_store1 (P := Tryz.prog) (v := .int .i64 (2 + 2 * j + 4 * pg + ps)) 3 _ _ rfl rfl rfl (show _ = some (.int .i64 0) from HX.out.2.2.cell 3) (HX.out.2.2.frozen _) rfl rfl rfl size_int) ?_)
           have b5 := HX.out.2.2.set_ 3 (.int .i64 (2 + 2 * j + 4 * pg + ps))
           have m5 := HX.out.1.new_ (Mod.cellAt _ (w.heap.size + 2) 3 (.int .i64 (2 + 2 * j + 4 * pg + ps))) (by omega)
           have r5 := HX.out.2.1.far (show w.heap.size + 1 ≠ w.heap.size + 2 by omega) (p := ⟨w.heap.size + 2, 3, none⟩) (.int .i64 (2 + 2 * j + 4 * pg + ps))
           generalize World.setCell _ ⟨w.heap.size + 2, 3, none⟩ (.int .i64 (2 + 2 * j + 4 * pg + ps)) = w5 at *
           have H5 := Lib.hid (And.intro m5 (And.intro r5 b5))
           clear m5 r5 b5)
        | (with_reducible change wpList _ _ _ (⟨some 32, Op.load _ _, _, _, _, _⟩ :: _) _ _
           go_must (refine wpList_load_var 99 _ rfl rfl (w.heap.size + 2) #[.int .i64 2, .int .i64 (2 + 2 * j), .int .i64 (2 + 2 * j + 4 * pg), .int .i64 (2 + 2 * j + 4 * pg + ps)] _ _ rfl H5.out.2.2 Tryz.underlying99 rfl size_pl ?_))
        | (with_reducible change wpList _ _ _ (⟨none, Op.store _ (Operand.tmp 2) _, _, _, _, _⟩ :: _) _ _
           go_must (refine wpList_store_var 99 _ _ rfl rfl (w.heap.size + 1) #[.int .i64 2, .int .i64 (2 + 2 * j), .int .i64 (2 + 2 * j + 4 * pg), .int .i64 (2 + 2 * j + 4 * pg + ps)] #[.int .i64 0, .int .i64 0, .int .i64 0, .int .i64 0] _ rfl rfl H5.out.2.1 size_pl rfl (by simp [Value.oneCell']) ?_)
           intro w6 b6 m6 z6))
      exact bodyPost_ret (results_cell_row (P := Tryz.prog) rfl _ w6 _ _ _ (0, 0) _ rfl b6 Tryz.underlying99 rfl size_pl) rfl ⟨rfl, H5.out.1.new_ m6 (by omega)⟩
end
end Go.Proofs.YtijmkbhbpbkkoaaGreat

/- layout.Right. -/
namespace Go.Proofs.YtijmkbhbpbkkoaaGreat
open Go.RowKit

section
variable {w : World}
set_option maxRecDepth 100000 in
set_option maxHeartbeats 3200000 in
theorem lright_any (g : Geo) (w : World) : Calls Tryz.prog 40 #[gV g] w fun e w' => e = .returned (.bool (decide g.right)) ∧ Mod Nn w w' := by
  by_cases c0 : 8 ≤ g.v ∧ g.v ≤ 4096
  case neg =>
    rw [show decide g.right = false from decide_eq_false (fun h => by obtain ⟨⟨a1, a2, a3, a4, a5, a6, a7, a8, a9, a10, a11, a12⟩, a13⟩ := h; omega)]
    unfold gV at *
    obtain ⟨v, S, s, u, j⟩ := g
    simp only at *
    have HM := Lib.hid (show Mod Nn w (w.alloc (.cells #[.int .i64 v, .int .i64 S, .int .i64 s, .int .i64 u, .int .i64 j] 23)) from (Mod.refl Nn w).alloc _)
    go_enter Tryz.func40, Tryz.ntmps40
    go_wp2_with (first | ((with_reducible refine (lfrom_no v 8 4096 _ c0).mono ?_); rintro r w' ⟨rfl, rfl⟩))
    go_ret
    exact ⟨rfl, HM.out⟩
  by_cases c1 : g.v % 8 = 0
  case neg =>
    rw [show decide g.right = false from decide_eq_false (fun h => by obtain ⟨⟨a1, a2, a3, a4, a5, a6, a7, a8, a9, a10, a11, a12⟩, a13⟩ := h; omega)]
    unfold gV at *
    obtain ⟨v, S, s, u, j⟩ := g
    simp only at *
    have HM := Lib.hid (show Mod Nn w (w.alloc (.cells #[.int .i64 v, .int .i64 S, .int .i64 s, .int .i64 u, .int .i64 j] 23)) from (Mod.refl Nn w).alloc _)
    go_enter Tryz.func40, Tryz.ntmps40
    go_wp2_with (first | ((with_reducible refine (lfrom_yes v 8 4096 _ c0.1 c0.2).mono ?_); rintro r w' ⟨rfl, rfl⟩))
    go_ret
    exact ⟨rfl, HM.out⟩
  by_cases c2 : 2 ≤ g.S ∧ g.S ≤ 256
  case neg =>
    rw [show decide g.right = false from decide_eq_false (fun h => by obtain ⟨⟨a1, a2, a3, a4, a5, a6, a7, a8, a9, a10, a11, a12⟩, a13⟩ := h; omega)]
    unfold gV at *
    obtain ⟨v, S, s, u, j⟩ := g
    simp only at *
    have HM := Lib.hid (show Mod Nn w (w.alloc (.cells #[.int .i64 v, .int .i64 S, .int .i64 s, .int .i64 u, .int .i64 j] 23)) from (Mod.refl Nn w).alloc _)
    go_enter Tryz.func40, Tryz.ntmps40
    go_wp2_with (first | ((with_reducible refine (lfrom_yes v 8 4096 _ c0.1 c0.2).mono ?_); rintro r w' ⟨rfl, rfl⟩) | ((with_reducible refine (lfrom_no S 2 256 _ c2).mono ?_); rintro r w' ⟨rfl, rfl⟩))
    go_ret
    exact ⟨rfl, HM.out⟩
  by_cases c3 : 1 ≤ g.u ∧ g.u ≤ 16
  case neg =>
    rw [show decide g.right = false from decide_eq_false (fun h => by obtain ⟨⟨a1, a2, a3, a4, a5, a6, a7, a8, a9, a10, a11, a12⟩, a13⟩ := h; omega)]
    unfold gV at *
    obtain ⟨v, S, s, u, j⟩ := g
    simp only at *
    have HM := Lib.hid (show Mod Nn w (w.alloc (.cells #[.int .i64 v, .int .i64 S, .int .i64 s, .int .i64 u, .int .i64 j] 23)) from (Mod.refl Nn w).alloc _)
    go_enter Tryz.func40, Tryz.ntmps40
    go_wp2_with (first | ((with_reducible refine (lfrom_yes v 8 4096 _ c0.1 c0.2).mono ?_); rintro r w' ⟨rfl, rfl⟩) | ((with_reducible refine (lfrom_yes S 2 256 _ c2.1 c2.2).mono ?_); rintro r w' ⟨rfl, rfl⟩) | ((with_reducible refine (lfrom_no u 1 16 _ c3).mono ?_); rintro r w' ⟨rfl, rfl⟩))
    go_ret
    exact ⟨rfl, HM.out⟩
  by_cases c4 : max 16 (2 * (8 * g.u + 1)) ≤ g.s ∧ g.s ≤ 1024
  case neg =>
    rw [show decide g.right = false from decide_eq_false (fun h => by obtain ⟨⟨a1, a2, a3, a4, a5, a6, a7, a8, a9, a10, a11, a12⟩, a13⟩ := h; omega)]
    unfold gV at *
    obtain ⟨v, S, s, u, j⟩ := g
    simp only at *
    have HM := Lib.hid (show Mod Nn w (w.alloc (.cells #[.int .i64 v, .int .i64 S, .int .i64 s, .int .i64 u, .int .i64 j] 23)) from (Mod.refl Nn w).alloc _)
    go_enter Tryz.func40, Tryz.ntmps40
    go_wp2_with (first | ((with_reducible refine (lfrom_yes v 8 4096 _ c0.1 c0.2).mono ?_); rintro r w' ⟨rfl, rfl⟩) | ((with_reducible refine (lfrom_yes S 2 256 _ c2.1 c2.2).mono ?_); rintro r w' ⟨rfl, rfl⟩) | ((with_reducible refine (lfrom_yes u 1 16 _ c3.1 c3.2).mono ?_); rintro r w' ⟨rfl, rfl⟩) | ((with_reducible refine (lfrom_no s (max 16 (2 * (8 * u + 1))) 1024 _ c4).mono ?_); rintro r w' ⟨rfl, rfl⟩))
    go_ret
    exact ⟨rfl, HM.out⟩
  by_cases c5 : 8 ≤ g.j ∧ g.j ≤ 64
  case neg =>
    rw [show decide g.right = false from decide_eq_false (fun h => by obtain ⟨⟨a1, a2, a3, a4, a5, a6, a7, a8, a9, a10, a11, a12⟩, a13⟩ := h; omega)]
    unfold gV at *
    obtain ⟨v, S, s, u, j⟩ := g
    simp only at *
    have HM := Lib.hid (show Mod Nn w (w.alloc (.cells #[.int .i64 v, .int .i64 S, .int .i64 s, .int .i64 u, .int .i64 j] 23)) from (Mod.refl Nn w).alloc _)
    go_enter Tryz.func40, Tryz.ntmps40
    go_wp2_with (first | ((with_reducible refine (lfrom_yes v 8 4096 _ c0.1 c0.2).mono ?_); rintro r w' ⟨rfl, rfl⟩) | ((with_reducible refine (lfrom_yes S 2 256 _ c2.1 c2.2).mono ?_); rintro r w' ⟨rfl, rfl⟩) | ((with_reducible refine (lfrom_yes u 1 16 _ c3.1 c3.2).mono ?_); rintro r w' ⟨rfl, rfl⟩) | ((with_reducible refine (lfrom_yes s (max 16 (2 * (8 * u + 1))) 1024 _ c4.1 c4.2).mono ?_); rintro r w' ⟨rfl, rfl⟩) | ((with_reducible refine (lfrom_no j 8 64 _ c5).mono ?_); rintro r w' ⟨rfl, rfl⟩))
    go_ret
    exact ⟨rfl, HM.out⟩
  have hf : g.fields := by unfold Geo.fields; omega
  have HPL := Lib.hid (fun w => lplan_any g w hf)
  have hix : ∀ w : World, (Instr.index 99 (plan4 g) (.int .i64 3)).run Tryz.prog w = .ok (.int .i64 g.sectors) w := fun _ => by kernel_rfl
  generalize plan4 g = PL at *
  rw [show decide g.right = decide (g.sectors ≤ 262144) from by
    by_cases h : g.sectors ≤ 262144
    · rw [decide_eq_true h, decide_eq_true (show g.right from ⟨hf, h⟩)]
    · rw [decide_eq_false h, decide_eq_false (fun h' : g.right => h h'.2)]]
  generalize g.sectors = X at *
  clear hf
  unfold gV at *
  obtain ⟨v, S, s, u, j⟩ := g
  simp only at *
  have HM := Lib.hid (show Mod Nn w (w.alloc (.cells #[.int .i64 v, .int .i64 S, .int .i64 s, .int .i64 u, .int .i64 j] 23)) from (Mod.refl Nn w).alloc _)
  go_enter Tryz.func40, Tryz.ntmps40
  go_wp2_with (first | ((with_reducible refine (lfrom_yes v 8 4096 _ c0.1 c0.2).mono ?_); rintro r w' ⟨rfl, rfl⟩) | ((with_reducible refine (lfrom_yes S 2 256 _ c2.1 c2.2).mono ?_); rintro r w' ⟨rfl, rfl⟩) | ((with_reducible refine (lfrom_yes u 1 16 _ c3.1 c3.2).mono ?_); rintro r w' ⟨rfl, rfl⟩) | ((with_reducible refine (lfrom_yes s (max 16 (2 * (8 * u + 1))) 1024 _ c4.1 c4.2).mono ?_); rintro r w' ⟨rfl, rfl⟩) | ((with_reducible refine (lfrom_yes j 8 64 _ c5.1 c5.2).mono ?_); rintro r w' ⟨rfl, rfl⟩) | ((with_reducible refine (HPL.out _).mono ?_); rintro r w9 ⟨rfl, m9⟩; have HM9 := Lib.hid (HM.out.nn_ m9); clear m9))
  go_ret
  exact ⟨rfl, HM9.out⟩
theorem lright_yes (g : Geo) (w : World) (h : g.right) : Calls Tryz.prog 40 #[gV g] w fun e w' => e = .returned (.bool true) ∧ Mod Nn w w' := by
  have := lright_any g w
  rwa [decide_eq_true h] at this
theorem lright_no (g : Geo) (w : World) (h : ¬ g.right) : Calls Tryz.prog 40 #[gV g] w fun e w' => e = .returned (.bool false) ∧ Mod Nn w w' := by
  have := lright_any g w
  rwa [decide_eq_false h] at this
end
end Go.Proofs.YtijmkbhbpbkkoaaGreat

/- peatbankref11: pages, sectors, fields, Right (printed by wip/gen/hdref.py). -/
namespace Go.Proofs.YtijmkbhbpbkkoaaGreat
open Go.RowKit

section
variable {w : World}
set_option maxRecDepth 100000 in
theorem rpages_any (g : Geo) (w : World) (h : g.fields) : Calls Tryz.prog 38 #[gV g] w fun e w' => e = .returned (.int .i64 g.pages) ∧ Mod Nn w w' := by
  have hp := Geo.prod h
  have hP : g.pages = 2 + (g.S * g.s + 9 * (g.v / 8) + 8) / 4 := rfl
  obtain ⟨h1, h2, h3, h4, h5, h6, h7, h8, h9, h10, h11, h12⟩ := h
  obtain ⟨v, S, s, u, j⟩ := g
  rw [hP]
  unfold gV
  simp only at *
  have M : Mod Nn w (w.alloc (.cells #[.int .i64 v, .int .i64 S, .int .i64 s, .int .i64 u, .int .i64 j] 23)) := (Mod.refl Nn w).alloc _
  have HM := Lib.hid M
  clear hP M
  go_enter Tryz.func38, Tryz.ntmps38
  go_wp2
  go_ret
  exact ⟨rfl, HM.out⟩
set_option maxRecDepth 100000 in
set_option maxHeartbeats 1600000 in
theorem rsectors_any (g : Geo) (w : World) (h : g.fields) : Calls Tryz.prog 24 #[gV g] w fun e w' => e = .returned (.int .i64 g.sectors) ∧ Mod Nn w w' := by
  have hp := Geo.prod h
  have hpg := Geo.pages_le h
  have hP : g.sectors = 2 + 2 * g.j + 4 * g.pages + g.S * g.s := rfl
  have HPG := Lib.hid (fun w => rpages_any g w h)
  obtain ⟨_, _, _, h4, h5, _, _, h8, _, h10, h11, h12⟩ := h
  rw [hP]
  generalize g.pages = pg at *
  generalize hps : g.S * g.s = ps at *
  have HPS := Lib.hid hps
  clear hps hP
  unfold gV at *
  obtain ⟨v, S, s, u, j⟩ := g
  simp only at *
  have m1 : Mod Nn w (w.alloc (.cells #[.int .i64 v, .int .i64 S, .int .i64 s, .int .i64 u, .int .i64 j] 23)) := (Mod.refl Nn w).alloc _
  have b1 : Blk (w.alloc (.cells #[.int .i64 v, .int .i64 S, .int .i64 s, .int .i64 u, .int .i64 j] 23)) w.heap.size 23 #[.int .i64 v, .int .i64 S, .int .i64 s, .int .i64 u, .int .i64 j] := Blk.new _ _ _
  have H1 := Lib.hid (And.intro m1 b1)
  clear m1 b1
  go_enter Tryz.func24, Tryz.ntmps24
  go_wp2_with fail
  refine wp_region_planC (fun w' => Blk w' w.heap.size 23 #[.int .i64 v, .int .i64 S, .int .i64 s, .int .i64 u, .int .i64 j]) [(0, true), (1, true), (2, true), (3, true), (4, true), (8, true), (9, true), (10, true), (11, true), (12, true), (5, false), (6, true), (7, true), (13, true), (14, true)] (by kernel_rfl) (by kernel_rfl) H1.out.2.drew ?_
  iterate 1 (refine pc_pure rfl rfl (fun K hK => ?_); go_simp; refine hK _ ?_; clear hK K)
  refine pc_take (.int .i64 j) rfl rfl (fun w' hS => exec_load1 (P := Tryz.prog) 3 _ rfl rfl (hS.cell 4) Tryz.underlying3 rfl) (fun K hK => ?_); go_simp; refine hK _ ?_; clear hK K
  iterate 2 (refine pc_pure rfl rfl (fun K hK => ?_); go_simp; refine hK _ ?_; clear hK K)
  refine pc_take _ rfl rfl (fun w' hS => exec_load_row (P := Tryz.prog) 23 _ rfl rfl hS Tryz.underlying23 rfl size_geo) (fun K hK => ?_); go_simp; refine hK _ ?_; clear hK K
  iterate 1 (refine pc_pure rfl rfl (fun K hK => ?_); go_simp; refine hK _ ?_; clear hK K)
  refine pc_take (.int .i64 S) rfl rfl (fun w' hS => exec_load1 (P := Tryz.prog) 3 _ rfl rfl (hS.cell 1) Tryz.underlying3 rfl) (fun K hK => ?_); go_simp; refine hK _ ?_; clear hK K
  iterate 1 (refine pc_pure rfl rfl (fun K hK => ?_); go_simp; refine hK _ ?_; clear hK K)
  refine pc_take (.int .i64 s) rfl rfl (fun w' hS => exec_load1 (P := Tryz.prog) 3 _ rfl rfl (hS.cell 2) Tryz.underlying3 rfl) (fun K hK => ?_); go_simp; refine hK _ ?_; clear hK K
  iterate 1 (refine pc_pure rfl rfl (fun K hK => ?_); go_simp; refine hK _ ?_; clear hK K)
  rw [show IntKind.i64.wrap (S * s) = ps from by rw [HPS.out, IntKind.wrap_i64]; omega]
  refine pc_call rfl rfl (fun K hK => ?_); go_simp; refine ⟨_, _, ⟨rfl, rfl⟩, hK _ _ _ ?_⟩; clear hK K
  refine (HPG.out _).mono ?_
  rintro r w4 ⟨rfl, m4⟩
  refine ⟨_, rfl, H1.out.2.drew.mod m4 (fun f => f), ?_⟩
  iterate 4 (refine pc_pure rfl rfl (fun K hK => ?_); go_simp; refine hK _ ?_; clear hK K)
  refine pc_nil ?_
  have HM := Lib.hid (H1.out.1.drew.nn_ m4)
  have HW := Lib.hid (show IntKind.i64.wrap (IntKind.i64.wrap (IntKind.i64.wrap (2 + IntKind.i64.wrap (2 * j)) + IntKind.i64.wrap (4 * pg)) + ps) = 2 + 2 * j + 4 * pg + ps from by simp only [IntKind.wrap_i64]; omega)
  go_wp2
  rw [HW.out]
  go_ret
  exact ⟨rfl, HM.out⟩
set_option maxRecDepth 100000 in
set_option maxHeartbeats 6400000 in
theorem rfields_any (g : Geo) (w : World) : Calls Tryz.prog 37 #[gV g] w fun e w' => e = .returned (.bool (decide g.fields)) ∧ Mod Nn w w' := by
  have HF := Lib.hid (show g.fields ↔ 8 ≤ g.v ∧ g.v ≤ 4096 ∧ g.v % 8 = 0 ∧ 2 ≤ g.S ∧ g.S ≤ 256 ∧ 1 ≤ g.u ∧ g.u ≤ 16 ∧ 16 ≤ g.s ∧ 2 * (8 * g.u + 1) ≤ g.s ∧ g.s ≤ 1024 ∧ 8 ≤ g.j ∧ g.j ≤ 64 from Iff.rfl)
  obtain ⟨F, hF⟩ : ∃ F, decide g.fields = F := ⟨_, rfl⟩
  rw [hF]
  have HFF := Lib.hid hF
  clear hF
  unfold gV at *
  obtain ⟨v, S, s, u, j⟩ := g
  have HM := Lib.hid (show Mod Nn w (w.alloc (.cells #[.int .i64 v, .int .i64 S, .int .i64 s, .int .i64 u, .int .i64 j] 23)) from (Mod.refl Nn w).alloc _)
  simp only at *
  by_cases c0 : v < 8
  · obtain rfl : F = false := by rw [← HFF.out]; exact decide_eq_false (fun h => by have := HF.out.1 h; omega)
    go_enter Tryz.func37, Tryz.ntmps37
    go_wp2
    go_ret
    exact ⟨rfl, HM.out⟩
  by_cases c1 : 4096 < v
  · obtain rfl : F = false := by rw [← HFF.out]; exact decide_eq_false (fun h => by have := HF.out.1 h; omega)
    have e1 : v > 4096 := c1
    go_enter Tryz.func37, Tryz.ntmps37
    go_wp2
    go_ret
    exact ⟨rfl, HM.out⟩
  have e1 : ¬ v > 4096 := c1
  by_cases c2 : v % 8 ≠ 0
  · obtain rfl : F = false := by rw [← HFF.out]; exact decide_eq_false (fun h => by have := HF.out.1 h; omega)
    go_enter Tryz.func37, Tryz.ntmps37
    go_wp2
    go_ret
    exact ⟨rfl, HM.out⟩
  have d2 : v % 8 = 0 := Decidable.not_not.1 c2
  by_cases c3 : S < 2
  · obtain rfl : F = false := by rw [← HFF.out]; exact decide_eq_false (fun h => by have := HF.out.1 h; omega)
    go_enter Tryz.func37, Tryz.ntmps37
    go_wp2
    go_ret
    exact ⟨rfl, HM.out⟩
  by_cases c4 : 256 < S
  · obtain rfl : F = false := by rw [← HFF.out]; exact decide_eq_false (fun h => by have := HF.out.1 h; omega)
    have e4 : S > 256 := c4
    go_enter Tryz.func37, Tryz.ntmps37
    go_wp2
    go_ret
    exact ⟨rfl, HM.out⟩
  have e4 : ¬ S > 256 := c4
  by_cases c5 : u < 1
  · obtain rfl : F = false := by rw [← HFF.out]; exact decide_eq_false (fun h => by have := HF.out.1 h; omega)
    go_enter Tryz.func37, Tryz.ntmps37
    go_wp2
    go_ret
    exact ⟨rfl, HM.out⟩
  by_cases c6 : 16 < u
  · obtain rfl : F = false := by rw [← HFF.out]; exact decide_eq_false (fun h => by have := HF.out.1 h; omega)
    have e6 : u > 16 := c6
    go_enter Tryz.func37, Tryz.ntmps37
    go_wp2
    go_ret
    exact ⟨rfl, HM.out⟩
  have e6 : ¬ u > 16 := c6
  by_cases c7 : s < 16
  · obtain rfl : F = false := by rw [← HFF.out]; exact decide_eq_false (fun h => by have := HF.out.1 h; omega)
    go_enter Tryz.func37, Tryz.ntmps37
    go_wp2
    go_ret
    exact ⟨rfl, HM.out⟩
  by_cases c8 : 1024 < s
  · obtain rfl : F = false := by rw [← HFF.out]; exact decide_eq_false (fun h => by have := HF.out.1 h; omega)
    have e8 : s > 1024 := c8
    go_enter Tryz.func37, Tryz.ntmps37
    go_wp2
    go_ret
    exact ⟨rfl, HM.out⟩
  have e8 : ¬ s > 1024 := c8
  by_cases c9 : s < 2 * (8 * u + 1)
  · obtain rfl : F = false := by rw [← HFF.out]; exact decide_eq_false (fun h => by have := HF.out.1 h; omega)
    go_enter Tryz.func37, Tryz.ntmps37
    go_wp2
    go_ret
    exact ⟨rfl, HM.out⟩
  by_cases c10 : ¬ 8 ≤ j
  · obtain rfl : F = false := by rw [← HFF.out]; exact decide_eq_false (fun h => by have := HF.out.1 h; omega)
    have e10 : ¬ j ≥ 8 := c10
    go_enter Tryz.func37, Tryz.ntmps37
    go_wp2
    go_ret
    exact ⟨rfl, HM.out⟩
  have d10 : 8 ≤ j := Decidable.not_not.1 c10
  by_cases c11 : ¬ j ≤ 64
  · obtain rfl : F = false := by rw [← HFF.out]; exact decide_eq_false (fun h => by have := HF.out.1 h; omega)
    go_enter Tryz.func37, Tryz.ntmps37
    go_wp2
    go_ret
    exact ⟨rfl, HM.out⟩
  have d11 : j ≤ 64 := Decidable.not_not.1 c11
  obtain rfl : F = true := by rw [← HFF.out]; exact decide_eq_true (HF.out.2 (by omega))
  go_enter Tryz.func37, Tryz.ntmps37
  go_wp2
  go_ret
  exact ⟨rfl, HM.out⟩
set_option maxRecDepth 100000 in
theorem r11right_any (g : Geo) (w : World) : Calls Tryz.prog 23 #[gV g] w fun e w' => e = .returned (.bool (decide g.right)) ∧ Mod Nn w w' := by
  have m1 : Mod Nn w (w.alloc (.cells (gC g) 23)) := (Mod.refl Nn w).alloc _
  have b1 : Blk (w.alloc (.cells (gC g) 23)) w.heap.size 23 (gC g) := Blk.new _ _ _
  have H1 := Lib.hid (And.intro m1 b1)
  clear m1 b1
  have HR := Lib.hid (fun w => rfields_any g w)
  by_cases h : g.fields
  · have HP := Lib.hid (fun w => rsectors_any g w h)
    rw [decide_eq_true h] at HR
    rw [show decide g.right = decide (g.sectors ≤ 262144) from by
      by_cases e : g.sectors ≤ 262144
      · rw [decide_eq_true e, decide_eq_true (show g.right from ⟨h, e⟩)]
      · rw [decide_eq_false e, decide_eq_false (fun h' : g.right => e h'.2)]]
    generalize g.sectors = X at *
    unfold gV gC at *
    go_enter Tryz.func23, Tryz.ntmps23
    go_wp2_with (first
      | (with_reducible change wpList _ _ _ (⟨some 3, Op.load _ _, _, _, _, _⟩ :: _) _ _
         go_must (refine wpList_load_var 23 _ rfl rfl w.heap.size #[.int .i64 g.v, .int .i64 g.S, .int .i64 g.s, .int .i64 g.u, .int .i64 g.j] _ _ rfl H1.out.2 Tryz.underlying23 rfl size_geo ?_))
      | ((with_reducible refine (HR.out _).mono ?_); rintro r w2 ⟨rfl, m2⟩
         have C0 : w2.cell? ⟨w.heap.size, 0, none⟩ = some (.int .i64 g.v) := (H1.out.2.mod m2 (fun f => f)).cell 0
         have C1 : w2.cell? ⟨w.heap.size, 1, none⟩ = some (.int .i64 g.S) := (H1.out.2.mod m2 (fun f => f)).cell 1
         have C2 : w2.cell? ⟨w.heap.size, 2, none⟩ = some (.int .i64 g.s) := (H1.out.2.mod m2 (fun f => f)).cell 2
         have C3 : w2.cell? ⟨w.heap.size, 3, none⟩ = some (.int .i64 g.u) := (H1.out.2.mod m2 (fun f => f)).cell 3
         have C4 : w2.cell? ⟨w.heap.size, 4, none⟩ = some (.int .i64 g.j) := (H1.out.2.mod m2 (fun f => f)).cell 4
         have H2 := Lib.hid (And.intro (H1.out.1.nn_ m2) (H1.out.2.mod m2 (fun f => f))); clear m2)
      | ((with_reducible refine (HP.out _).mono ?_); rintro r w3 ⟨rfl, m3⟩
         have H3 := Lib.hid (H2.out.1.nn_ m3); clear m3))
    go_ret
    exact ⟨rfl, H3.out⟩
  · rw [decide_eq_false h] at HR
    rw [show decide g.right = false from decide_eq_false (fun h' => h h'.1)]
    unfold gV gC at *
    go_enter Tryz.func23, Tryz.ntmps23
    go_wp2_with (first
      | (with_reducible change wpList _ _ _ (⟨some 3, Op.load _ _, _, _, _, _⟩ :: _) _ _
         go_must (refine wpList_load_var 23 _ rfl rfl w.heap.size #[.int .i64 g.v, .int .i64 g.S, .int .i64 g.s, .int .i64 g.u, .int .i64 g.j] _ _ rfl H1.out.2 Tryz.underlying23 rfl size_geo ?_))
      | ((with_reducible refine (HR.out _).mono ?_); rintro r w2 ⟨rfl, m2⟩
         have H2 := Lib.hid (H1.out.1.nn_ m2); clear m2))
    go_ret
    exact ⟨rfl, H2.out⟩
end
end Go.Proofs.YtijmkbhbpbkkoaaGreat
