/- leaf.place, inner.kid; a tree in memory. -/
import Derived.Test.YtkcpmkeckcnobaaTrB
import Derived.Test.YtkcpmkeckcnobaaSlA
namespace Go.Proofs.Ytkcpmkeckcnobaa
open Go.RowKit

theorem size_leafT : (Try.prog.info? 111).map (·.size) = some 1 := by kernel_rfl
theorem size_innerT : (Try.prog.info? 106).map (·.size) = some 2 := by kernel_rfl
section
variable {w : World} {A : Option Addr} {n c b : Nat} {L : List (List Nat)} {k : List Nat}
set_option maxRecDepth 100000 in
set_option maxHeartbeats 1600000 in
theorem place_any (hb : Blk w b 111 #[.slice A n c]) (h : RdC w A n 80 (bv L.flatten)) (hr : Rows 80 L) (hL : L.length = n) (hk : k.length = 40) (hkz : ∀ z ∈ k, z < 256) (hn : n ≤ 1099511627776) (hs : (L.map keyOf).Pairwise klt) :
    Calls Try.prog 62 #[.pointer (some ⟨b, 0, none⟩), .agg (bv k).toArray] w fun e w' => ∃ i : Nat, e = .returned (.tuple #[.int .i64 i, .bool (decide (i < n ∧ (L.map keyOf).getD i [] = k))]) ∧ Place (L.map keyOf) k i ∧ Mod Nn w w' := by
  have m1 : Mod Nn w (w.alloc (.cells (bv k).toArray 23)) := (Mod.refl Nn w).alloc _
  have b1 : Blk (w.alloc (.cells (bv k).toArray 23)) w.heap.size 23 (bv k).toArray := Blk.new _ _ _
  have HH := Lib.hid (And.intro (hb.alloc _ : Blk (w.alloc (.cells (bv k).toArray 23)) b 111 #[.slice A n c]) (And.intro m1 (And.intro b1 (And.intro h (And.intro hr (And.intro hs (And.intro hk hkz)))))))
  have hcs : (bv k).toArray.size = 40 := by rw [List.size_toArray, bv_len, hk]
  have hsk : (Try.prog.info? 23).map (·.size) = some (bv k).toArray.size := by rw [hcs]; exact size_keyT
  clear hb m1 b1 h hr hs hk hkz hcs
  go_enter Try.func62, Try.ntmps62
  go_wp2_with fail
  generalize hw0 : w.alloc (.cells (bv k).toArray 23) = w0 at *
  clear hw0
  refine wp_region_planC (fun w' => Mod Nn w0 w') [(0, true), (1, true), (2, true), (3, true), (4, true), (5, false), (6, true), (7, true), (8, true), (9, true)] (by kernel_rfl) (by kernel_rfl) (Mod.refl Nn w0).drew ?_
  iterate 3 (refine pc_pure rfl rfl (fun K hK => ?_); go_simp; refine hK _ ?_; clear hK K)
  refine pc_take (.slice A n c) rfl rfl (fun w' hS => exec_load1 (P := Try.prog) 40 (.tmp 8) rfl rfl ((HH.out.1.mod hS (fun f => f)).cell 0) Try.underlying40 rfl) (fun K hK => ?_); go_simp; refine hK _ ?_; clear hK K
  refine pc_take (.agg (bv k).toArray) rfl rfl (fun w' hS => exec_load_row (P := Try.prog) (g := w.heap.size) (cs := (bv k).toArray) 23 (.tmp 3) rfl rfl (HH.out.2.2.1.mod hS (fun f => f)) Try.underlying23 rfl hsk) (fun K hK => ?_); go_simp; refine hK _ ?_; clear hK K
  refine pc_call rfl rfl (fun K hK => ?_); go_simp; refine ⟨_, _, ⟨rfl, rfl⟩, hK _ _ _ ?_⟩; clear hK K
  refine (bsE_any (HH.out.2.2.2.1.mod (by omega) HH.out.2.1.drew (fun _ _ f => f)) HH.out.2.2.2.2.1 hL HH.out.2.2.2.2.2.2.1 HH.out.2.2.2.2.2.2.2 hn HH.out.2.2.2.2.2.1).mono ?_
  rintro e w2 ⟨i, rfl, hpl, m2⟩
  have H2 := Lib.hid (And.intro ((Mod.refl Nn w0).drew.nn_ m2) (And.intro (HH.out.2.1.drew.nn_ m2) hpl))
  clear m2 hpl
  obtain ⟨B, hB⟩ : ∃ B, decide (i < n ∧ (L.map keyOf).getD i [] = k) = B := ⟨_, rfl⟩
  rw [hB]
  have HBB := Lib.hid hB
  clear hB
  refine ⟨_, rfl, H2.out.1, ?_⟩
  iterate 4 (refine pc_pure rfl rfl (fun K hK => ?_); go_simp; refine hK _ ?_; clear hK K)
  refine pc_nil ?_
  go_wp2
  go_ret2
  exact ⟨i, by rw [HBB.out]; rfl, H2.out.2.2, H2.out.2.1⟩
/-- how many keys are not behind k -/
def kidx (ks : List (List Nat)) (k : List Nat) (i : Nat) : Prop := i ≤ ks.length ∧ (∀ t, t < i → ¬ klt k (ks.getD t [])) ∧ (∀ t, i ≤ t → t < ks.length → klt k (ks.getD t []))
theorem kidx_of {ks : List (List Nat)} {k : List Nat} {i : Nat} (h : Place ks k i) (hs : ks.Pairwise klt) : kidx ks k (if i < ks.length ∧ ks.getD i [] = k then i + 1 else i) := by
  by_cases hc : i < ks.length ∧ ks.getD i [] = k
  · rw [if_pos hc]
    refine ⟨by omega, fun t ht => ?_, fun t h1 h2 => ?_⟩
    · rcases Nat.lt_or_ge t i with h3 | h3
      · exact klt_asym (h.lo t h3)
      · obtain rfl : t = i := by omega
        rw [hc.2]; exact klt_irr k
    · have := mono_getD hs (show i < t by omega) h2
      rwa [hc.2] at this
  · rw [if_neg hc]
    refine ⟨h.le, fun t ht => klt_asym (h.lo t ht), fun t h1 h2 => ?_⟩
    have hi : klt k (ks.getD i []) := by
      refine Classical.byContradiction fun hn => hc ⟨by omega, klt_eq (h.hi i (Nat.le_refl _) (by omega)) hn⟩
    rcases Nat.lt_or_ge i t with h3 | h3
    · exact klt_trans hi (mono_getD hs h3 h2)
    · obtain rfl : t = i := by omega
      exact hi
set_option maxRecDepth 100000 in
set_option maxHeartbeats 1600000 in
theorem kid_any {C : Value} {ks : List (List Nat)} (hb : Blk w b 106 #[.slice A n c, C]) (h : RdC w A n 40 (bv ks.flatten)) (hr : Rows 40 ks) (hL : ks.length = n) (hk : k.length = 40) (hkz : ∀ z ∈ k, z < 256) (hn : n ≤ 1099511627776) (hs : ks.Pairwise klt) :
    Calls Try.prog 64 #[.pointer (some ⟨b, 0, none⟩), .agg (bv k).toArray] w fun e w' => ∃ i : Nat, e = .returned (.int .i64 i) ∧ kidx ks k i ∧ Mod Nn w w' := by
  have m1 : Mod Nn w (w.alloc (.cells (bv k).toArray 23)) := (Mod.refl Nn w).alloc _
  have b1 : Blk (w.alloc (.cells (bv k).toArray 23)) w.heap.size 23 (bv k).toArray := Blk.new _ _ _
  have HH := Lib.hid (And.intro (hb.alloc _ : Blk (w.alloc (.cells (bv k).toArray 23)) b 106 #[.slice A n c, C]) (And.intro m1 (And.intro b1 (And.intro h (And.intro hr (And.intro hs (And.intro hk hkz)))))))
  have hcs : (bv k).toArray.size = 40 := by rw [List.size_toArray, bv_len, hk]
  have hsk : (Try.prog.info? 23).map (·.size) = some (bv k).toArray.size := by rw [hcs]; exact size_keyT
  clear hb m1 b1 h hr hs hk hkz hcs
  go_enter Try.func64, Try.ntmps64
  go_wp2_with fail
  generalize hw0 : w.alloc (.cells (bv k).toArray 23) = w0 at *
  clear hw0
  refine wp_region_planC (fun w' => Mod Nn w0 w') [(0, true), (1, true), (2, true), (3, true), (4, true), (5, false), (6, true), (7, true), (8, true), (9, true), (10, true)] (by kernel_rfl) (by kernel_rfl) (Mod.refl Nn w0).drew ?_
  iterate 3 (refine pc_pure rfl rfl (fun K hK => ?_); go_simp; refine hK _ ?_; clear hK K)
  refine pc_take (.slice A n c) rfl rfl (fun w' hS => exec_load1 (P := Try.prog) 75 (.tmp 10) rfl rfl ((HH.out.1.mod hS (fun f => f)).cell 0) Try.underlying75 rfl) (fun K hK => ?_); go_simp; refine hK _ ?_; clear hK K
  refine pc_take (.agg (bv k).toArray) rfl rfl (fun w' hS => exec_load_row (P := Try.prog) (g := w.heap.size) (cs := (bv k).toArray) 23 (.tmp 3) rfl rfl (HH.out.2.2.1.mod hS (fun f => f)) Try.underlying23 rfl hsk) (fun K hK => ?_); go_simp; refine hK _ ?_; clear hK K
  refine pc_call rfl rfl (fun K hK => ?_); go_simp; refine ⟨_, _, ⟨rfl, rfl⟩, hK _ _ _ ?_⟩; clear hK K
  refine (bsK_any (HH.out.2.2.2.1.mod (by omega) HH.out.2.1.drew (fun _ _ f => f)) HH.out.2.2.2.2.1 hL HH.out.2.2.2.2.2.2.1 HH.out.2.2.2.2.2.2.2 hn HH.out.2.2.2.2.2.1).mono ?_
  rintro e w2 ⟨i, rfl, hpl, m2⟩
  have hkx := kidx_of hpl HH.out.2.2.2.2.2.1
  rw [hL] at hkx
  have hle := hpl.le
  have H2 := Lib.hid (And.intro ((Mod.refl Nn w0).drew.nn_ m2) (HH.out.2.1.drew.nn_ m2))
  clear m2 hpl
  refine ⟨_, rfl, H2.out.1, ?_⟩
  by_cases hc : i < n ∧ ks.getD i [] = k
  · rw [decide_eq_true hc]
    rw [if_pos hc] at hkx
    have HK := Lib.hid hkx
    clear hkx hc
    iterate 5 (refine pc_pure rfl rfl (fun K hK => ?_); go_simp; refine hK _ ?_; clear hK K)
    refine pc_nil ?_
    go_wp2
    go_ret
    exact ⟨i + 1, by go_num, HK.out, H2.out.2⟩
  · rw [decide_eq_false hc]
    rw [if_neg hc] at hkx
    have HK := Lib.hid hkx
    clear hkx hc
    iterate 5 (refine pc_pure rfl rfl (fun K hK => ?_); go_simp; refine hK _ ?_; clear hK K)
    refine pc_nil ?_
    go_wp2
    go_ret
    exact ⟨i, rfl, HK.out, H2.out.2⟩
end
/-! ## a tree in memory -/
def leafV (b : Nat) : Value := .iface 109 (.pointer (some ⟨b, 0, none⟩))
def innerV (b : Nat) : Value := .iface 103 (.pointer (some ⟨b, 0, none⟩))
def blks : Option Addr → List Nat
  | none => []
  | some a => [a.block]
theorem mem_blks {A : Option Addr} {g : Nat} : g ∈ blks A ↔ Of A g := by
  cases A with
  | none => simp [blks, Of]
  | some a => simp [blks, Of]; exact eq_comm
/-- a kid: its value, its entries, its size, its blocks -/
structure Kid where
  v : Value
  L : List (List Nat)
  k : Nat
  F : List Nat
def entsOf (ts : List Kid) : List (List Nat) := ts.flatMap (·.L)
def foot (ts : List Kid) : List Nat := ts.flatMap (·.F)
/-- keys stand between kids -/
def Sep (ks : List (List Nat)) (ts : List Kid) : Prop := ∀ i κ, ks[i]? = some κ → Ahead (entsOf (ts.take (i + 1))) κ ∧ ∀ r ∈ entsOf (ts.drop (i + 1)), ¬ klt (keyOf r) κ
def loB : Nat → Nat | 0 => 6 | _ + 1 => 10
def hiB : Nat → Nat | 0 => 12 | _ + 1 => 20
structure LeafAt (w : World) (v : Value) (L : List (List Nat)) (k : Nat) (F : List Nat) (b : Nat) (A : Option Addr) (c : Nat) : Prop where
  ve : v = leafV b
  blk : Blk w b 111 #[.slice A L.length c]
  row : Hold w 28 80 A L.length c (bv L.flatten)
  rows : Rows 80 L
  srt : Srt L
  ke : k = L.length
  fe : F = b :: blks A
  nd : F.Nodup
structure InnerAt (Q : Value → List (List Nat) → Nat → List Nat → Prop) (w : World) (b : Nat) (ks : List (List Nat)) (ts : List Kid) (F : List Nat) (K : Option Addr) (kc : Nat) (C : Option Addr) (cc : Nat) : Prop where
  blk : Blk w b 106 #[.slice K ks.length kc, .slice C ts.length cc]
  krow : Hold w 23 40 K ks.length kc (bv ks.flatten)
  krows : Rows 40 ks
  ksrt : ks.Pairwise klt
  crow : Hold w 37 1 C ts.length cc (ts.map (·.v))
  len : ks.length + 1 = ts.length
  kids : ∀ t ∈ ts, Q t.v t.L t.k t.F
  srt : Srt (entsOf ts)
  sep : Sep ks ts
  fe : F = b :: (blks K ++ (blks C ++ foot ts))
  nd : F.Nodup
def TreeAt (w : World) : Nat → Value → List (List Nat) → Nat → List Nat → Prop
  | 0, v, L, k, F => ∃ b A c, LeafAt w v L k F b A c
  | d + 1, v, L, k, F => ∃ b ks ts K kc C cc, InnerAt (TreeAt w d) w b ks ts F K kc C cc ∧ v = innerV b ∧ L = entsOf ts ∧ k = ts.length ∧ ∀ t ∈ ts, loB d ≤ t.k ∧ t.k ≤ hiB d
section
variable {w w' : World} {S : Nat → Prop} {v : Value} {L : List (List Nat)} {k : Nat} {F : List Nat}
theorem LeafAt.mod {b : Nat} {A : Option Addr} {c : Nat} (h : LeafAt w v L k F b A c) (hm : Mod S w w') (hS : ∀ g ∈ F, ¬ S g) : LeafAt w' v L k F b A c :=
  ⟨h.ve, h.blk.mod hm (hS b (by rw [h.fe]; exact List.mem_cons_self)), h.row.mod hm (fun g hg => hS g (by rw [h.fe]; exact List.mem_cons_of_mem _ (mem_blks.2 hg))), h.rows, h.srt, h.ke, h.fe, h.nd⟩
theorem InnerAt.mod {Q Q' : Value → List (List Nat) → Nat → List Nat → Prop} {b : Nat} {ks : List (List Nat)} {ts : List Kid} {K : Option Addr} {kc : Nat} {C : Option Addr} {cc : Nat} (h : InnerAt Q w b ks ts F K kc C cc) (hm : Mod S w w') (hS : ∀ g, g = b ∨ Of K g ∨ Of C g → ¬ S g) (hQ : ∀ t ∈ ts, Q t.v t.L t.k t.F → Q' t.v t.L t.k t.F) : InnerAt Q' w' b ks ts F K kc C cc :=
  ⟨h.blk.mod hm (hS b (.inl rfl)), h.krow.mod hm (fun g hg => hS g (.inr (.inl hg))), h.krows, h.ksrt, h.crow.mod hm (fun g hg => hS g (.inr (.inr hg))), h.len, fun t ht => hQ t ht (h.kids t ht), h.srt, h.sep, h.fe, h.nd⟩
theorem InnerAt.mem {Q : Value → List (List Nat) → Nat → List Nat → Prop} {b : Nat} {ks : List (List Nat)} {ts : List Kid} {K : Option Addr} {kc : Nat} {C : Option Addr} {cc : Nat} (h : InnerAt Q w b ks ts F K kc C cc) {g : Nat} : g ∈ F ↔ g = b ∨ Of K g ∨ Of C g ∨ ∃ t ∈ ts, g ∈ t.F := by
  rw [h.fe]
  simp only [List.mem_cons, List.mem_append, mem_blks, foot, List.mem_flatMap]
theorem TreeAt.mod : ∀ {d : Nat} {v : Value} {L : List (List Nat)} {k : Nat} {F : List Nat}, TreeAt w d v L k F → Mod S w w' → (∀ g ∈ F, ¬ S g) → TreeAt w' d v L k F
  | 0, _, _, _, _, ⟨b, A, c, h⟩, hm, hS => ⟨b, A, c, h.mod hm hS⟩
  | d + 1, _, _, _, _, ⟨b, ks, ts, K, kc, C, cc, h, h1, h2, h3, h4⟩, hm, hS =>
    ⟨b, ks, ts, K, kc, C, cc, h.mod hm (fun g hg => hS g (h.mem.2 (hg.elim .inl (fun e => e.elim (fun e => .inr (.inl e)) (fun e => .inr (.inr (.inl e))))))) (fun t ht hq => hq.mod hm (fun g hg => hS g (h.mem.2 (.inr (.inr (.inr ⟨t, ht, hg⟩)))))), h1, h2, h3, h4⟩
theorem TreeAt.nn {d : Nat} (h : TreeAt w d v L k F) (hm : Mod Nn w w') : TreeAt w' d v L k F := h.mod hm (fun _ _ f => f)
theorem TreeAt.lt : ∀ {d : Nat} {v : Value} {L : List (List Nat)} {k : Nat} {F : List Nat}, TreeAt w d v L k F → ∀ g ∈ F, g < w.heap.size
  | 0, _, _, _, _, ⟨b, A, c, h⟩, g, hg => by
    rw [h.fe] at hg
    rcases List.mem_cons.1 hg with rfl | hg
    · exact h.blk.lt
    · exact h.row.lt (mem_blks.1 hg)
  | d + 1, _, _, _, _, ⟨b, ks, ts, K, kc, C, cc, h, _⟩, g, hg => by
    rcases h.mem.1 hg with rfl | hg | hg | ⟨t, ht, hg⟩
    · exact h.blk.lt
    · exact h.krow.lt hg
    · exact h.crow.lt hg
    · exact (h.kids t ht).lt g hg
theorem TreeAt.nodup : ∀ {d : Nat}, TreeAt w d v L k F → F.Nodup
  | 0, ⟨_, _, _, h⟩ => h.nd
  | _ + 1, ⟨_, _, _, _, _, _, _, h, _⟩ => h.nd
theorem TreeAt.srt : ∀ {d : Nat}, TreeAt w d v L k F → Srt L
  | 0, ⟨_, _, _, h⟩ => h.srt
  | _ + 1, ⟨_, _, _, _, _, _, _, h, _, h2, _⟩ => h2 ▸ h.srt
theorem TreeAt.rows : ∀ {d : Nat} {v : Value} {L : List (List Nat)} {k : Nat} {F : List Nat}, TreeAt w d v L k F → Rows 80 L
  | 0, _, _, _, _, ⟨_, _, _, h⟩ => h.rows
  | _ + 1, _, _, _, _, ⟨_, _, ts, _, _, _, _, h, _, h2, _⟩ => fun r hr => by
    rw [h2] at hr
    obtain ⟨t, ht, hr⟩ := List.mem_flatMap.1 hr
    exact (h.kids t ht).rows r hr
theorem TreeAt.ne : ∀ {d : Nat} {v : Value} {L : List (List Nat)} {k : Nat} {F : List Nat}, TreeAt w d v L k F → 0 < k → L ≠ []
  | 0, _, _, _, _, ⟨_, _, _, h⟩, hk => fun e => by have := h.ke; rw [e] at this; simp at this; omega
  | d + 1, _, _, _, _, ⟨_, _, ts, _, _, _, _, h, _, h2, h3, h4⟩, hk => fun e => by
    cases ts with
    | nil => simp at h3; omega
    | cons t ts =>
      have hb := (h4 t List.mem_cons_self).1
      have hp : 0 < t.k := by cases d <;> simp [loB] at hb <;> omega
      have := (h.kids t List.mem_cons_self).ne hp
      rw [h2] at e
      simp [entsOf] at e
      exact this e.1
theorem TreeAt.form : ∀ {d : Nat} {v : Value} {L : List (List Nat)} {k : Nat} {F : List Nat}, TreeAt w d v L k F → ∃ b, v = (match d with | 0 => leafV b | _ + 1 => innerV b)
  | 0, _, _, _, _, ⟨b, _, _, h⟩ => ⟨b, h.ve⟩
  | _ + 1, _, _, _, _, ⟨b, _, _, _, _, _, _, _, h, _⟩ => ⟨b, h⟩
theorem tree_one {d : Nat} (h : TreeAt w d v L k F) : v.oneCell' = true := by
  obtain ⟨b, rfl⟩ := h.form
  cases d <;> rfl
end
end Go.Proofs.Ytkcpmkeckcnobaa
