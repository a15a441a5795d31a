/- peatbanklaw01.ShaTwo: the walk. -/
import Derived.Test.YtbocdgmkiajihaaDoorSha16
namespace Go.Proofs.YtbocdgmkiajihaaDoor
open Go.RowKit

/-- two hashes have nothing of one another -/
def Sep (hb sb : Nat) (rv : Value) (hb' sb' : Nat) (rv' : Value) : Prop := ∀ g, InH hb sb rv g → ¬ InH hb' sb' rv' g
theorem Sep.symm {hb sb hb' sb' : Nat} {rv rv' : Value} (h : Sep hb sb rv hb' sb' rv') : Sep hb' sb' rv' hb sb rv := fun g h1 h2 => h g h2 h1
/-- the first is written to -/
theorem Sep.wrote {w : World} {hb sb hb' sb' : Nat} {rv rv' rn : Value} {t' : List Nat} (h : Sep hb sb rv hb' sb' rv') (h2 : HA w hb' sb' rv' t') (hr : ∀ g, rn.ownBlock = some g → w.heap.size ≤ g) : Sep hb sb rn hb' sb' rv' := by
  rintro g (rfl | rfl | hg) h'
  · exact h _ (.inl rfl) h'
  · exact h _ (.inr (.inl rfl)) h'
  · have := hr g hg; have := h2.inlt g h'; omega
/-- all that a hash holds is new since w0 -/
def From (m hb sb : Nat) (rv : Value) : Prop := ∀ g, InH hb sb rv g → m ≤ g
theorem From.wrote {m hb sb : Nat} {rv rn : Value} {w : World} (h : From m hb sb rv) (hm : m ≤ w.heap.size) (hr : ∀ g, rn.ownBlock = some g → w.heap.size ≤ g) : From m hb sb rn := by
  rintro g (rfl | rfl | hg)
  · exact h _ (.inl rfl)
  · exact h _ (.inr (.inl rfl))
  · have := hr g hg; omega
theorem From.mod {w0 w w' : World} {hb sb : Nat} {rv : Value} (h : From w0.heap.size hb sb rv) (hm : Mod Nn w0 w) (hm' : Mod (InH hb sb rv) w w') : Mod Nn w0 w' :=
  hm.then_ hm' (fun g hg hi => by have := h g hi; omega)
theorem From.nil {m hb sb : Nat} (h1 : m ≤ hb) (h2 : m ≤ sb) : From m hb sb (.slice none 0 0) := by
  rintro g (rfl | rfl | hg)
  · exact h1
  · exact h2
  · cases hg
/-- two hashes over texts s, t, in memory that came to be since w0 -/
structure Two (w0 w : World) (hb sb : Nat) (rv : Value) (s : List Nat) (hb' sb' : Nat) (rv' : Value) (t : List Nat) : Prop where
  a : HA w hb sb rv s
  b : HA w hb' sb' rv' t
  sep : Sep hb sb rv hb' sb' rv'
  fa : From w0.heap.size hb sb rv
  fb : From w0.heap.size hb' sb' rv'
  m : Mod Nn w0 w
section
variable {w0 w w' : World} {hb sb hb' sb' : Nat} {rv rv' rn : Value} {s t s' : List Nat}
theorem Two.swap (h : Two w0 w hb sb rv s hb' sb' rv' t) : Two w0 w hb' sb' rv' t hb sb rv s := ⟨h.b, h.a, h.sep.symm, h.fb, h.fa, h.m⟩
theorem Two.wrote (h : Two w0 w hb sb rv s hb' sb' rv' t) (h1 : HA w' hb sb rn s') (hm : Mod (InH hb sb rv) w w') (hr : ∀ g, rn.ownBlock = some g → w.heap.size ≤ g) : Two w0 w' hb sb rn s' hb' sb' rv' t :=
  ⟨h1, h.b.mod hm (fun g hg hi => h.sep g hi hg), h.sep.wrote h.b hr, h.fa.wrote h.m.size hr, h.fb, h.fa.mod h.m hm⟩
theorem Two.nn (h : Two w0 w hb sb rv s hb' sb' rv' t) (hm : Mod Nn w w') : Two w0 w' hb sb rv s hb' sb' rv' t := ⟨h.a.nn hm, h.b.nn hm, h.sep, h.fa, h.fb, h.m.nn_ hm⟩
theorem Two.rd (h : Two w0 w hb sb rv s hb' sb' rv' t) {A : Option Addr} {n : Nat} {xs : List Value} (hr : Rd w0 A n xs) : Rd w A n xs := hr.mod h.m (fun _ _ f => f)
theorem Two.ne (h : Two w0 w hb sb rv s hb' sb' rv' t) {A : Option Addr} {n : Nat} {xs : List Value} (hr : Rd w0 A n xs) : 0 < n → ∀ g, Of A g → g ≠ hb := fun h0 g hg e => by
  have := hr.in_ h0 hg; have := h.fa hb (.inl rfl); omega
end

section
variable {w0 w : World} {hb sb hb' sb' : Nat} {rv rv' : Value} {s t : List Nat}
/-- the first is written to: all that the law needs -/
theorem two_write (hg : Gl w0) (h : Two w0 w hb sb rv s hb' sb' rv' t) {A : Option Addr} {n c : Nat} {l : List Nat} (hr : Rd w0 A n (u8s l)) (hl : ∀ z ∈ l, z < 256) (hN : s.length + n ≤ 1099511627776) :
    Calls Tryd.prog 14 #[.pointer (some ⟨hb, 0, none⟩), .slice A n c] w fun e w' => ∃ rn, e = .returned (.int .i64 0) ∧ Two w0 w' hb sb rn (s ++ l) hb' sb' rv' t :=
  (write_any (hg.nn h.m) h.a (h.rd hr) hl (h.ne hr) hN).mono (fun e w' ⟨rn, he, hh, hm, hrn⟩ => ⟨rn, he, h.wrote hh hm hrn⟩)
end
set_option maxRecDepth 100000 in
set_option maxHeartbeats 3200000 in
theorem shatwo_any {w : World} (hg : Gl w) {A B : Option Addr} {n m c d : Nat} {l k : List Nat} (hr : Rd w A n (u8s l)) (hl : ∀ z ∈ l, z < 256) (hr' : Rd w B m (u8s k)) (hl' : ∀ z ∈ k, z < 256) (hnb : n < 140737488355328) (hmb : m < 140737488355328) :
    Calls Tryd.prog 7 #[.slice A n c, .slice B m d] w fun r w' => r = .returned (.bool true) ∧ Mod Nn w w' := by
  have hL : l.length = n := by have := hr.1; rwa [u8s_len] at this
  have hK : k.length = m := by have := hr'.1; rwa [u8s_len] at this
  have HG := Lib.hid hg
  have HR := Lib.hid (And.intro hr (And.intro hl (And.intro hr' (And.intro hl' (And.intro hL hK)))))
  clear hg hr hl hr' hl' hL hK
  by_cases hn : (3000 : Int) < (n : Int) + m
  · go_enter Tryd.func7, Tryd.ntmps7
    go_wp2_with fail
    refine (awake_any HG.out).mono ?_
    rintro r w1 ⟨rfl, m1⟩
    go_wp2
    go_ret
    exact ⟨rfl, m1⟩
  · have hn2 : n + m ≤ 3000 := by omega
    go_enter Tryd.func7, Tryd.ntmps7
    go_wp2_with fail
    refine (awake_any HG.out).mono ?_
    rintro r w1 ⟨rfl, m1⟩
    have H1 := Lib.hid m1; clear m1
    go_wp2_with fail
    refine (hnew_any (HG.out.nn H1.out)).mono ?_
    rintro e w2 ⟨hb, sb, rfl, h2, m2, hh2, hs2⟩
    have H2 := Lib.hid (And.intro h2 (And.intro (H1.out.nn_ m2) (And.intro hh2 hs2)))
    clear h2 m2 hh2 hs2
    go_wp2_with fail
    refine (hnew_any (HG.out.nn H2.out.2.1)).mono ?_
    rintro e w3 ⟨hb', sb', rfl, h3, m3, hh3, hs3⟩
    have hT : Two w w3 hb sb (.slice none 0 0) [] hb' sb' (.slice none 0 0) [] := by
      have hz := H1.out.size
      have hz2 := H2.out.2.1.size
      have h1 := H2.out.2.2.1
      have h1s := H2.out.2.2.2
      refine ⟨H2.out.1.nn m3, h3, ?_, From.nil (by omega) (by omega), From.nil (by omega) (by omega), H2.out.2.1.nn_ m3⟩
      rintro g hg (rfl | rfl | hg')
      · have := H2.out.1.inlt _ hg; omega
      · have := H2.out.1.inlt _ hg; omega
      · cases hg'
    have HT := Lib.hid hT
    clear h3 m3 hh3 hs3 hT H2
    go_wp2_with fail
    refine (two_write HG.out HT.out HR.out.1 HR.out.2.1 (by simp; omega)).mono ?_
    rintro e w4 ⟨r1, rfl, h4⟩
    have H4 := Lib.hid h4; clear h4 HT
    go_wp2_with fail
    refine (two_write HG.out H4.out.swap HR.out.2.2.1 HR.out.2.2.2.1 (by simp; omega)).mono ?_
    rintro e w5 ⟨r2, rfl, h5⟩
    have H5 := Lib.hid h5.swap; clear h5 H4
    go_wp2_with fail
    refine (two_write HG.out H5.out HR.out.2.2.1 HR.out.2.2.2.1 (by rw [List.nil_append, HR.out.2.2.2.2.1]; omega)).mono ?_
    rintro e w6 ⟨r3, rfl, h6⟩
    have H6 := Lib.hid h6; clear h6 H5
    go_wp2_with fail
    refine (two_write HG.out H6.out.swap HR.out.1 HR.out.2.1 (by rw [List.nil_append, HR.out.2.2.2.2.2]; omega)).mono ?_
    rintro e w7 ⟨r4, rfl, h7⟩
    have H7 := Lib.hid h7.swap; clear h7 H6
    rw [List.nil_append, List.nil_append] at H7
    go_wp2_with (first
      | (with_reducible change wpList _ _ _ (⟨some 37, _, _, _, _, _⟩ :: _) _ _
         go_must (refine wpList_append_rd 22 _ _ rfl rfl w7.heap.size 5 (.int .u8 0) 1 1 Tryd.underlying22 info8 rfl (by omega) _ 0 [] rfl (own_e w7.heap.size (Nat.le_refl _)) A n c (u8s l) rfl ((H7.out.rd HR.out.1).mod ((Mod.refl Nn w7).alloc _) (fun _ _ f => f)).toC (u8s_one _) (by omega) (by omega) (by rw [World.size_alloc]; omega) ?_)
         intro v1 w8 own1 gr1 ob1
         have m8 : Mod Nn w7 w8 := ((Mod.refl Nn w7).alloc _).grown gr1 (fun g hg => .inl (by injection hg with hg; exact Nat.le_of_eq hg))
         rw [Nat.zero_add, List.nil_append] at own1
         clear gr1 ob1)
      | (with_reducible change wpList _ _ _ (⟨some 39, _, _, _, _, _⟩ :: _) _ _
         go_must (refine wpList_append_rd 22 _ _ rfl rfl w7.heap.size 5 (.int .u8 0) 1 1 Tryd.underlying22 info8 rfl (by omega) v1 n _ rfl own1 B m d (u8s k) rfl ((H7.out.rd HR.out.2.2.1).mod m8 (fun _ _ f => f)).toC (u8s_one _) (by omega) (by omega) m8.size ?_)
         intro v2 w9 own2 gr2 ob2
         have m9 : Mod Nn w7 w9 := m8.grown gr2 (fun g hg => .inl (by obtain ⟨_, _, e, _, hb⟩ := own_form own1; rw [e] at hg; exact (hb g (own_of hg)).1))
         rw [← u8s_append] at own2
         obtain ⟨A9, c9, rfl, -, -⟩ := own_form own2
         have H9 := Lib.hid (And.intro own2 m9)
         clear own1 m8 own2 gr2 ob2 m9)
      | (with_reducible change wpList _ _ _ (⟨some 42, _, _, _, _, _⟩ :: _) _ _
         go_must (refine wpList_append_rd 22 _ _ rfl rfl w9.heap.size 5 (.int .u8 0) 1 1 Tryd.underlying22 info8 rfl (by omega) _ 0 [] rfl (own_e w9.heap.size (Nat.le_refl _)) B m d (u8s k) rfl (((H7.out.rd HR.out.2.2.1).mod H9.out.2 (fun _ _ f => f)).mod ((Mod.refl Nn w9).alloc _) (fun _ _ f => f)).toC (u8s_one _) (by omega) (by omega) (by rw [World.size_alloc]; omega) ?_)
         intro v3 wa own1 gr1 ob1
         have m8 : Mod Nn w9 wa := ((Mod.refl Nn w9).alloc _).grown gr1 (fun g hg => .inl (by injection hg with hg; exact Nat.le_of_eq hg))
         rw [Nat.zero_add, List.nil_append] at own1
         clear gr1 ob1)
      | (with_reducible change wpList _ _ _ (⟨some 44, _, _, _, _, _⟩ :: _) _ _
         go_must (refine wpList_append_rd 22 _ _ rfl rfl w9.heap.size 5 (.int .u8 0) 1 1 Tryd.underlying22 info8 rfl (by omega) v3 m _ rfl own1 A n c (u8s l) rfl (((H7.out.rd HR.out.1).mod H9.out.2 (fun _ _ f => f)).mod m8 (fun _ _ f => f)).toC (u8s_one _) (by omega) (by omega) m8.size ?_)
         intro v4 wb own2 gr2 ob2
         have m9 : Mod Nn w9 wb := m8.grown gr2 (fun g hg => .inl (by obtain ⟨_, _, e, _, hb⟩ := own_form own1; rw [e] at hg; exact (hb g (own_of hg)).1))
         rw [← u8s_append] at own2
         obtain ⟨Ab, cb, rfl, -, -⟩ := own_form own2
         have HB := Lib.hid (And.intro own2 m9)
         clear own1 m8 own2 gr2 ob2 m9))
    have hlk : ∀ z ∈ l ++ k, z < 256 := fun z hz => by
      rcases List.mem_append.1 hz with hz | hz
      · exact HR.out.2.1 z hz
      · exact HR.out.2.2.2.1 z hz
    have hkl : ∀ z ∈ k ++ l, z < 256 := fun z hz => by
      rcases List.mem_append.1 hz with hz | hz
      · exact HR.out.2.2.2.1 z hz
      · exact HR.out.2.1 z hz
    have HLK := Lib.hid (And.intro hlk hkl)
    have hT := (H7.out.nn H9.out.2).nn HB.out.2
    have hra : Rd wb A9 (n + m) (u8s (l ++ k)) := (Rd.of_own H9.out.1).mod HB.out.2 (fun _ _ f => f)
    have hrb : Rd wb Ab (m + n) (u8s (k ++ l)) := Rd.of_own HB.out.1
    have hna : ∀ g, Of A9 g → w7.heap.size ≤ g := fun g hg => by
      obtain ⟨_, _, e, -, hb⟩ := own_form H9.out.1
      injection e with e1; subst e1; exact (hb g hg).1
    have hnb' : ∀ g, Of Ab g → w7.heap.size ≤ g := fun g hg => by
      obtain ⟨_, _, e, -, hb⟩ := own_form HB.out.1
      injection e with e1; subst e1
      have := (hb g hg).1; have := H9.out.2.size; omega
    have hlx : (l ++ k).length ≤ 1099511627776 := by rw [List.length_append, HR.out.2.2.2.2.1, HR.out.2.2.2.2.2]; omega
    have hly : (k ++ l).length ≤ 1099511627776 := by rw [List.length_append, HR.out.2.2.2.2.1, HR.out.2.2.2.2.2]; omega
    have hs1 := sum_first (HG.out.nn hT.m) hT.a hlx
    have HZ := Lib.hid (And.intro hT (And.intro hra (And.intro hrb (And.intro (fun g hg h => absurd (H7.out.a.inlt g h) (Nat.not_lt.2 (hna g hg)) : ∀ g, Of A9 g → ¬ InH hb sb r3 g) (fun g hg h => absurd (H7.out.a.inlt g h) (Nat.not_lt.2 (hnb' g hg)) : ∀ g, Of Ab g → ¬ InH hb sb r3 g)))))
    have HZ2 := Lib.hid (And.intro hly (fun g hg h => absurd (H7.out.b.inlt g h) (Nat.not_lt.2 (hnb' g hg)) : ∀ g, Of Ab g → ¬ InH hb' sb' r4 g))
    clear hlk hkl hT hra hrb hna hnb' hlx hly
    go_wp2_with fail
    refine hs1.mono ?_
    rintro e wc ⟨rfl, -, mc⟩
    have hy := HZ.out.1.b.mod mc (fun g hg h => HZ.out.1.sep g h hg)
    have hmc : Mod Nn w wc := HZ.out.1.fa.mod HZ.out.1.m mc
    obtain ⟨D, hD⟩ : ∃ x, digL (l ++ k) = x := ⟨_, rfl⟩
    rw [hD]
    have HD := Lib.hid (show digL (l ++ k) = D ∧ D.length = 32 ∧ ∀ z ∈ D, z < 256 from ⟨hD, hD ▸ digL_len _, hD ▸ digL_lt _⟩)
    have HC := Lib.hid (And.intro hy (And.intro hmc (And.intro (HZ.out.2.1.mod mc HZ.out.2.2.2.1) (HZ.out.2.2.1.mod mc HZ.out.2.2.2.2))))
    clear hs1 mc hy hmc hD
    go_wp2_with fail
    refine (psum_any (HG.out.nn HC.out.2.1) HC.out.2.2.1 HLK.out.1 (by omega)).mono ?_
    rintro e wd ⟨rfl, md⟩
    rw [HD.out.1]
    have hs2 := sum_first (HG.out.nn (HC.out.2.1.nn_ md)) (HC.out.1.nn md) HZ2.out.1
    have HDD := Lib.hid (And.intro (HC.out.2.1.nn_ md) (HC.out.2.2.2.mod md (fun _ _ f => f)))
    clear md
    go_wp2_with (first
      | (with_reducible change wpList _ _ _ (⟨some 64, _, _, _, _, _⟩ :: _) _ _
         go_must (refine wpList_val rfl (exec_eqK _ _ rfl rfl rfl HD.out.2.1 HD.out.2.2) ?_)))
    refine hs2.mono ?_
    rintro e we ⟨rfl, -, me⟩
    have hme : Mod Nn w we := HZ.out.1.fb.mod HDD.out.1 me
    obtain ⟨E, hE⟩ : ∃ x, digL (k ++ l) = x := ⟨_, rfl⟩
    rw [hE]
    have HE := Lib.hid (show digL (k ++ l) = E ∧ E.length = 32 ∧ ∀ z ∈ E, z < 256 from ⟨hE, hE ▸ digL_len _, hE ▸ digL_lt _⟩)
    have HF := Lib.hid (And.intro hme (HDD.out.2.mod me HZ2.out.2))
    clear hs2 me hme hE
    go_wp2_with fail
    refine (psum_any (HG.out.nn HF.out.1) HF.out.2 HLK.out.2 (by omega)).mono ?_
    rintro e wf ⟨rfl, mf⟩
    rw [HE.out.1]
    have hmf := HF.out.1.nn_ mf
    clear mf
    go_wp2_with (first
      | (with_reducible change wpList _ _ _ (⟨some 71, _, _, _, _, _⟩ :: _) _ _
         go_must (refine wpList_val rfl (exec_eqK _ _ rfl rfl rfl HE.out.2.1 HE.out.2.2) ?_)))
    go_ret
    exact ⟨rfl, hmf⟩
end Go.Proofs.YtbocdgmkiajihaaDoor
