/- The document's device: Write of a sector that was never written; Write. -/
import Derived.Test.YtgmkibckbbbhkaaRef84
namespace Go.Proofs.Ytgmkibckbbbhkaa
open Go.RowKit

theorem flat_new (L : List Sec) (a0 a1 a2 a3 b1 b3 : Value) (t : Sec) (ht : t.enc = [a0, b1, a2, b3]) :
    ((flat Sec.enc L ++ [a0, a1, a2, a3]).set (L.length * 4 + 1) b1).set (L.length * 4 + 3) b3 = flat Sec.enc (L ++ [t]) := by
  have hl := flat_len Sec.enc_len L
  rw [flat_append, flat_one, ht, List.set_append_right _ _ (by rw [hl]; omega), List.set_append_right _ _ (by rw [hl]; omega), hl,
    show L.length * 4 + 1 - L.length * 4 = 1 from by omega, show L.length * 4 + 3 - L.length * 4 = 3 from by omega]
  rfl
theorem new_cell (L : List Sec) (xs : List Value) (j : Nat) : (flat Sec.enc L ++ xs)[L.length * 4 + j]? = xs[j]? := by
  have hl := flat_len Sec.enc_len L
  rw [List.getElem?_append_right (by rw [hl]; omega), hl, show L.length * 4 + j - L.length * 4 = j from by omega]

set_option maxRecDepth 100000 in
set_option maxHeartbeats 3200000 in
theorem rwrite_none {w : World} {b : Nat} {lv : Value} {F : Nat → Prop} {D : Dk} {L : List Sec} (h : RefAt w b lv F D L) (k : Int) {A : Option Addr} {c : Nat} {bs : List Int} (hr : Rd w A 512 (bs.map (Value.int .u8))) (hA : ∀ g, Of A g → ¬ InR b lv g)
    (hd : D.down = false) (h0 : ¬ k < 0) (h1 : ¬ D.n ≤ k) (hf : L.find? (fun s => s.n == k) = none) :
    Calls Try.prog 69 #[.pointer (some ⟨b, 0, none⟩), .int .i64 k, .slice A 512 c] w (RefPost w b lv F (.int .i64 (D.write k bs).1) (D.write k bs).2) := by
  have hb : bs.length = 512 := by have := hr.1; simpa using this
  have hw : D.write k bs = (if (D.put k bs).crash.down then 9 else 0, (D.put k bs).crash) := by
    have hm : D.may k = 0 := by unfold Dk.may; rw [if_neg (by rw [hd]; exact Bool.false_ne_true), if_neg (by omega)]
    unfold Dk.write; rw [if_pos hm, if_pos hb]
  rw [hw]
  generalize hRR : (if (D.put k bs).crash.down = true then (9 : Int) else 0) = R
  have HRR := Lib.hid hRR; clear hRR
  have hfind := rfind_any h k
  rw [fnd_none hf] at hfind
  have hrow := h.row
  have hlen := h.len
  have hbl := h.blk.lt
  have c0 := h.c0; have c1 := h.c1; have c3 := h.c3
  have f1 := h.blk.frozen 1
  rw [hd] at c3
  have HD := Lib.hid (show (D.put k bs).down = false from hd)
  have HH := Lib.hid h
  have HS := Lib.hid (And.intro hf (And.intro hb (And.intro hrow (And.intro f1 hA))))
  have HK := Lib.hid (And.intro h0 h1)
  clear hw hf hb hrow h hd f1 hA
  generalize hgn : D.n = n at *
  have HGN := Lib.hid hgn; clear hgn
  go_enter Try.func69, Try.ntmps69
  go_wp2_with fail
  refine hfind.mono ?_
  rintro r w1 ⟨rfl, rfl⟩
  clear hfind c0 c3
  go_wp2_with fail
  clear h0 h1
  refine wp_region_planT (fun w' => w'.cell? ⟨b, 1, none⟩ = some lv) 12 [(0, 0), (1, 0), (2, 0), (3, 0), (4, 1), (5, 0), (6, 2), (7, 0), (8, 2), (9, 2), (10, 0), (11, 0), (12, 2)] (by kernel_rfl) (by kernel_rfl) c1 ?_
  iterate 4 (refine pt_pure rfl rfl (fun K hK => ?_); go_simp; refine hK _ ?_; clear hK K)
  refine pt_take _ rfl rfl (fun w' hS => exec_load1 (P := Try.prog) 105 _ rfl rfl hS Try.underlying105 rfl) (fun K hK => ?_); go_simp; refine hK _ ?_; clear hK K
  iterate 1 (refine pt_pure rfl rfl (fun K hK => ?_); go_simp; refine hK _ ?_; clear hK K)
  have m1 : Mod Nn w (w.drew.alloc (.cells (Array.replicate 512 (.int .u8 0)) 5)) := ((Mod.refl Nn w).drew).alloc _
  have bz : Blk (w.drew.alloc (.cells (Array.replicate 512 (.int .u8 0)) 5)) w.heap.size 5 (Array.replicate 512 (.int .u8 0)) := Blk.new _ _ _
  refine pt_val (w1 := w.drew.alloc (.cells (Array.replicate 512 (.int .u8 0)) 5)) rfl rfl (exec_make1 (P := Try.prog) 35 _ _ rfl 5 (.int .u8 0) 1 Try.underlying35 info_byte rfl 512 512 rfl rfl (by omega) (by omega) (by omega)) (fun _ => (m1.cell (p := ⟨b, 1, none⟩) hbl (fun f => f)).trans c1) (fun K hK => ?_); go_simp; refine hK _ ?_; clear hK K
  have z1 : (w.drew.alloc (.cells (Array.replicate 512 (.int .u8 0)) 5)).heap.size = w.heap.size + 1 := by simp
  generalize w.drew.alloc (.cells (Array.replicate 512 (.int .u8 0)) 5) = w2 at *
  iterate 1 (refine pt_pure rfl rfl (fun K hK => ?_); go_simp; refine hK _ ?_; clear hK K)
  have m12 : Mod Nn w (w2.alloc (.cells #[.int .i64 k, .slice none 0 0, .slice (some ⟨w.heap.size, 0, none⟩) 512 512, .bool false] 112)) := m1.alloc _
  have bn : Blk (w2.alloc (.cells #[.int .i64 k, .slice none 0 0, .slice (some ⟨w.heap.size, 0, none⟩) 512 512, .bool false] 112)) w2.heap.size 112 [.int .i64 k, .slice none 0 0, .slice (some ⟨w.heap.size, 0, none⟩) 512 512, .bool false].toArray := Blk.new _ _ _
  rw [z1] at bn
  have bz2 := bz.alloc (.cells #[.int .i64 k, .slice none 0 0, .slice (some ⟨w.heap.size, 0, none⟩) 512 512, .bool false] 112)
  refine pt_mem rfl rfl (fun K hK => ?_); go_simp; refine ⟨_, _, ⟨rfl, rfl⟩, hK _ _ ?_ ?_⟩; clear hK K
  · intro _
    exact (m12.cell (p := ⟨b, 1, none⟩) hbl (fun f => f)).trans c1
  generalize w2.alloc (.cells #[.int .i64 k, .slice none 0 0, .slice (some ⟨w.heap.size, 0, none⟩) 512 512, .bool false] 112) = w3 at *
  refine pt_append 105 _ _ rfl rfl rfl 0 112 (.agg #[.int .i64 0, .slice none 0 0, .slice none 0 0, .bool false]) 4 64 Try.underlying105 info_rsec rfl (by omega) lv L.length (flat Sec.enc L) rfl (own_mod HS.out.2.2.1 m12 (fun _ _ f => f)) _ 1 1 [.int .i64 k, .slice none 0 0, .slice (some ⟨w.heap.size, 0, none⟩) 512 512, .bool false] rfl (RdC.of_blk bn rfl) (by intro u hu; simp only [List.mem_cons, List.not_mem_nil, or_false] at hu; rcases hu with rfl | rfl | rfl | rfl <;> rfl) (by omega) (by omega) (Nat.zero_le _) ?_
  intro v w4 own4 gr4 ob4
  have hz2 : w.heap.size < w3.heap.size := bz2.lt
  have hob : ∀ g, v.ownBlock = some g → lv.ownBlock = some g ∨ (w3.heap.size ≤ g ∧ g < w4.heap.size) := fun g hg => by
    obtain ⟨A5, c5, hv5, _, hlt5⟩ := own_form own4
    rcases ob4 with h | h
    · exact .inl (h.symm.trans hg)
    · have h' : some w3.heap.size = some g := h.symm.trans hg
      injection h' with h'
      rw [hv5] at hg
      exact .inr ⟨by omega, (hlt5 g (own_of hg)).2⟩
  have hlb : ∀ g, lv.ownBlock = some g → g ≠ b ∧ g < w.heap.size := fun g hg => ⟨(HH.out.sep g hg).1, HH.out.lt g (.inl (.inr hg))⟩
  have m4 : Mod (InR b lv) w w4 := (m12.nn).grown gr4 (fun g h => .inr (.inr h))
  have bz4 : Blk w4 w.heap.size 5 (Array.replicate 512 (.int .u8 0)) := by
    have := gr4.block w.heap.size hz2 (fun e => by have := (hlb _ e.symm).2; omega)
    exact this.trans bz2
  have blk4 := HH.out.blk.mod m12 (fun f => f)
  have blk4' : Blk w4 b 107 #[.int .i64 D.n, lv, .int .i64 D.armed, .bool D.down] := (gr4.block b blk4.lt (fun e => (hlb _ e.symm).1 rfl)).trans blk4
  refine ⟨fun _ => blk4'.cell 1, fun K hK => ?_⟩; go_simp; refine hK _ ?_; clear hK K
  obtain ⟨g, cap, cur, rfl, -, -, hnc, hcm, -, -⟩ := own_blk own4 (by omega)
  have hgb : g ≠ b := by
    rcases hob g rfl with h | h
    · exact (hlb g h).1
    · omega
  have hgz : g ≠ w.heap.size := by
    rcases hob g rfl with h | h
    · have := (hlb g h).2; omega
    · omega
  have hgl := own_lt own4
  have hgF : ¬ F g := by
    rcases hob g rfl with h | h
    · exact (HH.out.sep g h).2
    · intro hf; have := HH.out.flt g hf; omega
  have HOB := Lib.hid (And.intro hob (And.intro hlb (And.intro hgF ob4)))
  have HGW := Lib.hid (show w.heap.size ≤ g ∨ lv.ownBlock = some g from by
    rcases hob g rfl with h | h
    · exact .inr h
    · exact .inl (by omega))
  clear hob hlb ob4 hgF
  iterate 2 (refine pt_pure rfl rfl (fun K hK => ?_); go_simp; refine hK _ ?_; clear hK K)
  refine pt_unit (w1 := w4.setCell ⟨b, 1, none⟩ (.slice (some ⟨g, 0, none⟩) (L.length + 1) cap)) rfl rfl (exec_store1 (P := Try.prog) 105 _ _ rfl rfl rfl (blk4'.cell 1) (blk4'.frozen 1) rfl rfl rfl size_rslice) (fun h => by simp at h) (fun K hK => ?_); go_simp; refine hK _ ?_; clear hK K
  refine pt_nil ?_
  have blk5 : Blk (w4.setCell ⟨b, 1, none⟩ (.slice (some ⟨g, 0, none⟩) (L.length + 1) cap)) b 107 #[.int .i64 D.n, .slice (some ⟨g, 0, none⟩) (L.length + 1) cap, .int .i64 D.armed, .bool D.down] := blk4'.set_ 1 _
  have row5 := own_setRow own4 (u := ⟨b, 1, none⟩) (fun e => hgb e.symm) (.slice (some ⟨g, 0, none⟩) (L.length + 1) cap)
  have bz5 := bz4.far (p := ⟨b, 1, none⟩) (fun e => by have e : w.heap.size = b := e; omega) (.slice (some ⟨g, 0, none⟩) (L.length + 1) cap)
  have m5 : Mod (InR b lv) w (w4.setCell ⟨b, 1, none⟩ (.slice (some ⟨g, 0, none⟩) (L.length + 1) cap)) := m4.setCell (.inr (.inl rfl)) _
  have rd5 := hr.mod m5 (fun k hk e => HS.out.2.2.2.2 k hk e)
  have z5 : w4.heap.size = (w4.setCell ⟨b, 1, none⟩ (.slice (some ⟨g, 0, none⟩) (L.length + 1) cap)).heap.size := by simp
  have hz5 : w.heap.size < w4.heap.size := bz4.lt
  rw [z5] at hz5 hgl
  generalize w4.setCell ⟨b, 1, none⟩ (.slice (some ⟨g, 0, none⟩) (L.length + 1) cap) = w5 at *
  have c15 := blk5.cell 1
  have HGL := Lib.hid hgl
  have HZ := Lib.hid (And.intro row5 (And.intro bz5 (And.intro m5 (And.intro blk5 (And.intro hgz rd5)))))
  have hb5 := blk5.lt
  clear row5 bz5 m5 blk5 hgz rd5 own4 gr4 m4 bz4 blk4 blk4' z5 m12 m1 bn bz bz2 c1 hr hz2 z1 hgl
  have hcap : (L.length : Int) < L.length + 1 := by omega
  go_wp2_with fail
  refine wp_region_planT (fun w' => w'.cell? ⟨b, 1, none⟩ = some (.slice (some ⟨g, 0, none⟩) (L.length + 1) cap)) 10 [(0, 0), (1, 0), (2, 0), (3, 1), (4, 0), (6, 0), (5, 2), (7, 2), (8, 0), (9, 0), (10, 2)] (by kernel_rfl) (by kernel_rfl) c15 ?_
  iterate 3 (refine pt_pure rfl rfl (fun K hK => ?_); go_simp; refine hK _ ?_; clear hK K)
  refine pt_take _ rfl rfl (fun w' hS => exec_load1 (P := Try.prog) 105 _ rfl rfl hS Try.underlying105 rfl) (fun K hK => ?_); go_simp; refine hK _ ?_; clear hK K
  iterate 2 (refine pt_pure rfl rfl (fun K hK => ?_); go_simp; refine hK _ ?_; clear hK K)
  have m6 : Mod Nn w5 (w5.alloc (.cells #[] 5)).drew := ((Mod.refl Nn w5).alloc _).drew
  refine pt_mem rfl rfl (fun K hK => ?_); go_simp; refine ⟨_, _, ⟨rfl, rfl⟩, hK _ _ ?_ ?_⟩; clear hK K
  · intro _
    exact (m6.cell (p := ⟨b, 1, none⟩) hb5 (fun f => f)).trans c15
  refine pt_append 35 _ _ rfl rfl rfl w5.heap.size 5 (.int .u8 0) 1 1 Try.underlying35 info_byte rfl (by omega) _ 0 [] rfl (own_empty w5.heap.size (Nat.le_refl _)) _ 512 _ (bs.map (Value.int .u8)) rfl (HZ.out.2.2.2.2.2.mod m6 (fun _ _ f => f)).toC (ints_oneCell _ _) (by omega) (by omega) (by simp) ?_
  intro v w6 own6 gr6 ob6
  have m6' : Mod Nn w5 w6 := m6.grown gr6 (fun g h => .inl (by have h' : some w5.heap.size = some g := h; injection h' with h'; omega))
  refine ⟨fun _ => (m6'.cell (p := ⟨b, 1, none⟩) hb5 (fun f => f)).trans c15, fun K hK => ?_⟩; go_simp; refine hK _ ?_; clear hK K
  simp only [Nat.zero_add, List.nil_append] at own6
  have hrd6 : ∀ A'' c'', v = .slice A'' 512 c'' → Rd w6 A'' 512 (bs.map (Value.int .u8)) := fun A'' c'' e => Rd.of_own (e ▸ own6)
  obtain ⟨g', cap', cur', rfl, hg', hb', hnc', _, _, _⟩ := own_blk own6 (by omega)
  have hrd := hrd6 _ _ rfl
  have hlt' := hb'.lt
  have row6 := own_mod HZ.out.1 m6' (fun _ _ f => f)
  have d1 : w6.cell? ⟨g, L.length * 4 + 1, none⟩ = some (.slice none 0 0) := own_cell row6 (by rw [new_cell]; rfl)
  have d3 : w6.cell? ⟨g, L.length * 4 + 3, none⟩ = some (.bool false) := own_cell row6 (by rw [new_cell]; rfl)
  have f1 := own_free row6 (L.length * 4 + 1)
  have hlast : (L.length : Int) < (L.length : Int) + 1 := by omega
  iterate 2 (refine pt_pure rfl rfl (fun K hK => ?_); go_simp; refine hK _ ?_; clear hK K)
  refine pt_unit (w1 := w6.setCell ⟨g, L.length * 4 + 1, none⟩ (.slice (some ⟨g', 0, none⟩) 512 cap')) rfl rfl (exec_store1 (P := Try.prog) 35 _ _ rfl rfl rfl d1 f1 rfl rfl rfl size_slice8) (fun h => by simp at h) (fun K hK => ?_); go_simp; refine hK _ ?_; clear hK K
  refine pt_nil ?_
  clear f1 d1 hlast
  have m6b : Mod (InR b lv) w w6 := HZ.out.2.2.1.nn_ m6'
  have c16 : w6.cell? ⟨b, 1, none⟩ = some (.slice (some ⟨g, 0, none⟩) (L.length + 1) cap) := (m6'.cell (p := ⟨b, 1, none⟩) hb5 (fun f => f)).trans c15
  have row7 := own_set row6 (L.length * 4 + 1) (.slice (some ⟨g', 0, none⟩) 512 cap')
  have n7 : Mod (At g) w6 (w6.setCell ⟨g, L.length * 4 + 1, none⟩ (.slice (some ⟨g', 0, none⟩) 512 cap')) := (Mod.refl (At g) w6).setCell (p := ⟨g, L.length * 4 + 1, none⟩) (.inr rfl) _
  have m7 : Mod (InR b lv) w (w6.setCell ⟨g, L.length * 4 + 1, none⟩ (.slice (some ⟨g', 0, none⟩) 512 cap')) := m6b.setCell (p := ⟨g, L.length * 4 + 1, none⟩) (HGW.out.imp id (fun h => .inr h)) _
  have hne : g' ≠ g := by have := HGL.out; omega
  have c17 := (n7.cell (p := ⟨b, 1, none⟩) (Nat.lt_of_lt_of_le hb5 m6'.size) (fun e => hgb e.symm)).trans c16
  have d7 : (w6.setCell ⟨g, L.length * 4 + 1, none⟩ (.slice (some ⟨g', 0, none⟩) 512 cap')).cell? ⟨g, L.length * 4 + 3, none⟩ = some (.bool false) := by
    rw [World.cell?_setCell_other _ _ _ _ (fun e => by injection e with _ e _; omega)]; exact d3
  have f7 := own_free row7 (L.length * 4 + 3)
  have blk7 := (HZ.out.2.2.2.1.mod m6' (fun f => f)).mod n7 (fun e => hgb e.symm)
  have bz7 := (HZ.out.2.1.mod m6' (fun f => f)).mod n7 (fun e => HZ.out.2.2.2.2.1 e.symm)
  have rd7 := hrd.mod n7 (fun k hk e => by obtain ⟨a, ha, hka⟩ := hk; injection ha with ha; subst ha; exact hne (hka.trans e))
  have hlt7 := Nat.lt_of_lt_of_le hlt' n7.size
  generalize w6.setCell ⟨g, L.length * 4 + 1, none⟩ (.slice (some ⟨g', 0, none⟩) 512 cap') = w7 at *
  have HR7 := Lib.hid (And.intro row7 (And.intro m7 (And.intro hne (And.intro blk7 (And.intro bz7 (And.intro rd7 hlt7))))))
  have HG' := Lib.hid hg'
  clear row7 m7 hne blk7 bz7 rd7 hlt7 n7 hg' hlt' hb' hrd hrd6 own6 gr6 ob6 m6 m6' m6b c15 c16 row6 d3
  have hltI : (L.length : Int) < (L.length : Int) + 1 := by omega
  go_wp2_with fail
  have m8 : Mod (At g) w7 (w7.setCell ⟨g, L.length * 4 + 3, none⟩ (.bool true)) := (Mod.refl (At g) w7).setCell (p := ⟨g, L.length * 4 + 3, none⟩) (.inr rfl) _
  have M8 : Mod (InR b lv) w (w7.setCell ⟨g, L.length * 4 + 3, none⟩ (.bool true)) := HR7.out.2.1.setCell (p := ⟨g, L.length * 4 + 3, none⟩) (HGW.out.imp id (fun h => .inr h)) _
  have row8 := own_set HR7.out.1 (L.length * 4 + 3) (.bool true)
  rw [flat_new L _ _ _ _ _ _ ⟨k, some ⟨g', 0, none⟩, cap', bs, some ⟨w.heap.size, 0, none⟩, 512, zsec, true⟩ rfl] at row8
  have hR8 : RefAt (w7.setCell ⟨g, L.length * 4 + 3, none⟩ (.bool true)) b (.slice (some ⟨g, 0, none⟩) (L.length + 1) cap) (fun x => F x ∨ x = g' ∨ x = w.heap.size) (D.put k bs) (L ++ [⟨k, some ⟨g', 0, none⟩, cap', bs, some ⟨w.heap.size, 0, none⟩, 512, zsec, true⟩]) := by
    have hsz8 := m8.size
    refine HH.out.rowed _ M8 (HR7.out.2.2.2.1.mod m8 (fun e => hgb e.symm)) (by rw [List.length_append]; exact row8) (fun x hx => ?_) (fun x hx => ?_) (fun y hy => ?_) ?_ (fun y hy => ?_)
      (like_put HH.out.like (find_add rfl HS.out.1) rfl (by rw [((HH.out.like k).2 HS.out.1).2]; rfl) rfl) (put_ok HH.out.ok HS.out.2.1)
    · have hx : g = x := by injection hx
      subst hx
      rcases HGW.out with h | h
      · exact .inr h
      · exact .inl h
    · rcases hx with h | h | h
      · exact .inl h
      · refine .inr ⟨by have := HG'.out; omega, by have := HR7.out.2.2.2.2.2.2; omega, fun e => ?_⟩
        have e : g = x := by injection e
        exact HR7.out.2.2.1 (h.symm.trans e.symm)
      · refine .inr ⟨by omega, ?_, fun e => ?_⟩
        · have := HR7.out.2.2.2.2.1.lt; omega
        · have e : g = x := by injection e
          exact HZ.out.2.2.2.2.1 (e.trans h)
    · rcases List.mem_append.1 hy with hy | hy
      · exact ((HH.out.sec y hy).mod M8 (fun j hj e => by
          rcases e with e | e
          · exact HH.out.fb (e ▸ hj)
          · exact (HH.out.sep j e).2 hj)).mono (fun j hj => .inl hj)
      · simp only [List.mem_singleton] at hy
        subst hy
        refine ⟨HR7.out.2.2.2.2.2.1.mod m8 (fun j hj e => ?_), ?_, fun j hj => ?_, fun j hj => ?_⟩
        · obtain ⟨a, ha, hka⟩ := hj; injection ha with ha; subst ha; exact HR7.out.2.2.1 (hka.trans e)
        · have := HR7.out.2.2.2.2.1.mod m8 (fun e => HZ.out.2.2.2.2.1 e.symm)
          rw [zsec_vals] at this
          exact Rd.of_blk0 this (by rw [List.length_map, zsec_len])
        · obtain ⟨a, ha, hka⟩ := hj; injection ha with ha; subst ha; exact .inr (.inl hka.symm)
        · obtain ⟨a, ha, hka⟩ := hj; injection ha with ha; subst ha; exact .inr (.inr hka.symm)
    · rw [List.map_append, List.nodup_append]
      refine ⟨HH.out.nd, by simp, fun x hx y hy => ?_⟩
      simp only [List.map_cons, List.map_nil, List.mem_singleton] at hy
      subst hy
      obtain ⟨s, hs, rfl⟩ := List.mem_map.1 hx
      have := List.find?_eq_none.1 HS.out.1 s hs
      simpa using this
    · rcases List.mem_append.1 hy with hy | hy
      · exact HH.out.rng y hy
      · simp only [List.mem_singleton] at hy
        subst hy
        have := HK.out; have h2 := HGN.out
        show 0 ≤ k ∧ k < D.n
        omega
  have hd5 : (D.put k bs).down = false := HD.out
  clear row8 m8 d7 f7 c17
  refine (rcrashes_any hR8 hd5).mono ?_
  rintro r w9 ⟨rfl, hR6, m6⟩
  have M6 := M8.at_ m6 (.inl rfl)
  have HR6 := Lib.hid (And.intro hR6 M6)
  clear hR8 hd5 M8 hR6 m6 M6 hlen hbl hgb hltI
  have HLV : Hid (∀ x, (Value.slice (some ⟨g, 0, none⟩) (L.length + 1) cap).ownBlock = some x → lv.ownBlock = some x ∨ w.heap.size ≤ x) := Lib.hid (fun x hx => by
    have hx : g = x := by injection hx
    subst hx
    exact HGW.out.symm)
  have HFX : Hid (∀ x, (F x ∨ x = g' ∨ x = w.heap.size) → F x ∨ w.heap.size ≤ x) := Lib.hid (fun x hx => hx.imp id (fun h => by have := HG'.out; rcases h with h | h <;> omega))
  generalize hcr : (D.put k bs).crash = D6 at *
  cases hdn : D6.down with
  | true =>
    have HR9 := HRR.out
    rw [hdn] at HR9
    have HR9' := Lib.hid HR9; clear HR9 hcr hdn
    go_wp2
    go_ret
    rw [← HR9'.out]
    exact ⟨_, _, _, rfl, HR6.out.1, HR6.out.2, HLV.out, HFX.out⟩
  | false =>
    have HR9 := HRR.out
    rw [hdn] at HR9
    have HR9' := Lib.hid HR9; clear HR9 hcr hdn
    go_wp2
    go_ret
    rw [← HR9'.out]
    exact ⟨_, _, _, rfl, HR6.out.1, HR6.out.2, HLV.out, HFX.out⟩

set_option maxHeartbeats 800000 in
theorem rwrite_any {w : World} {b : Nat} {lv : Value} {F : Nat → Prop} {D : Dk} {L : List Sec} (h : RefAt w b lv F D L) (k : Int) {A : Option Addr} {n c : Nat} {bs : List Int} (hr : Rd w A n (bs.map (Value.int .u8))) (hA : ∀ g, Of A g → ¬ InR b lv g) :
    Calls Try.prog 69 #[.pointer (some ⟨b, 0, none⟩), .int .i64 k, .slice A n c] w (RefPost w b lv F (.int .i64 (D.write k bs).1) (D.write k bs).2) := by
  have hb : bs.length = n := by have := hr.1; simpa using this
  have c0 := h.c0; have c3 := h.c3
  by_cases hd : D.down = true
  · have hm : D.may k = 9 := by unfold Dk.may; rw [if_pos hd]
    have hw : D.write k bs = (9, D) := by unfold Dk.write; rw [hm]; rfl
    rw [hw]
    rw [hd] at c3
    have HP : Hid (RefPost w b lv F (.int .i64 9) D (.returned (.int .i64 9)) w) := Lib.hid ⟨_, _, _, rfl, h, RefTo.refl _ _ _ _⟩
    clear h hd hm hw c0 hr hb
    go_enter Try.func69, Try.ntmps69
    go_wp2
    go_ret
    exact HP.out
  · have hd' : D.down = false := by simpa using hd
    rw [hd'] at c3
    by_cases hk : k < 0 ∨ D.n ≤ k
    · have hm : D.may k = 6 := by unfold Dk.may; rw [if_neg hd, if_pos hk]
      have hw : D.write k bs = (6, D) := by unfold Dk.write; rw [hm]; rfl
      rw [hw]
      have HP : Hid (RefPost w b lv F (.int .i64 6) D (.returned (.int .i64 6)) w) := Lib.hid ⟨_, _, _, rfl, h, RefTo.refl _ _ _ _⟩
      clear h hd hd' hm hw hr hb
      generalize D.n = q at *
      by_cases h0 : k < 0
      · go_enter Try.func69, Try.ntmps69
        go_wp2
        go_ret
        exact HP.out
      · have h1 : q ≤ k := by omega
        clear hk
        go_enter Try.func69, Try.ntmps69
        go_wp2
        go_ret
        exact HP.out
    · have h0 : ¬ k < 0 := by omega
      have h1 : ¬ D.n ≤ k := by omega
      by_cases hn : n = 512
      · subst hn
        cases hf : L.find? (fun s => s.n == k) with
        | none => exact rwrite_none h k hr hA hd' h0 h1 hf
        | some s => exact rwrite_some h k hr hd' h0 h1 hf
      · have hm : D.may k = 0 := by unfold Dk.may; rw [if_neg hd, if_neg hk]
        have hw : D.write k bs = (2, D) := by unfold Dk.write; rw [if_pos hm, if_neg (by rw [hb]; exact hn)]
        rw [hw]
        have HP : Hid (RefPost w b lv F (.int .i64 2) D (.returned (.int .i64 2)) w) := Lib.hid ⟨_, _, _, rfl, h, RefTo.refl _ _ _ _⟩
        clear h hd hd' hm hw hr hk hb
        have hn' : ((n : Int) != 512) = true := by simp; omega
        clear hn
        generalize D.n = q at *
        go_enter Try.func69, Try.ntmps69
        go_wp2
        go_ret
        exact HP.out
end Go.Proofs.Ytgmkibckbbbhkaa
