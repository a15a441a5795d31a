/- The document's device: Copy; two pairs of devices side by side. -/
import Derived.Test.YtgmkibckbbbhkaaDevLv
import Derived.Test.YtgmkibckbbbhkaaDevC1
namespace Go.Proofs.Ytgmkibckbbbhkaa
open Go.RowKit

theorem enc_one {L : List Sec} : ∀ u ∈ flat Sec.enc L, u.oneCell' = true := fun u hu => by
  unfold flat at hu
  obtain ⟨s, _, hs⟩ := List.mem_flatMap.1 hu
  simp only [Sec.enc, List.mem_cons, List.not_mem_nil, or_false] at hs
  rcases hs with rfl | rfl | rfl | rfl <;> rfl
theorem own_empty4 {w : World} {e : TypeId} (base : Nat) (hb : base ≤ w.heap.size) : (w.alloc (.cells #[] e)).ownsRow base e 4 (.slice (some ⟨w.heap.size, 0, none⟩) 0 0) 0 [] :=
  World.ownsRow_made (base := base) (e := e) (size := 4) w #[] 0 hb (by simp) rfl
theorem own_empty4' {w : World} {o : Obj} {e : TypeId} : ((w.alloc o).alloc (.cells #[] e)).ownsRow (w.heap.size + 1) e 4 (.slice (some ⟨w.heap.size + 1, 0, none⟩) 0 0) 0 [] := by
  have := own_empty4 (w := w.alloc o) (e := e) (w.heap.size + 1) (by rw [World.size_alloc]; exact Nat.le_refl _)
  rwa [World.size_alloc] at this
def CpR (w : World) (F : Nat → Prop) (D : Dk) (L : List Sec) (e : Ending) (w' : World) : Prop :=
  ∃ b' lv', e = .returned (.pointer (some ⟨b', 0, none⟩)) ∧ RefAt w' b' lv' F D L ∧ Mod Nn w w' ∧ (∀ k, InR b' lv' k → w.heap.size ≤ k)
theorem cp_ref {w w' : World} {b b' : Nat} {lv lv' : Value} {F : Nat → Prop} {D : Dk} {L : List Sec} (h : RefAt w b lv F D L) (hm : Mod Nn w w') (hb : Blk w' b' 107 #[.int .i64 D.n, lv', .int .i64 D.armed, .bool D.down])
    {n : Nat} (hn : L.length = n) (hl : w'.ownsRow 0 112 4 lv' n (flat Sec.enc L)) (hb' : w.heap.size ≤ b') (hlv : ∀ g, lv'.ownBlock = some g → b' < g) : RefAt w' b' lv' F D L :=
  ⟨hb, hn ▸ hl, fun s hs => (h.sec s hs).mod hm (fun _ _ f => f), h.nd, h.rng, h.like, fun hf => by have := h.flt b' hf; omega,
   fun g hg => ⟨by have := hlv g hg; omega, fun hf => by have := h.flt g hf; have := hlv g hg; omega⟩, fun g hg => Nat.lt_of_lt_of_le (h.flt g hg) hm.size, h.ok⟩

set_option maxRecDepth 100000 in
set_option maxHeartbeats 3200000 in
theorem rcopy_any {w : World} {b : Nat} {lv : Value} {F : Nat → Prop} {D : Dk} {L : List Sec} (h : RefAt w b lv F D L) : Calls Try.prog 46 #[.pointer (some ⟨b, 0, none⟩)] w (CpR w F D L) := by
  have c0 := h.c0; have c2 := h.c2; have c3 := h.c3
  have c1 : w.cell? ⟨b, 1, none⟩ = some lv := h.blk.cell 1
  have hll := h.len
  obtain ⟨A, c, rfl, hlc, -⟩ := own_form h.row
  have hbl := h.blk.lt
  have H := Lib.hid h; clear h
  generalize hLn : L.length = n at *
  have hrow := H.out.row
  rw [hLn] at hrow
  have HRW := Lib.hid hrow
  have HLN := Lib.hid hLn; clear hLn hrow
  go_enter Try.func46, Try.ntmps46
  go_wp2_with (first
    | (with_reducible change wpList _ _ _ (⟨some 12, _, _, _, _, _⟩ :: _) _ _
       go_must (refine wpList_append_rd 105 _ _ rfl rfl (w.heap.size + 1) 112 _ 4 64 Try.underlying105 info_rsec rfl (by omega) _ 0 [] rfl own_empty4' A n c (flat Sec.enc L) rfl (own_rdC (own_mod HRW.out (((Mod.refl Nn w).alloc _).alloc _) (fun _ _ f => f))) enc_one (by omega) (by omega) (by rw [World.size_alloc, World.size_alloc]; omega) ?_)
       intro v' w2 own2 gr2 ob2
       obtain ⟨A', c', rfl, -, hb'⟩ := own_form own2
       rw [Nat.zero_add, List.nil_append] at own2
       have hob : ∀ g, (Value.slice (some ⟨w.heap.size + 1, 0, none⟩) 0 0).ownBlock = some g → g = w.heap.size + 1 := fun g hg => by
         injection hg with hg
         exact hg.symm
       have m2 : Mod Nn w w2 := (((Mod.refl Nn w).alloc _).alloc _).grown gr2 (fun g hg => .inl (by have := hob g hg; omega))
       have hbk : Blk w2 w.heap.size 107 #[.int .i64 D.n, .slice A n c, .int .i64 D.armed, .bool D.down] :=
         ((Blk.new w 107 #[.int .i64 D.n, .slice A n c, .int .i64 D.armed, .bool D.down]).alloc (.cells #[] 112)).mod (S := fun g => g = w.heap.size + 1)
           ((Mod.refl _ _).grown gr2 (fun g hg => .inr (hob g hg))) (by omega)
       have HX := Lib.hid (And.intro own2 (And.intro m2 (And.intro hbk (fun g (hg : Of A' g) => (hb' g hg).1))))
       have e1 := hbk.cell 1
       have f1 := hbk.frozen 1
       clear own2 gr2 ob2 hb' m2 hbk))
  have hlv : ∀ g, (Value.slice A' (0 + n) c').ownBlock = some g → w.heap.size < g := fun g hg => by have := HX.out.2.2.2 g (own_of hg); omega
  rw [Nat.zero_add] at hlv
  have hb5 : Blk (w2.setCell ⟨w.heap.size, 1, none⟩ (.slice A' n c')) w.heap.size 107 #[.int .i64 D.n, .slice A' n c', .int .i64 D.armed, .bool D.down] := HX.out.2.2.1.set_ 1 (.slice A' n c')
  have m5 : Mod (At w.heap.size) w2 (w2.setCell ⟨w.heap.size, 1, none⟩ (.slice A' n c')) := Mod.cellAt _ _ _ _
  have hl5 := own_mod (own_base HX.out.1 (fun _ _ => Nat.zero_le _)) m5 (fun g hg e => by have e : g = w.heap.size := e; have := hlv g hg; omega)
  have hR := cp_ref H.out (HX.out.2.1.new_ m5 (Nat.le_refl _)) hb5 HLN.out hl5 (Nat.le_refl _) hlv
  have HM := Lib.hid (HX.out.2.1.new_ m5 (Nat.le_refl _))
  go_ret
  refine ⟨w.heap.size, .slice A' n c', rfl, hR, HM.out, fun k hk => ?_⟩
  rcases hk with hk | hk
  · omega
  · have := hlv k hk; omega

/-! ### two pairs -/
structure Two (w0 w : World) (b ms mo b' : Nat) (lv : Value) (F : Nat → Prop) (D : Dk) (L : List Sec) (b2 ms2 mo2 b2' : Nat) (lv2 : Value) (F2 : Nat → Prop) (D2 : Dk) (L2 : List Sec) : Prop where
  p : Pr w0 w b ms mo b' lv F D D L
  q : Pr w0 w b2 ms2 mo2 b2' lv2 F2 D2 D2 L2
  s1 : ∀ k, InP b ms mo b' lv k → ¬ (InP b2 ms2 mo2 b2' lv2 k ∨ F2 k)
  s2 : ∀ k, InP b2 ms2 mo2 b2' lv2 k → ¬ (InP b ms mo b' lv k ∨ F k)
section
variable {w0 w w' : World} {b ms mo b' : Nat} {lv lv' : Value} {F F' : Nat → Prop} {D D' : Dk} {L L' : List Sec} {b2 ms2 mo2 b2' : Nat} {lv2 lv2' : Value} {F2 F2' : Nat → Prop} {D2 D2' : Dk} {L2 L2' : List Sec}
theorem Two.symm (h : Two w0 w b ms mo b' lv F D L b2 ms2 mo2 b2' lv2 F2 D2 L2) : Two w0 w b2 ms2 mo2 b2' lv2 F2 D2 L2 b ms mo b' lv F D L := ⟨h.q, h.p, h.s2, h.s1⟩
theorem Two.quiet (h : Two w0 w b ms mo b' lv F D L b2 ms2 mo2 b2' lv2 F2 D2 L2) (hm : Mod Nn w w') : Two w0 w' b ms mo b' lv F D L b2 ms2 mo2 b2' lv2 F2 D2 L2 := ⟨h.p.quiet hm, h.q.quiet hm, h.s1, h.s2⟩
theorem Two.first (h : Two w0 w b ms mo b' lv F D L b2 ms2 mo2 b2' lv2 F2 D2 L2) (hp : Pr w0 w' b ms mo b' lv' F' D' D' L') (ht : PrTo w w' b ms mo b' lv F lv' F') : Two w0 w' b ms mo b' lv' F' D' L' b2 ms2 mo2 b2' lv2 F2 D2 L2 := by
  have hin : ∀ k, InP b ms mo b' lv' k → InP b ms mo b' lv k ∨ w.heap.size ≤ k := fun k hk => by
    rcases hk with hk | hk | hk
    · exact .inl (.inl hk)
    · exact .inl (.inr (.inl hk))
    · rcases ht.lv k hk with h1 | h1
      · exact .inl (.inr (.inr h1))
      · exact .inr h1
  refine ⟨hp, h.q.mod ht.md (fun k hk hs => h.s1 k hs hk) (fun k hk hs => ?_), fun k hk hq => ?_, fun k hk hq => ?_⟩
  · rcases hs with hs | hs
    · have := h.p.df k hs; omega
    · have := h.p.rf k hs; omega
  · rcases hin k hk with h1 | h1
    · exact h.s1 k h1 hq
    · have := h.q.lt k hq; omega
  · rcases hq with hq | hq
    · rcases hin k hq with h1 | h1
      · exact h.s2 k hk (.inl h1)
      · have := h.q.lt k (.inl hk); omega
    · rcases ht.F k hq with h1 | h1
      · exact h.s2 k hk (.inr h1)
      · have := h.q.lt k (.inl hk); omega
theorem two_new {w1 w2 : World} (h : Pr w0 w b ms mo b' lv F D D L) (hd : DiskAt w1 b2 ms2 mo2 D) (m1 : Mod Nn w w1) (hf : ∀ k, In3 b2 ms2 mo2 k → w.heap.size ≤ k) (hr : RefAt w2 b2' lv2 F D L) (m2 : Mod Nn w1 w2) (hrf : ∀ k, InR b2' lv2 k → w1.heap.size ≤ k) :
    Two w0 w2 b ms mo b' lv F D L b2 ms2 mo2 b2' lv2 F D L := by
  have h0 := h.md.size
  have h1 := m1.size
  have hin : ∀ k, InP b2 ms2 mo2 b2' lv2 k → w.heap.size ≤ k := fun k hk => by
    rcases hk with hk | hk
    · exact hf k hk
    · have := hrf k hk; omega
  refine ⟨(h.quiet m1).quiet m2, ⟨hd.mod m2 (fun _ _ f => f), hr, (h.md.nn_ m1).nn_ m2, fun k hk => by have := hf k hk; omega, fun k hk => by have := hrf k hk; omega, fun k hk => ⟨fun hk2 => ?_, fun hk2 => ?_⟩⟩, fun k hk hq => ?_, fun k hk hq => ?_⟩
  · have := hd.lt k hk; have := hrf k hk2; omega
  · have := hf k hk; have := h.lt k (.inr hk2); omega
  · rcases hq with hq | hq
    · have := hin k hq; have := h.lt k (.inl hk); omega
    · rcases hk with hk | hk
      · exact (h.sep k hk).2 hq
      · rcases hk with hk | hk
        · subst hk; exact h.r.fb hq
        · exact (h.r.sep k hk).2 hq
  · have := hin k hk; have := h.lt k hq; omega
end
end Go.Proofs.Ytgmkibckbbbhkaa
