/- peatbanklaw09: a cache's life: the cache, its device, the document's device, the list of those that were touched; each lies apart. -/
import Derived.Test.YtgmkibckbbbhkaaCa8
import Derived.Test.YtgmkibckbbbhkaaBytes2
import Derived.Test.YtgmkibckbbbhkaaBytesT
import Derived.Test.YtgmkibckbbbhkaaDev9
import Derived.Test.YtgmkibckbbbhkaaRef88
namespace Go.Proofs.Ytgmkibckbbbhkaa
open Go.RowKit

structure CI where
  x : Nat
  c : Nat
  b : Nat
  ms : Nat
  mo : Nat
  km : Nat
  r : Nat
structure CS where
  now : Int
  hits : Int
  misses : Int
  rd : Int
  lv : Value
  tA : Option Addr
  tc : Nat
  F : Nat → Prop
  D : Dk
  E : Dk
  l : KL
  T : TL
  tl : List Int
  L : List Sec
def CS.tv (s : CS) : Value := .slice s.tA s.tl.length s.tc
def lifeC (I : CI) (sz : Int) (s : CS) : Array Value := #[.pointer (some ⟨I.c, 0, none⟩), .pointer (some ⟨I.b, 0, none⟩), .pointer (some ⟨I.r, 0, none⟩), .int .i64 sz, s.tv, .int .i64 s.rd]
structure LCol (w0 w : World) (I : CI) (s : CS) (col : Nat → Nat) : Prop where
  cx : col I.x = 1
  ct : ∀ g, Of s.tA g → col g = 2
  cc : ∀ g, InA I.c I.b I.ms I.mo I.km s.l g → col g = 3
  cr : ∀ g, InR I.r s.lv g ∨ s.F g → col g = 4
  cz : ∀ g, col g ≠ 0 → w0.heap.size ≤ g ∧ g < w.heap.size
structure Lf (w0 w : World) (I : CI) (sz : Int) (s : CS) : Prop where
  mem : CMem w I.c I.b I.km sz s.now s.hits s.misses s.l
  d : DiskAt w I.b I.ms I.mo s.D
  dsep : ∀ k, In3 I.b I.ms I.mo k → ¬ InM I.c I.km s.l k
  rf : RefAt w I.r s.lv s.F s.E s.L
  blk : Blk w I.x 84 (lifeC I sz s)
  row : w.ownsRow w0.heap.size 3 1 s.tv s.tl.length (s.tl.map (Value.int .i64))
  md : Mod Nn w0 w
  sep : ∃ col, LCol w0 w I s col
  m1 : 1 ≤ sz
  n0 : 0 ≤ s.now
  h0 : 0 ≤ s.hits
  s0 : 0 ≤ s.misses
  hs : s.hits + s.misses ≤ s.now
/-- what holds between the steps -/
structure Coh (sz : Int) (s : CS) : Prop where
  eq : s.E = s.D
  coh : ∀ e ∈ s.l, e.2.bs = s.D.latest e.1 ∧ 0 ≤ e.1 ∧ e.1 < s.D.n
  lru : Lru s.l s.now sz s.T (!s.D.down)
  tl : s.tl = s.T.map (·.1)
  rd : s.rd = s.hits + s.misses
  len : (s.tl.length : Int) ≤ s.now
section
variable {w0 w w' : World} {I : CI} {sz : Int} {s : CS}
theorem Lf.cat (h : Lf w0 w I sz s) (k : Coh sz s) : CAt w I.c I.b I.ms I.mo I.km s.D sz s.now s.hits s.misses s.l s.T :=
  ⟨h.mem, h.d, k.coh, k.lru, h.dsep, h.m1, h.n0, h.h0, h.s0, h.hs⟩
theorem Lf.quiet (h : Lf w0 w I sz s) (hm : Mod Nn w w') : Lf w0 w' I sz s :=
  ⟨h.mem.mod hm (fun _ _ f => f), h.d.mod hm (fun _ _ f => f), h.dsep, h.rf.nn hm, h.blk.mod hm (fun f => f), own_mod h.row hm (fun _ _ f => f), h.md.nn_ hm, by
    obtain ⟨col, hc⟩ := h.sep
    exact ⟨col, hc.cx, hc.ct, hc.cc, hc.cr, fun g hg => ⟨(hc.cz g hg).1, by have := (hc.cz g hg).2; have := hm.size; omega⟩⟩, h.m1, h.n0, h.h0, h.s0, h.hs⟩
/-- what a step of the part of one colour leaves: those of the others stay -/
theorem Lf.stay (h : Lf w0 w I sz s) {S : Nat → Prop} (hm : Mod S w w') {t : Nat} (ht : t ≠ 0) {col : Nat → Nat} (hc : LCol w0 w I s col) (hS : ∀ k, S k → col k = t) :
    (t ≠ 1 → Blk w' I.x 84 (lifeC I sz s)) ∧ (t ≠ 2 → w'.ownsRow w0.heap.size 3 1 s.tv s.tl.length (s.tl.map (Value.int .i64))) ∧
    (t ≠ 3 → CMem w' I.c I.b I.km sz s.now s.hits s.misses s.l ∧ DiskAt w' I.b I.ms I.mo s.D) ∧ (t ≠ 4 → RefAt w' I.r s.lv s.F s.E s.L) ∧ Mod Nn w0 w' := by
  have hn : ∀ k u, col k = u → u ≠ t → ¬ S k := fun k u hk hu hs => hu (hk.symm.trans (hS k hs))
  exact ⟨fun h1 => h.blk.mod hm (hn _ 1 hc.cx (fun e => h1 e.symm)), fun h2 => own_mod h.row hm (fun g hg => hn g 2 (hc.ct g (own_of hg)) (fun e => h2 e.symm)),
    fun h3 => ⟨h.mem.mod hm (fun k hk => hn k 3 (hc.cc k (.inl hk)) (fun e => h3 e.symm)), h.d.mod hm (fun k hk => hn k 3 (hc.cc k (.inr hk)) (fun e => h3 e.symm))⟩,
    fun h4 => h.rf.mod hm (fun k hk => hn k 4 (hc.cr k hk) (fun e => h4 e.symm)),
    h.md.then_ hm (fun g hg hs => by have := (hc.cz g (by rw [hS g hs]; exact ht)).1; omega)⟩
/-- the colours behind a step: what is new has the step's -/
theorem col_new {w0 w w' : World} {I : CI} {s : CS} {col : Nat → Nat} (hc : LCol w0 w I s col) (t : Nat) (hsz : w.heap.size ≤ w'.heap.size) (hw0 : w0.heap.size ≤ w.heap.size) :
    ∃ col' : Nat → Nat, (∀ g, g < w.heap.size → col' g = col g) ∧ (∀ g, w.heap.size ≤ g → g < w'.heap.size → col' g = t) ∧ ∀ g, col' g ≠ 0 → w0.heap.size ≤ g ∧ g < w'.heap.size := by
  refine ⟨fun g => if g < w.heap.size then col g else if g < w'.heap.size then t else 0, fun g hg => by simp [hg], fun g h1 h2 => by simp [Nat.not_lt.2 h1, h2], fun g hg => ?_⟩
  by_cases h1 : g < w.heap.size
  · simp only [h1, if_true] at hg
    have := hc.cz g hg
    exact ⟨this.1, by omega⟩
  · by_cases h2 : g < w'.heap.size
    · exact ⟨by omega, h2⟩
    · simp [h1, h2] at hg
theorem Lf.tlt (h : Lf w0 w I sz s) : ∀ g, Of s.tA g → g < w.heap.size := fun g hg => by
  obtain ⟨A, c, hv, -, hA⟩ := own_form h.row
  have hv' : Value.slice s.tA s.tl.length s.tc = .slice A s.tl.length c := hv
  injection hv' with hA' _ _
  rw [hA'] at hg
  exact (hA g hg).2
/-- the cache has done something -/
theorem Lf.cache (h : Lf w0 w I sz s) {D' : Dk} {now' hits' misses' : Int} {l' : KL} (hC : CMem w' I.c I.b I.km sz now' hits' misses' l') (hd : DiskAt w' I.b I.ms I.mo D') (hds : ∀ k, In3 I.b I.ms I.mo k → ¬ InM I.c I.km l' k)
    (hT : CTo w w' I.c I.b I.ms I.mo I.km s.l l') (n0 : 0 ≤ now') (h0 : 0 ≤ hits') (s0 : 0 ≤ misses') (hs : hits' + misses' ≤ now') (T' : TL) :
    Lf w0 w' I sz { s with D := D', now := now', hits := hits', misses := misses', l := l', T := T' } := by
  obtain ⟨col, hc⟩ := h.sep
  have hst := h.stay hT.md (t := 3) (by omega) hc (fun k hk => hc.cc k (inA_of hk))
  refine ⟨hC, hd, hds, hst.2.2.2.1 (by omega), hst.1 (by omega), hst.2.1 (by omega), hst.2.2.2.2, ?_, h.m1, n0, h0, s0, hs⟩
  obtain ⟨col', h1, h2, h3⟩ := col_new hc 3 hT.md.size h.md.size
  refine ⟨col', (h1 _ h.blk.lt).trans hc.cx, fun g hg => (h1 g (h.tlt g hg)).trans (hc.ct g hg), fun g hg => ?_, fun g hg => (h1 g (h.rf.lt g hg)).trans (hc.cr g hg), h3⟩
  rcases hT.A hg with h4 | h4
  · exact (h1 g (h4.elim (h.mem.lt g) (h.d.lt g))).trans (hc.cc g h4)
  · exact h2 g h4 (hg.elim (hC.lt g) (hd.lt g))
/-- the document's device has done something -/
theorem Lf.ref (h : Lf w0 w I sz s) {lv' : Value} {F' : Nat → Prop} {E' : Dk} {L' : List Sec} (hR : RefAt w' I.r lv' F' E' L') (hT : RefTo w w' I.r s.lv s.F lv' F') : Lf w0 w' I sz { s with lv := lv', F := F', E := E', L := L' } := by
  obtain ⟨col, hc⟩ := h.sep
  have hst := h.stay hT.md (t := 4) (by omega) hc (fun k hk => hc.cr k (.inl hk))
  refine ⟨(hst.2.2.1 (by omega)).1, (hst.2.2.1 (by omega)).2, h.dsep, hR, hst.1 (by omega), hst.2.1 (by omega), hst.2.2.2.2, ?_, h.m1, h.n0, h.h0, h.s0, h.hs⟩
  obtain ⟨col', h1, h2, h3⟩ := col_new hc 4 hT.md.size h.md.size
  refine ⟨col', (h1 _ h.blk.lt).trans hc.cx, fun g hg => (h1 g (h.tlt g hg)).trans (hc.ct g hg), fun g hg => (h1 g (hg.elim (h.mem.lt g) (h.d.lt g))).trans (hc.cc g hg), fun g hg => ?_, h3⟩
  have hlt := hR.lt g hg
  have ho : (InR I.r s.lv g ∨ s.F g) ∨ w.heap.size ≤ g := by
    rcases hg with (hg | hg) | hg
    · exact .inl (.inl (.inl hg))
    · rcases hT.lv g hg with h4 | h4
      · exact .inl (.inl (.inr h4))
      · exact .inr h4
    · rcases hT.F g hg with h4 | h4
      · exact .inl (.inr h4)
      · exact .inr h4
  rcases ho with h4 | h4
  · exact (h1 g (h.rf.lt g h4)).trans (hc.cr g h4)
  · exact h2 g h4 hlt
/-- something of the life itself was written -/
theorem Lf.self (h : Lf w0 w I sz s) {A' : Option Addr} {c' : Nat} {tl' : List Int} {rd' : Int} (hm : Mod (At I.x) w w') (hb : Blk w' I.x 84 (lifeC I sz { s with tA := A', tc := c', tl := tl', rd := rd' }))
    (hr : w'.ownsRow w0.heap.size 3 1 (.slice A' tl'.length c') tl'.length (tl'.map (Value.int .i64))) (hA : ∀ g, Of A' g → Of s.tA g ∨ w.heap.size ≤ g) : Lf w0 w' I sz { s with tA := A', tc := c', tl := tl', rd := rd' } := by
  obtain ⟨col, hc⟩ := h.sep
  have hst := h.stay hm (t := 1) (by omega) hc (fun k hk => by have hk : k = I.x := hk; rw [hk]; exact hc.cx)
  refine ⟨(hst.2.2.1 (by omega)).1, (hst.2.2.1 (by omega)).2, h.dsep, hst.2.2.2.1 (by omega), hb, hr, hst.2.2.2.2, ?_, h.m1, h.n0, h.h0, h.s0, h.hs⟩
  obtain ⟨col', h1, h2, h3⟩ := col_new hc 2 hm.size h.md.size
  refine ⟨col', (h1 _ h.blk.lt).trans hc.cx, fun g hg => ?_, fun g hg => (h1 g (hg.elim (h.mem.lt g) (h.d.lt g))).trans (hc.cc g hg), fun g hg => (h1 g (h.rf.lt g hg)).trans (hc.cr g hg), h3⟩
  rcases hA g hg with h4 | h4
  · exact (h1 g (h.tlt g h4)).trans (hc.ct g h4)
  · obtain ⟨A, c, hv, -, hAA⟩ := own_form hr
    injection hv with hA' _ _
    rw [hA'] at hg
    exact h2 g h4 (hAA g hg).2
/-- the list is another -/
theorem Lf.listed (h : Lf w0 w I sz s) {ys : List Int} {e : Ending} (hP : LifeP w I.x (lifeC I sz s) ys e w') : ∃ A c, e = .returned (.tuple #[]) ∧ Lf w0 w' I sz { s with tA := A, tc := c, tl := ys } := by
  obtain ⟨A, c, he, hb, hr, hm⟩ := hP
  refine ⟨A, c, he, ?_⟩
  have hA : ∀ g, Of A g → w.heap.size ≤ g := fun g hg => own_ge5 hr g (of_own hg)
  exact h.self (rd' := s.rd) hm hb (own_base hr (fun g hg => by have := own_ge5 hr g hg; have := h.md.size; omega)) (fun g hg => .inr (hA g hg))
theorem Lf.tx (h : Lf w0 w I sz s) : ∀ g, Of s.tA g → g ≠ I.x := fun g hg e => by
  obtain ⟨col, hc⟩ := h.sep
  have h1 := hc.ct g hg
  rw [e, hc.cx] at h1; omega
theorem l_place (h : Lf w0 w I sz s) (hl : s.tl.length ≤ 1048576) (k : Int) : Calls Try.prog 86 #[.pointer (some ⟨I.x, 0, none⟩), .int .i64 k] w fun e w' => e = .returned (.int .i64 (placeL s.tl k)) ∧ w = w' :=
  place_raw h.blk rfl h.row hl k
def LsP (w0 : World) (I : CI) (sz : Int) (s : CS) (ys : List Int) (e : Ending) (w' : World) : Prop := ∃ A c, e = .returned (.tuple #[]) ∧ Lf w0 w' I sz { s with tA := A, tc := c, tl := ys }
theorem l_forget (h : Lf w0 w I sz s) (hl : s.tl.length ≤ 1048576) (k : Int) : Calls Try.prog 118 #[.pointer (some ⟨I.x, 0, none⟩), .int .i64 k] w (LsP w0 I sz s (s.tl.filter (fun y => !(y == k)))) :=
  (forget_raw h.blk rfl h.row hl k h.tx).mono fun _ _ hp => h.listed hp
theorem l_touch (h : Lf w0 w I sz s) (hl : s.tl.length ≤ 1048576) (k : Int) : Calls Try.prog 87 #[.pointer (some ⟨I.x, 0, none⟩), .int .i64 k] w (LsP w0 I sz s (s.tl.filter (fun y => !(y == k)) ++ [k])) :=
  (touch_raw h.blk (by show 4 < 6; omega) rfl h.row hl k h.tx).mono fun _ _ hp => h.listed hp
/-- all that is the life's -/
def InL (I : CI) (s : CS) : Nat → Prop := fun g => g = I.x ∨ Of s.tA g ∨ InA I.c I.b I.ms I.mo I.km s.l g ∨ InR I.r s.lv g ∨ s.F g
theorem Lf.mod (h : Lf w0 w I sz s) {S : Nat → Prop} (hm : Mod S w w') (hS : ∀ k, InL I s k → ¬ S k) (h0 : ∀ k, k < w0.heap.size → ¬ S k) : Lf w0 w' I sz s :=
  ⟨h.mem.mod hm (fun k hk => hS k (.inr (.inr (.inl (.inl hk))))), h.d.mod hm (fun k hk => hS k (.inr (.inr (.inl (.inr hk))))), h.dsep, h.rf.mod hm (fun k hk => hS k (.inr (.inr (.inr hk)))), h.blk.mod hm (hS _ (.inl rfl)),
    own_mod h.row hm (fun g hg => hS g (.inr (.inl (own_of hg)))), h.md.then_ hm (fun k hk hs => (h0 k hk hs).elim), by
    obtain ⟨col, hc⟩ := h.sep
    exact ⟨col, hc.cx, hc.ct, hc.cc, hc.cr, fun g hg => ⟨(hc.cz g hg).1, by have := (hc.cz g hg).2; have := hm.size; omega⟩⟩, h.m1, h.n0, h.h0, h.s0, h.hs⟩
theorem Lf.lt (h : Lf w0 w I sz s) : ∀ k, InL I s k → k < w.heap.size := by
  rintro k (rfl | hk | hk | hk)
  · exact h.blk.lt
  · exact h.tlt k hk
  · exact hk.elim (h.mem.lt k) (h.d.lt k)
  · exact h.rf.lt k hk
theorem Lf.old (h : Lf w0 w I sz s) {k : Nat} (hk : InL I s k) : w0.heap.size ≤ k := by
  obtain ⟨col, hc⟩ := h.sep
  refine (hc.cz k ?_).1
  rcases hk with rfl | hk | hk | hk
  · rw [hc.cx]; omega
  · rw [hc.ct k hk]; omega
  · rw [hc.cc k hk]; omega
  · rw [hc.cr k hk]; omega
theorem Coh.of {D' : Dk} {now' hits' misses' : Int} {l' : KL} {T' : TL} (hC : CAt w I.c I.b I.ms I.mo I.km D' sz now' hits' misses' l' T') {s' : CS} (h1 : s'.now = now') (h2 : s'.hits = hits') (h3 : s'.misses = misses') (h4 : s'.D = D') (h5 : s'.E = D') (h6 : s'.l = l') (h7 : s'.T = T')
    (ht : s'.tl = T'.map (·.1)) (hr : s'.rd = hits' + misses') (hl : (s'.tl.length : Int) ≤ now') : Coh sz s' := by
  subst h1 h2 h3 h4 h6 h7
  exact ⟨h5, hC.coh, hC.lru, ht, hr, hl⟩
theorem touch_map (T : TL) (k n : Int) : (touchL T k n).map (·.1) = (T.map (·.1)).filter (fun y => !(y == k)) ++ [k] := by
  unfold touchL
  rw [List.map_append, List.filter_map]
  rfl
def LStep (w0 : World) (I : CI) (sz : Int) (s : CS) (e : Ending) (w' : World) : Prop :=
  ∃ s', e = .returned (.bool true) ∧ Lf w0 w' I sz s' ∧ Coh sz s' ∧ s'.now ≤ s.now + 1 ∧ s'.D.n = s.D.n
end
end Go.Proofs.Ytgmkibckbbbhkaa
