/- Own lemmas of several kinds, put together: Ld3, Ld4. -/
import Derived.Test.YtkcpmkeckcnobaaLdA
import Derived.Test.YtkcpmkeckcnobaaUn1
import Derived.Test.YtkcpmkeckcnobaaNd3
import Derived.Test.YtkcpmkeckcnobaaTrF
import Derived.Test.YtkcpmkeckcnobaaTrI
/- The loader in memory; what its part promises; an inner put together out of its kids. -/
namespace Go.Proofs.Ytkcpmkeckcnobaa
open Go.RowKit

/-! ## plain -/
theorem kids_srt {ks : List (List Nat)} {ts : List Kid} (hk : ks.Pairwise klt) (hl : ks.length + 1 = ts.length) (hs : ∀ t ∈ ts, Srt t.L) (hin : ∀ j t, ts[j]? = some t → inK ks j t.L) : Srt (entsOf ts) ∧ Sep ks ts := by
  constructor
  · unfold Srt entsOf
    rw [List.pairwise_flatMap]
    refine ⟨hs, List.pairwise_iff_getElem.2 fun i j hi hj hij x hx y hy => ?_⟩
    have h1 := (hin i ts[i] (List.getElem?_eq_getElem hi) x hx).2 (by omega)
    have h2 := (hin j ts[j] (List.getElem?_eq_getElem hj) y hy).1 (by omega)
    exact klt_of_lt_le (klt_of_lt_le h1 (keys_le hk (show i ≤ j - 1 by omega) (by omega))) h2
  · intro i κ hκ
    have hil := (List.getElem?_eq_some_iff.1 hκ).1
    have hκ' : ks.getD i [] = κ := by rw [List.getD_eq_getElem?_getD, hκ]; rfl
    constructor
    · intro r hr
      obtain ⟨t, ht, hr'⟩ := List.mem_flatMap.1 hr
      obtain ⟨j, hj⟩ := List.mem_iff_getElem?.1 ht
      rw [List.getElem?_take] at hj
      split at hj
      · rename_i hji
        have h1 := (hin j t hj r hr').2 (by omega)
        rw [← hκ']
        exact klt_of_lt_le h1 (keys_le hk (by omega) hil)
      · cases hj
    · intro r hr
      obtain ⟨t, ht, hr'⟩ := List.mem_flatMap.1 hr
      obtain ⟨j, hj⟩ := List.mem_iff_getElem?.1 ht
      rw [List.getElem?_drop] at hj
      have hjl := (List.getElem?_eq_some_iff.1 hj).1
      have h1 := (hin (i + 1 + j) t hj r hr').1 (by omega)
      rw [← hκ']
      exact kle_trans (keys_le hk (show i ≤ i + 1 + j - 1 by omega) (by omega)) h1
/-! ## the loader -/
structure Ldr (w : World) (lb gs : Nat) (A : Option Addr) (n c cs cnt : Nat) (σ : List Bool) : Prop where
  blk : Blk w lb 125 #[.slice A n c, .slice (some ⟨gs, 0, none⟩) n cs, .int .i64 (cnt : Int)]
  row : Blk w gs 4 (σ.map Value.bool).toArray
  len : σ.length = n
  num : cnt + unseen σ = n
section
variable {w w' : World} {lb gs n c cs cnt : Nat} {A : Option Addr} {σ : List Bool}
theorem Ldr.nn (h : Ldr w lb gs A n c cs cnt σ) (hm : Mod Nn w w') : Ldr w' lb gs A n c cs cnt σ := ⟨h.blk.mod hm (fun f => f), h.row.mod hm (fun f => f), h.len, h.num⟩
theorem Ldr.mod {S : Nat → Prop} (h : Ldr w lb gs A n c cs cnt σ) (hm : Mod S w w') (h1 : ¬ S lb) (h2 : ¬ S gs) : Ldr w' lb gs A n c cs cnt σ := ⟨h.blk.mod hm h1, h.row.mod hm h2, h.len, h.num⟩
/-- a node was come to -/
theorem Ldr.see (h : Ldr w lb gs A n c cs cnt σ) (hne : lb ≠ gs) {k : Nat} (hk : σ[k]? = some false) : Ldr ((w.setCell ⟨gs, k, none⟩ (.bool true)).setCell ⟨lb, 2, none⟩ (.int .i64 ((cnt + 1 : Nat) : Int))) lb gs A n c cs (cnt + 1) (σ.set k true) := by
  have h1 : Blk (w.setCell ⟨gs, k, none⟩ (.bool true)) lb 125 #[.slice A n c, .slice (some ⟨gs, 0, none⟩) n cs, .int .i64 (cnt : Int)] := h.blk.mod (Mod.cellAt _ _ _ _ : Mod (At gs) w (w.setCell ⟨gs, k, none⟩ (.bool true))) (fun e => hne e)
  have h2 := h.row.set_ k (.bool true)
  rw [List.setIfInBounds_toArray, ← List.map_set] at h2
  have hu := unseen_set hk
  have hn := h.num
  exact ⟨h1.set_ 2 _, h2.mod (Mod.cellAt _ _ _ _ : Mod (At lb) _ _) (fun e => hne (by have e : gs = lb := e; exact e.symm)), by rw [List.length_set]; exact h.len, by omega⟩
end
def PartP (w : World) (lb gs : Nat) (A : Option Addr) (n c cs : Nat) (top : Bool) (res : UR) (r : Ending) (w' : World) : Prop :=
  Mod (fun g => g = lb ∨ g = gs) w w' ∧ (match res with
    | none => r = .returned (.tuple #[.nilIface, .int .i64 0])
    | some (L, d, σ) => ∃ (D : Nat) (v : Value) (k : Nat) (F : List Nat) (cnt : Nat), d = D + 1 ∧ r = .returned (.tuple #[v, .int .i64 (d : Nat)]) ∧ TreeAt w' D v L k F ∧ k ≤ hiB D ∧ (D = 0 ∨ 2 ≤ k) ∧ (top = false → loB D ≤ k) ∧ (∀ g ∈ F, w.heap.size ≤ g) ∧ Ldr w' lb gs A n c cs cnt σ)
/-! ## an inner whose kids are loaded one by one -/
structure LdM (w w1 wr : World) (lb gs nb sb pb : Nat) (A : Option Addr) (n c cs cnt : Nat) (σ : List Bool) (nv sv : Array Value) (K : Option Addr) (kc : Nat) (ks : List (List Nat)) (D : Nat) (ts : List Kid) (C : Option Addr) (q cc : Nat) : Prop where
  ldr : Ldr wr lb gs A n c cs cnt σ
  nblk : Blk wr nb 77 nv
  sblk : Blk wr sb 130 sv
  pblk : Blk wr pb 106 #[.slice K ks.length kc, .slice C q cc]
  krow : Hold wr 23 40 K ks.length kc (bv ks.flatten)
  crow : Hold wr 37 1 C q cc (ts.map (·.v))
  tl : ts.length = q
  kids : ∀ t ∈ ts, TreeAt wr D t.v t.L t.k t.F ∧ loB D ≤ t.k ∧ t.k ≤ hiB D
  cf : ∀ g, Of C g → w1.heap.size ≤ g
  ff : ∀ g ∈ foot ts, w1.heap.size ≤ g
  nd : (blks C ++ foot ts).Nodup
  md : Mod (fun g => g = lb ∨ g = gs) w wr
  sz : w1.heap.size ≤ wr.heap.size
section
variable {w w1 wr w' : World} {lb gs nb sb pb n c cs cnt : Nat} {A : Option Addr} {σ : List Bool} {nv sv : Array Value} {K C : Option Addr} {kc cc D q : Nat} {ks : List (List Nat)} {ts : List Kid}
theorem LdM.nn (h : LdM w w1 wr lb gs nb sb pb A n c cs cnt σ nv sv K kc ks D ts C q cc) (hm : Mod Nn wr w') : LdM w w1 w' lb gs nb sb pb A n c cs cnt σ nv sv K kc ks D ts C q cc :=
  ⟨h.ldr.nn hm, h.nblk.mod hm (fun f => f), h.sblk.mod hm (fun f => f), h.pblk.mod hm (fun f => f), h.krow.nn hm, h.crow.nn hm, h.tl, fun t ht => ⟨(h.kids t ht).1.nn hm, (h.kids t ht).2⟩, h.cf, h.ff, h.nd, h.md.trans hm.nn, Nat.le_trans h.sz hm.size⟩
theorem LdM.anyD (h : LdM w w1 wr lb gs nb sb pb A n c cs cnt σ nv sv K kc ks D ts C q cc) (ht : ts = []) (D' : Nat) : LdM w w1 wr lb gs nb sb pb A n c cs cnt σ nv sv K kc ks D' ts C q cc :=
  ⟨h.ldr, h.nblk, h.sblk, h.pblk, h.krow, h.crow, h.tl, fun t h' => (by rw [ht] at h'; cases h'), h.cf, h.ff, h.nd, h.md, h.sz⟩
/-- behind a call that changed the loader alone -/
theorem LdM.call {cnt' : Nat} {σ' : List Bool} (h : LdM w w1 wr lb gs nb sb pb A n c cs cnt σ nv sv K kc ks D ts C q cc) (hl : lb < w.heap.size) (hg : gs < w.heap.size) (h1 : w.heap.size ≤ w1.heap.size) (hn : w.heap.size ≤ nb) (hs : w.heap.size ≤ sb) (hp : w.heap.size ≤ pb) (hK : ∀ g, Of K g → w.heap.size ≤ g)
    (hL : Ldr w' lb gs A n c cs cnt' σ') (hm : Mod (fun g => g = lb ∨ g = gs) wr w') : LdM w w1 w' lb gs nb sb pb A n c cs cnt' σ' nv sv K kc ks D ts C q cc :=
  ⟨hL, h.nblk.mod hm (fun e => by rcases e with e | e <;> omega), h.sblk.mod hm (fun e => by rcases e with e | e <;> omega), h.pblk.mod hm (fun e => by rcases e with e | e <;> omega),
   h.krow.mod hm (fun g hg' e => by have := hK g hg'; rcases e with e | e <;> omega), h.crow.mod hm (fun g hg' e => by have := h.cf g hg'; rcases e with e | e <;> omega), h.tl,
   fun t ht => ⟨(h.kids t ht).1.mod hm (fun g hg' e => by have := h.ff g (mem_foot.2 ⟨t, ht, hg'⟩); rcases e with e | e <;> omega), (h.kids t ht).2⟩, h.cf, h.ff, h.nd, h.md.trans hm, Nat.le_trans h.sz hm.size⟩
/-- a kid more: the row has grown, the slice is laid into the inner -/
theorem LdM.push {t : Kid} {C' : Option Addr} {cc' : Nat} {w2 : World} (h : LdM w w1 wr lb gs nb sb pb A n c cs cnt σ nv sv K kc ks D ts C q cc) (hl : lb < w.heap.size) (hg : gs < w.heap.size) (h1 : w.heap.size ≤ w1.heap.size) (hn : nb < w1.heap.size) (hs : sb < w1.heap.size) (hp : pb < w1.heap.size) (hpw : w.heap.size ≤ pb) (hpn : pb ≠ nb) (hps : pb ≠ sb) (hK : ∀ g, Of K g → w.heap.size ≤ g ∧ g < w1.heap.size ∧ g ≠ pb)
    (ht : TreeAt wr D t.v t.L t.k t.F) (hk : loB D ≤ t.k ∧ t.k ≤ hiB D) (hf : ∀ g ∈ t.F, w1.heap.size ≤ g ∧ g ∉ foot ts ∧ ¬ Of C g) (hc : Hold w2 37 1 C' (q + 1) cc' (ts.map (·.v) ++ [t.v])) (hm : Mod (Of C) wr w2) (hC : ∀ g, Of C' g → Of C g ∨ wr.heap.size ≤ g) :
    LdM w w1 (w2.setCell ⟨pb, 1, none⟩ (.slice C' (q + 1) cc')) lb gs nb sb pb A n c cs cnt σ nv sv K kc ks D (ts ++ [t]) C' (q + 1) cc' := by
  have m3 : Mod (At pb) w2 (w2.setCell ⟨pb, 1, none⟩ (.slice C' (q + 1) cc')) := Mod.cellAt _ _ _ _
  have h1r := h.sz
  have nc : ∀ g, g < w1.heap.size → ¬ Of C g := fun g hg' ho => by have := h.cf g ho; omega
  have hcc : ∀ g, Of C' g → g ≠ pb := fun g hg' e => by
    rcases hC g hg' with h' | h'
    · have := h.cf g h'; omega
    · omega
  have hkid : ∀ u ∈ ts ++ [t], TreeAt wr D u.v u.L u.k u.F ∧ loB D ≤ u.k ∧ u.k ≤ hiB D := fun u hu => by
    rcases List.mem_append.1 hu with hu | hu
    · exact h.kids u hu
    · obtain rfl := List.mem_singleton.1 hu
      exact ⟨ht, hk⟩
  have hfoot : ∀ g ∈ foot (ts ++ [t]), w1.heap.size ≤ g ∧ ¬ Of C g ∧ g < wr.heap.size := fun g hg' => by
    obtain ⟨u, hu, hgu⟩ := mem_foot.1 hg'
    refine ⟨?_, ?_, (hkid u hu).1.lt g hgu⟩
    · rcases List.mem_append.1 hu with hu | hu
      · exact h.ff g (mem_foot.2 ⟨u, hu, hgu⟩)
      · obtain rfl := List.mem_singleton.1 hu
        exact (hf g hgu).1
    · rcases List.mem_append.1 hu with hu | hu
      · exact fun ho => (List.nodup_append.1 h.nd).2.2 g (mem_blks.2 ho) g (mem_foot.2 ⟨u, hu, hgu⟩) rfl
      · obtain rfl := List.mem_singleton.1 hu
        exact (hf g hgu).2.2
  refine ⟨(h.ldr.mod hm (nc lb (by omega)) (nc gs (by omega))).mod m3 (fun e => by have e : lb = pb := e; omega) (fun e => by have e : gs = pb := e; omega), (h.nblk.mod hm (nc nb hn)).mod m3 (fun e => hpn (by have e : nb = pb := e; exact e.symm)), (h.sblk.mod hm (nc sb hs)).mod m3 (fun e => hps (by have e : sb = pb := e; exact e.symm)),
    (h.pblk.mod hm (nc pb hp)).set_ 1 _, (h.krow.mod hm (fun g hg' => nc g (hK g hg').2.1)).mod m3 (fun g hg' e => (hK g hg').2.2 e), by rw [List.map_append]; exact hc.mod m3 (fun g hg' e => hcc g hg' e), by rw [List.length_append, h.tl]; rfl,
    fun u hu => ⟨((hkid u hu).1.mod hm (fun g hg' => (hfoot g (mem_foot.2 ⟨u, hu, hg'⟩)).2.1)).mod m3 (fun g hg' e => by have := (hfoot g (mem_foot.2 ⟨u, hu, hg'⟩)).1; have e : g = pb := e; omega), (hkid u hu).2⟩,
    fun g hg' => (hC g hg').elim (h.cf g) (fun h' => by omega), fun g hg' => (hfoot g hg').1, ?_, ?_, Nat.le_trans (Nat.le_trans h1r hm.size) m3.size⟩
  · rw [foot_append, foot_cons]
    have hnd := List.nodup_append.1 h.nd
    refine List.nodup_append.2 ⟨?_, ?_, fun a ha b hb e => ?_⟩
    · exact blks_nodup _
    · refine List.nodup_append.2 ⟨hnd.2.1, by simpa [foot] using ht.nodup, fun a ha b hb e => ?_⟩
      subst e
      exact (hf a (by simpa [foot] using hb)).2.1 ha
    · subst e
      have hb' : a ∈ foot (ts ++ [t]) := by rw [foot_append, foot_cons]; exact hb
      rcases hC a (mem_blks.1 ha) with h' | h'
      · exact (hfoot a hb').2.1 h'
      · have := (hfoot a hb').2.2; omega
  · exact (h.md.then_ hm (fun g hg' ho => by have := h.cf g ho; omega)).new_ m3 hpw
end
end Go.Proofs.Ytkcpmkeckcnobaa

/- (*loader).part: places that are none, nodes that are not right, leaves (printed by wip/gen/ldpart.py). -/
namespace Go.Proofs.Ytkcpmkeckcnobaa
open Go.RowKit

theorem wp_valL {P : Program} {o : Oper} {a : Act} {w w' : World} {next : Act → World → Prop} {Q : Exit → Act → World → Prop} {v : Value} (hrun : (execOp a.eval o).run P w = .ok (.value v) w') (h : next (a.put o.dst v) w') : o.wp P a w next Q := by
  unfold Oper.wp
  rw [hrun]
  exact h
theorem mkfuncL : ∀ (fn : Fn) (first cap : Array Value) (w : World), (Instr.makeFunc fn first cap).run Try.prog w = .ok (.func fn first cap) w := fun _ _ _ _ => rfl
theorem built_leafc (A : Option Addr) (n c : Nat) : Try.prog.built 111 [(0, .slice A n c)] = some #[.slice A n c] := by kernel_rfl
theorem built_innerc (A : Option Addr) (n c : Nat) : Try.prog.built 106 [(0, .slice A n c)] = some #[.slice A n c, .slice none 0 0] := by kernel_rfl
section
variable {w : World} {o : Oper} {a : Act} {x : Operand}
theorem exec_leafc {A : Option Addr} {n c : Nat} (ho : o.op = .build 111 #[(0, x)]) (hx : a.eval x = .slice A n c) : (execOp a.eval o).run Try.prog w = .ok (.value (.agg #[.slice A n c])) w := by
  have hr := run_build (P := Try.prog) w 111 _ _ (built_leafc A n c)
  simp only [execOp, ho]
  simp [hx, hr, Result.andThen]
theorem exec_innerc {A : Option Addr} {n c : Nat} (ho : o.op = .build 106 #[(0, x)]) (hx : a.eval x = .slice A n c) : (execOp a.eval o).run Try.prog w = .ok (.value (.agg #[.slice A n c, .slice none 0 0])) w := by
  have hr := run_build (P := Try.prog) w 106 _ _ (built_innerc A n c)
  simp only [execOp, ho]
  simp [hx, hr, Result.andThen]
end
theorem size_intL : (Try.prog.info? 3).map (·.size) = some 1 := by kernel_rfl
/-- what a call of part begins with, at a node that was not come to -/
structure PartH (w0 w : World) (lb gs k gA oA n c cs cnt : Nat) (σ : List Bool) (N : Nd) (EA KA CA : Option Addr) (en ec kn kc cn cc : Nat) (pl ph : Option Addr) (s : Spn) : Prop where
  m0 : Mod Nn w0 w
  b0 : w0.heap.size ≤ lb
  g0 : w0.heap.size ≤ gs
  ldr : Ldr w lb gs (some ⟨gA, oA, none⟩) n c cs cnt σ
  ne : lb ≠ gs
  lt : k < n
  le : n ≤ 1000
  un : σ[k]? = some false
  cl : ∀ j v, ([.bool N.leaf, .slice EA en ec, .slice KA kn kc, .slice CA cn cc] : List Value)[j]? = some v → w0.cell? ⟨gA, oA + k * 4 + j, none⟩ = some v
  nd : NdR w0 N EA en KA kn CA cn
  lo : PtrAt w pl s.lo
  hi : PtrAt w ph s.hi
  los : ∀ g, Of pl g → g ≠ lb ∧ g ≠ gs
  his : ∀ g, Of ph g → g ≠ lb ∧ g ≠ gs
section
variable {w : World} {lb gs n c cs cnt : Nat} {A : Option Addr} {σ : List Bool} {a : Int} {top : Bool} {pl ph : Option Addr}
set_option maxRecDepth 100000 in
set_option maxHeartbeats 6400000 in
theorem part_bad (hR : Ldr w lb gs A n c cs cnt σ) (hg : a < 0 ∨ (n : Int) ≤ a ∨ ∃ k : Nat, a = k ∧ k < n ∧ σ[k]? = some true) : Calls Try.prog 56 #[.pointer (some ⟨lb, 0, none⟩), .int .i64 a, spV pl ph, .bool top] w (PartP w lb gs A n c cs top none) := by
  have HR := Lib.hid hR
  clear hR
  unfold spV
  rcases hg with hg | hg | ⟨k, rfl, hk, hs⟩
  · go_enter Try.func56, Try.ntmps56
    go_upto_region 1 with (first
      | (with_reducible change wpList _ _ _ (⟨some 6, Op.box _ _, _, _, _, _⟩ :: _) _ _
         go_must (refine wpList_box_var 130 _ rfl rfl #[.pointer pl, .pointer ph] rfl ?_)
         intro w1 b1 m1 z1
         clear z1
         have hs1 : w.heap.size < w1.heap.size := b1.lt
         have H1 := Lib.hid (And.intro b1 m1)
         clear b1 m1))
    go_simp
    go_wp2
    go_ret2
    exact ⟨H1.out.2.nn, rfl⟩
  · have hg0 : ¬ a < 0 := by omega
    go_enter Try.func56, Try.ntmps56
    go_upto_region 1 with (first
      | (with_reducible change wpList _ _ _ (⟨some 6, Op.box _ _, _, _, _, _⟩ :: _) _ _
         go_must (refine wpList_box_var 130 _ rfl rfl #[.pointer pl, .pointer ph] rfl ?_)
         intro w1 b1 m1 z1
         clear z1
         have hs1 : w.heap.size < w1.heap.size := b1.lt
         have H1 := Lib.hid (And.intro b1 m1)
         clear b1 m1))
    go_simp
    have hc0 : w1.cell? ⟨lb, 0, none⟩ = some (.slice A n c) := (HR.out.nn H1.out.2).blk.cell 0
    go_wp2
    go_ret2
    exact ⟨H1.out.2.nn, rfl⟩
  · have hg0 : ¬ (k : Int) < 0 := by omega
    have hg1 : ¬ (n : Int) ≤ k := by omega
    have hk' : (k : Int) < n := by omega
    go_enter Try.func56, Try.ntmps56
    go_upto_region 1 with (first
      | (with_reducible change wpList _ _ _ (⟨some 6, Op.box _ _, _, _, _, _⟩ :: _) _ _
         go_must (refine wpList_box_var 130 _ rfl rfl #[.pointer pl, .pointer ph] rfl ?_)
         intro w1 b1 m1 z1
         clear z1
         have hs1 : w.heap.size < w1.heap.size := b1.lt
         have H1 := Lib.hid (And.intro b1 m1)
         clear b1 m1))
    go_simp
    have hc0 : w1.cell? ⟨lb, 0, none⟩ = some (.slice A n c) := (HR.out.nn H1.out.2).blk.cell 0
    have hc1 : w1.cell? ⟨lb, 1, none⟩ = some (.slice (some ⟨gs, 0, none⟩) n cs) := (HR.out.nn H1.out.2).blk.cell 1
    have hcs : w1.cell? ⟨gs, k, none⟩ = some (.bool true) := ((HR.out.nn H1.out.2).row.cell k).trans (by simp [hs])
    go_wp2
    go_ret2
    exact ⟨H1.out.2.nn, rfl⟩
end
section
variable {w0 w : World} {lb gs k gA oA n c cs cnt : Nat} {σ : List Bool} {N : Nd} {EA KA CA : Option Addr} {en ec kn kc cn cc : Nat} {pl ph : Option Addr} {s : Spn} {top : Bool}
set_option maxRecDepth 100000 in
set_option maxHeartbeats 12800000 in
theorem part_wrong (h : PartH w0 w lb gs k gA oA n c cs cnt σ N EA KA CA en ec kn kc cn cc pl ph s) (hrt : N.right = false) : Calls Try.prog 56 #[.pointer (some ⟨lb, 0, none⟩), .int .i64 (k : Int), spV pl ph, .bool top] w (PartP w lb gs (some ⟨gA, oA, none⟩) n c cs top none) := by
  have hk' : (k : Int) < n := by have := h.lt; omega
  have hklt : k < n := h.lt
  have hg0 : ¬ (k : Int) < 0 := by omega
  have hg1 : ¬ (n : Int) ≤ k := by omega
  obtain ⟨lf, hlf⟩ : ∃ lf, N.leaf = lf := ⟨_, rfl⟩
  have hga : gA < w0.heap.size := World.block_lt_of_cell? w0 _ (h.cl 0 _ rfl)
  have hcl := h.cl
  rw [hlf] at hcl
  have hb0 := h.b0
  have hgg0 := h.g0
  have hne := h.ne
  have h0w : w0.heap.size ≤ w.heap.size := h.m0.size
  have hlbw : lb < w.heap.size := h.ldr.blk.lt
  have hgsw : gs < w.heap.size := h.ldr.row.lt
  have hcnt : cnt ≤ 1000 := by have := h.ldr.num; have := h.le; omega
  have HH := Lib.hid h
  have HCL := Lib.hid hcl
  have HLF := Lib.hid hlf
  have HRT := Lib.hid hrt
  have HSEE := Lib.hid (fun (w' : World) (hm : Mod Nn w w') => (h.ldr.nn hm).see h.ne h.un)
  clear h hcl hlf hrt
  unfold spV
  go_enter Try.func56, Try.ntmps56
  go_upto_region 1 with (first
    | (with_reducible change wpList _ _ _ (⟨some 6, Op.box _ _, _, _, _, _⟩ :: _) _ _
       go_must (refine wpList_box_var 130 _ rfl rfl #[.pointer pl, .pointer ph] rfl ?_)
       intro w1 b1 m1 z1
       clear z1
       have hs1 : w.heap.size < w1.heap.size := b1.lt
       have H1 := Lib.hid (And.intro b1 m1)
       clear b1 m1))
  go_simp
  have hR1 := HH.out.ldr.nn H1.out.2
  have hc0 : w1.cell? ⟨lb, 0, none⟩ = some (.slice (some ⟨gA, oA, none⟩) n c) := hR1.blk.cell 0
  have hc1 : w1.cell? ⟨lb, 1, none⟩ = some (.slice (some ⟨gs, 0, none⟩) n cs) := hR1.blk.cell 1
  have hcs : w1.cell? ⟨gs, k, none⟩ = some (.bool false) := (hR1.row.cell k).trans (by simp [HH.out.un])
  clear hR1
  (try dsimp only); (try go_simp); repeat' (first | ((fail_if_success (with_reducible change Oper.wp _ ⟨some 45, _, _, _, _, _⟩ _ _ _ _)); first | go_values | go_skip | go_guarded | go_step | go_upon | go_back))
  refine wp_valL (exec_elem (P := Try.prog) (g := gA) (off := oA) (q := k) 72 _ _ rfl 77 4 uuN sizeN rfl rfl hklt) ?_
  (try dsimp only); (try go_simp); repeat' (first | ((fail_if_success (with_reducible change Oper.wp _ ⟨some 46, _, _, _, _, _⟩ _ _ _ _)); first | go_values | go_skip | go_guarded | go_step | go_upon | go_back))
  refine wp_valL (exec_load_cells (P := Try.prog) (b := gA) (off := oA + k * 4) (cs := [.bool lf, .slice EA en ec, .slice KA kn kc, .slice CA cn cc]) 77 _ rfl rfl (fun j v hv => by
    have h1 := HCL.out j v hv
    rw [(HH.out.m0.nn_ H1.out.2).cell (p := ⟨gA, oA + k * 4 + j, none⟩) (World.block_lt_of_cell? w0 _ h1) (fun f => f)]
    exact h1) Try.underlying77 rfl sizeN) ?_
  have hright := nright_any (ec := ec) (kc := kc) (cc := cc) (HH.out.nd.nn (HH.out.m0.nn_ H1.out.2))
  rw [HLF.out, HRT.out] at hright
  go_wp2_with fail
  refine hright.mono ?_
  rintro r w2 ⟨rfl, m2⟩
  have H2 := Lib.hid (And.intro (H1.out.2.nn_ m2) (H1.out.1.mod m2 (fun f => f)))
  have hs2 : w1.heap.size ≤ w2.heap.size := m2.size
  clear m2 hright hc0 hc1 hcs
  go_wp2
  go_ret2
  exact ⟨H2.out.1.nn, rfl⟩
set_option maxRecDepth 100000 in
set_option maxHeartbeats 12800000 in
theorem part_leaf (h : PartH w0 w lb gs k gA oA n c cs cnt σ N EA KA CA en ec kn kc cn cc pl ph s) (hrt : N.right = true) (hleaf : N.leaf = true) : Calls Try.prog 56 #[.pointer (some ⟨lb, 0, none⟩), .int .i64 (k : Int), spV pl ph, .bool top] w (PartP w lb gs (some ⟨gA, oA, none⟩) n c cs top (if (N.little && !top) || !s.all N.ents then none else some (N.ents, 1, σ.set k true))) := by
  have hlfx := right_leaf_facts hrt hleaf
  have hlit : N.little = decide (en < 6) := by unfold Nd.little; rw [if_pos hleaf, h.nd.el]
  have hel : N.ents.length = en := h.nd.el
  have hen : en ≤ 12 := by omega
  have hleaf2 := hleaf
  have HLX := Lib.hid (And.intro hlfx (And.intro hlit hel))
  clear hlfx hlit hel
  obtain ⟨res, hres⟩ : ∃ res, (if (N.little && !top) || !s.all N.ents then none else some (N.ents, 1, σ.set k true) : UR) = res := ⟨_, rfl⟩
  rw [hres]
  have HRES := Lib.hid hres
  clear hres
  have hk' : (k : Int) < n := by have := h.lt; omega
  have hklt : k < n := h.lt
  have hg0 : ¬ (k : Int) < 0 := by omega
  have hg1 : ¬ (n : Int) ≤ k := by omega
  obtain ⟨lf, hlf⟩ : ∃ lf, N.leaf = lf := ⟨_, rfl⟩
  obtain rfl : lf = true := hlf.symm.trans hleaf2
  clear hleaf2 hleaf
  have hga : gA < w0.heap.size := World.block_lt_of_cell? w0 _ (h.cl 0 _ rfl)
  have hcl := h.cl
  rw [hlf] at hcl
  have hb0 := h.b0
  have hgg0 := h.g0
  have hne := h.ne
  have h0w : w0.heap.size ≤ w.heap.size := h.m0.size
  have hlbw : lb < w.heap.size := h.ldr.blk.lt
  have hgsw : gs < w.heap.size := h.ldr.row.lt
  have hcnt : cnt ≤ 1000 := by have := h.ldr.num; have := h.le; omega
  have HH := Lib.hid h
  have HCL := Lib.hid hcl
  have HLF := Lib.hid hlf
  have HRT := Lib.hid hrt
  have HSEE := Lib.hid (fun (w' : World) (hm : Mod Nn w w') => (h.ldr.nn hm).see h.ne h.un)
  clear h hcl hlf hrt
  unfold spV
  go_enter Try.func56, Try.ntmps56
  go_upto_region 1 with (first
    | (with_reducible change wpList _ _ _ (⟨some 6, Op.box _ _, _, _, _, _⟩ :: _) _ _
       go_must (refine wpList_box_var 130 _ rfl rfl #[.pointer pl, .pointer ph] rfl ?_)
       intro w1 b1 m1 z1
       clear z1
       have hs1 : w.heap.size < w1.heap.size := b1.lt
       have H1 := Lib.hid (And.intro b1 m1)
       clear b1 m1))
  go_simp
  have hR1 := HH.out.ldr.nn H1.out.2
  have hc0 : w1.cell? ⟨lb, 0, none⟩ = some (.slice (some ⟨gA, oA, none⟩) n c) := hR1.blk.cell 0
  have hc1 : w1.cell? ⟨lb, 1, none⟩ = some (.slice (some ⟨gs, 0, none⟩) n cs) := hR1.blk.cell 1
  have hcs : w1.cell? ⟨gs, k, none⟩ = some (.bool false) := (hR1.row.cell k).trans (by simp [HH.out.un])
  clear hR1
  (try dsimp only); (try go_simp); repeat' (first | ((fail_if_success (with_reducible change Oper.wp _ ⟨some 45, _, _, _, _, _⟩ _ _ _ _)); first | go_values | go_skip | go_guarded | go_step | go_upon | go_back))
  refine wp_valL (exec_elem (P := Try.prog) (g := gA) (off := oA) (q := k) 72 _ _ rfl 77 4 uuN sizeN rfl rfl hklt) ?_
  (try dsimp only); (try go_simp); repeat' (first | ((fail_if_success (with_reducible change Oper.wp _ ⟨some 46, _, _, _, _, _⟩ _ _ _ _)); first | go_values | go_skip | go_guarded | go_step | go_upon | go_back))
  refine wp_valL (exec_load_cells (P := Try.prog) (b := gA) (off := oA + k * 4) (cs := [.bool true, .slice EA en ec, .slice KA kn kc, .slice CA cn cc]) 77 _ rfl rfl (fun j v hv => by
    have h1 := HCL.out j v hv
    rw [(HH.out.m0.nn_ H1.out.2).cell (p := ⟨gA, oA + k * 4 + j, none⟩) (World.block_lt_of_cell? w0 _ h1) (fun f => f)]
    exact h1) Try.underlying77 rfl sizeN) ?_
  have hright := nright_any (ec := ec) (kc := kc) (cc := cc) (HH.out.nd.nn (HH.out.m0.nn_ H1.out.2))
  rw [HLF.out, HRT.out] at hright
  go_wp2_with fail
  refine hright.mono ?_
  rintro r w2 ⟨rfl, m2⟩
  have H2 := Lib.hid (And.intro (H1.out.2.nn_ m2) (H1.out.1.mod m2 (fun f => f)))
  have hs2 : w1.heap.size ≤ w2.heap.size := m2.size
  clear m2 hright hc0 hc1 hcs
  have hR2 := HH.out.ldr.nn H2.out.1
  have hc0 : w2.cell? ⟨lb, 0, none⟩ = some (.slice (some ⟨gA, oA, none⟩) n c) := hR2.blk.cell 0
  have hc1 : w2.cell? ⟨lb, 1, none⟩ = some (.slice (some ⟨gs, 0, none⟩) n cs) := hR2.blk.cell 1
  have hcs : w2.cell? ⟨gs, k, none⟩ = some (.bool false) := (hR2.row.cell k).trans (by simp [HH.out.un])
  have hfs : w2.frozen? ⟨gs, k, none⟩ = false := hR2.row.frozen k
  have hc2 : w2.cell? ⟨lb, 2, none⟩ = some (.int .i64 (cnt : Int)) := hR2.blk.cell 2
  have hcL := HSEE.out w2 H2.out.1
  have hf2 : (w2.setCell ⟨gs, k, none⟩ (.bool true)).frozen? ⟨lb, 2, none⟩ = false := (hR2.blk.mod (Mod.cellAt _ _ _ _ : Mod (At gs) w2 (w2.setCell ⟨gs, k, none⟩ (.bool true))) (fun e => hne e)).frozen 2
  have hc2' : (w2.setCell ⟨gs, k, none⟩ (.bool true)).cell? ⟨lb, 2, none⟩ = some (.int .i64 (cnt : Int)) := (hR2.blk.mod (Mod.cellAt _ _ _ _ : Mod (At gs) w2 (w2.setCell ⟨gs, k, none⟩ (.bool true))) (fun e => hne e)).cell 2
  have HL3 := Lib.hid (And.intro hcL (And.intro hf2 hc2'))
  clear hR2 hcL hf2 hc2' hc2
  go_upto_region 6 with (first
    | (with_reducible change wpList _ _ _ (⟨some 55, _, _, _, _, _⟩ :: _) _ _
       go_must (refine wpList_val rfl (exec_elem (P := Try.prog) (g := gs) (off := 0) (q := k) 80 _ _ rfl 4 1 uuB size_boolu rfl rfl hklt) ?_)
       rw [show 0 + k * 1 = k from by omega])
    | (with_reducible change wpList _ _ _ (⟨none, Op.store _ (Operand.tmp 55) _, _, _, _, _⟩ :: _) _ _
       go_must (refine wpList_unit rfl (exec_store1 (P := Try.prog) (ad := ⟨gs, k, none⟩) (v := .bool true) (u := .bool false) 4 _ _ rfl rfl rfl hcs hfs rfl rfl rfl size_boolu) ?_)
       have m3 : Mod (At gs) w2 (w2.setCell ⟨gs, k, none⟩ (.bool true)) := Mod.cellAt _ _ _ _
       generalize w2.setCell ⟨gs, k, none⟩ (.bool true) = w3 at *
       have M3 := Lib.hid m3
       clear m3)
    | (with_reducible change wpList _ _ _ (⟨some 59, _, _, _, _, _⟩ :: _) _ _
       go_must (refine wpList_val rfl (exec_load1 (P := Try.prog) (v := .int .i64 (cnt : Int)) (ad := ⟨lb, 2, none⟩) 3 _ rfl rfl HL3.out.2.2 Try.underlying3 rfl) ?_))
    | (with_reducible change wpList _ _ _ (⟨none, Op.store _ (Operand.tmp 62) _, _, _, _, _⟩ :: _) _ _
       go_must (refine wpList_unit rfl (exec_store1 (P := Try.prog) (ad := ⟨lb, 2, none⟩) (v := .int .i64 ((cnt + 1 : Nat) : Int)) (u := .int .i64 (cnt : Int)) 3 _ _ rfl rfl (by go_num) HL3.out.2.2 HL3.out.2.1 rfl rfl rfl size_intL) ?_)
       have hR4 := HL3.out.1
       have m4 : Mod (At lb) w3 (w3.setCell ⟨lb, 2, none⟩ (.int .i64 ((cnt + 1 : Nat) : Int))) := Mod.cellAt _ _ _ _
       generalize w3.setCell ⟨lb, 2, none⟩ (.int .i64 ((cnt + 1 : Nat) : Int)) = w4 at *
       have m24 : Mod (fun g => g = lb ∨ g = gs) w2 w4 := (M3.out.mono (fun _ _ e => .inr e)).trans (m4.mono (fun _ _ e => .inl e))
       have H4 := Lib.hid (And.intro hR4 (And.intro (H2.out.1.nn.trans m24) (And.intro (H2.out.2.mod m24 (fun e => by rcases e with e | e <;> omega)) (HH.out.m0.then_ (H2.out.1.nn.trans m24) (fun g hg e => by rcases e with rfl | rfl <;> omega)))))
       have hs4 : w2.heap.size ≤ w4.heap.size := m24.size
       clear hR4 m4 m24)
    | (with_reducible change wpList _ _ _ (⟨some 66, _, _, _, _, _⟩ :: _) _ _
       go_must (refine wpList_val rfl (exec_load1 (P := Try.prog) (v := .slice (some ⟨gA, oA, none⟩) n c) (ad := ⟨lb, 0, none⟩) 72 _ rfl rfl (H4.out.1.blk.cell 0) Try.underlying72 rfl) ?_))
    | (with_reducible change wpList _ _ _ (⟨some 68, _, _, _, _, _⟩ :: _) _ _
       go_must (refine wpList_val rfl (exec_elem (P := Try.prog) (g := gA) (off := oA) (q := k) 72 _ _ rfl 77 4 uuN sizeN rfl rfl hklt) ?_))
    | (with_reducible change wpList _ _ _ (⟨some 69, _, _, _, _, _⟩ :: _) _ _
       go_must (refine wpList_val rfl (exec_load_cells (P := Try.prog) (b := gA) (off := oA + k * 4) (cs := [.bool true, .slice EA en ec, .slice KA kn kc, .slice CA cn cc]) 77 _ rfl rfl (fun j v hv => by
         have h1 := HCL.out j v hv
         rw [H4.out.2.2.2.cell (p := ⟨gA, oA + k * 4 + j, none⟩) (World.block_lt_of_cell? w0 _ h1) (fun f => f)]
         exact h1) Try.underlying77 rfl sizeN) ?_))
    | (with_reducible change wpList _ _ _ (⟨some 10, Op.alloc _, _, _, _, _⟩ :: _) _ _
       go_must (refine wpList_alloc_var 77 rfl rfl infoN2 ?_)
       intro w5 b5 m5 z5
       clear z5
       have H5 := Lib.hid (And.intro m5 b5)
       have hs5 : w4.heap.size < w5.heap.size := b5.lt
       clear m5 b5)
    | (with_reducible change wpList _ _ _ (⟨none, Op.store _ (Operand.tmp 10) _, _, _, _, _⟩ :: _) _ _
       go_must (refine wpList_store_var 77 _ _ rfl rfl w4.heap.size #[.bool true, .slice EA en ec, .slice KA kn kc, .slice CA cn cc] _ _ rfl rfl H5.out.2 sizeN rfl (by simp [Value.oneCell']) ?_)
       intro w6 b6 m6 z6
       clear z6
       have h46 : Mod Nn w4 w6 := H5.out.1.new_ m6 (Nat.le_refl _)
       have H6 := Lib.hid (And.intro (H4.out.1.nn h46) (And.intro b6 (And.intro (H4.out.2.1.nn_ h46) (And.intro (H4.out.2.2.1.mod h46 (fun f => f)) (H4.out.2.2.2.nn_ h46)))))
       have hs6 : w4.heap.size < w6.heap.size := b6.lt
       clear m6 b6 h46))
  go_simp
  have hmk := mkfuncL
  obtain ⟨nb, hnb⟩ : ∃ nb, w4.heap.size = nb := ⟨_, rfl⟩
  rw [hnb] at H6 hs6 ⊢
  have hnbw : w.heap.size < nb := by omega
  clear hcs hfs H5
  have hl0 : w6.cell? ⟨nb, 0, none⟩ = some (.bool true) := H6.out.2.1.cell 0
  have hl1 : w6.cell? ⟨nb, 1, none⟩ = some (.slice EA en ec) := H6.out.2.1.cell 1
  go_wp2_with fail
  refine (scloneE_any (c := ec) (HH.out.nd.e.md (by omega) H6.out.2.2.2.2 (fun _ _ f => f)) (bv_one _) (by omega)).mono ?_
  rintro r w7 ⟨A', c', rfl, hh, m7, hA'⟩
  have hs7 : w6.heap.size ≤ w7.heap.size := m7.size
  have H7 := Lib.hid (And.intro (H6.out.1.nn m7) (And.intro hh (And.intro (H6.out.2.2.1.nn_ m7) (And.intro (H6.out.2.2.2.1.mod m7 (fun f => f)) (And.intro (H6.out.2.2.2.2.nn_ m7) hA')))))
  clear hh m7 hA' hl0 hl1
  go_upto_region 8 with (first
    | (with_reducible change wpList _ _ _ (⟨some 75, _, _, _, _, _⟩ :: _) _ _
       go_must (refine wpList_val rfl (exec_leafc (A := A') (n := en) (c := c') rfl rfl) ?_))
    | (with_reducible change wpList _ _ _ (⟨some 76, Op.box _ _, _, _, _, _⟩ :: _) _ _
       go_must (refine wpList_box_var 111 _ rfl rfl #[.slice A' en c'] rfl ?_)
       intro w8 b8 m8 z8
       clear z8
       have hs8 : w7.heap.size < w8.heap.size := b8.lt
       have H8 := Lib.hid (And.intro (H7.out.1.nn m8) (And.intro (H7.out.2.1.nn m8) (And.intro (H7.out.2.2.1.nn_ m8) (And.intro (H7.out.2.2.2.1.mod m8 (fun f => f)) (And.intro (H7.out.2.2.2.2.1.nn_ m8) (And.intro b8 m8))))))
       clear b8 m8))
  go_simp
  -- zzA
  go_wp2_with fail
  refine (little_leaf H8.out.2.2.2.2.2.1).mono ?_
  rintro r w9 ⟨rfl, m9⟩
  rw [← HLX.out.2.1]
  obtain ⟨lt, hlt⟩ : ∃ lt, N.little = lt := ⟨_, rfl⟩
  have HLT := Lib.hid hlt
  rw [hlt]
  clear hlt
  have H9 := Lib.hid (And.intro (H8.out.1.nn m9) (And.intro (H8.out.2.1.nn m9) (And.intro (H8.out.2.2.1.nn_ m9) (And.intro (H8.out.2.2.2.1.mod m9 (fun f => f)) (And.intro (H8.out.2.2.2.2.1.nn_ m9) (And.intro (H8.out.2.2.2.2.2.1.mod m9 (fun f => f)) (H8.out.2.2.2.2.2.2.nn_ m9)))))))
  clear m9
  have hp0 : w9.cell? ⟨w7.heap.size, 0, none⟩ = some (.slice A' en c') := H9.out.2.2.2.2.2.1.cell 0
  have hlo9 : PtrAt w9 pl s.lo := HH.out.lo.mod H9.out.2.2.1 (fun g hg e => by have := HH.out.los g hg; rcases e with e | e <;> omega)
  have hhi9 : PtrAt w9 ph s.hi := HH.out.hi.mod H9.out.2.2.1 (fun g hg e => by have := HH.out.his g hg; rcases e with e | e <;> omega)
  have hcf := containsf_any (c := c') H9.out.2.2.2.1 hlo9 hhi9 H9.out.2.1.rd HH.out.nd.ok.e HLX.out.2.2 (by omega)
  obtain ⟨ca, hca⟩ : ∃ ca, s.all N.ents = ca := ⟨_, rfl⟩
  have HCA := Lib.hid hca
  rw [hca] at hcf
  clear hca hlo9 hhi9
  have hleafat : ∀ w', Mod Nn w9 w' → ∃ F, TreeAt w' 0 (leafV w7.heap.size) N.ents en F ∧ ∀ g ∈ F, w.heap.size ≤ g := fun w' hm => by
    refine ⟨w7.heap.size :: blks A', ⟨w7.heap.size, A', c', ⟨rfl, by rw [HLX.out.2.2]; exact H9.out.2.2.2.2.2.1.mod hm (fun f => f), by rw [HLX.out.2.2]; exact H9.out.2.1.nn hm, HH.out.nd.ok.e, HLX.out.1.2, HLX.out.2.2.symm, rfl, ?_⟩⟩, fun g hg => ?_⟩
    · refine List.nodup_cons.2 ⟨fun hx => ?_, ?_⟩
      · have := H7.out.2.1.lt (mem_blks.1 hx); omega
      · exact blks_nodup _
    · rcases List.mem_cons.1 hg with rfl | hg
      · omega
      · have := H7.out.2.2.2.2.2 g (mem_blks.1 hg); omega
  have HLA := Lib.hid hleafat
  clear hleafat
  have hfin : ∀ w', Mod Nn w9 w' → (lt && !top) = false → ca = true → PartP w lb gs (some ⟨gA, oA, none⟩) n c cs top res (.returned (.tuple #[leafV w7.heap.size, .int .i64 1])) w' := fun w' hm hlt2 hca2 => by
    obtain ⟨F, hF1, hF2⟩ := HLA.out w' hm
    have hr : res = some (N.ents, 1, σ.set k true) := by rw [← HRES.out, HLT.out, HCA.out, hlt2, hca2]; rfl
    rw [hr]
    refine ⟨H9.out.2.2.1.nn_ hm, 0, leafV w7.heap.size, en, F, cnt + 1, rfl, rfl, hF1, by show en ≤ 12; omega, .inl rfl, fun ht => ?_, hF2, H9.out.1.nn hm⟩
    rw [ht, Bool.not_false, Bool.and_true, ← HLT.out, HLX.out.2.1, decide_eq_false_iff_not] at hlt2
    show 6 ≤ en
    omega
  have HFIN := Lib.hid hfin
  clear hfin
  have hno : ∀ w', Mod Nn w9 w' → ((lt && !top) || !ca) = true → PartP w lb gs (some ⟨gA, oA, none⟩) n c cs top res (.returned (.tuple #[.nilIface, .int .i64 0])) w' := fun w' hm hb => by
    have hr : res = none := by rw [← HRES.out, HLT.out, HCA.out, hb]; rfl
    rw [hr]
    exact ⟨H9.out.2.2.1.nn_ hm, rfl⟩
  have HNO := Lib.hid hno
  clear hno
  unfold leafV at HFIN
  cases lt
  · cases ca
    · go_wp2_with fail
      refine hcf.mono ?_
      rintro r w10 ⟨rfl, m10⟩
      have H10 := Lib.hid m10
      clear m10
      go_wp2
      go_ret2
      exact HNO.out _ H10.out (by simp)
    · go_wp2_with fail
      refine hcf.mono ?_
      rintro r w10 ⟨rfl, m10⟩
      have H10 := Lib.hid m10
      clear m10
      go_wp2
      go_ret2
      exact HFIN.out _ H10.out (by simp) (by simp)
  · cases top
    · go_wp2
      go_ret2
      exact HNO.out _ (Mod.refl _ _) rfl
    · cases ca
      · go_wp2_with fail
        refine hcf.mono ?_
        rintro r w10 ⟨rfl, m10⟩
        have H10 := Lib.hid m10
        clear m10
        go_wp2
        go_ret2
        exact HNO.out _ H10.out (by simp)
      · go_wp2_with fail
        refine hcf.mono ?_
        rintro r w10 ⟨rfl, m10⟩
        have H10 := Lib.hid m10
        clear m10
        go_wp2
        go_ret2
        exact HFIN.out _ H10.out (by simp) (by simp)
end
end Go.Proofs.Ytkcpmkeckcnobaa
