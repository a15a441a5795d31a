/- The loader in memory; what its part promises; an inner put together out of its kids. -/
import Derived.Test.YtkcpmkeckcnobaaLd2
import Derived.Test.YtkcpmkeckcnobaaUn1
import Derived.Test.YtkcpmkeckcnobaaNd3
import Derived.Test.YtkcpmkeckcnobaaTrF
namespace Go.Proofs.Ytkcpmkeckcnobaa
open Go.RowKit

/-! ## plain -/
theorem kids_srt {ks : List (List Nat)} {ts : List Kid} (hk : ks.Pairwise klt) (hl : ks.length + 1 = ts.length) (hs : ∀ t ∈ ts, Srt t.L) (hin : ∀ j t, ts[j]? = some t → inK ks j t.L) : Srt (entsOf ts) ∧ Sep ks ts := by
  constructor
  · unfold Srt entsOf
    rw [List.pairwise_flatMap]
    refine ⟨hs, List.pairwise_iff_getElem.2 fun i j hi hj hij x hx y hy => ?_⟩
    have h1 := (hin i ts[i] (List.getElem?_eq_getElem hi) x hx).2 (by omega)
    have h2 := (hin j ts[j] (List.getElem?_eq_getElem hj) y hy).1 (by omega)
    exact klt_of_lt_le (klt_of_lt_le h1 (keys_le hk (show i ≤ j - 1 by omega) (by omega))) h2
  · intro i κ hκ
    have hil := (List.getElem?_eq_some_iff.1 hκ).1
    have hκ' : ks.getD i [] = κ := by rw [List.getD_eq_getElem?_getD, hκ]; rfl
    constructor
    · intro r hr
      obtain ⟨t, ht, hr'⟩ := List.mem_flatMap.1 hr
      obtain ⟨j, hj⟩ := List.mem_iff_getElem?.1 ht
      rw [List.getElem?_take] at hj
      split at hj
      · rename_i hji
        have h1 := (hin j t hj r hr').2 (by omega)
        rw [← hκ']
        exact klt_of_lt_le h1 (keys_le hk (by omega) hil)
      · cases hj
    · intro r hr
      obtain ⟨t, ht, hr'⟩ := List.mem_flatMap.1 hr
      obtain ⟨j, hj⟩ := List.mem_iff_getElem?.1 ht
      rw [List.getElem?_drop] at hj
      have hjl := (List.getElem?_eq_some_iff.1 hj).1
      have h1 := (hin (i + 1 + j) t hj r hr').1 (by omega)
      rw [← hκ']
      exact kle_trans (keys_le hk (show i ≤ i + 1 + j - 1 by omega) (by omega)) h1
/-! ## the loader -/
structure Ldr (w : World) (lb gs : Nat) (A : Option Addr) (n c cs cnt : Nat) (σ : List Bool) : Prop where
  blk : Blk w lb 125 #[.slice A n c, .slice (some ⟨gs, 0, none⟩) n cs, .int .i64 (cnt : Int)]
  row : Blk w gs 4 (σ.map Value.bool).toArray
  len : σ.length = n
  num : cnt + unseen σ = n
section
variable {w w' : World} {lb gs n c cs cnt : Nat} {A : Option Addr} {σ : List Bool}
theorem Ldr.nn (h : Ldr w lb gs A n c cs cnt σ) (hm : Mod Nn w w') : Ldr w' lb gs A n c cs cnt σ := ⟨h.blk.mod hm (fun f => f), h.row.mod hm (fun f => f), h.len, h.num⟩
theorem Ldr.mod {S : Nat → Prop} (h : Ldr w lb gs A n c cs cnt σ) (hm : Mod S w w') (h1 : ¬ S lb) (h2 : ¬ S gs) : Ldr w' lb gs A n c cs cnt σ := ⟨h.blk.mod hm h1, h.row.mod hm h2, h.len, h.num⟩
/-- a node was come to -/
theorem Ldr.see (h : Ldr w lb gs A n c cs cnt σ) (hne : lb ≠ gs) {k : Nat} (hk : σ[k]? = some false) : Ldr ((w.setCell ⟨gs, k, none⟩ (.bool true)).setCell ⟨lb, 2, none⟩ (.int .i64 ((cnt + 1 : Nat) : Int))) lb gs A n c cs (cnt + 1) (σ.set k true) := by
  have h1 : Blk (w.setCell ⟨gs, k, none⟩ (.bool true)) lb 125 #[.slice A n c, .slice (some ⟨gs, 0, none⟩) n cs, .int .i64 (cnt : Int)] := h.blk.mod (Mod.cellAt _ _ _ _ : Mod (At gs) w (w.setCell ⟨gs, k, none⟩ (.bool true))) (fun e => hne e)
  have h2 := h.row.set_ k (.bool true)
  rw [List.setIfInBounds_toArray, ← List.map_set] at h2
  have hu := unseen_set hk
  have hn := h.num
  exact ⟨h1.set_ 2 _, h2.mod (Mod.cellAt _ _ _ _ : Mod (At lb) _ _) (fun e => hne (by have e : gs = lb := e; exact e.symm)), by rw [List.length_set]; exact h.len, by omega⟩
end
def PartP (w : World) (lb gs : Nat) (A : Option Addr) (n c cs : Nat) (top : Bool) (res : UR) (r : Ending) (w' : World) : Prop :=
  Mod (fun g => g = lb ∨ g = gs) w w' ∧ (match res with
    | none => r = .returned (.tuple #[.nilIface, .int .i64 0])
    | some (L, d, σ) => ∃ (D : Nat) (v : Value) (k : Nat) (F : List Nat) (cnt : Nat), d = D + 1 ∧ r = .returned (.tuple #[v, .int .i64 (d : Nat)]) ∧ TreeAt w' D v L k F ∧ k ≤ hiB D ∧ (D = 0 ∨ 2 ≤ k) ∧ (top = false → loB D ≤ k) ∧ (∀ g ∈ F, w.heap.size ≤ g) ∧ Ldr w' lb gs A n c cs cnt σ)
/-! ## an inner whose kids are loaded one by one -/
structure LdM (w w1 wr : World) (lb gs nb sb pb : Nat) (A : Option Addr) (n c cs cnt : Nat) (σ : List Bool) (nv sv : Array Value) (K : Option Addr) (kc : Nat) (ks : List (List Nat)) (D : Nat) (ts : List Kid) (C : Option Addr) (q cc : Nat) : Prop where
  ldr : Ldr wr lb gs A n c cs cnt σ
  nblk : Blk wr nb 77 nv
  sblk : Blk wr sb 130 sv
  pblk : Blk wr pb 106 #[.slice K ks.length kc, .slice C q cc]
  krow : Hold wr 23 40 K ks.length kc (bv ks.flatten)
  crow : Hold wr 37 1 C q cc (ts.map (·.v))
  tl : ts.length = q
  kids : ∀ t ∈ ts, TreeAt wr D t.v t.L t.k t.F ∧ loB D ≤ t.k ∧ t.k ≤ hiB D
  cf : ∀ g, Of C g → w1.heap.size ≤ g
  ff : ∀ g ∈ foot ts, w1.heap.size ≤ g
  nd : (blks C ++ foot ts).Nodup
  md : Mod (fun g => g = lb ∨ g = gs) w wr
  sz : w1.heap.size ≤ wr.heap.size
section
variable {w w1 wr w' : World} {lb gs nb sb pb n c cs cnt : Nat} {A : Option Addr} {σ : List Bool} {nv sv : Array Value} {K C : Option Addr} {kc cc D q : Nat} {ks : List (List Nat)} {ts : List Kid}
theorem LdM.nn (h : LdM w w1 wr lb gs nb sb pb A n c cs cnt σ nv sv K kc ks D ts C q cc) (hm : Mod Nn wr w') : LdM w w1 w' lb gs nb sb pb A n c cs cnt σ nv sv K kc ks D ts C q cc :=
  ⟨h.ldr.nn hm, h.nblk.mod hm (fun f => f), h.sblk.mod hm (fun f => f), h.pblk.mod hm (fun f => f), h.krow.nn hm, h.crow.nn hm, h.tl, fun t ht => ⟨(h.kids t ht).1.nn hm, (h.kids t ht).2⟩, h.cf, h.ff, h.nd, h.md.trans hm.nn, Nat.le_trans h.sz hm.size⟩
theorem LdM.anyD (h : LdM w w1 wr lb gs nb sb pb A n c cs cnt σ nv sv K kc ks D ts C q cc) (ht : ts = []) (D' : Nat) : LdM w w1 wr lb gs nb sb pb A n c cs cnt σ nv sv K kc ks D' ts C q cc :=
  ⟨h.ldr, h.nblk, h.sblk, h.pblk, h.krow, h.crow, h.tl, fun t h' => (by rw [ht] at h'; cases h'), h.cf, h.ff, h.nd, h.md, h.sz⟩
/-- behind a call that changed the loader alone -/
theorem LdM.call {cnt' : Nat} {σ' : List Bool} (h : LdM w w1 wr lb gs nb sb pb A n c cs cnt σ nv sv K kc ks D ts C q cc) (hl : lb < w.heap.size) (hg : gs < w.heap.size) (h1 : w.heap.size ≤ w1.heap.size) (hn : w.heap.size ≤ nb) (hs : w.heap.size ≤ sb) (hp : w.heap.size ≤ pb) (hK : ∀ g, Of K g → w.heap.size ≤ g)
    (hL : Ldr w' lb gs A n c cs cnt' σ') (hm : Mod (fun g => g = lb ∨ g = gs) wr w') : LdM w w1 w' lb gs nb sb pb A n c cs cnt' σ' nv sv K kc ks D ts C q cc :=
  ⟨hL, h.nblk.mod hm (fun e => by rcases e with e | e <;> omega), h.sblk.mod hm (fun e => by rcases e with e | e <;> omega), h.pblk.mod hm (fun e => by rcases e with e | e <;> omega),
   h.krow.mod hm (fun g hg' e => by have := hK g hg'; rcases e with e | e <;> omega), h.crow.mod hm (fun g hg' e => by have := h.cf g hg'; rcases e with e | e <;> omega), h.tl,
   fun t ht => ⟨(h.kids t ht).1.mod hm (fun g hg' e => by have := h.ff g (mem_foot.2 ⟨t, ht, hg'⟩); rcases e with e | e <;> omega), (h.kids t ht).2⟩, h.cf, h.ff, h.nd, h.md.trans hm, Nat.le_trans h.sz hm.size⟩
/-- a kid more: the row has grown, the slice is laid into the inner -/
theorem LdM.push {t : Kid} {C' : Option Addr} {cc' : Nat} {w2 : World} (h : LdM w w1 wr lb gs nb sb pb A n c cs cnt σ nv sv K kc ks D ts C q cc) (hl : lb < w.heap.size) (hg : gs < w.heap.size) (h1 : w.heap.size ≤ w1.heap.size) (hn : nb < w1.heap.size) (hs : sb < w1.heap.size) (hp : pb < w1.heap.size) (hpw : w.heap.size ≤ pb) (hpn : pb ≠ nb) (hps : pb ≠ sb) (hK : ∀ g, Of K g → w.heap.size ≤ g ∧ g < w1.heap.size ∧ g ≠ pb)
    (ht : TreeAt wr D t.v t.L t.k t.F) (hk : loB D ≤ t.k ∧ t.k ≤ hiB D) (hf : ∀ g ∈ t.F, w1.heap.size ≤ g ∧ g ∉ foot ts ∧ ¬ Of C g) (hc : Hold w2 37 1 C' (q + 1) cc' (ts.map (·.v) ++ [t.v])) (hm : Mod (Of C) wr w2) (hC : ∀ g, Of C' g → Of C g ∨ wr.heap.size ≤ g) :
    LdM w w1 (w2.setCell ⟨pb, 1, none⟩ (.slice C' (q + 1) cc')) lb gs nb sb pb A n c cs cnt σ nv sv K kc ks D (ts ++ [t]) C' (q + 1) cc' := by
  have m3 : Mod (At pb) w2 (w2.setCell ⟨pb, 1, none⟩ (.slice C' (q + 1) cc')) := Mod.cellAt _ _ _ _
  have h1r := h.sz
  have nc : ∀ g, g < w1.heap.size → ¬ Of C g := fun g hg' ho => by have := h.cf g ho; omega
  have hcc : ∀ g, Of C' g → g ≠ pb := fun g hg' e => by
    rcases hC g hg' with h' | h'
    · have := h.cf g h'; omega
    · omega
  have hkid : ∀ u ∈ ts ++ [t], TreeAt wr D u.v u.L u.k u.F ∧ loB D ≤ u.k ∧ u.k ≤ hiB D := fun u hu => by
    rcases List.mem_append.1 hu with hu | hu
    · exact h.kids u hu
    · obtain rfl := List.mem_singleton.1 hu
      exact ⟨ht, hk⟩
  have hfoot : ∀ g ∈ foot (ts ++ [t]), w1.heap.size ≤ g ∧ ¬ Of C g ∧ g < wr.heap.size := fun g hg' => by
    obtain ⟨u, hu, hgu⟩ := mem_foot.1 hg'
    refine ⟨?_, ?_, (hkid u hu).1.lt g hgu⟩
    · rcases List.mem_append.1 hu with hu | hu
      · exact h.ff g (mem_foot.2 ⟨u, hu, hgu⟩)
      · obtain rfl := List.mem_singleton.1 hu
        exact (hf g hgu).1
    · rcases List.mem_append.1 hu with hu | hu
      · exact fun ho => (List.nodup_append.1 h.nd).2.2 g (mem_blks.2 ho) g (mem_foot.2 ⟨u, hu, hgu⟩) rfl
      · obtain rfl := List.mem_singleton.1 hu
        exact (hf g hgu).2.2
  refine ⟨(h.ldr.mod hm (nc lb (by omega)) (nc gs (by omega))).mod m3 (fun e => by have e : lb = pb := e; omega) (fun e => by have e : gs = pb := e; omega), (h.nblk.mod hm (nc nb hn)).mod m3 (fun e => hpn (by have e : nb = pb := e; exact e.symm)), (h.sblk.mod hm (nc sb hs)).mod m3 (fun e => hps (by have e : sb = pb := e; exact e.symm)),
    (h.pblk.mod hm (nc pb hp)).set_ 1 _, (h.krow.mod hm (fun g hg' => nc g (hK g hg').2.1)).mod m3 (fun g hg' e => (hK g hg').2.2 e), by rw [List.map_append]; exact hc.mod m3 (fun g hg' e => hcc g hg' e), by rw [List.length_append, h.tl]; rfl,
    fun u hu => ⟨((hkid u hu).1.mod hm (fun g hg' => (hfoot g (mem_foot.2 ⟨u, hu, hg'⟩)).2.1)).mod m3 (fun g hg' e => by have := (hfoot g (mem_foot.2 ⟨u, hu, hg'⟩)).1; have e : g = pb := e; omega), (hkid u hu).2⟩,
    fun g hg' => (hC g hg').elim (h.cf g) (fun h' => by omega), fun g hg' => (hfoot g hg').1, ?_, ?_, Nat.le_trans (Nat.le_trans h1r hm.size) m3.size⟩
  · rw [foot_append, foot_cons]
    have hnd := List.nodup_append.1 h.nd
    refine List.nodup_append.2 ⟨?_, ?_, fun a ha b hb e => ?_⟩
    · exact blks_nodup _
    · refine List.nodup_append.2 ⟨hnd.2.1, by simpa [foot] using ht.nodup, fun a ha b hb e => ?_⟩
      subst e
      exact (hf a (by simpa [foot] using hb)).2.1 ha
    · subst e
      have hb' : a ∈ foot (ts ++ [t]) := by rw [foot_append, foot_cons]; exact hb
      rcases hC a (mem_blks.1 ha) with h' | h'
      · exact (hfoot a hb').2.1 h'
      · have := (hfoot a hb').2.2; omega
  · exact (h.md.then_ hm (fun g hg' ho => by have := h.cf g ho; omega)).new_ m3 hpw
end
end Go.Proofs.Ytkcpmkeckcnobaa
