/- node.Get in plain words: what is read of a page; the node's words in memory while it is read. -/
import Derived.Test.YtfoldjnmknaklaaGreatNd6
import Derived.Test.YtfoldjnmknaklaaGreatKitD
import Derived.Test.YtfoldjnmknaklaaGreatKitC
namespace Go.Proofs.YtfoldjnmknaklaaGreat
open Go.RowKit

/-- what stands in a page: entry i, kid i, key i (of c kids) -/
def cutE (l : List Nat) (i : Nat) : List Nat := (l.drop (4 + 80 * i)).take 80
def be4 (l : List Nat) (i : Nat) : Nat := l.getD i 0 * 16777216 + l.getD (i + 1) 0 * 65536 + l.getD (i + 2) 0 * 256 + l.getD (i + 3) 0
def kidAt (l : List Nat) (i : Nat) : Int := (be4 l (4 + 4 * i) : Nat)
def keyAt (l : List Nat) (c i : Nat) : List Nat := (l.drop (4 + 4 * c + 40 * i)).take 40
/-- the node of a page when k rounds were gone through -/
def ndUp (l : List Nat) (k : Nat) : Nd :=
  if l.getD 0 0 = 1 then ⟨true, (List.range k).map (cutE l), [], []⟩
  else ⟨false, [], (List.range (k - 1)).map (keyAt l (l.getD 1 0)), (List.range k).map (kidAt l)⟩
def ndOf (l : List Nat) : Nd := ndUp l (l.getD 1 0)
/-- may a page have so many? -/
def cntOk (l : List Nat) : Prop := l.getD 1 0 ≤ 20 ∧ (l.getD 0 0 = 1 → l.getD 1 0 ≤ 12)
/-- is it a node's page? -/
def isNd (l : List Nat) : Prop := l.length = 1024 ∧ cntOk l ∧ (ndOf l).right = true ∧ (ndOf l).bytes = l

theorem cutE_ok {l : List Nat} (hl : l.length = 1024) (hz : ∀ z ∈ l, z < 256) {i : Nat} (hi : i < 12) : (cutE l i).length = 80 ∧ ∀ z ∈ cutE l i, z < 256 :=
  ⟨by unfold cutE; rw [List.length_take, List.length_drop]; omega, fun z h => hz z (List.mem_of_mem_drop (List.mem_of_mem_take h))⟩
theorem keyAt_ok {l : List Nat} (hl : l.length = 1024) (hz : ∀ z ∈ l, z < 256) {c i : Nat} (hc : c ≤ 20) (hi : i + 1 < c) : (keyAt l c i).length = 40 ∧ ∀ z ∈ keyAt l c i, z < 256 :=
  ⟨by unfold keyAt; rw [List.length_take, List.length_drop]; omega, fun z h => hz z (List.mem_of_mem_drop (List.mem_of_mem_take h))⟩
theorem getD_lt {l : List Nat} (hz : ∀ z ∈ l, z < 256) (i : Nat) : l.getD i 0 < 256 := by
  rw [List.getD_eq_getElem?_getD]
  cases h : l[i]? with
  | none => simp
  | some z => exact hz z (List.mem_of_getElem? h)
theorem ndUp_ok {l : List Nat} (hl : l.length = 1024) (hz : ∀ z ∈ l, z < 256) (hc : cntOk l) {k : Nat} (hk : k ≤ l.getD 1 0) : (ndUp l k).ok := by
  unfold ndUp
  split
  · next h =>
    have := hc.2 h
    refine ⟨fun r hr => ?_, fun r hr => by cases hr⟩
    obtain ⟨i, hi, rfl⟩ := List.mem_map.1 hr
    exact cutE_ok hl hz (by have := List.mem_range.1 hi; omega)
  · next h =>
    refine ⟨fun r hr => (by cases hr), fun r hr => ?_⟩
    obtain ⟨i, hi, rfl⟩ := List.mem_map.1 hr
    exact keyAt_ok hl hz hc.1 (by have := List.mem_range.1 hi; omega)
theorem ndUp_leaf {l : List Nat} (h : l.getD 0 0 = 1) (k : Nat) : ndUp l k = ⟨true, (List.range k).map (cutE l), [], []⟩ := by unfold ndUp; rw [if_pos h]
theorem ndUp_inner {l : List Nat} (h : l.getD 0 0 ≠ 1) (k : Nat) : ndUp l k = ⟨false, [], (List.range (k - 1)).map (keyAt l (l.getD 1 0)), (List.range k).map (kidAt l)⟩ := by unfold ndUp; rw [if_neg h]
theorem ndUp_lf (l : List Nat) (k : Nat) : (ndUp l k).leaf = decide (l.getD 0 0 = 1) := by
  unfold ndUp
  split
  · next h => exact (decide_eq_true h).symm
  · next h => exact (decide_eq_false h).symm

theorem ndUp_len (l : List Nat) (k : Nat) : (ndUp l k).ents.length ≤ k ∧ (ndUp l k).keys.length ≤ k ∧ (ndUp l k).kids.length ≤ k := by
  unfold ndUp
  split <;> simp
theorem nd_right {N : Nd} (hr : N.right = true) : N.ents.length ≤ 12 ∧ N.keys.length ≤ 19 ∧ N.kids.length ≤ 20 ∧ (N.leaf = true → N.keys.length = 0 ∧ N.kids.length = 0) ∧
    (N.leaf = false → N.ents.length = 0 ∧ N.keys.length + 1 = N.kids.length ∧ N.kids.all kidOk = true) := by
  cases hl : N.leaf with
  | true =>
    unfold Nd.right at hr
    rw [if_pos hl] at hr
    simp only [Bool.and_eq_true, beq_iff_eq, decide_eq_true_eq] at hr
    exact ⟨by omega, by omega, by omega, fun _ => by omega, (fun h => by cases h)⟩
  | false =>
    unfold Nd.right at hr
    rw [if_neg (by rw [hl]; exact Bool.false_ne_true)] at hr
    simp only [Bool.and_eq_true, decide_eq_true_eq, beq_iff_eq] at hr
    exact ⟨by omega, by omega, by omega, (fun h => by cases h), fun _ => ⟨by omega, by omega, hr.1.1.1.1.1⟩⟩
theorem body_ok {N : Nd} (hok : N.ok) (hr : N.right = true) : N.body.length = 1020 ∧ ∀ z ∈ N.body, z < 256 := by
  obtain ⟨h1, h2, h3, h4, h5⟩ := nd_right hr
  obtain ⟨b, hb⟩ : ∃ b, N.hdr ++ N.ents.flatten ++ kidsB N.kids ++ N.keys.flatten = b := ⟨_, rfl⟩
  have e2 : N.body = b ++ List.replicate (1020 - b.length) 0 := by rw [← hb]; rfl
  have e3 : b.length ≤ 1020 := by
    rw [← hb, List.length_append, List.length_append, List.length_append, rows_len hok.e, rows_len hok.k, kidsB_len]
    have hl : N.hdr.length = 4 := by unfold Nd.hdr; split <;> rfl
    rw [hl]
    cases hlf : N.leaf with
    | true => have := h4 hlf; omega
    | false => have := h5 hlf; omega
  have hz : ∀ z ∈ b, z < 256 := by
    intro z hz
    rw [← hb] at hz
    rcases List.mem_append.1 hz with hz | hz
    · rcases List.mem_append.1 hz with hz | hz
      · rcases List.mem_append.1 hz with hz | hz
        · have : N.ents.length % 256 < 256 := by omega
          have : N.kids.length % 256 < 256 := by omega
          unfold Nd.hdr at hz
          split at hz <;> simp at hz <;> omega
        · exact rows_lt hok.e z hz
      · exact kidsB_lt N.kids z hz
    · exact rows_lt hok.k z hz
  refine ⟨by rw [e2, List.length_append, List.length_replicate]; omega, ?_⟩
  rw [e2]
  intro z hzz
  rcases List.mem_append.1 hzz with h | h
  · exact hz z h
  · rw [List.eq_of_mem_replicate h]; omega
theorem bytes_ok {N : Nd} (hok : N.ok) (hr : N.right = true) : N.bytes.length = 1024 ∧ ∀ z ∈ N.bytes, z < 256 := by
  obtain ⟨h1, h2⟩ := body_ok hok hr
  refine ⟨by unfold Nd.bytes; rw [List.length_append, h1, num_len], fun z hz => ?_⟩
  rcases List.mem_append.1 hz with h | h
  · exact h2 z h
  · exact num_lt _ _ z h
theorem own1s {base s : Nat} {e : TypeId} {w : World} {v : Value} {n : Nat} {xs : List Value} (h : w.ownsRow base e s v n xs) : v.oneCell' = true ∧ v.cells = #[v] := by
  obtain ⟨A, c, rfl, _⟩ := own_form h
  exact ⟨rfl, rfl⟩
/-- the node's words while it is got: since w only new memory; the result's block, the node's block, its three rows -/
structure GetN (w wr : World) (r p : Nat) (ev kv cv : Value) (N : Nd) : Prop where
  m : Mod Nn w wr
  res : Blk wr r 32 #[.bool false, .slice none 0 0, .slice none 0 0, .slice none 0 0]
  box : Blk wr p 32 #[.bool N.leaf, ev, kv, cv]
  e : wr.ownsRow (p + 1) 43 80 ev N.ents.length (bv N.ents.flatten)
  k : wr.ownsRow (p + 1) 40 40 kv N.keys.length (bv N.keys.flatten)
  c : wr.ownsRow (p + 1) 3 1 cv N.kids.length (N.kids.map (Value.int .i64))
  rg : w.heap.size ≤ r
  rp : r < p
section
variable {w wr w5 : World} {r p : Nat} {ev kv cv v' : Value} {N : Nd}
theorem GetN.nn {w' : World} (h : GetN w wr r p ev kv cv N) (hm : Mod Nn wr w') : GetN w w' r p ev kv cv N :=
  ⟨h.m.trans hm, h.res.mod hm (fun f => f), h.box.mod hm (fun f => f), own_mod h.e hm (fun _ _ f => f), own_mod h.k hm (fun _ _ f => f), own_mod h.c hm (fun _ _ f => f), h.rg, h.rp⟩
theorem GetN.drew (h : GetN w wr r p ev kv cv N) : GetN w wr.drew r p ev kv cv N := h.nn (Mod.refl Nn wr).drew
theorem ne_own {b1 b2 s1 s2 n1 n2 g : Nat} {e1 e2 : TypeId} {v1 v2 : Value} {x1 x2 : List Value} (h1 : wr.ownsRow b1 e1 s1 v1 n1 x1) (h2 : wr.ownsRow b2 e2 s2 v2 n2 x2) (hne : e1 ≠ e2) (g1 : v1.ownBlock = some g) : ¬ v2.ownBlock = some g := fun g2 => by
  obtain ⟨_, _, _, _, k1, _⟩ := own_blk_eq h1 g1
  obtain ⟨_, _, _, _, k2, _⟩ := own_blk_eq h2 g2
  exact Blk.ne_ k1 k2 hne rfl
theorem GetN.addE {x : List Nat} (h : GetN w wr r p ev kv cv N) (hm : Mod (fun g => ev.ownBlock = some g) wr w5) (ho : w5.ownsRow (p + 1) 43 80 v' (N.ents.length + 1) (bv N.ents.flatten ++ bv x)) :
    GetN w (w5.setCell ⟨p, 1, none⟩ v') r p v' kv cv ⟨N.leaf, N.ents ++ [x], N.keys, N.kids⟩ := by
  have hp : ∀ g, ev.ownBlock = some g → p + 1 ≤ g := own_ge h.e
  have ms := Mod.cellAt w5 p 1 v'
  have b5 : Blk w5 p 32 #[.bool N.leaf, ev, kv, cv] := h.box.mod hm (fun e => by have := hp p e; omega)
  have nk := own_mod h.k hm (fun g g1 => ne_own h.k h.e (by decide) g1)
  have nc := own_mod h.c hm (fun g g1 => ne_own h.c h.e (by decide) g1)
  have far : ∀ {v : Value} {b n s : Nat} {e : TypeId} {xs : List Value}, w5.ownsRow (p + 1) e s v n xs → (w5.setCell ⟨p, 1, none⟩ v').ownsRow (p + 1) e s v n xs := fun ho => own_mod ho ms (fun g g1 e => by have := own_ge ho g g1; have e : g = p := e; omega)
  refine ⟨(h.m.then_ hm (fun g hg e => by have := hp g e; have := h.rg; have := h.rp; omega)).new_ ms (by have := h.rg; have := h.rp; omega), (h.res.mod hm (fun e => by have := hp r e; have := h.rp; omega)).mod ms (fun e => by have e : r = p := e; have := h.rp; omega), b5.set_ 1 v', ?_, far (b := 0) nk, far (b := 0) nc, h.rg, h.rp⟩
  have e1 : bv (N.ents ++ [x]).flatten = bv N.ents.flatten ++ bv x := by simp [bv]
  have e2 : (N.ents ++ [x]).length = N.ents.length + 1 := by simp
  rw [e1, e2]
  exact far (b := 0) ho
theorem GetN.addK {x : List Nat} (h : GetN w wr r p ev kv cv N) (hm : Mod (fun g => kv.ownBlock = some g) wr w5) (ho : w5.ownsRow (p + 1) 40 40 v' (N.keys.length + 1) (bv N.keys.flatten ++ bv x)) :
    GetN w (w5.setCell ⟨p, 2, none⟩ v') r p ev v' cv ⟨N.leaf, N.ents, N.keys ++ [x], N.kids⟩ := by
  have hp : ∀ g, kv.ownBlock = some g → p + 1 ≤ g := own_ge h.k
  have ms := Mod.cellAt w5 p 2 v'
  have b5 : Blk w5 p 32 #[.bool N.leaf, ev, kv, cv] := h.box.mod hm (fun e => by have := hp p e; omega)
  have ne := own_mod h.e hm (fun g g1 => ne_own h.e h.k (by decide) g1)
  have nc := own_mod h.c hm (fun g g1 => ne_own h.c h.k (by decide) g1)
  have far : ∀ {v : Value} {b n s : Nat} {e : TypeId} {xs : List Value}, w5.ownsRow (p + 1) e s v n xs → (w5.setCell ⟨p, 2, none⟩ v').ownsRow (p + 1) e s v n xs := fun ho => own_mod ho ms (fun g g1 e => by have := own_ge ho g g1; have e : g = p := e; omega)
  refine ⟨(h.m.then_ hm (fun g hg e => by have := hp g e; have := h.rg; have := h.rp; omega)).new_ ms (by have := h.rg; have := h.rp; omega), (h.res.mod hm (fun e => by have := hp r e; have := h.rp; omega)).mod ms (fun e => by have e : r = p := e; have := h.rp; omega), b5.set_ 2 v', far (b := 0) ne, ?_, far (b := 0) nc, h.rg, h.rp⟩
  have e1 : bv (N.keys ++ [x]).flatten = bv N.keys.flatten ++ bv x := by simp [bv]
  have e2 : (N.keys ++ [x]).length = N.keys.length + 1 := by simp
  rw [e1, e2]
  exact far (b := 0) ho
theorem GetN.addC {x : Int} (h : GetN w wr r p ev kv cv N) (hm : Mod (fun g => cv.ownBlock = some g) wr w5) (ho : w5.ownsRow (p + 1) 3 1 v' (N.kids.length + 1) (N.kids.map (Value.int .i64) ++ [.int .i64 x])) :
    GetN w (w5.setCell ⟨p, 3, none⟩ v') r p ev kv v' ⟨N.leaf, N.ents, N.keys, N.kids ++ [x]⟩ := by
  have hp : ∀ g, cv.ownBlock = some g → p + 1 ≤ g := own_ge h.c
  have ms := Mod.cellAt w5 p 3 v'
  have b5 : Blk w5 p 32 #[.bool N.leaf, ev, kv, cv] := h.box.mod hm (fun e => by have := hp p e; omega)
  have ne := own_mod h.e hm (fun g g1 => ne_own h.e h.c (by decide) g1)
  have nk := own_mod h.k hm (fun g g1 => ne_own h.k h.c (by decide) g1)
  have far : ∀ {v : Value} {b n s : Nat} {e : TypeId} {xs : List Value}, w5.ownsRow (p + 1) e s v n xs → (w5.setCell ⟨p, 3, none⟩ v').ownsRow (p + 1) e s v n xs := fun ho => own_mod ho ms (fun g g1 e => by have := own_ge ho g g1; have e : g = p := e; omega)
  refine ⟨(h.m.then_ hm (fun g hg e => by have := hp g e; have := h.rg; have := h.rp; omega)).new_ ms (by have := h.rg; have := h.rp; omega), (h.res.mod hm (fun e => by have := hp r e; have := h.rp; omega)).mod ms (fun e => by have e : r = p := e; have := h.rp; omega), b5.set_ 3 v', far (b := 0) ne, far (b := 0) nk, ?_, h.rg, h.rp⟩
  have e1 : (N.kids ++ [x]).map (Value.int .i64) = N.kids.map (Value.int .i64) ++ [.int .i64 x] := by simp
  have e2 : (N.kids ++ [x]).length = N.kids.length + 1 := by simp
  rw [e1, e2]
  exact far (b := 0) ho
/-- a node's rows, of the call's own memory -/
structure NdH (w : World) (base : Nat) (N : Nd) (ev kv cv : Value) : Prop where
  e : w.ownsRow base 43 80 ev N.ents.length (bv N.ents.flatten)
  k : w.ownsRow base 40 40 kv N.keys.length (bv N.keys.flatten)
  c : w.ownsRow base 3 1 cv N.kids.length (N.kids.map (Value.int .i64))
/-- what node.Get tells -/
def GetP (w : World) (l : List Nat) (e : Ending) (w' : World) : Prop :=
  (isNd l ∧ ∃ ev kv cv, e = .returned (.tuple #[.agg #[.bool (ndOf l).leaf, ev, kv, cv], .int .i64 0]) ∧ NdH w' w.heap.size (ndOf l) ev kv cv ∧ Mod Nn w w') ∨
  (¬ isNd l ∧ e = .returned (.tuple #[.agg #[.bool false, .slice none 0 0, .slice none 0 0, .slice none 0 0], .int .i64 4]) ∧ Mod Nn w w')
end
end Go.Proofs.YtfoldjnmknaklaaGreat
