/- peatbanklaw15.NodeRise: the walk. -/
import Derived.Test.YtjndcgpfikngaaaNdM0
import Derived.Test.YtjndcgpfikngaaaNdRs
import Derived.Test.YtjndcgpfikngaaaBytesP
import Derived.Test.YtjndcgpfikngaaaKitD
import Derived.Deep.DeepCutAuto
namespace Go.Proofs.Ytjndcgpfikngaaa
open Go.RowKit

/-- do the first k pairs rise? -/
def riseN (K : List (List Nat)) (k : Nat) : Bool := (List.range k).all (fun i => decide (lexc (K.getD i []) (K.getD (i + 1) []) < 0))
theorem riseN_succ (K : List (List Nat)) (k : Nat) : riseN K (k + 1) = (riseN K k && decide (lexc (K.getD k []) (K.getD (k + 1) []) < 0)) := by
  unfold riseN; rw [List.range_succ, List.all_append]; simp
theorem riseN_all (K : List (List Nat)) {k : Nat} (h : k + 1 = K.length ∨ (k = 0 ∧ K.length = 0)) : riseN K k = riseB K := by
  rw [Bool.eq_iff_iff, rise_iff]
  unfold riseN
  rw [List.all_eq_true]
  constructor
  · intro hh i hi
    exact of_decide_eq_true (hh i (List.mem_range.2 (by omega)))
  · intro hh i hi
    have := List.mem_range.1 hi
    exact decide_eq_true (hh i (by omega))
section
variable {P : Program} {w w' : World} {base g n cap s : Nat} {e : TypeId} {xs : List Value} {A : Option Addr} {c : Nat}
theorem own_pre (h : w.ownsRow base e s (.slice (some ⟨g, 0, none⟩) n cap) n xs) {k : Nat} (hk : k ≤ n) : w.ownsRow base e s (.slice (some ⟨g, 0, none⟩) k cap) k (xs.take (k * s)) := by
  obtain ⟨cur, h1, h2, h3, h4, h5, h6⟩ := own_parts h
  have hle : k * s ≤ n * s := Nat.mul_le_mul_right _ hk
  exact ⟨by rw [List.length_take, h.1]; exact Nat.min_eq_left hle, .inr ⟨g, cap, cur, rfl, h1, h2, by omega, h4, h5, by rw [← h6, List.take_take, Nat.min_eq_left hle]⟩⟩
theorem RdC.post (h : RdC w A n s xs) (hs : 0 < s) (l : Nat) (hl : l ≤ n) (hc : n ≤ c) : RdC w (subA A c l s) (n - l) s (xs.drop (l * s)) := by
  refine ⟨by rw [List.length_drop, h.1, Nat.sub_mul], fun hp => ?_⟩
  obtain ⟨g, off, hA, hcl⟩ := h.2 (by omega)
  refine ⟨g, off + l * s, ?_, fun j v hv => ?_⟩
  · unfold subA
    rw [if_neg (by omega), hA]
    simp [Addr.add]
  · rw [List.getElem?_drop] at hv
    rw [Nat.add_assoc]
    exact hcl _ v hv
theorem exec_sub_h0 {o : Oper} {a : Act} (t : TypeId) (x hi : Operand) (ho : o.op = .slice t x none (some hi) none) (e : TypeId) (size : Nat) (ht : P.underlying t = some (.slice e)) (hi' : (P.info? e).map (·.size) = some size)
    {h : Nat} (hx : a.eval x = .slice A n c) (hh : a.eval hi = .int .i64 (h : Int)) (h2 : h ≤ c) :
    (execOp a.eval o).run P w = .ok (.value (.slice A h c)) w := by
  have := exec_sub_h (P := P) (w := w) t x hi ho e size ht hi' hx hh h2
  rwa [subA_zero] at this
theorem exec_append_spare {o : Oper} {a : Act} (t : TypeId) (sl x : Operand) (ho : o.op = .call { callee := .builtin .append, args := #[sl, x], argTypes := #[t, t] })
    (z : Value) (size bytes : Nat) (ht : P.underlying t = some (.slice e)) (hi : (P.info? e).map (fun i => (i.zero, i.size, i.bytes)) = some (some z, size, bytes))
    (hs : a.eval sl = .slice (some ⟨g, 0, none⟩) n cap) (hown : w.ownsRow base e size (.slice (some ⟨g, 0, none⟩) n cap) n xs)
    {m cc : Nat} {news : List Value} (hx : a.eval x = .slice A m cc) (hr : RdC w A m size news) (h1 : ∀ u ∈ news, u.oneCell' = true) (hroom : n + m ≤ cap) :
    ∃ w', (execOp a.eval o).run P w = .ok (.value (.slice (some ⟨g, 0, none⟩) (n + m) cap)) w' ∧ w'.ownsRow base e size (.slice (some ⟨g, 0, none⟩) (n + m) cap) (n + m) (xs ++ news) ∧ w.grownBy w' (some g) := by
  obtain ⟨w', h2, h3, h4⟩ := run_append_spare_rd (P := P) base t o.type e z size bytes ht hi n cap xs hown A m cc news hr h1 hroom
  exact ⟨w', by simp [execOp, ho, resolve, invoke, builtin, hs, hx, h2, Result.andThen], h3, h4⟩
end
section
variable {P : Program} {w : World} {o : Oper} {a : Act} {ops : Array Oper} {Q : Exit → Act → World → Prop} {S : World → Prop} {c k base g n cap : Nat} {ps : List (Nat × Nat)} {d : Bool} {e : TypeId} {xs : List Value} {A : Option Addr}
theorem pt_append_spare (t : TypeId) (sl x : Operand) (hk : ops[k]? = some o) (hg : Region.wanted o (yielded ops a.tmps) = true) (ho : o.op = .call { callee := .builtin .append, args := #[sl, x], argTypes := #[t, t] })
    (z : Value) (size bytes : Nat) (ht : P.underlying t = some (.slice e)) (hi : (P.info? e).map (fun i => (i.zero, i.size, i.bytes)) = some (some z, size, bytes))
    (hs : a.eval sl = .slice (some ⟨g, 0, none⟩) n cap) (hown : w.ownsRow base e size (.slice (some ⟨g, 0, none⟩) n cap) n xs)
    {m cc : Nat} {news : List Value} (hx : a.eval x = .slice A m cc) (hr : RdC w A m size news) (h1 : ∀ u ∈ news, u.oneCell' = true) (hroom : n + m ≤ cap)
    (hK : ∀ w', w'.ownsRow base e size (.slice (some ⟨g, 0, none⟩) (n + m) cap) (n + m) (xs ++ news) → w.grownBy w' (some g) →
      ((d || k == c) = false → S w') ∧ ∀ K : Act → Prop, (∀ a', wpPT P ops Q S c ps (d || k == c) a' w' → K a') → K (a.put o.dst (.slice (some ⟨g, 0, none⟩) (n + m) cap))) : wpPT P ops Q S c ((k, 2) :: ps) d a w := by
  obtain ⟨w', hrun, h2, h3⟩ := exec_append_spare (P := P) t sl x ho z size bytes ht hi hs hown hx hr h1 hroom
  obtain ⟨h5, h6⟩ := hK w' h2 h3
  exact pt_val hk hg hrun h5 h6
end
/-- while NodeRise goes: its argument's box, the copy's box, the copy's entries -/
structure RiS (w wr : World) (p q g1 : Nat) (cs ds : Array Value) (e1 cap1 : Nat) (X : List Value) : Prop where
  m : Mod Nn w wr
  box : Blk wr p 48 cs
  less : Blk wr q 48 ds
  own : wr.ownsRow 0 61 80 (.slice (some ⟨g1, 0, none⟩) e1 cap1) e1 X
theorem RiS.mod {w wr w' : World} {p q g1 e1 cap1 : Nat} {cs ds : Array Value} {X : List Value} {S : Nat → Prop} (h : RiS w wr p q g1 cs ds e1 cap1 X) (hm : Mod S wr w') (hw : ∀ g, g < w.heap.size → ¬ S g) (hp : ¬ S p) (hq : ¬ S q) (hg : ¬ S g1) : RiS w w' p q g1 cs ds e1 cap1 X :=
  ⟨h.m.then_ hm (fun g hg hs => (hw g hg hs).elim), h.box.mod hm hp, h.less.mod hm hq, own_mod h.own hm (fun g e => by injection e with e; subst e; exact hg)⟩
theorem RiS.nn {w wr w' : World} {p q g1 e1 cap1 : Nat} {cs ds : Array Value} {X : List Value} (h : RiS w wr p q g1 cs ds e1 cap1 X) (hm : Mod Nn wr w') : RiS w w' p q g1 cs ds e1 cap1 X :=
  h.mod hm (fun _ _ f => f) (fun f => f) (fun f => f) (fun f => f)
theorem flat_cut {L : List (List Nat)} (h : Rows 80 L) (a : Nat) (ha : a < L.length) : (bv L.flatten).take (a * 80) ++ (bv L.flatten).drop ((a + 1) * 80) = bv (L.take a ++ L.drop (a + 1)).flatten := by
  have key : ∀ (k : Nat), k ≤ L.length → L.flatten.take (k * 80) = (L.take k).flatten ∧ L.flatten.drop (k * 80) = (L.drop k).flatten := fun k hk => by
    have hl : (L.take k).flatten.length = k * 80 := by rw [rows_len (fun r hr => h r (List.mem_of_mem_take hr)), List.length_take, Nat.min_eq_left hk]
    have hf : L.flatten = (L.take k).flatten ++ (L.drop k).flatten := by rw [← List.flatten_append, List.take_append_drop]
    rw [hf, List.take_left' hl, List.drop_left' hl]
    exact ⟨rfl, rfl⟩
  unfold bv
  rw [← List.map_take, ← List.map_drop, ← List.map_append, (key a (by omega)).1, (key (a + 1) (by omega)).2, List.flatten_append]
end Go.Proofs.Ytjndcgpfikngaaa
