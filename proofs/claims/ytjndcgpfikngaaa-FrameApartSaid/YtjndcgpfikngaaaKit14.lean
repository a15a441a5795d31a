/- A planned region's map update (int keys). No program is named. -/
import Derived.Test.YtjndcgpfikngaaaKit12
namespace Go.Proofs.Ytjndcgpfikngaaa
open Go.RowKit
section
variable {P : Program} {ops : Array Oper} {Q : Exit → Act → World → Prop} {S : World → Prop} {c : Nat} {ps : List (Nat × Nat)} {k : Nat} {d : Bool} {w : World} {a : Act} {o : Oper}
variable {α : Type} {enc : α → Value} {g : Nat} {l : List (Int × α)} {kt et : TypeId}
theorem pt_mapUpdate (t : TypeId) (m x y : Operand) (hk : ops[k]? = some o) (hg : Region.wanted o (yielded ops a.tmps) = true) (ho : o.op = .mapUpdate t m x y) (kk : Int) (v : α)
    (hm : a.eval m = .map (some g)) (hx : a.eval x = .int .i64 kk) (hy : a.eval y = enc v) (h : MapE w g enc l) (ht : P.underlying t = some (.map kt et)) (hkt : P.underlying kt = some (.int .i64))
    (hK : ∀ w1, MapE w1 g enc (aset l kk v) → Mod (At g) w w1 → w1.heap.size = w.heap.size → ((d || k == c) = false → S w1) ∧ ∀ K : Act → Prop, (∀ a', wpPT P ops Q S c ps (d || k == c) a' w1 → K a') → K (a.put o.dst undef)) :
    wpPT P ops Q S c ((k, 2) :: ps) d a w := by
  obtain ⟨w1, h1, h2, h3, h4⟩ := exec_mapUpdate (P := P) (o := o) (a := a) m x y ho kk v hm hx hy h ht hkt
  obtain ⟨h5, h6⟩ := hK w1 h2 h3 h4
  exact pt_unit hk hg h1 h5 h6
end
end Go.Proofs.Ytjndcgpfikngaaa
