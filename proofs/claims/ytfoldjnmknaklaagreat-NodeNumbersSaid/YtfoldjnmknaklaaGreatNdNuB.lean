/- Own lemmas of several kinds, put together: NdNu4, NdNu6, NdNu7, NdNu8. -/
import Derived.Test.YtfoldjnmknaklaaGreatNdNuA
import Derived.Test.YtfoldjnmknaklaaGreatNdGu
import Derived.Test.YtfoldjnmknaklaaGreatNdP
import Derived.Test.YtfoldjnmknaklaaGreatNdSx
import Derived.ArgAppend
import Derived.Test.YtfoldjnmknaklaaGreatKitE
import Derived.Test.YtfoldjnmknaklaaGreatKitF
/- NodeNumbers: the four nodes where they lie; one law at a guarded append. -/
namespace Go.Proofs.YtfoldjnmknaklaaGreat
open Go.RowKit

structure At4 (w : World) (B i : Nat) (EA : Option Addr) (en ec : Nat) (KA : Option Addr) (kn kc : Nat) (CA : Option Addr) (cn cc : Nat) : Prop where
  cells : ∀ j v, [Value.bool (nodeF i).leaf, .slice EA en ec, .slice KA kn kc, .slice CA cn cc][j]? = some v → w.cell? ⟨B, i * 4 + j, none⟩ = some v
  r : NdR w (nodeF i) EA en KA kn CA cn
  lt : B < w.heap.size
theorem At4.nn {w w' : World} {B i : Nat} {EA KA CA : Option Addr} {en ec kn kc cn cc : Nat} (h : At4 w B i EA en ec KA kn kc CA cn cc) (hm : Mod Nn w w') : At4 w' B i EA en ec KA kn kc CA cn cc :=
  ⟨fun j v hv => (hm.cell (p := ⟨B, _, none⟩) h.lt (fun f => f)).trans (h.cells j v hv), h.r.nn hm, by have := h.lt; have := hm.size; omega⟩
theorem At4.q {w : World} {B i : Nat} {EA KA CA : Option Addr} {en ec kn kc cn cc : Nat} (h : At4 w B i EA en ec KA kn kc CA cn cc) : NdQ w (nodeF i) EA en KA kn CA cn :=
  ⟨h.r.e, h.r.k, h.r.c, h.r.el, h.r.kl, h.r.cl, h.r.ok⟩
/-- each of the four -/
def FourP (w : World) (B : Nat) : Prop := ∀ i, i < 4 → ∃ EA en ec KA kn kc CA cn cc, At4 w B i EA en ec KA kn kc CA cn cc
theorem FourP.nn {w w' : World} {B : Nat} (h : FourP w B) (hm : Mod Nn w w') : FourP w' B := fun i hi => by
  obtain ⟨EA, en, ec, KA, kn, kc, CA, cn, cc, h1⟩ := h i hi
  exact ⟨EA, en, ec, KA, kn, kc, CA, cn, cc, h1.nn hm⟩
theorem four_cells {w : World} {B i : Nat} {t : TypeId} {cs : Array Value} (hb : Blk w B t cs) {l : List Value} (h : ∀ j v, l[j]? = some v → cs[i * 4 + j]? = some v) : ∀ j v, l[j]? = some v → w.cell? ⟨B, i * 4 + j, none⟩ = some v :=
  fun j v hv => by rw [hb.cell]; exact h j v hv
theorem full_four {w : World} : Calls Tryz.prog 4 #[] w fun r w' => ∃ B, r = .returned (.slice (some ⟨B, 0, none⟩) 4 4) ∧ FourP w' B ∧ Mod Nn w w' := by
  refine (full_any w).mono fun r w' ⟨B, E0, e0, K0, k0, C0, c0, gk, gc, he, hB, hb, r1, r2, r3, r4, hm⟩ => ⟨B, he, fun i hi => ?_, hm⟩
  have four : ∀ (p : Nat → Value → Prop) (a b c d : Value), p 0 a → p 1 b → p 2 c → p 3 d → ∀ j v, [a, b, c, d][j]? = some v → p j v := fun p a b c d h0 h1 h2 h3 j v hv => by
    match j, hv with
    | 0, hv => injection hv with hv; rw [← hv]; exact h0
    | 1, hv => injection hv with hv; rw [← hv]; exact h1
    | 2, hv => injection hv with hv; rw [← hv]; exact h2
    | 3, hv => injection hv with hv; rw [← hv]; exact h3
    | j + 4, hv => simp at hv
  obtain rfl | rfl | rfl | rfl : i = 0 ∨ i = 1 ∨ i = 2 ∨ i = 3 := by omega
  · exact ⟨E0, 12, e0, none, 0, 0, none, 0, 0, four_cells hb (four _ _ _ _ _ rfl rfl rfl rfl), nfl_ndr r1, hb.lt⟩
  · exact ⟨none, 0, 0, K0, 19, k0, C0, 20, c0, four_cells hb (four _ _ _ _ _ rfl rfl rfl rfl), nif_ndr r2 r3, hb.lt⟩
  · exact ⟨none, 0, 0, none, 0, 0, none, 0, 0, four_cells hb (four _ _ _ _ _ rfl rfl rfl rfl), ⟨⟨rfl, fun h => absurd h (by omega)⟩, ⟨rfl, fun h => absurd h (by omega)⟩, Rd.nil _ _, rfl, rfl, rfl, no_ok true, by omega, by omega, by omega⟩, hb.lt⟩
  · exact ⟨none, 0, 0, some ⟨gk, 0, none⟩, 1, 1, some ⟨gc, 0, none⟩, 2, 2, four_cells hb (four _ _ _ _ _ rfl rfl rfl rfl), r4, hb.lt⟩
theorem wp_app {P : Program} {o : Oper} {a : Act} {w : World} {next : Act → World → Prop} {Q : Exit → Act → World → Prop} (t : TypeId) (s x : Operand) (ho : o.op = .call { callee := .builtin .append, args := #[s, x], argTypes := #[t, t] })
    (v' : Value) (w' : World) (hap : (Builtin.append_ #[t, t] o.type #[a.eval s, a.eval x]).run P w = .ok v' w') (h : next (a.put o.dst v') w') : o.wp P a w next Q := by
  unfold Oper.wp
  have : (execOp a.eval o).run P w = .ok (.value v') w' := by simp [execOp, ho, resolve, invoke, builtin, hap, Result.andThen]
  rw [this]; exact h
end Go.Proofs.YtfoldjnmknaklaaGreat

/- NodeNumbers: a node copied and changed; append to a part of a row that has room. -/
namespace Go.Proofs.YtfoldjnmknaklaaGreat
open Go.RowKit

theorem add_none_ (a : Addr) (h : a.spot = none) (n : Nat) : a.add n = ⟨a.block, a.off + n, none⟩ := by
  unfold Addr.add
  split
  · rename_i h0; subst h0; cases a; simp_all
  · rfl
theorem Mod.setCellsAt (b : Nat) : ∀ (vs : List Value) (o : Nat) (w : World), Mod (At b) w (w.setCells b o vs)
  | [], _, w => Mod.refl _ w
  | v :: r, o, w => (Mod.cellAt w b o v).trans (Mod.setCellsAt b r (o + 1) _)
section
variable {P : Program} {w : World} {o : Oper} {a : Act}
/-- append to what reads as olds at a place of a block of its kind, room or none -/
theorem exec_append_at (t e : TypeId) (s x : Operand) (ho : o.op = .call { callee := .builtin .append, args := #[s, x], argTypes := #[t, t] }) (z : Value) (size bytes : Nat) (ht : P.underlying t = some (.slice e))
    (hi : (P.info? e).map (fun i => (i.zero, i.size, i.bytes)) = some (some z, size, bytes)) (hzs : z.cells.size = size) (hsz : 0 < size) {b off n cap : Nat} {olds : List Value} (hs : a.eval s = .slice (some ⟨b, off, none⟩) n cap) (hol : olds.length = n * size)
    (hoc : ∀ j v, olds[j]? = some v → w.cell? ⟨b, off + j, none⟩ = some v) {cur : Array Value} (hb : Blk w b e cur) (hfit : off + cap * size ≤ cur.size) {B : Option Addr} {m c : Nat} {news : List Value} (hx : a.eval x = .slice B m c) (hr : RdC w B m size news) (h1 : ∀ u ∈ news, u.oneCell' = true) (hm : 0 < m)
    (hbytes : (n + m) * bytes ≤ 140737488355328) (h63 : n + m ≤ 140737488355328) :
    ∃ A' c' w', (execOp a.eval o).run P w = .ok (.value (.slice A' (n + m) c')) w' ∧ RdC w' A' (n + m) size (olds ++ news) ∧ Mod (At b) w w' := by
  obtain ⟨i, hii, hz, hss, hby⟩ := info_parts hi
  subst hss
  subst hby
  obtain ⟨gb, ob, rfl, hnc⟩ := hr.2 hm
  have hnews : ∀ j u, news[j]? = some u → w.cell? ((⟨gb, ob, none⟩ : Addr).add j) = some u := fun j u hu => by
    rw [add_none_ _ rfl]; exact hnc j u hu
  have hl := hr.1
  have hlen : (olds ++ news).length = (n + m) * i.size := by rw [List.length_append, hol, hl, Nat.add_mul]
  by_cases hroom : n + m ≤ cap
  · have hfit2 : (n + m) * i.size ≤ cap * i.size := Nat.mul_le_mul_right _ hroom
    rw [Nat.add_mul] at hfit2
    have hc : ∀ j, j < news.length → (w.cell? ⟨b, off + n * i.size + j, none⟩).isSome = true := fun j hj => by
      rw [hb.cell, Array.getElem?_eq_getElem (by rw [hl] at hj; omega)]; rfl
    have hrun := run_append_room_cells (P := P) w t o.type e i ht hii b off n cap ⟨gb, ob, none⟩ m c news hl hnews h1 hroom hc (fun j _ => hb.frozen _)
    refine ⟨some ⟨b, off, none⟩, cap, w.setCells b (off + n * i.size) news, by simp [execOp, ho, resolve, invoke, builtin, hs, hx, hrun, Result.andThen], ⟨hlen, fun _ => ⟨b, off, rfl, fun j v hj => ?_⟩⟩, Mod.setCellsAt b news _ w⟩
    rcases Nat.lt_or_ge j olds.length with h | h
    · rw [List.getElem?_append_left h] at hj
      rw [World.cell?_setCells_out b news _ w _ (fun _ _ => .inl (by show off + j < off + n * i.size; omega))]
      exact hoc j v hj
    · rw [List.getElem?_append_right h] at hj
      obtain ⟨h2, h3⟩ := List.getElem?_eq_some_iff.1 hj
      have := World.cell?_setCells_in b news (off + n * i.size) w hc (j - olds.length) h2
      rw [show off + n * i.size + (j - olds.length) = off + j by omega, h3] at this
      exact this
  · obtain ⟨v', w', hrun, hown, hgr⟩ := run_append_arg_grows (P := P) w t o.type e i z i.size i.bytes ht hii hz rfl rfl hzs hsz ⟨b, off, none⟩ n cap olds hol (fun j u hu => by rw [add_none_ _ rfl]; exact hoc j u hu) ⟨gb, ob, none⟩ m c news hl hnews (by omega) (by simp only [maxLen]; omega) hbytes
    obtain ⟨A', c', rfl, _⟩ := own_form hown
    have hM : Mod Nn w w' := (Mod.refl _ _).grown hgr (fun g h => by cases h)
    refine ⟨A', c', w', by simp [execOp, ho, resolve, invoke, builtin, hs, hx, hrun, Result.andThen], ⟨hlen, fun hp => ?_⟩, hM.nn⟩
    obtain ⟨g, cap', cur', e', _, hb', _, _, _, htk⟩ := own_blk hown hp
    injection e' with e1 _ _
    subst e1
    refine ⟨g, 0, rfl, fun j v hj => ?_⟩
    rw [Nat.zero_add, hb'.cell]
    have hj' := (List.getElem?_eq_some_iff.1 hj).1
    rw [← htk, List.getElem?_take_of_lt (by rw [hlen] at hj'; exact hj')] at hj
    simpa using hj
end
/-! ## a copied node -/
structure Cop (w0 w : World) (mb : Nat) (lf : Bool) (N : Nd) (base : Nat) (ev kv cv : Value) : Prop where
  box : Blk w mb 32 #[.bool lf, ev, kv, cv]
  h : NdH w base N ev kv cv
  md : Mod Nn w0 w
  bm : w0.heap.size ≤ mb
  bb : w0.heap.size ≤ base
  ok : N.ok
  lfe : N.leaf = lf
section
variable {w0 w w' w5 : World} {mb base n' : Nat} {lf : Bool} {N : Nd} {ev kv cv v' : Value}
theorem own_ne_t {base n s : Nat} {e t : TypeId} {v : Value} {xs : List Value} {g : Nat} {cs : Array Value} (h : w.ownsRow base e s v n xs) (hb : Blk w g t cs) (hne : t ≠ e) : ¬ v.ownBlock = some g := fun hg => by
  obtain ⟨_, _, _, _, hb', _⟩ := own_blk_eq h hg
  exact hb.ne_ hb' hne rfl
theorem own_ne_o {b1 b2 n1 n2 s1 s2 : Nat} {e1 e2 : TypeId} {v1 v2 : Value} {xs ys : List Value} {g : Nat} (h : w.ownsRow b1 e1 s1 v1 n1 xs) (k : w.ownsRow b2 e2 s2 v2 n2 ys) (hne : e1 ≠ e2) (h1 : v1.ownBlock = some g) : ¬ v2.ownBlock = some g := fun h2 => by
  obtain ⟨_, _, _, _, hb', _⟩ := own_blk_eq h h1
  exact own_ne_t k hb' hne h2
theorem Cop.nn (h : Cop w0 w mb lf N base ev kv cv) (hm : Mod Nn w w') : Cop w0 w' mb lf N base ev kv cv :=
  ⟨h.box.mod hm (fun f => f), ⟨own_mod h.h.e hm (fun _ _ f => f), own_mod h.h.k hm (fun _ _ f => f), own_mod h.h.c hm (fun _ _ f => f)⟩, h.md.nn_ hm, h.bm, h.bb, h.ok, h.lfe⟩
theorem Cop.leaf (h : Cop w0 w mb lf N base ev kv cv) (b : Bool) : Cop w0 (w.setCell ⟨mb, 0, none⟩ (.bool b)) mb b { N with leaf := b } base ev kv cv := by
  have m : Mod (At mb) w (w.setCell ⟨mb, 0, none⟩ (.bool b)) := Mod.cellAt _ _ _ _
  refine ⟨h.box.set_ 0 _, ⟨own_mod h.h.e m (fun g hg e => own_ne_t h.h.e h.box (by decide) (by rw [hg]; exact congrArg some e)), own_mod h.h.k m (fun g hg e => own_ne_t h.h.k h.box (by decide) (by rw [hg]; exact congrArg some e)), own_mod h.h.c m (fun g hg e => own_ne_t h.h.c h.box (by decide) (by rw [hg]; exact congrArg some e))⟩, h.md.new_ m h.bm, h.bm, h.bb, ⟨h.ok.e, h.ok.k⟩, rfl⟩
theorem Cop.setE {es : List (List Nat)} (h : Cop w0 w mb lf N base ev kv cv) (o5 : w5.ownsRow base 43 80 v' n' (bv es.flatten)) (m5 : Mod (fun g => ev.ownBlock = some g) w w5) (hr : Rows 80 es) (hn : es.length = n') : Cop w0 (w5.setCell ⟨mb, 1, none⟩ v') mb lf { N with ents := es } base v' kv cv := by
  have b5 : Blk w5 mb 32 #[.bool lf, ev, kv, cv] := h.box.mod m5 (own_ne_t h.h.e h.box (by decide))
  have k5 := own_mod h.h.k m5 (fun g hg hg' => own_ne_o h.h.e h.h.k (by decide) hg' hg)
  have c5 := own_mod h.h.c m5 (fun g hg hg' => own_ne_o h.h.e h.h.c (by decide) hg' hg)
  have m : Mod (At mb) w5 (w5.setCell ⟨mb, 1, none⟩ v') := Mod.cellAt _ _ _ _
  subst hn
  exact ⟨b5.set_ 1 _, ⟨own_mod o5 m (fun g hg e => own_ne_t o5 b5 (by decide) (by rw [hg]; exact congrArg some e)), own_mod k5 m (fun g hg e => own_ne_t k5 b5 (by decide) (by rw [hg]; exact congrArg some e)), own_mod c5 m (fun g hg e => own_ne_t c5 b5 (by decide) (by rw [hg]; exact congrArg some e))⟩,
    (h.md.then_ m5 (fun g hg hx => by have := own_ge h.h.e g hx; have := h.bb; omega)).new_ m h.bm, h.bm, h.bb, ⟨hr, h.ok.k⟩, h.lfe⟩
theorem Cop.setK {es : List (List Nat)} (h : Cop w0 w mb lf N base ev kv cv) (o5 : w5.ownsRow base 40 40 v' n' (bv es.flatten)) (m5 : Mod (fun g => kv.ownBlock = some g) w w5) (hr : Rows 40 es) (hn : es.length = n') : Cop w0 (w5.setCell ⟨mb, 2, none⟩ v') mb lf { N with keys := es } base ev v' cv := by
  have b5 : Blk w5 mb 32 #[.bool lf, ev, kv, cv] := h.box.mod m5 (own_ne_t h.h.k h.box (by decide))
  have k5 := own_mod h.h.e m5 (fun g hg hg' => own_ne_o h.h.k h.h.e (by decide) hg' hg)
  have c5 := own_mod h.h.c m5 (fun g hg hg' => own_ne_o h.h.k h.h.c (by decide) hg' hg)
  have m : Mod (At mb) w5 (w5.setCell ⟨mb, 2, none⟩ v') := Mod.cellAt _ _ _ _
  subst hn
  exact ⟨b5.set_ 2 _, ⟨own_mod k5 m (fun g hg e => own_ne_t k5 b5 (by decide) (by rw [hg]; exact congrArg some e)), own_mod o5 m (fun g hg e => own_ne_t o5 b5 (by decide) (by rw [hg]; exact congrArg some e)), own_mod c5 m (fun g hg e => own_ne_t c5 b5 (by decide) (by rw [hg]; exact congrArg some e))⟩,
    (h.md.then_ m5 (fun g hg hx => by have := own_ge h.h.k g hx; have := h.bb; omega)).new_ m h.bm, h.bm, h.bb, ⟨h.ok.e, hr⟩, h.lfe⟩
theorem Cop.setC {zs : List Int} (h : Cop w0 w mb lf N base ev kv cv) (o5 : w5.ownsRow base 3 1 v' n' (zs.map (Value.int .i64))) (m5 : Mod (fun g => cv.ownBlock = some g) w w5) (hn : zs.length = n') : Cop w0 (w5.setCell ⟨mb, 3, none⟩ v') mb lf { N with kids := zs } base ev kv v' := by
  have b5 : Blk w5 mb 32 #[.bool lf, ev, kv, cv] := h.box.mod m5 (own_ne_t h.h.c h.box (by decide))
  have k5 := own_mod h.h.e m5 (fun g hg hg' => own_ne_o h.h.c h.h.e (by decide) hg' hg)
  have c5 := own_mod h.h.k m5 (fun g hg hg' => own_ne_o h.h.c h.h.k (by decide) hg' hg)
  have m : Mod (At mb) w5 (w5.setCell ⟨mb, 3, none⟩ v') := Mod.cellAt _ _ _ _
  subst hn
  exact ⟨b5.set_ 3 _, ⟨own_mod k5 m (fun g hg e => own_ne_t k5 b5 (by decide) (by rw [hg]; exact congrArg some e)), own_mod c5 m (fun g hg e => own_ne_t c5 b5 (by decide) (by rw [hg]; exact congrArg some e)), own_mod o5 m (fun g hg e => own_ne_t o5 b5 (by decide) (by rw [hg]; exact congrArg some e))⟩,
    (h.md.then_ m5 (fun g hg hx => by have := own_ge h.h.c g hx; have := h.bb; omega)).new_ m h.bm, h.bm, h.bb, ⟨h.ok.e, h.ok.k⟩, h.lfe⟩
/-- what NodePuts takes -/
def QP (w : World) (mb : Nat) : Prop := ∃ (N : Nd) (EA : Option Addr) (en ec : Nat) (KA : Option Addr) (kn kc : Nat) (CA : Option Addr) (cn cc : Nat), Blk w mb 32 #[.bool N.leaf, .slice EA en ec, .slice KA kn kc, .slice CA cn cc] ∧ NdQ w N EA en KA kn CA cn ∧ en + kn + cn ≤ 9223372036854775807
theorem Cop.q (h : Cop w0 w mb lf N base ev kv cv) (hs : N.ents.length + N.keys.length + N.kids.length ≤ 9223372036854775807) : QP w mb := by
  obtain ⟨EA, ec, rfl, _, _⟩ := own_form h.h.e
  obtain ⟨KA, kc, rfl, _, _⟩ := own_form h.h.k
  obtain ⟨CA, cc, rfl, _, _⟩ := own_form h.h.c
  exact ⟨N, EA, _, ec, KA, _, kc, CA, _, cc, by rw [h.lfe]; exact h.box, ⟨own_rdC h.h.e, own_rdC h.h.k, Rd.of_own h.h.c, rfl, rfl, rfl, h.ok⟩, hs⟩
end
end Go.Proofs.YtfoldjnmknaklaaGreat

/- NodeNumbers: a copied node's rows grown. -/
namespace Go.Proofs.YtfoldjnmknaklaaGreat
open Go.RowKit

theorem exec_app {P : Program} {o : Oper} {a : Act} {w : World} (t : TypeId) (s x : Operand) (ho : o.op = .call { callee := .builtin .append, args := #[s, x], argTypes := #[t, t] })
    (v' : Value) (w' : World) (hap : (Builtin.append_ #[t, t] o.type #[a.eval s, a.eval x]).run P w = .ok v' w') : (execOp a.eval o).run P w = .ok (.value v') w' := by
  simp [execOp, ho, resolve, invoke, builtin, hap, Result.andThen]
theorem exec_min_one {P : Program} {o : Oper} {a : Act} {w : World} (t : TypeId) (x y : Operand) (ho : o.op = .call { callee := .builtin .min, args := #[x, y], argTypes := #[t, t] }) {n l : Nat} (hl : l = min 1 n) (hx : a.eval x = .int .i64 1) (hy : a.eval y = .int .i64 (n : Int)) :
    (execOp a.eval o).run P w = .ok (.value (.int .i64 (l : Int))) w := by
  subst hl
  have e : (if (n : Int) < 1 then (n : Int) else 1) = ((min 1 n : Nat) : Int) := by split <;> omega
  have hr : (Builtin.min_ #[t, t] o.type #[.int .i64 1, .int .i64 (n : Int)]).run P w = .ok (.int .i64 ((min 1 n : Nat) : Int)) w := by simp [Builtin.min_, Builtin.min2, e]
  simp [execOp, ho, resolve, invoke, builtin, hx, hy, Result.andThen, hr]
theorem info_int2_ : (Tryz.prog.info? 3).map (fun i => (i.zero, i.size)) = some (some (.int .i64 0), 1) := by kernel_rfl
section
variable {w0 w w' : World} {mb base : Nat} {lf : Bool} {N : Nd} {ev kv cv : Value}
theorem blk_cells {w : World} {g : Nat} {t : TypeId} {l : List Value} (h : Blk w g t l.toArray) : ∀ j v, l[j]? = some v → w.cell? ⟨g, 0 + j, none⟩ = some v := fun j v hv => by
  rw [Nat.zero_add, h.cell]; simpa using hv
theorem rows_app {s : Nat} {L M : List (List Nat)} (h : Rows s L) (k : Rows s M) : Rows s (L ++ M) := fun r hr => (List.mem_append.1 hr).elim (h r) (k r)
theorem Cop.appE (h : Cop w0 w mb lf N base ev kv cv) (hbm : base ≤ mb) {A : Option Addr} {m c : Nat} {R : List (List Nat)} (hr : RdC w A m 80 (bv R.flatten)) (hR : Rows 80 R) (hm : R.length = m) (hs : N.ents.length + m ≤ 10000000000) (ty : TypeId) :
    ∃ A' c' w', (Builtin.append_ #[28, 28] ty #[ev, .slice A m c]).run Tryz.prog w = .ok (.slice A' (N.ents.length + m) c') w' ∧ Cop w0 (w'.setCell ⟨mb, 1, none⟩ (.slice A' (N.ents.length + m) c')) mb lf { N with ents := N.ents ++ R } base (.slice A' (N.ents.length + m) c') kv cv ∧
      w'.cell? ⟨mb, 1, none⟩ = some ev ∧ w'.frozen? ⟨mb, 1, none⟩ = false := by
  obtain ⟨v', w', hap, own', gr', -⟩ := run_append_rd (P := Tryz.prog) w base 28 ty 43 (.agg (bv (List.replicate 80 0)).toArray) 80 80 Tryz.underlying28 info_ent3' (by simp [Value.cells, bv]) (by omega) ev N.ents.length _ h.h.e A m c _ hr (bv_one _) (by omega) (by omega) (by have := h.box.lt; omega)
  obtain ⟨A', c', rfl, -, -⟩ := own_form own'
  have hf : bv N.ents.flatten ++ bv R.flatten = bv (N.ents ++ R).flatten := by unfold bv; rw [List.flatten_append, List.map_append]
  rw [hf] at own'
  have m' : Mod (fun g => ev.ownBlock = some g) w w' := (Mod.refl _ w).grown gr' (fun g hg => .inr hg)
  have b' := h.box.mod m' (own_ne_t h.h.e h.box (by decide))
  exact ⟨A', c', w', hap, h.setE own' m' (rows_app h.ok.e hR) (by rw [List.length_append, hm]), b'.cell 1, b'.frozen 1⟩
theorem Cop.appK (h : Cop w0 w mb lf N base ev kv cv) (hbm : base ≤ mb) {A : Option Addr} {m c : Nat} {R : List (List Nat)} (hr : RdC w A m 40 (bv R.flatten)) (hR : Rows 40 R) (hm : R.length = m) (hs : N.keys.length + m ≤ 10000000000) (ty : TypeId) :
    ∃ A' c' w', (Builtin.append_ #[29, 29] ty #[kv, .slice A m c]).run Tryz.prog w = .ok (.slice A' (N.keys.length + m) c') w' ∧ Cop w0 (w'.setCell ⟨mb, 2, none⟩ (.slice A' (N.keys.length + m) c')) mb lf { N with keys := N.keys ++ R } base ev (.slice A' (N.keys.length + m) c') cv ∧
      w'.cell? ⟨mb, 2, none⟩ = some kv ∧ w'.frozen? ⟨mb, 2, none⟩ = false := by
  obtain ⟨v', w', hap, own', gr', -⟩ := run_append_rd (P := Tryz.prog) w base 29 ty 40 (.agg (bv (List.replicate 40 0)).toArray) 40 40 Tryz.underlying29 info_tk3' (by simp [Value.cells, bv]) (by omega) kv N.keys.length _ h.h.k A m c _ hr (bv_one _) (by omega) (by omega) (by have := h.box.lt; omega)
  obtain ⟨A', c', rfl, -, -⟩ := own_form own'
  have hf : bv N.keys.flatten ++ bv R.flatten = bv (N.keys ++ R).flatten := by unfold bv; rw [List.flatten_append, List.map_append]
  rw [hf] at own'
  have m' : Mod (fun g => kv.ownBlock = some g) w w' := (Mod.refl _ w).grown gr' (fun g hg => .inr hg)
  have b' := h.box.mod m' (own_ne_t h.h.k h.box (by decide))
  exact ⟨A', c', w', hap, h.setK own' m' (rows_app h.ok.k hR) (by rw [List.length_append, hm]), b'.cell 2, b'.frozen 2⟩
theorem info_int3_ : (Tryz.prog.info? 3).map (fun i => (i.zero, i.size, i.bytes)) = some (some (.int .i64 0), 1, 8) := by kernel_rfl
theorem Cop.appC (h : Cop w0 w mb lf N base ev kv cv) (hbm : base ≤ mb) {A : Option Addr} {m c : Nat} {R : List Int} (hr : Rd w A m (R.map (Value.int .i64))) (hm : R.length = m) (hs : N.kids.length + m ≤ 10000000000) (ty : TypeId) :
    ∃ A' c' w', (Builtin.append_ #[30, 30] ty #[cv, .slice A m c]).run Tryz.prog w = .ok (.slice A' (N.kids.length + m) c') w' ∧ Cop w0 (w'.setCell ⟨mb, 3, none⟩ (.slice A' (N.kids.length + m) c')) mb lf { N with kids := N.kids ++ R } base ev kv (.slice A' (N.kids.length + m) c') ∧
      w'.cell? ⟨mb, 3, none⟩ = some cv ∧ w'.frozen? ⟨mb, 3, none⟩ = false := by
  obtain ⟨v', w', hap, own', gr', -⟩ := run_append_rd (P := Tryz.prog) w base 30 ty 3 (.int .i64 0) 1 8 Tryz.underlying30 info_int3_ rfl (by omega) cv N.kids.length _ h.h.c A m c _ hr.toC (fun u hu => by obtain ⟨_, _, rfl⟩ := List.mem_map.1 hu; rfl) (by omega) (by omega) (by have := h.box.lt; omega)
  obtain ⟨A', c', rfl, -, -⟩ := own_form own'
  rw [← List.map_append] at own'
  have m' : Mod (fun g => cv.ownBlock = some g) w w' := (Mod.refl _ w).grown gr' (fun g hg => .inr hg)
  have b' := h.box.mod m' (own_ne_t h.h.c h.box (by decide))
  exact ⟨A', c', w', hap, h.setC own' m' (by rw [List.length_append, hm]), b'.cell 3, b'.frozen 3⟩
theorem rows_one80 : Rows 80 [255 :: List.replicate 79 0] := rows_dec (by decide)
theorem rows_one40 : Rows 40 [255 :: List.replicate 39 0] := rows_dec (by decide)
/-- a row of its own of one number, and the copied node's kids from the l-th on -/
theorem Cop.newC {A : Option Addr} {cn c l : Nat} {z : Int} (h : Cop w0 w mb lf N base ev kv (.slice A cn c)) (hbm : base ≤ mb) (hl : l ≤ cn) (hcn : N.kids.length = cn) (hc : cn ≤ c) (hs : cn ≤ 10000000000) (ty : TypeId) :
    ∃ A' c' w', (Builtin.append_ #[30, 30] ty #[.slice (some ⟨w.heap.size, 0, none⟩) 1 1, .slice (subA A c l 1) (cn - l) (c - l)]).run Tryz.prog (w.alloc (.cells #[.int .i64 z] 3)) = .ok (.slice A' (1 + (cn - l)) c') w' ∧ Cop w0 (w'.setCell ⟨mb, 3, none⟩ (.slice A' (1 + (cn - l)) c')) mb lf { N with kids := [z] ++ N.kids.drop l } base ev kv (.slice A' (1 + (cn - l)) c') ∧
      w'.cell? ⟨mb, 3, none⟩ = some (.slice A cn c) ∧ w'.frozen? ⟨mb, 3, none⟩ = false := by
  have mA : Mod Nn w (w.alloc (.cells #[.int .i64 z] 3)) := (Mod.refl Nn w).alloc _
  have hA := h.nn mA
  have hsz : (w.alloc (.cells #[.int .i64 z] 3)).heap.size = w.heap.size + 1 := by simp
  have hmb := h.box.lt
  have o1 : (w.alloc (.cells #[.int .i64 z] 3)).ownsRow base 3 1 (.slice (some ⟨w.heap.size, 0, none⟩) 1 1) 1 [.int .i64 z] := own_of_blkS (Blk.new w 3 #[.int .i64 z]) (by omega) rfl (by simp only [maxLen]; omega) (by omega) rfl
  have rd0 : Rd (w.alloc (.cells #[.int .i64 z] 3)) A cn (N.kids.map (Value.int .i64)) := by have := hA.h.c; rw [hcn] at this; exact Rd.of_own this
  have rd := rd0.post (c := c) l hl hc
  rw [← List.map_drop] at rd
  obtain ⟨v', w', hap, own', gr', -⟩ := run_append_rd (P := Tryz.prog) (w.alloc (.cells #[.int .i64 z] 3)) base 30 ty 3 (.int .i64 0) 1 8 Tryz.underlying30 info_int3_ rfl (by omega) _ 1 _ o1 (subA A c l 1) (cn - l) (c - l) _ rd.toC (fun u hu => by obtain ⟨_, _, rfl⟩ := List.mem_map.1 hu; rfl) (by omega) (by omega) (by omega)
  obtain ⟨A', c', rfl, -, -⟩ := own_form own'
  rw [show [Value.int .i64 z] ++ (N.kids.drop l).map (Value.int .i64) = ([z] ++ N.kids.drop l).map (Value.int .i64) from rfl] at own'
  have m0 : Mod Nn w w' := mA.grown gr' (fun g hg => .inl (by have hg : some w.heap.size = some g := hg; injection hg with hg; omega))
  have b' := (h.box).mod m0 (fun f => f)
  exact ⟨A', c', w', hap, (h.nn m0).setC own' (Mod.refl _ _) (by simp [hcn]; omega), b'.cell 3, b'.frozen 3⟩
theorem own_lt_ {w : World} {base n s g : Nat} {e : TypeId} {v : Value} {xs : List Value} (h : w.ownsRow base e s v n xs) (hg : v.ownBlock = some g) : g < w.heap.size := by
  obtain ⟨A, c, rfl, _, hA⟩ := own_form h
  exact (hA g (own_of hg)).2
theorem cop_of {w0 w9 w10 w11 : World} {N : Nd} {ev kv cv : Value} (h : NdH w9 w0.heap.size N ev kv cv ∧ Mod Nn w0 w9 ∧ N.ok) (m10 : Mod Nn w9 w10) (m11 : Mod (At w9.heap.size) w10 w11) (b11 : Blk w11 w9.heap.size 32 #[.bool N.leaf, ev, kv, cv]) : Cop w0 w11 w9.heap.size N.leaf N w0.heap.size ev kv cv := by
  have ne : ∀ {b n s : Nat} {e : TypeId} {v : Value} {xs : List Value}, w9.ownsRow b e s v n xs → ∀ g, v.ownBlock = some g → ¬ At w9.heap.size g := fun h' g hg e => by
    have e : g = w9.heap.size := e
    have := own_lt_ h' hg; omega
  exact ⟨b11, ⟨own_mod (own_mod h.1.e m10 (fun _ _ f => f)) m11 (ne h.1.e), own_mod (own_mod h.1.k m10 (fun _ _ f => f)) m11 (ne h.1.k), own_mod (own_mod h.1.c m10 (fun _ _ f => f)) m11 (ne h.1.c)⟩, (h.2.1.nn_ m10).new_ m11 h.2.1.size, h.2.1.size, Nat.le_refl _, h.2.2, rfl⟩
theorem Cop.ndq {EA KA CA : Option Addr} {en ec kn kc cn cc : Nat} (h : Cop w0 w mb lf N base (.slice EA en ec) (.slice KA kn kc) (.slice CA cn cc)) : NdQ w N EA en KA kn CA cn := by
  obtain ⟨A, c, e, _, _⟩ := own_form h.h.e
  injection e with e1 e2 e3; subst e1 e2 e3
  obtain ⟨A, c, e, _, _⟩ := own_form h.h.k
  injection e with e1 e2 e3; subst e1 e2 e3
  obtain ⟨A, c, e, _, _⟩ := own_form h.h.c
  injection e with e1 e2 e3; subst e1 e2 e3
  exact ⟨own_rdC h.h.e, own_rdC h.h.k, Rd.of_own h.h.c, rfl, rfl, rfl, h.ok⟩
end
end Go.Proofs.YtfoldjnmknaklaaGreat

/- NodeNumbers: changes 7 and 8 of a copied node: its rows grown out of its own rows. -/
namespace Go.Proofs.YtfoldjnmknaklaaGreat
open Go.RowKit

section
variable {w0 w w' : World} {mb base : Nat} {lf : Bool} {N : Nd} {ev kv cv : Value}
theorem rows_lenk {k : Nat} {L : List (List Nat)} (h : Rows k L) : ∀ r ∈ L, r.length = k := fun r hr => (h r hr).1
theorem rows_takeR {k : Nat} {L : List (List Nat)} (h : Rows k L) (l : Nat) : Rows k (L.take l) := fun r hr => h r (List.mem_of_mem_take hr)
theorem rows_dropR {k : Nat} {L : List (List Nat)} (h : Rows k L) (l : Nat) : Rows k (L.drop l) := fun r hr => h r (List.mem_of_mem_drop hr)
theorem rdc_pre {A : Option Addr} {n c k l : Nat} {L : List (List Nat)} (h : RdC w A n k (bv L.flatten)) (hk : 0 < k) (hR : Rows k L) (hl : l ≤ n) (hc : n ≤ c) : RdC w (subA A c 0 k) l k (bv (L.take l).flatten) := by
  have h1 := h.sub (c := c) hk 0 l (by omega) hc
  rw [Nat.zero_mul, List.drop_zero] at h1
  rw [← rows_take (rows_lenk hR) l]
  unfold bv at h1 ⊢
  rw [List.map_take]
  exact h1
theorem Cop.appE7 {EA : Option Addr} {ec l : Nat} (h : Cop w0 w mb lf N base (.slice EA N.ents.length ec) kv cv) (hbm : base ≤ mb) (hec : N.ents.length ≤ ec) (hl : l ≤ N.ents.length) (hs : N.ents.length ≤ 1000000000) (ty : TypeId) :
    ∃ A' c' w', (Builtin.append_ #[28, 28] ty #[.slice EA N.ents.length ec, .slice (subA EA ec 0 80) l ec]).run Tryz.prog w = .ok (.slice A' (N.ents.length + l) c') w' ∧ Cop w0 (w'.setCell ⟨mb, 1, none⟩ (.slice A' (N.ents.length + l) c')) mb lf { N with ents := N.ents ++ N.ents.take l } base (.slice A' (N.ents.length + l) c') kv cv ∧
      w'.cell? ⟨mb, 1, none⟩ = some (.slice EA N.ents.length ec) ∧ w'.frozen? ⟨mb, 1, none⟩ = false :=
  h.appE hbm (rdc_pre (own_rdC h.h.e) (by omega) h.ok.e hl hec) (rows_takeR h.ok.e l) (by rw [List.length_take]; omega) (by omega) ty
/-- a copied node whose keys lie anywhere -/
structure Rot (w0 w : World) (mb : Nat) (N : Nd) (EA : Option Addr) (en ec : Nat) (KA : Option Addr) (kn kc : Nat) (CA : Option Addr) (cn cc : Nat) : Prop where
  box : Blk w mb 32 #[.bool N.leaf, .slice EA en ec, .slice KA kn kc, .slice CA cn cc]
  q : NdQ w N EA en KA kn CA cn
  md : Mod Nn w0 w
theorem Cop.rotK {EA KA CA : Option Addr} {ec kc cc l : Nat} (h : Cop w0 w mb lf N base (.slice EA N.ents.length ec) (.slice KA N.keys.length kc) (.slice CA N.kids.length cc)) (hbm : base ≤ mb) (hkc : N.keys.length ≤ kc) (hl : l = min 1 N.keys.length) (hs : N.keys.length ≤ 1000000000)
    {o : Oper} {a : Act} (s x : Operand) (ho : o.op = .call { callee := .builtin .append, args := #[s, x], argTypes := #[29, 29] }) (hsv : a.eval s = .slice (subA KA kc l 40) (N.keys.length - l) (kc - l)) (hxv : a.eval x = .slice (subA KA kc 0 40) l kc) :
    ∃ A' c' w', (execOp a.eval o).run Tryz.prog w = .ok (.value (.slice A' N.keys.length c')) w' ∧ w'.cell? ⟨mb, 2, none⟩ = some (.slice KA N.keys.length kc) ∧ w'.frozen? ⟨mb, 2, none⟩ = false ∧
      Rot w0 (w'.setCell ⟨mb, 2, none⟩ (.slice A' N.keys.length c')) mb { N with keys := N.keys.drop l ++ N.keys.take l } EA N.ents.length ec A' N.keys.length c' CA N.kids.length cc := by
  by_cases h0 : N.keys.length = 0
  · have hl0 : l = 0 := by omega
    subst hl0
    rw [subA_zero, Nat.sub_zero, Nat.sub_zero] at hsv
    rw [subA_zero] at hxv
    obtain ⟨A', c', w', hap, hk, G, F⟩ := h.appK hbm (A := KA) (m := 0) (c := kc) (R := []) ⟨rfl, fun e => absurd e (by omega)⟩ (fun r hr => by cases hr) rfl (by omega) o.type
    have hk' := hk.ndq
    have hkb := hk.box
    have hkm := hk.md
    simp only [Nat.add_zero, List.append_nil] at hap hk' hkb hkm
    refine ⟨A', c', w', exec_app _ s x ho _ _ (by rw [hsv, hxv]; exact hap), G, F, ⟨?_, ?_, hkm⟩⟩
    · rw [h.lfe]; exact hkb
    · simpa using hk'
  · have hl1 : l = 1 := by omega
    subst hl1
    obtain ⟨g, cap, cur, e, hg, hb, hnc, hcm, hcs, htk⟩ := own_blk h.h.k (by omega)
    injection e with e1 e2 e3; subst e1; subst e3
    have hrk := own_rdC h.h.k
    have hdrop : (bv N.keys.flatten).drop 40 = bv (N.keys.drop 1).flatten := by
      rw [← rows_drop (rows_lenk h.ok.k) 1]; unfold bv; rw [List.map_drop, Nat.one_mul]
    have hlen : (bv N.keys.flatten).length = N.keys.length * 40 := hrk.1
    obtain ⟨off, hoff, hfit, hpos⟩ : ∃ off, subA (some ⟨g, 0, none⟩) kc 1 40 = some ⟨g, off, none⟩ ∧ off + (kc - 1) * 40 ≤ cur.size ∧ (0 < N.keys.length - 1 → off = 40) := by
      by_cases hk1 : kc = 1
      · refine ⟨0, by unfold subA; rw [if_pos hk1], by rw [hcs, hk1]; omega, fun hp => by omega⟩
      · exact ⟨40, by rw [subA_some hk1], by rw [hcs]; omega, fun _ => rfl⟩
    rw [hoff] at hsv
    have hnews := rdc_pre hrk (by omega) h.ok.k (l := 1) (by omega) hkc
    obtain ⟨A', c', w', hrun, hr', hm'⟩ := exec_append_at (P := Tryz.prog) (w := w) 29 40 s x ho (.agg (bv (List.replicate 40 0)).toArray) 40 40 Tryz.underlying29 info_tk3' (by simp [Value.cells, bv]) (by omega) hsv
      (olds := bv (N.keys.drop 1).flatten) (by rw [← hdrop, List.length_drop, hlen, Nat.sub_mul]) (fun j v hj => by
        have hj' := (List.getElem?_eq_some_iff.1 hj).1
        rw [← hdrop, List.length_drop, hlen] at hj'
        have := hpos (by omega)
        subst this
        rw [← hdrop, List.getElem?_drop] at hj
        exact own_cell h.h.k hj) hb hfit hxv hnews (bv_one _) (by omega) (by omega) (by omega)
    have hn1 : N.keys.length - 1 + 1 = N.keys.length := by omega
    rw [hn1] at hrun hr'
    have hflat : bv (N.keys.drop 1).flatten ++ bv (N.keys.take 1).flatten = bv (N.keys.drop 1 ++ N.keys.take 1).flatten := by unfold bv; rw [List.flatten_append, List.map_append]
    rw [hflat] at hr'
    have nb : g ≠ mb := fun e => own_ne_t h.h.k h.box (by decide) (congrArg some e)
    have b' : Blk w' mb 32 #[.bool lf, .slice EA N.ents.length ec, .slice (some ⟨g, 0, none⟩) N.keys.length kc, .slice CA N.kids.length cc] := h.box.mod hm' (fun e => nb e.symm)
    have e' := own_mod h.h.e hm' (fun g' hg' e => by have e : g' = g := e; subst e; exact own_ne_o h.h.k h.h.e (by decide) rfl hg')
    have cx := own_mod h.h.c hm' (fun g' hg' e => by have e : g' = g := e; subst e; exact own_ne_o h.h.k h.h.c (by decide) rfl hg')
    obtain ⟨gA, oA, rfl, hcl⟩ := hr'.2 (by omega)
    have nA : gA ≠ mb := fun e => by
      subst e
      have hpos0 : 0 < (bv (N.keys.drop 1 ++ N.keys.take 1).flatten).length := by rw [hr'.1]; omega
      obtain ⟨z, hz⟩ : ∃ z : Nat, (bv (N.keys.drop 1 ++ N.keys.take 1).flatten)[0]? = some (.int .u8 (z : Int)) := by
        rw [List.getElem?_eq_getElem hpos0]
        exact ⟨_, congrArg some (List.getElem_map _)⟩
      have h1 := hcl 0 _ hz
      rw [b'.cell] at h1
      match oA, h1 with
      | 0, h1 => cases h1
      | 1, h1 => cases h1
      | 2, h1 => cases h1
      | 3, h1 => cases h1
      | k + 4, h1 => simp at h1
    have m2 : Mod (At mb) w' (w'.setCell ⟨mb, 2, none⟩ (.slice (some ⟨gA, oA, none⟩) N.keys.length c')) := Mod.cellAt _ _ _ _
    have bx := b'.set_ 2 (.slice (some ⟨gA, oA, none⟩) N.keys.length c')
    refine ⟨some ⟨gA, oA, none⟩, c', w', hrun, b'.cell 2, b'.frozen 2, ⟨?_, ⟨?_, ?_, ?_, rfl, ?_, rfl, ⟨h.ok.e, rows_app (rows_dropR h.ok.k 1) (rows_takeR h.ok.k 1)⟩⟩, ?_⟩⟩
    · rw [h.lfe]; exact bx
    · exact own_rdC (own_mod e' m2 (fun g' hg' e => own_ne_t e' b' (by decide) (by rw [hg']; exact congrArg some e)))
    · exact hr'.md (by omega) m2 (fun g' hg' e => by
        obtain ⟨a', ha', hga⟩ := hg'
        injection ha' with ha'; subst ha'
        exact nA (hga.trans e))
    · exact Rd.of_own (own_mod cx m2 (fun g' hg' e => own_ne_t cx b' (by decide) (by rw [hg']; exact congrArg some e)))
    · show (N.keys.drop 1 ++ N.keys.take 1).length = _
      rw [List.length_append, List.length_drop, List.length_take]; omega
    · exact (h.md.then_ hm' (fun g' hg' e => by have e : g' = g := e; subst e; have := own_ge h.h.k g' rfl; have := h.bb; omega)).new_ m2 h.bm
section
variable {ops : Array Oper} {Q : Exit → Act → World → Prop} {S : World → Prop} {c : Nat} {ps : List (Nat × Nat)} {k : Nat} {d : Bool}
theorem rot_at {EA KA CA : Option Addr} {ec kc cc l : Nat} (h : Cop w0 w mb lf N base (.slice EA N.ents.length ec) (.slice KA N.keys.length kc) (.slice CA N.kids.length cc)) (hbm : base ≤ mb) (hkc : N.keys.length ≤ kc) (hl : l = min 1 N.keys.length) (hs : N.keys.length ≤ 1000000000)
    {o : Oper} {a : Act} (s x : Operand) (hk : ops[k]? = some o) (hg : Region.wanted o (yielded ops a.tmps) = true) (ho : o.op = .call { callee := .builtin .append, args := #[s, x], argTypes := #[29, 29] }) (hsv : a.eval s = .slice (subA KA kc l 40) (N.keys.length - l) (kc - l)) (hxv : a.eval x = .slice (subA KA kc 0 40) l kc)
    (hK : ∀ A' c' w', w'.cell? ⟨mb, 2, none⟩ = some (.slice KA N.keys.length kc) → w'.frozen? ⟨mb, 2, none⟩ = false →
      Rot w0 (w'.setCell ⟨mb, 2, none⟩ (.slice A' N.keys.length c')) mb { N with keys := N.keys.drop l ++ N.keys.take l } EA N.ents.length ec A' N.keys.length c' CA N.kids.length cc →
      ((d || k == c) = false → S w') ∧ ∀ K : Act → Prop, (∀ a', wpPT Tryz.prog ops Q S c ps (d || k == c) a' w' → K a') → K (a.put o.dst (.slice A' N.keys.length c'))) : wpPT Tryz.prog ops Q S c ((k, 2) :: ps) d a w := by
  obtain ⟨A', c', w', hrun, h1, h2, h3⟩ := h.rotK hbm hkc hl hs s x ho hsv hxv
  obtain ⟨h4, h5⟩ := hK A' c' w' h1 h2 h3
  exact pt_val hk hg hrun h4 h5
end
end
end Go.Proofs.YtfoldjnmknaklaaGreat
