/- Own lemmas of several kinds, put together: Jn7, Jn8. -/
import Derived.Test.YtijmkbhbpbkkoaaGreatJnB
import Derived.Test.YtijmkbhbpbkkoaaGreatBl5
/- journal.Open of a cache (printed by wip/gen/jn7.py). -/
namespace Go.Proofs.YtijmkbhbpbkkoaaGreat
open Go.RowKit Go.Shelf
attribute [local go_sem] Oper.semAt_some

/-- rows of bytes of one's own -/
def RowsOf (w : World) (base : Nat) (v : Value) (R : List (List Nat)) : Prop :=
  ∃ vs : List Value, w.ownsRow base 29 1 v R.length vs ∧ ∀ (i : Nat) (r : List Nat), R[i]? = some r → ∃ (A : Option Addr) (c : Nat), vs[i]? = some (Value.slice A r.length c) ∧ w.ownsRow base 5 1 (.slice A r.length c) r.length (bv r)
theorem body_end {wq : World} {bo jb : Nat} {v v' : Value} {c : Nat} {at_ size ep n k nq kq : Int} (hbo : Blk wq bo 24 #[v]) (hs : Blk wq jb 69 (jC c at_ size ep n k)) (hne : jb ≠ bo) :
    Blk (((wq.setCell ⟨bo, 0, none⟩ v').setCell ⟨jb, 4, none⟩ (.int .i64 nq)).setCell ⟨jb, 5, none⟩ (.int .i64 kq)) bo 24 #[v'] ∧ Blk (((wq.setCell ⟨bo, 0, none⟩ v').setCell ⟨jb, 4, none⟩ (.int .i64 nq)).setCell ⟨jb, 5, none⟩ (.int .i64 kq)) jb 69 (jC c at_ size ep nq kq) ∧
      Mod (fun x => x = bo ∨ x = jb) wq (((wq.setCell ⟨bo, 0, none⟩ v').setCell ⟨jb, 4, none⟩ (.int .i64 nq)).setCell ⟨jb, 5, none⟩ (.int .i64 kq)) := by
  have M1 : Mod (At bo) wq (wq.setCell ⟨bo, 0, none⟩ v') := Mod.cellAt _ _ _ _
  have M2 : Mod (At jb) (wq.setCell ⟨bo, 0, none⟩ v') ((wq.setCell ⟨bo, 0, none⟩ v').setCell ⟨jb, 4, none⟩ (.int .i64 nq)) := Mod.cellAt _ _ _ _
  have M3 : Mod (At jb) ((wq.setCell ⟨bo, 0, none⟩ v').setCell ⟨jb, 4, none⟩ (.int .i64 nq)) (((wq.setCell ⟨bo, 0, none⟩ v').setCell ⟨jb, 4, none⟩ (.int .i64 nq)).setCell ⟨jb, 5, none⟩ (.int .i64 kq)) := Mod.cellAt _ _ _ _
  have n1 : ¬ At jb bo := fun e => hne (e : bo = jb).symm
  exact ⟨((hbo.set_ 0 v').mod M2 n1).mod M3 n1, ((hs.mod M1 (fun e => hne (e : jb = bo))).set_ 4 (.int .i64 nq)).set_ 5 (.int .i64 kq), ((M1.mono (fun _ _ e => .inl e)).trans (M2.mono (fun _ _ e => .inr e))).trans (M3.mono (fun _ _ e => .inr e))⟩
theorem fsec_66 {L : Nat} (h : L ≤ 32768) : fsec L ≤ 66 := by unfold fsec; omega
theorem kn_bound {k n x m : Nat} (h1 : k ≤ n) (h2 : 512 * n ≤ x) (h3 : m = x) (h4 : m ≤ 40000) : k ≤ 1000000 ∧ n ≤ 1000000 := by omega
theorem w64_le {a b : Nat} (h : a ≤ 1000000) (k : b ≤ 66) : a + b ≤ 1000000000 := by omega
theorem w64_nat (a b : Nat) (h : a + b ≤ 1000000000) : wrap64 ((a : Int) + (b : Int)) = ((a + b : Nat) : Int) := by
  rw [wrap64_id (by omega) (by omega)]; omega
theorem w64_succ (k : Nat) (h : k ≤ 1000000000) : wrap64 ((k : Int) + 1) = ((k + 1 : Nat) : Int) := by
  rw [wrap64_id (by omega) (by omega)]; omega
theorem own_ne_o5 {w : World} {b1 b2 n1 n2 s1 s2 : Nat} {e1 e2 : TypeId} {v1 v2 : Value} {xs ys : List Value} {g : Nat} (h : w.ownsRow b1 e1 s1 v1 n1 xs) (k : w.ownsRow b2 e2 s2 v2 n2 ys) (hne : e1 ≠ e2) (h1 : v1.ownBlock = some g) : ¬ v2.ownBlock = some g := fun h2 => by
  obtain ⟨_, _, _, _, hb', _⟩ := own_blk_eq h h1
  exact own_ne_t5 k hb' hne h2
theorem exec_appJ {P : Program} {o : Oper} {a : Act} {w : World} (t : TypeId) (s x : Operand) (ho : o.op = .call { callee := .builtin .append, args := #[s, x], argTypes := #[t, t] })
    (v' : Value) (w' : World) (hap : (Builtin.append_ #[t, t] o.type #[a.eval s, a.eval x]).run P w = .ok v' w') : (execOp a.eval o).run P w = .ok (.value v') w' := by
  simp [execOp, ho, resolve, invoke, builtin, hap, Result.andThen]
theorem wpListIn_valW {lp n : Nat} {P : Program} {ops : Array Oper} {Q : Exit → Act → World → Prop} {rest : List Oper} {a : Act} {w w' : World} {o : Oper} {v : Value} (hg : Region.wanted o (yielded ops a.tmps) = true) (hd : ∀ c, o.op ≠ .defer c) (hrun : (execOp a.eval o).run P w = .ok (.value v) w')
    (h : wpListIn (Fence.wide.inRound lp) n P ops Q rest (a.put o.dst v) w') : wpListIn (Fence.wide.inRound lp) n P ops Q (o :: rest) a w := by
  unfold wpListIn
  rw [if_pos hg]
  refine ⟨fun _ _ => trivial, ?_⟩
  rw [show (Fence.wide.inRound lp).round = some lp from rfl, Oper.semAt_some _ _ _ hd, hrun]
  exact h
theorem wpListIn_unitW {lp n : Nat} {P : Program} {ops : Array Oper} {Q : Exit → Act → World → Prop} {rest : List Oper} {a : Act} {w w' : World} {o : Oper} (hg : Region.wanted o (yielded ops a.tmps) = true) (hd : ∀ c, o.op ≠ .defer c) (hrun : (execOp a.eval o).run P w = .ok .skip w')
    (h : wpListIn (Fence.wide.inRound lp) n P ops Q rest (a.put o.dst undef) w') : wpListIn (Fence.wide.inRound lp) n P ops Q (o :: rest) a w := by
  unfold wpListIn
  rw [if_pos hg]
  refine ⟨fun _ _ => trivial, ?_⟩
  rw [show (Fence.wide.inRound lp).round = some lp from rfl, Oper.semAt_some _ _ _ hd, hrun]
  exact h
theorem bread_ok {D : Dk} {a n : Int} (h0 : 0 ≤ n) (h1 : n ≤ 1024) (ha : 0 ≤ a) (hn : a + n ≤ D.n) (hd : D.down = false) : bread D a n = (0, rowsL D a n.toNat) := by
  unfold bread
  rw [if_neg (by omega), if_neg (by unfold bmay; rw [if_neg (by omega)]; simp), if_neg (by rw [hd]; simp)]
section
variable {w : World} {c b ms mo mk : Nat} {D : Dk} {most now hits misses : Int} {l : KL} {T : TL}
/-- what Open leaves -/
def OpenP (w : World) (c b ms mo mk : Nat) (D : Dk) (most now : Int) (l : KL) (g : Geo) (ep : Int) (lb : List Nat) (e : Ending) (w' : World) : Prop :=
  ∃ jb v n R now' hits' misses' l' T', e = .returned (.tuple #[.pointer (some ⟨jb, 0, none⟩), v, .int .i64 0]) ∧ AllRecs lb ep n R ∧ CAt w' c b ms mo mk D most now' hits' misses' l' T' ∧ CTo w w' c b ms mo mk l l' ∧ now' ≤ now + 1024 ∧
    Blk w' jb 69 (jC c (g.half ep) g.j ep (n : Int) (R.length : Int)) ∧ w.heap.size ≤ jb ∧ ¬ InA c b ms mo mk l' jb ∧ RowsOf w' w.heap.size v R
set_option maxRecDepth 100000 in
set_option maxHeartbeats 6400000 in
theorem open_ok (h : CAt w c b ms mo mk D most now hits misses l T) (g : Geo) (ep : Int) (hm : jmay g ep D.n) (hd : D.down = false) (hnow : now ≤ 1000000000) {lb : List Nat} (hlb : rowsL D (g.half ep) g.j.toNat = natsn lb) (hlt : ∀ z ∈ lb, z < 256) :
    Calls Tryz.prog 11 #[.pointer (some ⟨c, 0, none⟩), gV g, .int .i64 ep] w (OpenP w c b ms mo mk D most now l g ep lb) := by
  have m1 : Mod Nn w (w.alloc (.cells (gC g) 23)) := (Mod.refl Nn w).alloc _
  have b1 : Blk (w.alloc (.cells (gC g) 23)) w.heap.size 23 (gC g) := Blk.new _ _ _
  have H1 := Lib.hid (And.intro m1 b1)
  have hr := jmay_any (h.quiet m1) g ep
  rw [mayE_yes hm] at hr
  have HR := Lib.hid hr; clear hr
  have hb := half_bound hm.1 ep
  have hsec := hm.2.2.2
  have HH := Lib.hid (fun w => lhalf_any g ep w hm.1 hm.2.1 (by have := hm.2.2.1; omega))
  have hbr := bread_ok (D := D) (a := g.half ep) (n := g.j) (by omega) (by omega) (by omega) (by omega) hd
  have hl512 : lb.length = 512 * g.j.toNat := by
    have h1 := congrArg List.length hlb
    rw [rowsL_len h.d.ok] at h1
    unfold natsn at h1
    rw [List.length_map] at h1; omega
  obtain ⟨m, hmm⟩ : ∃ m, m = lb.length := ⟨_, rfl⟩
  have hfB : 2 ≤ g.half ep ∧ g.half ep ≤ 262144 ∧ g.j ≤ 64 ∧ 8 ≤ g.j ∧ m ≤ 40000 := by omega
  rw [hlb] at hbr
  unfold OpenP
  generalize g.half ep = hf at *
  have HS := Lib.hid (And.intro h (And.intro hbr (And.intro hfB (And.intro h.lt (And.intro hlt hmm)))))
  clear m1 b1 h hm hd hlb hlt hb hsec hbr hl512 hfB hmm
  unfold gV gC at *
  generalize g.j = J at *
  refine (callsIn_wide (n := 3)).1 ?_
  refine callsIn_of_wp_marks Tryz.func11 rfl trivial ?_ rfl
  simp only [Tryz.ntmps11, List.size_toArray, List.length_cons, List.length_nil, Nat.reduceAdd, Nat.reduceSub, Array.replicate_succ, Array.replicate_zero, List.push_toArray, List.append_toArray, List.nil_append, List.cons_append]
  refine wpIn_wide.2 ?_
  go_wp2_with (first
    | (with_reducible change wpList _ _ _ (⟨some 17, Op.load _ _, _, _, _, _⟩ :: _) _ _
       go_must (refine wpList_load_var 23 _ rfl rfl w.heap.size #[.int .i64 g.v, .int .i64 g.S, .int .i64 g.s, .int .i64 g.u, .int .i64 J] _ _ rfl H1.out.2 Tryz.underlying23 rfl size_geo ?_)))
  refine HR.out.mono ?_
  rintro r w2 ⟨rfl, m2⟩
  have M2 := H1.out.1.nn_ m2
  have HB := Lib.hid (show ∀ w', Mod Nn w2.drew w' → Blk w' w.heap.size 23 #[.int .i64 g.v, .int .i64 g.S, .int .i64 g.s, .int .i64 g.u, .int .i64 J] from fun w' m => ((H1.out.2.mod m2 (fun f => f)).mod (Mod.refl Nn w2).drew (fun f => f)).mod m (fun f => f))
  have HM := Lib.hid M2
  clear m2 M2
  go_wp2_with fail
  go_cut [10] from 23 to 31 (fun v10 w' => ∃ pj jb, v10 = .pointer (some ⟨pj, 0, none⟩) ∧ Blk w' pj 36 #[.pointer (some ⟨jb, 0, none⟩)] ∧ Blk w' jb 69 (jC c hf J ep 0 0) ∧ Mod Nn w2 w' ∧ w2.heap.size ≤ pj ∧ w2.heap.size ≤ jb)
  case first =>
    refine wp_region_planV (fun w' => Mod Nn w2.drew w') 10 (.pure 0 (.read 1 (.pure 2 (.pure 4 (.read 5 (.pure 6 (.fork 9 3 (.alone 3 (.pure 7 (.alone 8 (.alone 10 .nil)))) (.pure 7 (.fork 8 9 (.alone 9 (.alone 10 .nil)) (.alone 8 (.alone 10 .nil))))))))))) (by kernel_rfl) (by kernel_rfl) (Mod.refl _ _) ?_
    iterate 1 (refine pv_pure rfl rfl (fun K hK => ?_); go_simp; refine hK _ ?_; clear hK K)
    refine pv_take _ rfl rfl (fun w' hS => exec_load_row (P := Tryz.prog) 23 _ rfl rfl (HB.out w' hS) Tryz.underlying23 rfl size_geo) (fun K hK => ?_); go_simp; refine hK _ ?_; clear hK K
    iterate 2 (refine pv_pure rfl rfl (fun K hK => ?_); go_simp; refine hK _ ?_; clear hK K)
    refine pv_take (.int .i64 J) rfl rfl (fun w' hS => exec_load1 (P := Tryz.prog) 3 _ rfl rfl ((HB.out w' hS).cell 4) Tryz.underlying3 rfl) (fun K hK => ?_); go_simp; refine hK _ ?_; clear hK K
    iterate 1 (refine pv_pure rfl rfl (fun K hK => ?_); go_simp; refine hK _ ?_; clear hK K)
    refine pv_fork ?oA ?oB
    case' oA =>
      have mA : Mod Nn w2.drew (w2.drew.alloc (.cells #[.pointer none] 36)) := (Mod.refl Nn w2.drew).alloc _
      refine pv_val rfl rfl (exec_alloc (P := Tryz.prog) (z := .pointer none) (n := 1) 36 rfl (by kernel_rfl)) (fun _ => (Mod.refl Nn w2.drew).alloc _) (fun K hK => ?_); go_simp; refine hK _ ?_; clear hK K
      refine pv_call rfl rfl (fun K hK => ?_); go_simp; refine ⟨_, _, ⟨rfl, rfl⟩, hK _ _ _ ?_⟩; clear hK K
      refine (HH.out _).mono ?_
      rintro r w3 ⟨rfl, m3⟩
      have m4 : Mod Nn w2.drew w3 := mA.nn_ m3
      refine ⟨_, rfl, fun _ => m4, ?_⟩
      refine pv_is (.agg (jC c hf J ep 0 0)) rfl rfl (fun w' => by go_simp; rfl) (fun K hK => ?_); go_simp; refine hK _ ?_; clear hK K
      have bp0 : Blk w3 w2.drew.heap.size 36 #[.pointer none] := (Blk.new w2.drew 36 #[.pointer none]).mod m3 (fun f => f)
      refine pv_val rfl rfl (exec_box (P := Tryz.prog) 69 _ rfl) (fun _ => m4.alloc _) (fun K hK => ?_); go_simp; refine hK _ ?_; clear hK K
      have bj : Blk (w3.alloc (.cells (jC c hf J ep 0 0) 69)) w3.heap.size 69 (jC c hf J ep 0 0) := Blk.new _ _ _
      have bp := bp0.mod ((Mod.refl Nn w3).alloc (.cells (jC c hf J ep 0 0) 69)) (fun f => f)
      have mz : Mod Nn w2 (w3.alloc (.cells (jC c hf J ep 0 0) 69)) := (Mod.refl Nn w2).drew.nn_ (m4.alloc _)
      have hjb : w2.heap.size ≤ w3.heap.size := m4.size
      have hpjq : w2.drew.heap.size = w2.heap.size := rfl
      rw [hpjq] at bp
      clear hpjq
      clear m3 m4 mA bp0
      show wpPV _ _ _ _ _ _ _ _ (w3.alloc (.cells (jC c hf J ep 0 0) 69))
      generalize w3.alloc (.cells (jC c hf J ep 0 0) 69) = Z at bp bj mz ⊢
      generalize w3.heap.size = jb at bj hjb ⊢
      generalize hpq : w2.heap.size = pj at bp ⊢
      have hpj : w2.heap.size ≤ pj := Nat.le_of_eq hpq
      clear hpq
      have HZ := Lib.hid (And.intro bp (And.intro bj (And.intro mz (And.intro hpj hjb))))
      clear bp bj mz hpj hjb
      refine pv_unit (w1 := Z.setCell ⟨pj, 0, none⟩ (.pointer (some ⟨jb, 0, none⟩))) rfl rfl (exec_store1 (P := Tryz.prog) 36 _ _ rfl rfl rfl (HZ.out.1.cell 0) (HZ.out.1.frozen 0) rfl rfl rfl (by kernel_rfl)) (fun h => by simp at h) (fun K hK => ?_); go_simp; refine hK _ ?_; clear hK K
      refine pv_nil ?_
      have ms := Mod.cellAt Z pj 0 (.pointer (some ⟨jb, 0, none⟩))
      have HF := Lib.hid (And.intro (HZ.out.1.set_ 0 (.pointer (some ⟨jb, 0, none⟩))) (And.intro (HZ.out.2.1.mod ms (fun e => HZ.out.2.1.ne_ HZ.out.1 (by decide) e)) (And.intro (HZ.out.2.2.1.new_ ms HZ.out.2.2.2.1) HZ.out.2.2.2)))
      clear ms
      go_wp2
      go_meet
      exact ⟨pj, jb, rfl, HF.out⟩
    case' oB =>
      refine pv_call rfl rfl (fun K hK => ?_); go_simp; refine ⟨_, _, ⟨rfl, rfl⟩, hK _ _ _ ?_⟩; clear hK K
      refine (HH.out _).mono ?_
      rintro r w3 ⟨rfl, m3⟩
      refine ⟨_, rfl, fun _ => m3, ?_⟩
      refine pv_is (.agg (jC c hf J ep 0 0)) rfl rfl (fun w' => by go_simp; rfl) (fun K hK => ?_); go_simp; refine hK _ ?_; clear hK K
      refine pv_fork ?oC ?oD
      case' oC =>
        refine pv_val rfl rfl (exec_box (P := Tryz.prog) 69 _ rfl) (fun _ => m3.alloc _) (fun K hK => ?_); go_simp; refine hK _ ?_; clear hK K
        refine pv_val rfl rfl (exec_alloc (P := Tryz.prog) (z := .pointer none) (n := 1) 36 rfl (by kernel_rfl)) (fun _ => (m3.alloc _).alloc _) (fun K hK => ?_); go_simp; refine hK _ ?_; clear hK K
        have bj := (Blk.new w3 69 (jC c hf J ep 0 0)).mod ((Mod.refl Nn (w3.alloc (.cells (jC c hf J ep 0 0) 69))).alloc (.cells #[.pointer none] 36)) (fun f => f)
        have bp : Blk ((w3.alloc (.cells (jC c hf J ep 0 0) 69)).alloc (.cells #[.pointer none] 36)) (w3.heap.size + 1) 36 #[.pointer none] := by have := Blk.new (w3.alloc (.cells (jC c hf J ep 0 0) 69)) 36 #[.pointer none]; rwa [World.size_alloc] at this
        have mz : Mod Nn w2 ((w3.alloc (.cells (jC c hf J ep 0 0) 69)).alloc (.cells #[.pointer none] 36)) := (Mod.refl Nn w2).drew.nn_ ((m3.alloc _).alloc _)
        have hjb : w2.heap.size ≤ w3.heap.size := m3.size
        have hpj : w2.heap.size ≤ w3.heap.size + 1 := Nat.le_succ_of_le m3.size
        clear m3
        show wpPV _ _ _ _ _ _ _ _ ((w3.alloc (.cells (jC c hf J ep 0 0) 69)).alloc (.cells #[.pointer none] 36))
        generalize hZ : (w3.alloc (.cells (jC c hf J ep 0 0) 69)).alloc (.cells #[.pointer none] 36) = Z at bp bj mz ⊢
        clear hZ
        generalize w3.heap.size + 1 = pj at bp hpj ⊢
        generalize w3.heap.size = jb at bj hjb ⊢
        have HZ := Lib.hid (And.intro bp (And.intro bj (And.intro mz (And.intro hpj hjb))))
        clear bp bj mz hpj hjb
        refine pv_unit (w1 := Z.setCell ⟨pj, 0, none⟩ (.pointer (some ⟨jb, 0, none⟩))) rfl rfl (exec_store1 (P := Tryz.prog) 36 _ _ rfl rfl rfl (HZ.out.1.cell 0) (HZ.out.1.frozen 0) rfl rfl rfl (by kernel_rfl)) (fun h => by simp at h) (fun K hK => ?_); go_simp; refine hK _ ?_; clear hK K
        refine pv_nil ?_
        have ms := Mod.cellAt Z pj 0 (.pointer (some ⟨jb, 0, none⟩))
        have HF := Lib.hid (And.intro (HZ.out.1.set_ 0 (.pointer (some ⟨jb, 0, none⟩))) (And.intro (HZ.out.2.1.mod ms (fun e => HZ.out.2.1.ne_ HZ.out.1 (by decide) e)) (And.intro (HZ.out.2.2.1.new_ ms HZ.out.2.2.2.1) HZ.out.2.2.2)))
        clear ms
        go_wp2
        go_meet
        exact ⟨pj, jb, rfl, HF.out⟩
      case' oD =>
        refine pv_val rfl rfl (exec_alloc (P := Tryz.prog) (z := .pointer none) (n := 1) 36 rfl (by kernel_rfl)) (fun _ => m3.alloc _) (fun K hK => ?_); go_simp; refine hK _ ?_; clear hK K
        refine pv_val rfl rfl (exec_box (P := Tryz.prog) 69 _ rfl) (fun _ => (m3.alloc _).alloc _) (fun K hK => ?_); go_simp; refine hK _ ?_; clear hK K
        have bp := (Blk.new w3 36 #[.pointer none]).mod ((Mod.refl Nn (w3.alloc (.cells #[.pointer none] 36))).alloc (.cells (jC c hf J ep 0 0) 69)) (fun f => f)
        have bj : Blk ((w3.alloc (.cells #[.pointer none] 36)).alloc (.cells (jC c hf J ep 0 0) 69)) (w3.heap.size + 1) 69 (jC c hf J ep 0 0) := by have := Blk.new (w3.alloc (.cells #[.pointer none] 36)) 69 (jC c hf J ep 0 0); rwa [World.size_alloc] at this
        have mz : Mod Nn w2 ((w3.alloc (.cells #[.pointer none] 36)).alloc (.cells (jC c hf J ep 0 0) 69)) := (Mod.refl Nn w2).drew.nn_ ((m3.alloc _).alloc _)
        have hpj : w2.heap.size ≤ w3.heap.size := m3.size
        have hjb : w2.heap.size ≤ w3.heap.size + 1 := Nat.le_succ_of_le m3.size
        clear m3
        show wpPV _ _ _ _ _ _ _ _ ((w3.alloc (.cells #[.pointer none] 36)).alloc (.cells (jC c hf J ep 0 0) 69))
        generalize hZ : (w3.alloc (.cells #[.pointer none] 36)).alloc (.cells (jC c hf J ep 0 0) 69) = Z at bp bj mz ⊢
        clear hZ
        generalize w3.heap.size + 1 = jb at bj hjb ⊢
        generalize w3.heap.size = pj at bp hpj ⊢
        have HZ := Lib.hid (And.intro bp (And.intro bj (And.intro mz (And.intro hpj hjb))))
        clear bp bj mz hpj hjb
        refine pv_unit (w1 := Z.setCell ⟨pj, 0, none⟩ (.pointer (some ⟨jb, 0, none⟩))) rfl rfl (exec_store1 (P := Tryz.prog) 36 _ _ rfl rfl rfl (HZ.out.1.cell 0) (HZ.out.1.frozen 0) rfl rfl rfl (by kernel_rfl)) (fun h => by simp at h) (fun K hK => ?_); go_simp; refine hK _ ?_; clear hK K
        refine pv_nil ?_
        have ms := Mod.cellAt Z pj 0 (.pointer (some ⟨jb, 0, none⟩))
        have HF := Lib.hid (And.intro (HZ.out.1.set_ 0 (.pointer (some ⟨jb, 0, none⟩))) (And.intro (HZ.out.2.1.mod ms (fun e => HZ.out.2.1.ne_ HZ.out.1 (by decide) e)) (And.intro (HZ.out.2.2.1.new_ ms HZ.out.2.2.2.1) HZ.out.2.2.2)))
        clear ms
        go_wp2
        go_meet
        exact ⟨pj, jb, rfl, HF.out⟩
  case rest =>
    obtain ⟨pj, jb, rfl, bp, bj, m3, hpj, hjb⟩ := hcut
    have M3 : Mod Nn w wc := HM.out.nn_ m3
    have nin : ∀ k, InA c b ms mo mk l k → k < w.heap.size := HS.out.2.2.2.1
    have hpl : w.heap.size ≤ w2.heap.size := HM.out.size
    have HJ := Lib.hid (show ∀ w', Mod (InW c b ms mo mk) wc.drew w' → Blk w' pj 36 #[.pointer (some ⟨jb, 0, none⟩)] ∧ Blk w' jb 69 (jC c hf J ep 0 0) from fun w' m => ⟨(bp.mod (Mod.refl Nn wc).drew (fun f => f)).mod m (fun hin => by have := nin pj (inA_of hin); omega), (bj.mod (Mod.refl Nn wc).drew (fun f => f)).mod m (fun hin => by have := nin jb (inA_of hin); omega)⟩)
    have HM3 := Lib.hid (And.intro M3 (And.intro (show w.heap.size ≤ jb by omega) (show w.heap.size ≤ pj by omega)))
    clear bp bj m3 M3 hjb hpj nin hpl
    go_wp2_with fail
    refine wp_region_planC (fun w' => Mod (InW c b ms mo mk) wc.drew w') [(0, true), (1, true), (2, true), (3, true), (4, true), (5, true), (6, true), (7, true), (8, true), (9, false), (10, true), (11, true), (12, true), (13, true), (14, true)] (by kernel_rfl) (by kernel_rfl) (Mod.refl _ _) ?_
    iterate 1 (refine pc_pure rfl rfl (fun K hK => ?_); go_simp; refine hK _ ?_; clear hK K)
    refine pc_take (.pointer (some ⟨jb, 0, none⟩)) rfl rfl (fun w' hS => exec_load1 (P := Tryz.prog) 36 _ rfl rfl ((HJ.out w' hS).1.cell 0) Tryz.underlying36 rfl) (fun K hK => ?_); go_simp; refine hK _ ?_; clear hK K
    iterate 2 (refine pc_pure rfl rfl (fun K hK => ?_); go_simp; refine hK _ ?_; clear hK K)
    refine pc_take (.int .i64 hf) rfl rfl (fun w' hS => exec_load1 (P := Tryz.prog) 3 _ rfl rfl ((HJ.out w' hS).2.cell 1) Tryz.underlying3 rfl) (fun K hK => ?_); go_simp; refine hK _ ?_; clear hK K
    refine pc_take (.pointer (some ⟨jb, 0, none⟩)) rfl rfl (fun w' hS => exec_load1 (P := Tryz.prog) 36 _ rfl rfl ((HJ.out w' hS).1.cell 0) Tryz.underlying36 rfl) (fun K hK => ?_); go_simp; refine hK _ ?_; clear hK K
    iterate 2 (refine pc_pure rfl rfl (fun K hK => ?_); go_simp; refine hK _ ?_; clear hK K)
    refine pc_take (.int .i64 J) rfl rfl (fun w' hS => exec_load1 (P := Tryz.prog) 3 _ rfl rfl ((HJ.out w' hS).2.cell 2) Tryz.underlying3 rfl) (fun K hK => ?_); go_simp; refine hK _ ?_; clear hK K
    refine pc_call rfl rfl (fun K hK => ?_); go_simp; refine ⟨_, _, ⟨rfl, rfl⟩, hK _ _ _ ?_⟩; clear hK K
    refine (bread_any (HS.out.1.quiet (HM3.out.1.drew)) hf J (by have := HS.out.2.2.1; omega) (by omega)).mono ?_
    rintro r w4 ⟨v4, now4, hits4, misses4, l4, T4, rfl, hC4, hT4, hn4, own4, nin4⟩
    rw [HS.out.2.1] at own4
    rw [HS.out.2.1]
    have hnl : (natsn lb).length = m := by unfold natsn; rw [List.length_map]; exact HS.out.2.2.2.2.2.symm
    dsimp only at own4
    rw [hnl, bv_natsn] at own4
    refine ⟨_, rfl, hT4.md, ?_⟩
    obtain ⟨A4, cc4, rfl, hcc4, hA4⟩ := own_form own4
    have hmx4 : cc4 ≤ maxLen := (own_max own4).2
    have bp4 := (HJ.out w4 hT4.md).1
    have bj4 := (HJ.out w4 hT4.md).2
    have hsep4 : ¬ InA c b ms mo mk l4 jb := fun hk => by
      rcases hT4.A hk with h1 | h1
      · have := HS.out.2.2.2.1 jb h1; have := HM3.out.2.1; omega
      · have := (HJ.out wc.drew (Mod.refl _ _)).2.lt; omega
    have HF := Lib.hid (And.intro hC4 (And.intro (CTo.nn_l (HM3.out.1.drew) hT4) (And.intro hn4 (And.intro own4 (And.intro hcc4 (And.intro hA4 (And.intro hmx4 (And.intro bp4 (And.intro bj4 hsep4)))))))))
    have cp4 : (w4.alloc (.cells #[.slice none 0 0] 24)).cell? ⟨pj, 0, none⟩ = some (.pointer (some ⟨jb, 0, none⟩)) := (bp4.alloc _).cell 0
    clear hC4 hT4 hn4 own4 hcc4 hA4 hmx4 bp4 bj4 nin4 hnl
    iterate 5 (refine pc_pure rfl rfl (fun K hK => ?_); go_simp; refine hK _ ?_; clear hK K)
    refine pc_nil ?_
    go_wp2_with fail
    refine (records_it jb (.slice A4 m cc4) rfl rfl _).mono ?_
    rintro r w6 ⟨rfl, hw6⟩
    clear cp4
    have hz5 : (w4.alloc (.cells #[.slice none 0 0] 24)).heap.size = w4.heap.size + 1 := World.size_alloc _ _
    have bo6 : Blk w6 w4.heap.size 24 #[.slice none 0 0] := by rw [← hw6]; exact ((Blk.new w4 24 #[.slice none 0 0]).alloc _).alloc _
    have bj6 : Blk w6 (w4.heap.size + 1) 36 #[.pointer (some ⟨jb, 0, none⟩)] := by
      rw [← hw6]; have := (Blk.new (w4.alloc (.cells #[.slice none 0 0] 24)) 36 #[.pointer (some ⟨jb, 0, none⟩)]).alloc (.cells #[.slice A4 m cc4] 29); rwa [hz5] at this
    have bb6 : Blk w6 (w4.heap.size + 2) 29 #[.slice A4 m cc4] := by
      rw [← hw6]; have := Blk.new ((w4.alloc (.cells #[.slice none 0 0] 24)).alloc (.cells #[.pointer (some ⟨jb, 0, none⟩)] 36)) 29 #[.slice A4 m cc4]; rwa [World.size_alloc, hz5] at this
    have m6 : Mod Nn w4 w6 := by rw [← hw6]; exact (((Mod.refl Nn w4).alloc _).alloc _).alloc _
    have z6 : w6.heap.size = w4.heap.size + 3 := by rw [← hw6, World.size_alloc, World.size_alloc, hz5]
    have HW6 := Lib.hid (And.intro bo6 (And.intro bj6 (And.intro bb6 (And.intro m6 z6))))
    rw [hz5]
    clear hw6 hz5 bo6 bj6 bb6 m6 z6
    go_wp2_with fail
    have hne5 : ¬ InA c b ms mo mk l4 jb := HF.out.2.2.2.2.2.2.2.2.2
    have bj4 := HF.out.2.2.2.2.2.2.2.2.1
    have bp4 := HF.out.2.2.2.2.2.2.2.1
    have hpjb : pj ≠ jb := fun e => bp4.ne_ bj4 (by decide) e
    have RC0 : RC w6 (w4.heap.size + 2) (w4.heap.size + 1) jb A4 m cc4 lb c hf J ep 0 0 := ⟨HW6.out.2.2.1, HW6.out.2.1, bj4.mod HW6.out.2.2.2.1 (fun f => f), (Rd.of_own HF.out.2.2.2.1).mod HW6.out.2.2.2.1 (fun _ _ f => f)⟩
    have HRC := Lib.hid RC0
    have HPJ := Lib.hid (And.intro hpjb (And.intro hne5 (And.intro bj4.lt bp4.lt)))
    clear RC0 bj4 bp4 hpjb hne5
    refine (wpIn_wide (n := 3)).1 (range_recs (Bb := w4.heap.size + 2) (Bj := w4.heap.size + 1) (jb := jb) (m := m) (cc := cc4) (c := c) (A := A4) (l := lb) (at_ := hf) (size := J) (ep := ep) rfl rfl HS.out.2.2.2.2.1 HS.out.2.2.2.2.2.symm (by have := HS.out.2.2.1; omega) HF.out.2.2.2.2.1 HF.out.2.2.2.2.2.2.1
      (fun g hg => by have h1 := (HF.out.2.2.2.2.2.1 g hg).2; have h2 := HW6.out.2.2.2.2; omega) HRC.out
      (fun k n R W => ∃ vo, Blk W w4.heap.size 24 #[vo] ∧ RowsOf W (w6.heap.size + 2) vo R ∧ Mod (At jb) w4 W)
      ?hI ?h0
      (fun q A' L c' => { tmps := #[.pointer (some ⟨c, 0, none⟩), .agg #[.int .i64 g.v, .int .i64 g.S, .int .i64 g.s, .int .i64 g.u, .int .i64 J], .int .i64 ep, undef, .pointer (some ⟨w.heap.size, 0, none⟩), undef, .pointer none, .slice none 0 0, .int .i64 0, .int .i64 0, .pointer (some ⟨pj, 0, none⟩), .slice A4 m cc4, .int .i64 0, .pointer (some ⟨w4.heap.size, 0, none⟩), .int .i64 (q : Nat), .slice A' L c', .pointer (some ⟨c, 0, none⟩), .agg #[.int .i64 g.v, .int .i64 g.S, .int .i64 g.s, .int .i64 g.u, .int .i64 J], .int .i64 ep, .int .i64 0, .int .i64 0, .bool false, undef, u23, u24, u25, u26, u27, u28, u29, u30, u31, .tuple #[.slice A4 m cc4, .int .i64 0], .pointer (some ⟨c, 0, none⟩), .pointer (some ⟨jb, 0, none⟩), .pointer (some ⟨jb, 0, none⟩), .pointer (some ⟨jb, 1, none⟩), .int .i64 hf, .pointer (some ⟨jb, 0, none⟩), .pointer (some ⟨jb, 0, none⟩), .pointer (some ⟨jb, 2, none⟩), .int .i64 J, .tuple #[.slice A4 m cc4, .int .i64 0], .slice A4 m cc4, .int .i64 0, .int .i64 0, .bool false, undef, .pointer (some ⟨jb, 0, none⟩), .slice A4 m cc4, .func (.func 47) #[] #[.pointer (some ⟨w4.heap.size + 1 + 1, 0, none⟩), .pointer (some ⟨w4.heap.size + 1, 0, none⟩)], .int .i64 (q : Nat), .slice A' L c', undef, undef, undef, undef, undef, undef, undef, undef, undef, undef, undef, undef, undef, undef, undef, undef, undef, undef, undef, undef, undef], defers := [] })
      ?assign ?body ?done)
    case hI =>
      rintro k n R W W' ⟨vo, h1, ⟨vs, h2, h3⟩, h4⟩ hm
      have hz := HW6.out.2.2.2.2
      refine ⟨vo, h1.mod hm (fun e => by rcases e with e | e <;> omega), ⟨vs, own_mod h2 hm (fun g hg e => by have := own_ge h2 g hg; rcases e with e | e <;> omega), fun i r hir => ?_⟩, h4.then_ hm (fun g hg e => by rcases e with e | e <;> omega)⟩
      obtain ⟨A, cq, h5, h6⟩ := h3 i r hir
      exact ⟨A, cq, h5, own_mod h6 hm (fun g hg e => by have := own_ge h6 g hg; rcases e with e | e <;> omega)⟩
    case h0 =>
      exact ⟨_, HW6.out.1, ⟨[], own_nil _ _ _ _, fun i r hir => by simp at hir⟩, HW6.out.2.2.2.1.mono (fun _ _ f => f.elim)⟩
    case assign =>
      intro lp q A' L c' W K hK
      gi_wp2
      exact hK
    case body =>
      rintro lp k n R W A' L c' hch hr hLe ⟨vo, hbo, hrw, hmo⟩ hsz hRC hown
      obtain ⟨vs, hvs, hrs⟩ := hrw
      have hz := HW6.out.2.2.2.2
      have cpj : W.cell? ⟨pj, 0, none⟩ = some (.pointer (some ⟨jb, 0, none⟩)) := ((HF.out.2.2.2.2.2.2.2.1).mod hmo (fun e => HPJ.out.1 e)).cell 0
      have cbo : W.cell? ⟨w4.heap.size, 0, none⟩ = some vo := hbo.cell 0
      have hkn : R.length = k := hch.len
      have hfit : k ≤ n ∧ 512 * n ≤ lb.length := ⟨hch.le, hch.fits⟩
      have hm4 := HS.out.2.2.1
      have hml := HS.out.2.2.2.2.2
      have hLL : L ≤ 32768 := by rw [hLe]; exact hr.1.2.2.2.1
      have hdl : (frOf (lb.drop (512 * n))).data.length = L := by
        have := hown.1; rw [bv_len] at this; omega
      have bA := Blk.new W 29 #[.slice A' L c']
      have mA : Mod Nn W (W.alloc (.cells #[.slice A' L c'] 29)) := (Mod.refl Nn W).alloc _
      have hvsA := own_mod hvs mA (fun _ _ f => f)
      obtain ⟨v', wq, hap, own', gr', -⟩ := run_append_rd (P := Tryz.prog) (W.alloc (.cells #[.slice A' L c'] 29)) (w6.heap.size + 2) 24 24 29 (.slice none 0 0) 1 24 Tryz.underlying24 (by kernel_rfl) rfl (by omega) vo R.length vs hvsA (some ⟨W.heap.size, 0, none⟩) 1 1 [.slice A' L c'] (RdC.of_blk bA rfl) (fun u hu => by simp at hu; subst hu; rfl) (by omega) (by omega) (by rw [World.size_alloc]; omega)
      obtain ⟨Ao, co, rfl, -, -⟩ := own_form own'
      have mB : Mod (fun g => vo.ownBlock = some g) W wq := mA.nn.grown gr' (fun g hg => .inr hg)
      have hge := fun g hg => own_ge hvs g hg
      have hwl : W.heap.size ≤ wq.heap.size := mB.size
      have nvo : ∀ k, k < w6.heap.size + 2 → ¬ vo.ownBlock = some k := fun k hk e => by have := hge k e; omega
      have hjl := HPJ.out.2.2.1
      have hpl := HPJ.out.2.2.2
      have hd1 : wq.heap[w6.heap.size]? = W.heap[w6.heap.size]? := mB.block _ (by omega) (nvo _ (by omega))
      have hd2 : wq.heap[w6.heap.size + 1]? = W.heap[w6.heap.size + 1]? := mB.block _ (by omega) (nvo _ (by omega))
      have bo' := hbo.mod mB (nvo _ (by omega))
      have bp' := ((HF.out.2.2.2.2.2.2.2.1).mod hmo (fun e => HPJ.out.1 e)).mod mB (nvo _ (by omega))
      have hRC' := hRC.mod mB (nvo _ (by omega)) (nvo _ (by omega)) (nvo _ (by omega)) (fun g hg => nvo _ (by have := (HF.out.2.2.2.2.2.1 g hg).2; omega))
      have hdat : ∀ (i : Nat) (r : List Nat), R[i]? = some r → ∃ (A : Option Addr) (c : Nat), vs[i]? = some (Value.slice A r.length c) ∧ wq.ownsRow (w6.heap.size + 2) 5 1 (.slice A r.length c) r.length (bv r) := fun i r hir => by
        obtain ⟨A, cq, h5, h6⟩ := hrs i r hir
        exact ⟨A, cq, h5, own_mod h6 mB (fun g hg e => own_ne_o5 hvs h6 (by decide) e hg)⟩
      have hnew := own_mod hown mB (fun g hg e => own_ne_o5 hvs hown (by decide) e hg)
      have hvl : vs.length = R.length := by have := hvs.1; omega
      have mC : Mod (At jb) w4 wq := hmo.then_ mB (fun g hg e => by have := hge g e; omega)
      have hfs := fsec_66 hLL
      have hkb := kn_bound hfit.1 hfit.2 hml hm4.2.2.2.2
      have e5 := w64_nat n (fsec L) (w64_le hkb.2 hfs)
      have e6 := w64_succ k (Nat.le_trans hkb.1 (by decide))
      clear hfs hkb
      have HX := Lib.hid (And.intro own' (And.intro hd1 (And.intro hd2 (And.intro bo' (And.intro bp' (And.intro hRC' (And.intro hdat (And.intro hnew (And.intro hvl (And.intro mC (And.intro hdl (And.intro hkn (And.intro hz (Nat.lt_of_lt_of_le hsz hwl))))))))))))))
      have HAP := Lib.hid hap
      have HE := Lib.hid (And.intro e5 e6)
      clear hvs hrs hbo hmo hRC hown hkn hfit hm4 hml hLL bA mA hvsA hap own' gr' mB hge hwl nvo hjl hpl hd1 hd2 bo' bp' hRC' hdat hnew hvl mC hz hdl hch hr hLe e5 e6 cpj
      have cb1 : wq.cell? ⟨w4.heap.size, 0, none⟩ = some vo := HX.out.2.2.2.1.cell 0
      have fb1 := HX.out.2.2.2.1.frozen 0
      have cp1 : wq.cell? ⟨pj, 0, none⟩ = some (.pointer (some ⟨jb, 0, none⟩)) := HX.out.2.2.2.2.1.cell 0
      have c41 : wq.cell? ⟨jb, 4, none⟩ = some (.int .i64 (n : Int)) := HX.out.2.2.2.2.2.1.s.cell 4
      have c51 : wq.cell? ⟨jb, 5, none⟩ = some (.int .i64 (k : Int)) := HX.out.2.2.2.2.2.1.s.cell 5
      have f41 := HX.out.2.2.2.2.2.1.s.frozen 4
      have f51 := HX.out.2.2.2.2.2.1.s.frozen 5
      have n1 : pj ≠ w4.heap.size := Nat.ne_of_lt HPJ.out.2.2.2
      have n2 : jb ≠ w4.heap.size := Nat.ne_of_lt HPJ.out.2.2.1
      have n3 : pj ≠ jb := HPJ.out.1
      have e5 := HE.out.1
      have e6 := HE.out.2
      generalize fsec L = q at *
      generalize hn' : n + q = nq at *
      generalize hk' : k + 1 = kq at *
      gi_wp2_with (first
        | (with_reducible change wpListIn _ _ _ _ _ (⟨some 55, _, _, _, _, _⟩ :: _) _ _
           refine wpListIn_valW rfl (by intro c; simp) (exec_bslice1 (P := Tryz.prog) 24 29 _ rfl (s := 1) Tryz.underlying24 (by kernel_rfl) (by omega) (by omega) rfl (X := #[.slice A' L c']) rfl rfl) ?_)
        | (with_reducible change wpListIn _ _ _ _ _ (⟨some 56, _, _, _, _, _⟩ :: _) _ _
           refine wpListIn_valW rfl (by intro c; simp) (exec_appJ 24 (.tmp 53) (.tmp 55) rfl _ _ HAP.out) ?_))
      obtain ⟨own', hd1, hd2, bo', bp', hRC', hdat, hnew, hvl, mC, hdl, hkn, hz, hszq⟩ := HX.out
      obtain ⟨hb9, hs9, M9⟩ := body_end (v' := .slice Ao (R.length + 1) co) (nq := (nq : Int)) (kq := (kq : Int)) bo' hRC'.s n2
      generalize ((wq.setCell ⟨w4.heap.size, 0, none⟩ (.slice Ao (R.length + 1) co)).setCell ⟨jb, 4, none⟩ (.int .i64 (nq : Int))).setCell ⟨jb, 5, none⟩ (.int .i64 (kq : Int)) = X at *
      have hjl := HPJ.out.2.2.1
      have nS : ∀ x, w4.heap.size < x → ¬ (x = w4.heap.size ∨ x = jb) := fun x hx e => by rcases e with e | e <;> omega
      have hll : (R ++ [(frOf (lb.drop (512 * n))).data]).length = R.length + 1 := by rw [List.length_append]; rfl
      refine ⟨⟨(M9.block _ (by omega) (nS _ (by omega))).trans hd1, (M9.block _ (by omega) (nS _ (by omega))).trans hd2⟩, ⟨_, hb9, ⟨vs ++ [.slice A' L c'], ?_, ?_⟩, mC.then_ M9 (fun g hg e => Or.elim e (fun e => absurd e (by omega)) (fun e => e))⟩, ?_⟩
      · rw [hll]
        exact own_mod own' M9 (fun g hg e => by
          rcases e with e | e
          · subst e; exact own_ne_t5 own' bo' (by decide) hg
          · subst e; exact own_ne_t5 own' hRC'.s (by decide) hg)
      · intro i r hir
        rcases Nat.lt_or_ge i R.length with h1 | h1
        · rw [List.getElem?_append_left h1] at hir
          obtain ⟨A, cq, h5, h6⟩ := hdat i r hir
          refine ⟨A, cq, by rw [List.getElem?_append_left (by omega)]; exact h5, own_mod h6 M9 (fun g hg e => ?_)⟩
          rcases e with e | e
          · subst e; exact own_ne_t5 h6 bo' (by decide) hg
          · subst e; exact own_ne_t5 h6 hRC'.s (by decide) hg
        · rw [List.getElem?_append_right h1] at hir
          have h2 : i - R.length = 0 := by
            have := (List.getElem?_eq_some_iff.1 hir).1
            simp at this; omega
          rw [h2] at hir
          injection hir with hir
          subst hir
          refine ⟨A', c', by rw [List.getElem?_append_right (by omega), hvl, h2, hdl]; rfl, ?_⟩
          rw [hdl]
          exact own_mod hnew M9 (fun g hg e => by
            rcases e with e | e
            · subst e; exact own_ne_t5 hnew bo' (by decide) hg
            · subst e; exact own_ne_t5 hnew hRC'.s (by decide) hg)
      · exact ⟨hRC'.b.mod M9 (nS _ (by omega)), hRC'.j.mod M9 (nS _ (by omega)), hs9, hRC'.r.mod M9 (fun g hg e => by
          rcases e with e | e
          · have := (HF.out.2.2.2.2.2.1 g hg).2; omega
          · subst e; exact own_ne_t5 HF.out.2.2.2.1 HF.out.2.2.2.2.2.2.2.2.1 (by decide) (of_own hg))⟩
    case done =>
      rintro n R W hall ⟨vo, hbo, hrw, hmo⟩ hRC hK
      have bp9 := (HF.out.2.2.2.2.2.2.2.1).mod hmo (fun e => HPJ.out.1 e)
      have HD := Lib.hid (And.intro hall (And.intro hbo (And.intro hrw (And.intro hmo (And.intro hRC (And.intro hK bp9))))))
      clear hall hbo hrw hmo hRC hK bp9
      have HV := Lib.hid (show ∀ w', Mod Nn W.drew w' → Blk w' pj 36 #[.pointer (some ⟨jb, 0, none⟩)] ∧ Blk w' w4.heap.size 24 #[vo] from fun w' m => ⟨(HD.out.2.2.2.2.2.2.mod (Mod.refl Nn W).drew (fun f => f)).mod m (fun f => f), (HD.out.2.1.mod (Mod.refl Nn W).drew (fun f => f)).mod m (fun f => f)⟩)
      go_wp2_with fail
      refine wp_region_planC (fun w' => Mod Nn W.drew w') [(0, true), (1, true), (2, true), (3, true), (4, true)] (by kernel_rfl) (by kernel_rfl) (Mod.refl _ _) ?_
      refine pc_take (.pointer (some ⟨jb, 0, none⟩)) rfl rfl (fun w' hS => exec_load1 (P := Tryz.prog) 36 _ rfl rfl ((HV.out w' hS).1.cell 0) Tryz.underlying36 rfl) (fun K hK => ?_); go_simp; refine hK _ ?_; clear hK K
      refine pc_take vo rfl rfl (fun w' hS => exec_load1 (P := Tryz.prog) 24 _ rfl rfl ((HV.out w' hS).2.cell 0) Tryz.underlying24 rfl) (fun K hK => ?_); go_simp; refine hK _ ?_; clear hK K
      iterate 3 (refine pc_pure rfl rfl (fun K hK => ?_); go_simp; refine hK _ ?_; clear hK K)
      refine pc_nil ?_
      go_wp2_with fail
      obtain ⟨hall, hbo, ⟨vs, hvs, hrs⟩, hmo, hRC, hK, -⟩ := HD.out
      have hK' : W.drew.heap[w6.heap.size]? = some (.deferred (some [])) := hK
      refine ⟨by simp, .inl ⟨_, _, rfl, run_takeDeferred hK', ?_⟩⟩
      have md := putObj_mod W.drew w6.heap.size (.deferred none)
      have mq : Mod (At jb) w4 W.drew := hmo.then_ (Mod.refl Nn W).drew (fun _ _ f => f.elim)
      have hz := HW6.out.2.2.2.2
      have hjl := HPJ.out.2.2.1
      have hCl := HF.out.1.lt
      have hwz : w.heap.size ≤ w4.heap.size := HF.out.2.1.md.size
      have hjb := HM3.out.2.1
      refine ⟨.tuple #[.pointer (some ⟨jb, 0, none⟩), vo, .int .i64 0], by simp [results, Tryz.results11, go_sem], jb, vo, n, R, now4, hits4, misses4, l4, T4, rfl, hall, ?_, ⟨?_, HF.out.2.1.G⟩, HF.out.2.2.1, ?_, hjb, HPJ.out.2.1, ⟨vs, ?_, fun i r hir => ?_⟩⟩
      · exact (HF.out.1.mod mq (fun k hk e => by have e : k = jb := e; subst e; exact HPJ.out.2.1 hk)).mod md (fun k hk e => by have e : k = w6.heap.size := e; have := hCl k hk; omega)
      · exact (HF.out.2.1.md.then_ mq (fun g hg e => by have e : g = jb := e; omega)).then_ md (fun g hg e => by have e : g = w6.heap.size := e; omega)
      · exact (hRC.s.mod (Mod.refl Nn W).drew (fun f => f)).mod md (fun e => by have e : jb = w6.heap.size := e; omega)
      · exact own_mod (own_base (own_mod hvs (Mod.refl Nn W).drew (fun _ _ f => f)) (fun g hg => by have := own_ge hvs g hg; omega)) md (fun g hg e => by have e : g = w6.heap.size := e; have := own_ge hvs g hg; omega)
      · obtain ⟨A, cq, h5, h6⟩ := hrs i r hir
        exact ⟨A, cq, h5, own_mod (own_base (own_mod h6 (Mod.refl Nn W).drew (fun _ _ f => f)) (fun g hg => by have := own_ge h6 g hg; omega)) md (fun g hg e => by have e : g = w6.heap.size := e; have := own_ge h6 g hg; omega)⟩
end
end Go.Proofs.YtijmkbhbpbkkoaaGreat

/- What stands in a half, behind writes to a device that is up, in plain words. No program is named. -/
namespace Go.Proofs.YtijmkbhbpbkkoaaGreat
open Go.RowKit

theorem rowsL_add (D : Dk) (a : Int) (n : Nat) : ∀ k, rowsL D a (n + k) = rowsL D a n ++ rowsL D (a + n) k
  | 0 => by simp [rowsL]
  | k + 1 => by
    rw [← Nat.add_assoc, rowsL_succ, rowsL_add D a n k, rowsL_succ, List.append_assoc]
    congr 3; omega
theorem rowsL_congr {D D' : Dk} {a : Int} : ∀ k, (∀ i : Nat, i < k → D.latest (a + i) = D'.latest (a + i)) → rowsL D a k = rowsL D' a k
  | 0, _ => rfl
  | k + 1, h => by rw [rowsL_succ, rowsL_succ, rowsL_congr k (fun i hi => h i (by omega)), h k (by omega)]
theorem rowsL_of {D : Dk} {a : Int} {bs : List Int} : ∀ k, (∀ i : Nat, i < k → D.latest (a + i) = (bs.drop (512 * i)).take 512) → rowsL D a k = bs.take (512 * k)
  | 0, _ => by simp [rowsL]
  | k + 1, h => by
    rw [rowsL_succ, rowsL_of k (fun i hi => h i (by omega)), h k (by omega), show 512 * (k + 1) = 512 * k + 512 from by omega, List.take_add]
/-- up, and not armed -/
def DUp (D : Dk) : Prop := D.down = false ∧ D.armed = 0
theorem bw_up : ∀ (k : Nat) (D : Dk) (a : Int) (bs : List Int), DUp D → 0 ≤ a → a + k ≤ D.n → bs.length = 512 * k →
    ∃ D', bw D a bs k = (0, D') ∧ DUp D' ∧ D'.n = D.n ∧ ∀ j, D'.latest j = if a ≤ j ∧ j < a + k then (bs.drop (512 * (j - a).toNat)).take 512 else D.latest j
  | 0, D, a, bs, hu, _, _, _ => ⟨D, rfl, hu, rfl, fun j => by rw [if_neg (by omega)]⟩
  | k + 1, D, a, bs, hu, h0, hn, hl => by
    have hlen : (bs.take 512).length = 512 := by rw [List.length_take]; omega
    have hw := write_up (D := D) (k := a) (bs := bs.take 512) hu.1 hu.2 h0 (by omega) hlen
    obtain ⟨D', h1, h2, h3, h4⟩ := bw_up k (D.put a (bs.take 512)) (a + 1) (bs.drop 512) hu (by omega) (by show a + 1 + k ≤ D.n; omega) (by rw [List.length_drop]; omega)
    refine ⟨D', ?_, h2, h3, fun j => ?_⟩
    · rw [bw_succ _ _ _ (by omega), hw, if_pos rfl]; exact h1
    · rw [h4 j, put_latest]
      by_cases hj : j = a
      · subst hj
        rw [if_neg (by omega), if_pos rfl, if_pos (by omega), show (j - j).toNat = 0 from by omega]; rfl
      · rw [if_neg hj]
        by_cases h5 : a + 1 ≤ j ∧ j < a + 1 + k
        · rw [if_pos h5, if_pos (by omega), List.drop_drop, show 512 + 512 * (j - (a + 1)).toNat = 512 * (j - a).toNat from by omega]
        · rw [if_neg h5, if_neg (by omega)]
theorem bwrite_up {D : Dk} {a : Int} {bs : List Int} {k : Nat} (hu : DUp D) (h0 : 0 ≤ a) (hn : a + k ≤ D.n) (hl : bs.length = 512 * k) :
    ∃ D', bwrite D a bs = (0, D') ∧ DUp D' ∧ D'.n = D.n ∧ ∀ j, D'.latest j = if a ≤ j ∧ j < a + k then (bs.drop (512 * (j - a).toNat)).take 512 else D.latest j := by
  obtain ⟨D', h1, h2⟩ := bw_up k D a bs hu h0 hn hl
  refine ⟨D', ?_, h2⟩
  unfold bwrite
  rw [hl, if_neg (by omega), show 512 * k / 512 = k from by omega, if_neg (by unfold bmay; rw [if_neg (by omega)]; simp)]
  exact h1
theorem natsn_append (a b : List Nat) : natsn (a ++ b) = natsn a ++ natsn b := by unfold natsn; rw [List.map_append]
theorem natsn_len (a : List Nat) : (natsn a).length = a.length := by unfold natsn; rw [List.length_map]
theorem natsn_take (a : List Nat) (n : Nat) : (natsn a).take n = natsn (a.take n) := by unfold natsn; rw [List.map_take]
theorem natsn_drop (a : List Nat) (n : Nat) : (natsn a).drop n = natsn (a.drop n) := by unfold natsn; rw [List.map_drop]
theorem natsn_inj : ∀ {a b : List Nat}, natsn a = natsn b → a = b
  | [], [], _ => rfl
  | [], y :: b, h => by cases h
  | x :: a, [], h => by cases h
  | x :: a, y :: b, h => by
    have h : ((x : Nat) : Int) :: natsn a = ((y : Nat) : Int) :: natsn b := h
    injection h with h1 h2
    rw [natsn_inj h2, show x = y from by omega]
/-- a half, behind a write to it -/
theorem half_write {D : Dk} {hf : Int} {J n k : Nat} {P Z B : List Nat} (hok : D.ok) (hu : DUp D) (hh : 0 ≤ hf) (hn : hf + J ≤ D.n) (hrow : rowsL D hf J = natsn (P ++ Z)) (hP : P.length = 512 * n) (hB : B.length = 512 * k) (hfit : n + k ≤ J) :
    ∃ D', bwrite D (hf + n) (natsn B) = (0, D') ∧ DUp D' ∧ D'.n = D.n ∧ rowsL D' hf J = natsn (P ++ B ++ Z.drop (512 * k)) ∧ ∀ j, (j < hf ∨ hf + J ≤ j) → D'.latest j = D.latest j := by
  obtain ⟨D', h1, h2, h3, h4⟩ := bwrite_up (D := D) (a := hf + n) (bs := natsn B) (k := k) hu (by omega) (by omega) (by rw [natsn_len, hB])
  refine ⟨D', h1, h2, h3, ?_, fun j hj => by rw [h4, if_neg (by omega)]⟩
  obtain ⟨r, rfl⟩ : ∃ r, J = n + k + r := ⟨J - n - k, by omega⟩
  have e1 : rowsL D' hf n = rowsL D hf n := rowsL_congr n (fun i hi => by rw [h4, if_neg (by omega)])
  have e2 : rowsL D' (hf + n) k = natsn B := by
    rw [rowsL_of (bs := natsn B) k (fun i hi => by rw [h4, if_pos (by omega), show (hf + n + i - (hf + n)).toNat = i from by omega]), List.take_of_length_le (by rw [natsn_len, hB]; exact Nat.le_refl _)]
  have e3 : rowsL D' (hf + (n + k : Nat)) r = rowsL D (hf + (n + k : Nat)) r := rowsL_congr r (fun i hi => by rw [h4, if_neg (by omega)])
  have h5 := hrow
  rw [rowsL_add, rowsL_add, natsn_append, List.append_assoc] at h5
  obtain ⟨h6, h7⟩ := List.append_inj h5 (by rw [rowsL_len hok, natsn_len, hP])
  have h8 : rowsL D (hf + (n + k : Nat)) r = natsn (Z.drop (512 * k)) := by
    rw [← natsn_drop, ← h7, ← rowsL_len hok (hf + n) k, List.drop_left]
  rw [rowsL_add, rowsL_add, e1, e2, e3, h6, h8, natsn_append, natsn_append]
theorem rowsL_zero (n : Nat) (N : Int) (a : Int) : ∀ k, rowsL (Dk.new N) a k = natsn (List.replicate (512 * k) 0)
  | 0 => rfl
  | k + 1 => by
    rw [rowsL_succ, rowsL_zero n N a k, show 512 * (k + 1) = 512 * k + 512 from by omega, ← List.replicate_append_replicate, natsn_append]
    have e : natsn (List.replicate 512 0) = zsec := by unfold natsn zsec; rw [List.map_replicate]; rfl
    rw [e]; rfl
end Go.Proofs.YtijmkbhbpbkkoaaGreat
