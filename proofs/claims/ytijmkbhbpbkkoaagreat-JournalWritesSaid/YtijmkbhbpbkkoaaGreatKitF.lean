/- Own lemmas of several kinds, put together: Kit22, Kit24, Kit31, Kit32, Kit33, Kit34, Kit35, Kit36, Kit37. -/
import Derived.Test.YtijmkbhbpbkkoaaGreatKitC
import Derived.Test.YtijmkbhbpbkkoaaGreatKitD
import Derived.Stop.BytesEq
import Derived.Test.YtijmkbhbpbkkoaaGreatKitE
import Derived.Laws.ResultCell
import Derived.Great.BuildSlice
/- '==' and '!=' of arrays of bytes, and of structs of two such arrays. No program is named. -/
namespace Go.Proofs.YtijmkbhbpbkkoaaGreat
open Go.RowKit

theorem foldl_sets : ∀ (X : List Value) (k : Nat) (A : List Value) (B : List Value), A.length = k → (X.zipIdx k).foldl (fun (cs : Array Value) x => cs.setIfInBounds x.snd x.fst) (A ++ List.replicate X.length (Value.int .u8 0) ++ B).toArray = (A ++ X ++ B).toArray
  | [], k, A, B, _ => by simp
  | v :: X, k, A, B, h => by
    have ih := foldl_sets X (k + 1) (A ++ [v]) B (by simp [h])
    rw [List.zipIdx_cons, List.foldl_cons]
    have e : (A ++ List.replicate (v :: X).length (Value.int .u8 0) ++ B).toArray.setIfInBounds k v = (A ++ [v] ++ List.replicate X.length (Value.int .u8 0) ++ B).toArray := by
      rw [List.setIfInBounds_toArray, List.length_cons, List.replicate_succ, List.append_assoc, List.set_append_right _ _ (by omega), h, Nat.sub_self]
      simp
    show List.foldl _ ((A ++ List.replicate (v :: X).length (Value.int .u8 0) ++ B).toArray.setIfInBounds k v) _ = _
    rw [e, ih]
    simp
section
variable {P : Program} {w : World}
theorem bv_cells {l : List Nat} (hl : ∀ z ∈ l, z < 256) : bv l = (l.map UInt8.ofNat).map Extern.Stop.cell := by
  unfold bv
  rw [List.map_map]
  refine List.map_congr_left fun z hz => ?_
  show _ = Value.int .u8 (Int.ofNat (UInt8.ofNat z).toNat)
  rw [UInt8.toNat_ofNat_of_lt' (hl z hz)]; rfl
theorem ofNat_inj8 : ∀ {l m : List Nat}, (∀ z ∈ l, z < 256) → (∀ z ∈ m, z < 256) → l.map UInt8.ofNat = m.map UInt8.ofNat → l = m
  | [], [], _, _, _ => rfl
  | [], _ :: _, _, _, h => by cases h
  | _ :: _, [], _, _, h => by cases h
  | a :: l, b :: m, hl, hm, h => by
    injection h with h1 h2
    have ha := hl a List.mem_cons_self
    have hb := hm b List.mem_cons_self
    have := congrArg UInt8.toNat h1
    rw [UInt8.toNat_ofNat', UInt8.toNat_ofNat', Nat.mod_eq_of_lt ha, Nat.mod_eq_of_lt hb] at this
    rw [this, ofNat_inj8 (fun z hz => hl z (List.mem_cons_of_mem _ hz)) (fun z hz => hm z (List.mem_cons_of_mem _ hz)) h2]
theorem beq_bytes {l k : List Nat} (zl : ∀ z ∈ l, z < 256) (zk : ∀ z ∈ k, z < 256) : (l.map UInt8.ofNat == k.map UInt8.ofNat) = decide (l = k) := by
  by_cases h : l = k
  · rw [h]; simp
  · rw [decide_eq_false h, beq_eq_false_iff_ne]
    exact fun e => h (ofNat_inj8 zl zk e)
/-- arrays of bytes -/
theorem equal_bytes (d : Nat) (t e : TypeId) (n : Nat) (ht : P.underlying t = some (.array n e)) (he : P.underlying e = some (.int .u8)) (hsz : ∀ w, (sizeOf e).run P w = .ok 1 w)
    {l k : List Nat} (hl : l.length = n) (hk : k.length = n) (zl : ∀ z ∈ l, z < 256) (zk : ∀ z ∈ k, z < 256) :
    (Op.equalIn (d + 2) t (.agg (bv l).toArray) (.agg (bv k).toArray)).run P w = .ok (decide (l = k)) w := by
  rw [bv_cells zl, bv_cells zk, run_equalIn_bytes w d t e n ht he hsz _ _ (by rw [List.length_map]; exact hl) (by rw [List.length_map]; exact hk), beq_bytes zl zk]
theorem part_bytes (t e : TypeId) (n : Nat) (ht : P.underlying t = some (.array n e)) (hs : ∀ w, (sizeOf t).run P w = .ok n w) (l : List Nat) (off : Nat) :
    (part t (bv l).toArray off).run P w = .ok (.agg (bv ((l.drop off).take n)).toArray) w := by
  simp [part, isAgg, run_underlying ht, hs]
  unfold bv
  rw [List.map_take, List.map_drop]
/-- structs of two arrays of n bytes -/
theorem equal_pair (d : Nat) (t : TypeId) (f g : Field) (e : TypeId) (n : Nat) (hu : P.underlying t = some (.struct #[f, g])) (hp : P.stoodInHeld t = false) (nf : f.name ≠ "_") (ng : g.name ≠ "_")
    (of : f.offset = 0) (og : g.offset = n) (uf : P.underlying f.type = some (.array n e)) (ug : P.underlying g.type = some (.array n e))
    (sf : ∀ w, (sizeOf f.type).run P w = .ok n w) (sg : ∀ w, (sizeOf g.type).run P w = .ok n w) (he : P.underlying e = some (.int .u8)) (hsz : ∀ w, (sizeOf e).run P w = .ok 1 w)
    {l k : List Nat} (hl : l.length = n + n) (hk : k.length = n + n) (zl : ∀ z ∈ l, z < 256) (zk : ∀ z ∈ k, z < 256) :
    (Op.equalIn (d + 3) t (.agg (bv l).toArray) (.agg (bv k).toArray)).run P w = .ok (decide (l = k)) w := by
  have hfs : P.fieldsOf t = #[f, g] := by simp [Program.fieldsOf, hu]
  have zt : ∀ {m : List Nat}, (∀ z ∈ m, z < 256) → ∀ a b : Nat, ∀ z ∈ (m.drop a).take b, z < 256 := fun h a b z hz => h z (List.mem_of_mem_drop (List.mem_of_mem_take hz))
  rw [show d + 3 = (d + 2) + 1 from rfl, run_equalIn_struct w (d + 2) t _ _ (by rw [hfs]; exact hu) hp, hfs]
  have h1 := equal_bytes (P := P) (w := w) d f.type e n uf he hsz (l := (l.drop 0).take n) (k := (k.drop 0).take n) (by rw [List.length_take, List.length_drop]; omega) (by rw [List.length_take, List.length_drop]; omega) (zt zl 0 n) (zt zk 0 n)
  have h2 := equal_bytes (P := P) (w := w) d g.type e n ug he hsz (l := (l.drop n).take n) (k := (k.drop n).take n) (by rw [List.length_take, List.length_drop]; omega) (by rw [List.length_take, List.length_drop]; omega) (zt zl n n) (zt zk n n)
  have e1 : decide (l = k) = (decide ((l.drop 0).take n = (k.drop 0).take n) && decide ((l.drop n).take n = (k.drop n).take n)) := by
    rw [Bool.eq_iff_iff]
    simp only [decide_eq_true_eq, Bool.and_eq_true, List.drop_zero]
    constructor
    · rintro rfl; exact ⟨rfl, rfl⟩
    · rintro ⟨a, b⟩
      rw [List.take_of_length_le (by rw [List.length_drop]; omega), List.take_of_length_le (by rw [List.length_drop]; omega)] at b
      rw [← List.take_append_drop n l, ← List.take_append_drop n k, a, b]
  rw [e1]
  have p1 := fun m => part_bytes (P := P) (w := w) f.type e n uf sf m 0
  have p2 := fun m => part_bytes (P := P) (w := w) g.type e n ug sg m n
  generalize decide ((l.drop 0).take n = (k.drop 0).take n) = b1 at h1 ⊢
  generalize decide ((l.drop n).take n = (k.drop n).take n) = b2 at h2 ⊢
  simp only [List.drop_zero] at h1
  cases b1
  · simp [Op.eqFields, nf, of, p1, h1]
  · cases b2 <;> simp [Op.eqFields, nf, ng, of, og, p1, p2, h1, h2]
variable {o : Oper} {a : Act}
/-- a whole array or struct is stored into the middle of a block -/
theorem exec_store_at (T : TypeId) (x y : Operand) (ho : o.op = .store T x y) {g off : Nat} {cells cur : Array Value} {t : TypeId}
    (hx : a.eval x = .pointer (some ⟨g, off, none⟩)) (hy : a.eval y = .agg cells) (hb : Blk w g t cur) (hi : (P.info? T).map (·.size) = some cells.size)
    (hs : off + cells.size ≤ cur.size) (h1 : cells.all (·.oneCell') = true) :
    (execOp a.eval o).run P w = .ok .skip (w.setRow g (cur.toList.take off ++ cells.toList ++ cur.toList.drop (off + cells.size)).toArray) := by
  have hst := run_storeCells_at P g off t cells.toList 0 cur w hb (by simpa using hs) (fun v hv => by
    have := Array.all_eq_true_iff_forall_mem.1 h1 v (Array.mem_toList_iff.1 hv)
    simpa using this)
  obtain ⟨i, hii, hsz⟩ := Option.map_eq_some_iff.1 hi
  have hv : (storeVar T ⟨g, off, none⟩ (.agg cells)).run P w = .ok () (w.setRow g (cur.toList.take off ++ cells.toList ++ cur.toList.drop (off + cells.size)).toArray) := by
    simp only [Nat.add_zero, Array.length_toList] at hst
    simp [storeVar, Value.cells, sizeOf, typeInfo, hii, hsz, hst]
  simp [execOp, ho, hx, hy, Instr.storeAt, Instr.sureAddr, hv, Result.andThen]
theorem wpList_store_at {ops : Array Oper} {rest : List Oper} {Q : Exit → Act → World → Prop} (T : TypeId) (x y : Operand) (hg : Region.wanted o (yielded ops a.tmps) = true) (ho : o.op = .store T x y) (g off : Nat) (cells cur : Array Value) (t : TypeId)
    (hx : a.eval x = .pointer (some ⟨g, off, none⟩)) (hy : a.eval y = .agg cells) (hb : Blk w g t cur) (hi : (P.info? T).map (·.size) = some cells.size)
    (hs : off + cells.size ≤ cur.size) (h1 : cells.all (·.oneCell') = true)
    (h : ∀ w1, Blk w1 g t (cur.toList.take off ++ cells.toList ++ cur.toList.drop (off + cells.size)).toArray → Mod (At g) w w1 → w1.heap.size = w.heap.size → wpList P ops Q rest (a.put o.dst undef) w1) :
    wpList P ops Q (o :: rest) a w :=
  wpList_unit hg (exec_store_at T x y ho hx hy hb hi hs h1) (h _ (hb.setRow_ _) (Mod.rowAt _ _ _) (by simp))
theorem own_of_blkS {e : TypeId} {cur : Array Value} {base n cap s g : Nat} {xs : List Value} (h : Blk w g e cur) (hb : base ≤ g) (hs : cur.size = cap * s) (hcap : cap ≤ maxLen) (hn : n ≤ cap) (hx : cur.toList.take (n * s) = xs) :
    w.ownsRow base e s (.slice (some ⟨g, 0, none⟩) n cap) n xs :=
  ⟨by rw [← hx, List.length_take, Array.length_toList, hs]; exact Nat.min_eq_left (Nat.mul_le_mul_right _ hn), .inr ⟨g, cap, cur, rfl, hb, h, hn, hcap, hs, hx⟩⟩
theorem blk_of_ownS {e : TypeId} {base cap s g : Nat} {xs : List Value} (h : w.ownsRow base e s (.slice (some ⟨g, 0, none⟩) cap cap) cap xs) : Blk w g e xs.toArray := by
  rcases h.2 with ⟨h0, _⟩ | ⟨g', cap', cur, hv, _, hg, _, _, hcs, ht⟩
  · cases h0
  · injection hv with hv _ hc
    injection hv with hv; injection hv with hv _ _
    subst hv; subst hc
    have : cur = xs.toArray := by
      rw [← ht, ← hcs, List.take_of_length_le (by simp)]
    rw [← this]; exact hg
/-- an array of bytes of which the first is told -/
theorem exec_build_byte (t e : TypeId) (n : Nat) (x : Operand) (ho : o.op = .build t #[(0, x)]) (hu : P.underlying t = some (.array (n + 1) e)) (hi : (P.info? e).map (·.size) = some 1)
    (hz : (P.info? t).map (·.zero) = some (some (.agg (bv (List.replicate (n + 1) 0)).toArray))) {b : Nat} (hx : a.eval x = .int .u8 (b : Int)) :
    (execOp a.eval o).run P w = .ok (.value (.agg (bv (b :: List.replicate n 0)).toArray)) w := by
  obtain ⟨it, hit, hzz⟩ := Option.map_eq_some_iff.1 hz
  obtain ⟨ie, hie, hes⟩ := Option.map_eq_some_iff.1 hi
  have hb : P.built t (#[(0, .int .u8 (b : Int))] : Array (Nat × Value)).toList = some (bv (b :: List.replicate n 0)).toArray := by
    unfold Program.built
    rw [hit, hu]
    simp only [hzz, hie, hes]
    simp [Instr.fill, bv, Value.cells, List.replicate_succ]
  have hr := run_build (P := P) w t _ _ hb
  simp only [execOp, ho, List.map_toArray, List.map_cons, List.map_nil, hx]
  simp [hr, Result.andThen]
/-- a struct of two arrays of n bytes of which the first is told -/
theorem exec_build_first (t : TypeId) (x : Operand) (ho : o.op = .build t #[(0, x)]) {n : Nat} (hz : (P.info? t).map (·.zero) = some (some (.agg (bv (List.replicate (n + n) 0)).toArray)))
    {fields : Array Field} (hu : P.underlying t = some (.struct fields)) (hpl : fields.toList.mapM (fun f => (P.info? f.type).map fun i => (f.offset, i.size)) = some [(0, n), (n, n)])
    {l : List Nat} (hx : a.eval x = .agg (bv l).toArray) (hl : l.length = n) : (execOp a.eval o).run P w = .ok (.value (.agg (bv (l ++ List.replicate n 0)).toArray)) w := by
  obtain ⟨it, hit, hzz⟩ := Option.map_eq_some_iff.1 hz
  have hb : P.built t (#[(0, .agg (bv l).toArray)] : Array (Nat × Value)).toList = some (bv (l ++ List.replicate n 0)).toArray := by
    unfold Program.built
    rw [hit, hu]
    simp only [hzz, hpl]
    simp [Instr.fill, Value.cells, bv_len, hl]
    have := foldl_sets (l.map (fun c : Nat => Value.int .u8 (c : Int))) 0 [] (List.replicate n (Value.int .u8 0)) rfl
    rw [List.length_map, hl, List.nil_append, List.nil_append] at this
    unfold bv
    rw [List.map_append, List.map_replicate, List.map_replicate, ← List.replicate_append_replicate]
    exact this
  have hr := run_build (P := P) w t _ _ hb
  simp only [execOp, ho, List.map_toArray, List.map_cons, List.map_nil, hx]
  simp [hr, Result.andThen]
theorem exec_eql_agg (t u : TypeId) (x y : Operand) (ho : o.op = .binOp .eql t x y u) {X Y : Array Value} {b : Bool} (hx : a.eval x = .agg X) (hy : a.eval y = .agg Y) (hm : P.eqGuardType P.depth t = false)
    (hq : (Op.equalIn 10000 t (.agg X) (.agg Y)).run P w = .ok b w) : (execOp a.eval o).run P w = .ok (.value (.bool b)) w := by
  simp [execOp, ho, hx, hy, run_eqGuard_agg, hm, run_eql_struct, hq, Result.andThen]
theorem exec_neq_agg (t u : TypeId) (x y : Operand) (ho : o.op = .binOp .neq t x y u) {X Y : Array Value} {b : Bool} (hx : a.eval x = .agg X) (hy : a.eval y = .agg Y) (hm : P.eqGuardType P.depth t = false)
    (hq : (Op.equalIn 10000 t (.agg X) (.agg Y)).run P w = .ok b w) : (execOp a.eval o).run P w = .ok (.value (.bool (!b))) w := by
  simp [execOp, ho, hx, hy, run_eqGuard_agg, hm, run_neq_struct, hq, Result.andThen]
end
end Go.Proofs.YtijmkbhbpbkkoaaGreat

/- Arrays of bytes built of several parts. No program is named. -/
namespace Go.Proofs.YtijmkbhbpbkkoaaGreat
open Go.RowKit

/-- bytes put at places, one behind the other -/
def puts (l : List Nat) (ps : List (Nat × Nat)) : List Nat := ps.foldl (fun l p => l.set p.1 p.2) l
theorem puts_len : ∀ (ps : List (Nat × Nat)) (l : List Nat), (puts l ps).length = l.length
  | [], _ => rfl
  | p :: ps, l => (puts_len ps (l.set p.1 p.2)).trans (List.length_set ..)
theorem fill_bytes : ∀ (ps : List (Nat × Nat)) (l : List Nat), (∀ p ∈ ps, p.1 < l.length) →
    Instr.fill (fun i => some (i * 1, 1)) (bv l).toArray (ps.map fun p => (p.1, Value.int .u8 (p.2 : Int))) = some (bv (puts l ps)).toArray
  | [], l, _ => rfl
  | p :: ps, l, h => by
    have hp := h p List.mem_cons_self
    have ih := fill_bytes ps (l.set p.1 p.2) (fun q hq => by rw [List.length_set]; exact h q (List.mem_cons_of_mem _ hq))
    have hs : (bv l).toArray.setIfInBounds p.1 (Value.int .u8 (p.2 : Int)) = (bv (l.set p.1 p.2)).toArray := by
      unfold bv
      rw [List.map_set, List.setIfInBounds_toArray]
    have hb : ¬ (bv l).length < p.1 + 1 := by rw [bv_len]; omega
    rw [List.map_cons, Instr.fill]
    simp only [Nat.mul_one] at ih ⊢
    simp [Value.cells, hs, hb, ih, puts]
variable {P : Program} {w : World} {o : Oper} {a : Act}
theorem exec_build_bytes (t e : TypeId) (n : Nat) (fs : Array (Nat × Operand)) (ho : o.op = .build t fs) (hu : P.underlying t = some (.array n e)) (hi : (P.info? e).map (·.size) = some 1)
    (hz : (P.info? t).map (·.zero) = some (some (.agg (bv (List.replicate n 0)).toArray))) (ps : List (Nat × Nat)) (hp : fs.toList.map (fun p => (p.1, a.eval p.2)) = ps.map (fun p => (p.1, Value.int .u8 (p.2 : Int))))
    (hlt : ∀ p ∈ ps, p.1 < n) : (execOp a.eval o).run P w = .ok (.value (.agg (bv (puts (List.replicate n 0) ps)).toArray)) w := by
  obtain ⟨it, hit, hzz⟩ := Option.map_eq_some_iff.1 hz
  obtain ⟨ie, hie, hes⟩ := Option.map_eq_some_iff.1 hi
  have hb : P.built t ((fs.map fun p => (p.1, a.eval p.2)) : Array (Nat × Value)).toList = some (bv (puts (List.replicate n 0) ps)).toArray := by
    unfold Program.built
    rw [hit, hu]
    simp only [hzz, hie, hes]
    rw [Array.toList_map, hp]
    exact fill_bytes ps _ (fun p h => by rw [List.length_replicate]; exact hlt p h)
  have hr := run_build (P := P) w t _ _ hb
  simp only [execOp, ho]
  simp [hr, Result.andThen]
end Go.Proofs.YtijmkbhbpbkkoaaGreat

/- Results out of a cell beside others; bytes as cells. No program is named. -/
namespace Go.Proofs.YtijmkbhbpbkkoaaGreat
open Go.RowKit

section
variable {P : Program} {w : World}
theorem results_cell_tmp_row {fn : Func} {p u : Tmp} {ty : TypeId} (h : fn.results = #[.cell p ty, .tmp u]) (tmps : Array Value) {g : Nat} {t : TypeId} {cs : Array Value} {d : TypeDesc}
    (hp : tmps.getD p undef = .pointer (some ⟨g, 0, none⟩)) (hg : Blk w g t cs) (hu : P.underlying ty = some d) (hd : (match d with | .struct _ | .array _ _ => true | _ => false) = true) (hi : (P.info? ty).map (·.size) = some cs.size) :
    (results fn tmps).run P w = .ok (.tuple #[.agg cs, tmps.getD u undef]) w := by
  have hp' : tmps[p]?.getD undef = .pointer (some ⟨g, 0, none⟩) := by simpa using hp
  simp [results, h, hp', asAddr, run_loadVar_row w g t ty cs (0, 0) d hg hu hd hi]
theorem results_tmp_cell_row {fn : Func} {p u : Tmp} {ty : TypeId} (h : fn.results = #[.tmp u, .cell p ty]) (tmps : Array Value) {g : Nat} {t : TypeId} {cs : Array Value} {d : TypeDesc}
    (hp : tmps.getD p undef = .pointer (some ⟨g, 0, none⟩)) (hg : Blk w g t cs) (hu : P.underlying ty = some d) (hd : (match d with | .struct _ | .array _ _ => true | _ => false) = true) (hi : (P.info? ty).map (·.size) = some cs.size) :
    (results fn tmps).run P w = .ok (.tuple #[tmps.getD u undef, .agg cs]) w := by
  have hp' : tmps[p]?.getD undef = .pointer (some ⟨g, 0, none⟩) := by simpa using hp
  simp [results, h, hp', asAddr, run_loadVar_row w g t ty cs (0, 0) d hg hu hd hi]
theorem bv_all (l : List Nat) : (bv l).toArray.all (·.oneCell') = true := by
  rw [Array.all_eq_true']
  intro v hv
  exact bv_one l v (by simpa using hv)
theorem bv_size (l : List Nat) : (bv l).toArray.size = l.length := by rw [List.size_toArray, bv_len]
theorem bv_take (l : List Nat) (k : Nat) : (bv l).take k = bv (l.take k) := by unfold bv; rw [List.map_take]
theorem bv_drop (l : List Nat) (k : Nat) : (bv l).drop k = bv (l.drop k) := by unfold bv; rw [List.map_drop]
/-- rows taken and left -/
theorem rows_take {k : Nat} : ∀ {L : List (List Nat)} (_ : ∀ r ∈ L, r.length = k) (i : Nat), L.flatten.take (i * k) = (L.take i).flatten
  | [], _, i => by simp
  | r :: L, h, 0 => by simp
  | r :: L, h, i + 1 => by
    have hr := h r List.mem_cons_self
    rw [List.flatten_cons, List.take_succ_cons, List.flatten_cons, List.take_append, hr, List.take_of_length_le (by rw [hr, Nat.add_mul]; omega), show (i + 1) * k - k = i * k from by rw [Nat.add_mul]; omega, rows_take (fun x hx => h x (List.mem_cons_of_mem _ hx)) i]
theorem rows_drop {k : Nat} : ∀ {L : List (List Nat)} (_ : ∀ r ∈ L, r.length = k) (i : Nat), L.flatten.drop (i * k) = (L.drop i).flatten
  | [], _, i => by simp
  | r :: L, h, 0 => by simp
  | r :: L, h, i + 1 => by
    have hr := h r List.mem_cons_self
    rw [List.flatten_cons, List.drop_succ_cons, List.drop_append, hr, List.drop_of_length_le (by rw [hr, Nat.add_mul]; omega), List.nil_append, show (i + 1) * k - k = i * k from by rw [Nat.add_mul]; omega, rows_drop (fun x hx => h x (List.mem_cons_of_mem _ hx)) i]
variable {o : Oper} {a : Act}
theorem exec_zero_bytes (t e : TypeId) (n : Nat) (ho : o.op = .build t #[]) (hu : P.underlying t = some (.array n e)) (hi : (P.info? e).map (·.size) = some 1) (hz : (P.info? t).map (·.zero) = some (some (.agg (bv (List.replicate n 0)).toArray))) :
    (execOp a.eval o).run P w = .ok (.value (.agg (bv (List.replicate n 0)).toArray)) w :=
  exec_build_bytes (P := P) t e n #[] ho hu hi hz [] rfl (fun p h => by cases h)
theorem exec_assert_yes (x : Operand) (xT ta : TypeId) (ok : Bool) (ho : o.op = .typeAssert x xT ta ok) {v : Value} (hx : a.eval x = .iface ta v) {e : TypeId} (hu : P.underlying ta = some (.pointer e)) :
    (execOp a.eval o).run P w = .ok (.value (if ok then .tuple #[v, .bool true] else v)) w := by
  cases ok <;> simp [execOp, ho, hx, Instr.typeAssert, run_underlying hu, Result.andThen]
theorem exec_assert_no (x : Operand) (xT ta : TypeId) (ho : o.op = .typeAssert x xT ta true) {v : Value} {t : TypeId} (hx : a.eval x = .iface t v) (hne : t ≠ ta) {e : TypeId} (hu : P.underlying ta = some (.pointer e)) {z : Value} {n : Nat} (hz : (P.info? ta).map (fun i => (i.zero, i.size)) = some (some z, n)) :
    (execOp a.eval o).run P w = .ok (.value (.tuple #[z, .bool false])) w := by
  simp [execOp, ho, hx, Instr.typeAssert, run_underlying hu, hne, zero_of hz, Result.andThen]
variable {ops : Array Oper} {rest : List Oper} {Q : Exit → Act → World → Prop}
theorem wpList_box_var (T : TypeId) (x : Operand) (hg : Region.wanted o (yielded ops a.tmps) = true) (ho : o.op = .box T x) (cs : Array Value) (hx : a.eval x = .agg cs)
    (hK : ∀ w', Blk w' w.heap.size T cs → Mod Nn w w' → w'.heap.size = w.heap.size + 1 → wpList P ops Q rest (a.put o.dst (.pointer (some ⟨w.heap.size, 0, none⟩))) w') : wpList P ops Q (o :: rest) a w := by
  have hr := exec_box (P := P) (w := w) (a := a) T x ho
  rw [hx] at hr
  exact wpList_val hg hr (hK _ (Blk.new w T cs) ((Mod.refl Nn w).alloc _) (by simp))
theorem pc_box {S : World → Prop} {ps : List (Nat × Bool)} {j : Nat} (T : TypeId) (x : Operand) (hj : ops[j]? = some o) (hg : Region.wanted o (yielded ops a.tmps) = true) (ho : o.op = .box T x) (cs : Array Value) (hx : a.eval x = .agg cs)
    (hK : ∀ w', Blk w' w.heap.size T cs → Mod Nn w w' → S w' ∧ ∀ K : Act → Prop, (∀ a', wpPlC P ops Q S ps a' w' → K a') → K (a.put o.dst (.pointer (some ⟨w.heap.size, 0, none⟩)))) : wpPlC P ops Q S ((j, false) :: ps) a w := by
  have hr := exec_box (P := P) (w := w) (a := a) T x ho
  rw [hx] at hr
  obtain ⟨h3, h4⟩ := hK _ (Blk.new w T cs) ((Mod.refl Nn w).alloc _)
  exact ⟨o, hj, .inl ⟨hg, by unfold Oper.wp; rw [hr]; exact ⟨h3, h4 (fun a' => wpPlC P ops Q S ps a' _) (fun _ h => h)⟩⟩⟩
theorem pc_mk1 {S : World → Prop} {ps : List (Nat × Bool)} {j : Nat} (t e : TypeId) (x : Operand) (hj : ops[j]? = some o) (hg : Region.wanted o (yielded ops a.tmps) = true) (ho : o.op = .buildSlice t 1 #[(0, x)]) {z : Value} {s : Nat} (hu : P.underlying t = some (.slice e)) (hi : (P.info? e).map (fun i => (i.zero, i.size)) = some (some z, s)) (hs : 0 < s) (hsm : s ≤ 16777216)
    {v : Value} {ys : List Value} (hx : a.eval x = v) (hv : v.cells = ys.toArray) (hX : ys.length = s)
    (hK : ∀ w', Blk w' w.heap.size e ys.toArray → Mod Nn w w' → S w' ∧ ∀ K : Act → Prop, (∀ a', wpPlC P ops Q S ps a' w' → K a') → K (a.put o.dst (.slice (some ⟨w.heap.size, 0, none⟩) 1 1))) : wpPlC P ops Q S ((j, false) :: ps) a w := by
  have hr := exec_bslice1 (P := P) (w := w) (a := a) t e x ho hu hi hs hsm hx hv (by simpa using hX)
  obtain ⟨h3, h4⟩ := hK _ (Blk.new w e ys.toArray) ((Mod.refl Nn w).alloc _)
  exact ⟨o, hj, .inl ⟨hg, by unfold Oper.wp; rw [hr]; exact ⟨h3, h4 (fun a' => wpPlC P ops Q S ps a' _) (fun _ h => h)⟩⟩⟩
theorem wpList_mk1 (t e : TypeId) (x : Operand) (hg : Region.wanted o (yielded ops a.tmps) = true) (ho : o.op = .buildSlice t 1 #[(0, x)]) {z : Value} {s : Nat} (hu : P.underlying t = some (.slice e)) (hi : (P.info? e).map (fun i => (i.zero, i.size)) = some (some z, s)) (hs : 0 < s) (hsm : s ≤ 16777216)
    {v : Value} {ys : List Value} (hx : a.eval x = v) (hv : v.cells = ys.toArray) (hX : ys.length = s)
    (hK : ∀ w', Blk w' w.heap.size e ys.toArray → Mod Nn w w' → wpList P ops Q rest (a.put o.dst (.slice (some ⟨w.heap.size, 0, none⟩) 1 1)) w') : wpList P ops Q (o :: rest) a w := by
  have hr := exec_bslice1 (P := P) (w := w) (a := a) t e x ho hu hi hs hsm hx hv (by simpa using hX)
  exact wpList_val hg hr (hK _ (Blk.new w e ys.toArray) ((Mod.refl Nn w).alloc _))
theorem pt_mk1 {S : World → Prop} {c : Nat} {ps : List (Nat × Nat)} {d : Bool} {j : Nat} (t e : TypeId) (x : Operand) (hj : ops[j]? = some o) (hg : Region.wanted o (yielded ops a.tmps) = true) (ho : o.op = .buildSlice t 1 #[(0, x)]) {z : Value} {s : Nat} (hu : P.underlying t = some (.slice e)) (hi : (P.info? e).map (fun i => (i.zero, i.size)) = some (some z, s)) (hs : 0 < s) (hsm : s ≤ 16777216)
    {v : Value} {ys : List Value} (hx : a.eval x = v) (hv : v.cells = ys.toArray) (hX : ys.length = s)
    (hK : ∀ w', Blk w' w.heap.size e ys.toArray → Mod Nn w w' → ((d || j == c) = false → S w') ∧ ∀ K : Act → Prop, (∀ a', wpPT P ops Q S c ps (d || j == c) a' w' → K a') → K (a.put o.dst (.slice (some ⟨w.heap.size, 0, none⟩) 1 1))) : wpPT P ops Q S c ((j, 2) :: ps) d a w := by
  have hr := exec_bslice1 (P := P) (w := w) (a := a) t e x ho hu hi hs hsm hx hv (by simpa using hX)
  obtain ⟨h3, h4⟩ := hK _ (Blk.new w e ys.toArray) ((Mod.refl Nn w).alloc _)
  exact pt_val hj hg hr h3 h4
theorem RdC.tail {A : Option Addr} {n c s k : Nat} {xs : List Value} (h : RdC w A n s xs) (hs : 0 < s) (hk : k ≤ n) (hc : n ≤ c) : RdC w (subA A c k s) (n - k) s (xs.drop (k * s)) := by
  have := h.sub (c := c) hs k (n - k) (by omega) hc
  rwa [List.take_of_length_le (by rw [List.length_drop, h.1, ← Nat.sub_mul]; exact Nat.le_refl _)] at this
end
end Go.Proofs.YtijmkbhbpbkkoaaGreat

/- An element put into a row at the beginning of a block. No program is named. -/
namespace Go.Proofs.YtijmkbhbpbkkoaaGreat
open Go.RowKit

theorem Hold.put {w : World} {e : TypeId} {s n c g : Nat} {xs ys : List Value} {i : Nat} (h : Hold w e s (some ⟨g, 0, none⟩) n c xs) (hi : i < n) (hy : ys.length = s) :
    ∃ cur, Blk w g e cur ∧ i * s + s ≤ cur.size ∧ ∀ w1, Blk w1 g e (cur.toList.take (i * s) ++ ys ++ cur.toList.drop (i * s + s)).toArray → Hold w1 e s (some ⟨g, 0, none⟩) n c (xs.take (i * s) ++ ys ++ xs.drop (i * s + s)) := by
  rcases h.2 with ⟨h0, _⟩ | ⟨g', cur, hA, hb, h1, h2, h3, h4⟩
  · cases h0
  injection hA with hA; injection hA with hA; subst hA
  have hn := Nat.mul_le_mul_right s (show i + 1 ≤ n from hi)
  have hnc := Nat.mul_le_mul_right s h1
  rw [Nat.add_mul, Nat.one_mul] at hn
  have hxl := h.1
  have hcl : cur.toList.length = cur.size := Array.length_toList
  refine ⟨cur, hb, by omega, fun w1 hb1 => ⟨?_, .inr ⟨g, _, rfl, hb1, h1, h2, ?_, ?_⟩⟩⟩
  · simp only [List.length_append, List.length_take, List.length_drop]; omega
  · simp only [List.size_toArray, List.length_append, List.length_take, List.length_drop]; omega
  · obtain ⟨r, hr⟩ : ∃ r, i * s + s + r = n * s := ⟨n * s - (i * s + s), by omega⟩
    have e1 : xs.take (i * s) = cur.toList.take (i * s) := by rw [← h4, List.take_take, Nat.min_eq_left (by omega)]
    have e2 : xs.drop (i * s + s) = (cur.toList.drop (i * s + s)).take r := by rw [← h4, List.drop_take, show n * s - (i * s + s) = r from by omega]
    have e3 : (cur.toList.take (i * s) ++ ys).length = i * s + s := by rw [List.length_append, List.length_take, hy]; omega
    show List.take (n * s) (List.take (i * s) cur.toList ++ ys ++ List.drop (i * s + s) cur.toList) = _
    rw [e1, e2, List.take_append, e3, List.take_of_length_le (by rw [e3]; omega), show n * s - (i * s + s) = r from by omega]
end Go.Proofs.YtijmkbhbpbkkoaaGreat

/- append in a plan of a drawn region, onto a row at the beginning of a block. No program is named. -/
namespace Go.Proofs.YtijmkbhbpbkkoaaGreat
open Go.RowKit

theorem pt_append_hold {P : Program} {w : World} {e : TypeId} {n cap : Nat} {A : Option Addr} {xs : List Value} {o : Oper} {a : Act} {ops : Array Oper} {Q : Exit → Act → World → Prop} {S : World → Prop} {c : Nat} {ps : List (Nat × Nat)} {d : Bool} {j : Nat}
    (s : Nat) (t : TypeId) (sl x : Operand) (hj : ops[j]? = some o) (hg : Region.wanted o (yielded ops a.tmps) = true) (ho : o.op = .call { callee := .builtin .append, args := #[sl, x], argTypes := #[t, t] }) (z : Value) (bytes : Nat) (ht : P.underlying t = some (.slice e))
    (hi : (P.info? e).map (fun i => (i.zero, i.size, i.bytes)) = some (some z, s, bytes)) (hzs : z.cells.size = s) (hs0 : 0 < s)
    (hsl : a.eval sl = .slice A n cap) (h : Hold w e s A n cap xs) {B : Option Addr} {m q : Nat} {news : List Value} (hx : a.eval x = .slice B m q) (hr : RdC w B m s news) (h1 : ∀ u ∈ news, u.oneCell' = true)
    (hbytes : (n + m) * bytes ≤ 140737488355328) (h63 : n + m ≤ 140737488355328)
    (hK : ∀ A' c' w1, Hold w1 e s A' (n + m) c' (xs ++ news) → Mod (Of A) w w1 → (∀ g, Of A' g → Of A g ∨ w.heap.size ≤ g) → ((d || j == c) = false → S w1) ∧ ∀ K : Act → Prop, (∀ a', wpPT P ops Q S c ps (d || j == c) a' w1 → K a') → K (a.put o.dst (.slice A' (n + m) c'))) : wpPT P ops Q S c ((j, 2) :: ps) d a w := by
  obtain ⟨A', c', w1, r, r1, r2, r3⟩ := exec_append_hold (P := P) s t sl x ho z bytes ht hi hzs hs0 hsl h hx hr h1 hbytes h63
  obtain ⟨h3, h4⟩ := hK A' c' w1 r1 r2 r3
  exact pt_val hj hg r h3 h4
end Go.Proofs.YtijmkbhbpbkkoaaGreat

/- A method called through an interface. No program is named. -/
namespace Go.Proofs.YtijmkbhbpbkkoaaGreat
open Go.RowKit

section
variable {P : Program} {w : World} {o : Oper} {a : Act}
theorem exec_invoke {x : Operand} {name : String} (ho : o.op = .call { callee := .invoke x name, args := #[], argTypes := #[] }) {T : TypeId} {rv : Value} (hx : a.eval x = .iface T rv) {f : FuncId}
    (hm : (method (P.types.size + Made.depth) T rv name).run P w = .ok (f, rv) w) {fn : Func} (hf : P.funcs[f]? = some fn) (hn : (fn.name == "runtime.NumGoroutine") = false) (hb : fn.body.isNone = false) :
    (execOp a.eval o).run P w = .ok (.enter f #[rv]) w := by
  have hc : ∀ args w, (callFunc f args).run P w = .ok (.enter f args) w := fun args w => by
    have hn' : ¬ fn.name = "runtime.NumGoroutine" := by simpa using hn
    have hb' : ¬ fn.body = none := by intro h; rw [h] at hb; cases hb
    simp [callFunc, hf, hn', hb']
  have hcm : (callMethod (.iface T rv) name #[]).run P w = .ok (.enter f #[rv]) w := by
    simp only [callMethod, Sem.run_bind, run_program, Result.andThen_ok, hm]
    simp [hc]
  simp [execOp, ho, resolve, invoke, hx, hcm, Result.andThen]
theorem wpList_enters {ops : Array Oper} {rest : List Oper} {Q : Exit → Act → World → Prop} (hg : Region.wanted o (yielded ops a.tmps) = true) {f : FuncId} {args : Array Value} (hrun : (execOp a.eval o).run P w = .ok (.enter f args) w)
    {R : Value → World → Prop} (hc : Calls P f args w fun e w1 => ∃ v, e = .returned v ∧ R v w1) (h : ∀ v w1, R v w1 → wpList P ops Q rest (a.put o.dst v) w1) : wpList P ops Q (o :: rest) a w :=
  wpList_step fun _ hK => by
    rw [if_pos hg]; unfold Oper.wp; rw [hrun]
    exact hc.mono fun e w1 ⟨v, he, hr⟩ => by subst he; exact hK _ _ (h v w1 hr)
end
end Go.Proofs.YtijmkbhbpbkkoaaGreat

/- A variable made beside a call that only reads, in whichever order. No program is named. -/
namespace Go.Proofs.YtijmkbhbpbkkoaaGreat
open Go.RowKit

section
variable {P : Program} {ops : Array Oper} {Q : Exit → Act → World → Prop} {S : World → Prop} {c k : Nat} {ps : List (Nat × Nat)} {d : Bool} {a : Act} {w : World}
theorem pu_alloc_call {j : Nat} {o o' : Oper} (ho : ops[k]? = some o) (ho' : ops[j]? = some o') (hg : ∀ y, Region.wanted o y = true) (hg' : ∀ y, Region.wanted o' y = true)
    (T : TypeId) (hT : o.op = .alloc T) {z : Value} {n : Nat} (hi : (P.info? T).map (fun i => (i.zero, i.size)) = some (some z, n)) {f : FuncId} {args : Array Value}
    (hE1 : ∀ v w1, (execOp (a.put o.dst v).eval o').run P w1 = .ok (.enter f args) w1) (hE2 : ∀ w1, (execOp a.eval o').run P w1 = .ok (.enter f args) w1)
    {R : Value → Prop} (hc : ∀ wz, Mod Nn w wz → Calls P f args wz fun e w' => ∃ u, e = .returned u ∧ Mod Nn wz w' ∧ R u)
    (hS : ∀ w', Mod Nn w w' → S w') (hcomm : ∀ u v, (a.put o'.dst u).put o.dst v = (a.put o.dst v).put o'.dst u)
    (h : ∀ u g w', R u → w.heap.size ≤ g → Blk w' g T z.cells → Mod Nn w w' → ∀ K : Act → Prop, (∀ a', wpPU P ops Q S c ps d a' w' → K a') → K ((a.put o.dst (.pointer (some ⟨g, 0, none⟩))).put o'.dst u)) :
    wpPU P ops Q S c ((k, j + 3) :: ps) d a w := by
  have m1 : Mod Nn w (w.alloc (.cells z.cells T)) := (Mod.refl Nn w).alloc _
  have b1 : Blk (w.alloc (.cells z.cells T)) w.heap.size T z.cells := Blk.new _ _ _
  refine pu_pair ho ho' hg hg' (fun K hK => ⟨_, _, f, args, ⟨exec_alloc T hT hi, hE1 _ _, hE2 _⟩, fun _ => hS _ m1, (hc _ m1).mono ?_, (hc w (Mod.refl _ _)).mono ?_⟩)
  · rintro e w' ⟨u, rfl, hm, hR⟩
    exact ⟨u, rfl, fun _ => hS _ (m1.nn_ hm), h u _ w' hR (Nat.le_refl _) (b1.mod hm (fun f => f)) (m1.nn_ hm) (fun a' => K a' w') (fun a' h' => hK a' w' h')⟩
  · rintro e w' ⟨u, rfl, hm, hR⟩
    have m2 : Mod Nn w (w'.alloc (.cells z.cells T)) := hm.alloc _
    refine ⟨u, rfl, fun _ => hS _ hm, _, _, exec_alloc T hT hi, fun _ => hS _ m2, ?_⟩
    rw [hcomm]
    exact h u _ _ hR hm.size (Blk.new _ _ _) m2 (fun a' => K a' _) (fun a' h' => hK a' _ h')
end
end Go.Proofs.YtijmkbhbpbkkoaaGreat

/- A slice made of several elements' values at once. No program is named. -/
namespace Go.Proofs.YtijmkbhbpbkkoaaGreat
open Go.RowKit

section
variable {P : Program} {w : World} {o : Oper} {a : Act}
theorem exec_bsliceN (t e : TypeId) (n : Nat) (xs : Array (Nat × Operand)) (vs : List Value) (ho : o.op = .buildSlice t n xs) {z : Value} {s : Nat} (hu : P.underlying t = some (.slice e)) (hi : (P.info? e).map (fun i => (i.zero, i.size)) = some (some z, s)) (hs : 0 < n * s) (hsm : n * s ≤ 16777216)
    (hx : (xs.map fun p => (p.1, a.eval p.2)).toList = vs.zipIdx.map (fun p => (p.2, p.1))) (hn : vs.length = n) (hv : ∀ v ∈ vs, v.cells.size = s) :
    (execOp a.eval o).run P w = .ok (.value (.slice (some ⟨w.heap.size, 0, none⟩) n n)) (w.alloc (.cells (vs.flatMap (fun v => v.cells.toList)).toArray e)) := by
  obtain ⟨ie, hie, h⟩ := Option.map_eq_some_iff.1 hi
  simp only [Prod.mk.injEq] at h
  obtain ⟨hz, hsz⟩ := h
  have hs0 : 0 < s := Nat.pos_of_ne_zero (fun e => by subst e; simp at hs)
  have hf := Great.fill_whole hs0 vs ((Array.range (n * s)).map (z.cells[· % z.cells.size]!)) hv (by simp [hn])
  have hr := run_buildSlice (P := P) w t e n (xs.map fun p => (p.1, a.eval p.2)) (vs.flatMap (fun v => v.cells.toList)).toArray ie z hu hie hz (by rw [hsz]; omega) (by rw [hsz]; omega) (by
    rw [hsz, hx]
    exact hf)
  simp only [execOp, ho]
  simp [hr, Result.andThen]
end
end Go.Proofs.YtijmkbhbpbkkoaaGreat

/- A struct of several fields built at once; what is stored, one operation at a time. No program is named. -/
namespace Go.Proofs.YtijmkbhbpbkkoaaGreat
open Go.RowKit

theorem foldl_put : ∀ (Y : List Value) (k off : Nat) (A B C : List Value), A.length = off + k → B.length = Y.length → (Y.zipIdx k).foldl (fun (cs : Array Value) x => cs.setIfInBounds (off + x.snd) x.fst) (A ++ B ++ C).toArray = (A ++ Y ++ C).toArray
  | [], k, off, A, B, C, _, hB => by
    obtain rfl : B = [] := List.eq_nil_of_length_eq_zero (by simpa using hB)
    rfl
  | v :: Y, k, off, A, B, C, hA, hB => by
    obtain ⟨u, B', rfl⟩ : ∃ u B', B = u :: B' := by
      cases B with
      | nil => simp at hB
      | cons u B' => exact ⟨u, B', rfl⟩
    have ih := foldl_put Y (k + 1) off (A ++ [v]) B' C (by simp [hA]; omega) (by simpa using hB)
    rw [List.zipIdx_cons, List.foldl_cons]
    have e : (A ++ u :: B' ++ C).toArray.setIfInBounds (off + k) v = (A ++ [v] ++ B' ++ C).toArray := by
      rw [List.setIfInBounds_toArray, List.append_assoc, List.set_append_right _ _ (by omega), hA, Nat.sub_self]
      simp
    show List.foldl _ ((A ++ u :: B' ++ C).toArray.setIfInBounds (off + k) v) _ = _
    rw [e, ih]
    simp
/-- where fields stand one behind the other -/
def offs : Nat → List Value → List (Nat × Nat)
  | _, [] => []
  | o, v :: vs => (o, v.cells.size) :: offs (o + v.cells.size) vs
def cellsOf (vs : List Value) : List Value := vs.flatMap (fun v => v.cells.toList)
theorem fill_seq : ∀ (vs : List Value) (k : Nat) (A Z : List Value) (pl : Nat → Option (Nat × Nat)), (cellsOf vs).length ≤ Z.length → (∀ (i : Nat) (p : Nat × Nat), (offs A.length vs)[i]? = some p → pl (k + i) = some p) →
    Instr.fill pl (A ++ Z).toArray ((vs.zipIdx k).map (fun p => (p.2, p.1))) = some (A ++ cellsOf vs ++ Z.drop (cellsOf vs).length).toArray
  | [], k, A, Z, pl, _, _ => by simp [Instr.fill, cellsOf]
  | v :: vs, k, A, Z, pl, hZ, hp => by
    have hc : cellsOf (v :: vs) = v.cells.toList ++ cellsOf vs := List.flatMap_cons
    have hl : v.cells.toList.length = v.cells.size := Array.length_toList
    rw [hc, List.length_append, hl] at hZ
    have e : Z = Z.take v.cells.size ++ Z.drop v.cells.size := (List.take_append_drop _ Z).symm
    have h0 : pl k = some (A.length, v.cells.size) := hp 0 _ rfl
    have ih := fill_seq vs (k + 1) (A ++ v.cells.toList) (Z.drop v.cells.size) pl (by rw [List.length_drop]; omega) (fun i p hi => by
      have := hp (i + 1) p (by
        rw [List.length_append, hl] at hi
        exact hi)
      rwa [Nat.add_assoc, Nat.add_comm 1 i])
    have hf := foldl_put v.cells.toList 0 A.length A (Z.take v.cells.size) (Z.drop v.cells.size) (by omega) (by rw [List.length_take, hl]; omega)
    rw [List.zipIdx_cons, List.map_cons]
    simp only [Instr.fill, h0]
    rw [if_neg (by
      have h1 : A.length + v.cells.size ≤ (A ++ Z).toArray.size := by
        show _ ≤ (A ++ Z).length
        rw [List.length_append]
        omega
      intro hc
      rcases Bool.or_eq_true_iff.1 hc with h | h
      · exact of_decide_eq_true h rfl
      · exact absurd (of_decide_eq_true h) (Nat.not_lt.2 h1))]
    have hz : (v.cells.zipIdx.foldl (fun (cs : Array Value) x => cs.setIfInBounds (A.length + x.snd) x.fst) (A ++ Z).toArray) = (A ++ v.cells.toList ++ Z.drop v.cells.size).toArray := by
      conv => lhs; rw [e]
      rw [← List.append_assoc, ← hf, ← Array.foldl_toList, Array.toList_zipIdx]
    show Instr.fill _ (v.cells.zipIdx.foldl (fun (cs : Array Value) x => cs.setIfInBounds (A.length + x.snd) x.fst) (A ++ Z).toArray) _ = _
    rw [hz, ih, hc, List.length_append, hl, List.drop_drop, List.append_assoc A]
section
variable {P : Program} {w : World} {o : Oper} {a : Act}
theorem exec_build_seq (t : TypeId) (xs : Array (Nat × Operand)) (vs : List Value) (ho : o.op = .build t xs) {z : Value} {zs : List Value} (hz : (P.info? t).map (·.zero) = some (some z)) (hzc : z.cells = zs.toArray) (hzs : (cellsOf vs).length ≤ zs.length)
    {fields : Array Field} (hu : P.underlying t = some (.struct fields)) (pl : List (Nat × Nat)) (hpl : fields.toList.mapM (fun f => (P.info? f.type).map fun i => (f.offset, i.size)) = some pl)
    (hvs : ∀ (i : Nat) (p : Nat × Nat), (offs 0 vs)[i]? = some p → pl[i]? = some p)
    (hx : (xs.map fun p => (p.1, a.eval p.2)).toList = vs.zipIdx.map (fun p => (p.2, p.1))) : (execOp a.eval o).run P w = .ok (.value (.agg (cellsOf vs ++ zs.drop (cellsOf vs).length).toArray)) w := by
  obtain ⟨it, hit, hzz⟩ := Option.map_eq_some_iff.1 hz
  have hf := fill_seq vs 0 [] zs (fun i => pl.toArray[i]?) hzs (fun i p hi => by rw [Nat.zero_add]; simpa using hvs i p hi)
  simp only [List.nil_append] at hf
  have hb : P.built t (xs.map fun p => (p.1, a.eval p.2)).toList = some (cellsOf vs ++ zs.drop (cellsOf vs).length).toArray := by
    unfold Program.built
    rw [hit, hu]
    simp only [hzz, hpl]
    rw [hx, hzc]
    exact hf
  have hr := run_build (P := P) w t _ _ hb
  simp only [execOp, ho]
  simp [hr, Result.andThen]
end
end Go.Proofs.YtijmkbhbpbkkoaaGreat
