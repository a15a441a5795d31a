/- '==' and '!=' of arrays of bytes, and of structs of two such arrays. No program is named. -/
import Derived.Test.YtodnhbiomooknaaGreatKitC
import Derived.Test.YtodnhbiomooknaaGreatKitD
import Derived.Stop.BytesEq
namespace Go.Proofs.YtodnhbiomooknaaGreat
open Go.RowKit

theorem foldl_sets : ∀ (X : List Value) (k : Nat) (A : List Value) (B : List Value), A.length = k → (X.zipIdx k).foldl (fun (cs : Array Value) x => cs.setIfInBounds x.snd x.fst) (A ++ List.replicate X.length (Value.int .u8 0) ++ B).toArray = (A ++ X ++ B).toArray
  | [], k, A, B, _ => by simp
  | v :: X, k, A, B, h => by
    have ih := foldl_sets X (k + 1) (A ++ [v]) B (by simp [h])
    rw [List.zipIdx_cons, List.foldl_cons]
    have e : (A ++ List.replicate (v :: X).length (Value.int .u8 0) ++ B).toArray.setIfInBounds k v = (A ++ [v] ++ List.replicate X.length (Value.int .u8 0) ++ B).toArray := by
      rw [List.setIfInBounds_toArray, List.length_cons, List.replicate_succ, List.append_assoc, List.set_append_right _ _ (by omega), h, Nat.sub_self]
      simp
    show List.foldl _ ((A ++ List.replicate (v :: X).length (Value.int .u8 0) ++ B).toArray.setIfInBounds k v) _ = _
    rw [e, ih]
    simp
section
variable {P : Program} {w : World}
theorem bv_cells {l : List Nat} (hl : ∀ z ∈ l, z < 256) : bv l = (l.map UInt8.ofNat).map Extern.Stop.cell := by
  unfold bv
  rw [List.map_map]
  refine List.map_congr_left fun z hz => ?_
  show _ = Value.int .u8 (Int.ofNat (UInt8.ofNat z).toNat)
  rw [UInt8.toNat_ofNat_of_lt' (hl z hz)]; rfl
theorem ofNat_inj8 : ∀ {l m : List Nat}, (∀ z ∈ l, z < 256) → (∀ z ∈ m, z < 256) → l.map UInt8.ofNat = m.map UInt8.ofNat → l = m
  | [], [], _, _, _ => rfl
  | [], _ :: _, _, _, h => by cases h
  | _ :: _, [], _, _, h => by cases h
  | a :: l, b :: m, hl, hm, h => by
    injection h with h1 h2
    have ha := hl a List.mem_cons_self
    have hb := hm b List.mem_cons_self
    have := congrArg UInt8.toNat h1
    rw [UInt8.toNat_ofNat', UInt8.toNat_ofNat', Nat.mod_eq_of_lt ha, Nat.mod_eq_of_lt hb] at this
    rw [this, ofNat_inj8 (fun z hz => hl z (List.mem_cons_of_mem _ hz)) (fun z hz => hm z (List.mem_cons_of_mem _ hz)) h2]
theorem beq_bytes {l k : List Nat} (zl : ∀ z ∈ l, z < 256) (zk : ∀ z ∈ k, z < 256) : (l.map UInt8.ofNat == k.map UInt8.ofNat) = decide (l = k) := by
  by_cases h : l = k
  · rw [h]; simp
  · rw [decide_eq_false h, beq_eq_false_iff_ne]
    exact fun e => h (ofNat_inj8 zl zk e)
/-- arrays of bytes -/
theorem equal_bytes (d : Nat) (t e : TypeId) (n : Nat) (ht : P.underlying t = some (.array n e)) (he : P.underlying e = some (.int .u8)) (hsz : ∀ w, (sizeOf e).run P w = .ok 1 w)
    {l k : List Nat} (hl : l.length = n) (hk : k.length = n) (zl : ∀ z ∈ l, z < 256) (zk : ∀ z ∈ k, z < 256) :
    (Op.equalIn (d + 2) t (.agg (bv l).toArray) (.agg (bv k).toArray)).run P w = .ok (decide (l = k)) w := by
  rw [bv_cells zl, bv_cells zk, run_equalIn_bytes w d t e n ht he hsz _ _ (by rw [List.length_map]; exact hl) (by rw [List.length_map]; exact hk), beq_bytes zl zk]
theorem part_bytes (t e : TypeId) (n : Nat) (ht : P.underlying t = some (.array n e)) (hs : ∀ w, (sizeOf t).run P w = .ok n w) (l : List Nat) (off : Nat) :
    (part t (bv l).toArray off).run P w = .ok (.agg (bv ((l.drop off).take n)).toArray) w := by
  simp [part, isAgg, run_underlying ht, hs]
  unfold bv
  rw [List.map_take, List.map_drop]
/-- structs of two arrays of n bytes -/
theorem equal_pair (d : Nat) (t : TypeId) (f g : Field) (e : TypeId) (n : Nat) (hu : P.underlying t = some (.struct #[f, g])) (hp : P.stoodInHeld t = false) (nf : f.name ≠ "_") (ng : g.name ≠ "_")
    (of : f.offset = 0) (og : g.offset = n) (uf : P.underlying f.type = some (.array n e)) (ug : P.underlying g.type = some (.array n e))
    (sf : ∀ w, (sizeOf f.type).run P w = .ok n w) (sg : ∀ w, (sizeOf g.type).run P w = .ok n w) (he : P.underlying e = some (.int .u8)) (hsz : ∀ w, (sizeOf e).run P w = .ok 1 w)
    {l k : List Nat} (hl : l.length = n + n) (hk : k.length = n + n) (zl : ∀ z ∈ l, z < 256) (zk : ∀ z ∈ k, z < 256) :
    (Op.equalIn (d + 3) t (.agg (bv l).toArray) (.agg (bv k).toArray)).run P w = .ok (decide (l = k)) w := by
  have hfs : P.fieldsOf t = #[f, g] := by simp [Program.fieldsOf, hu]
  have zt : ∀ {m : List Nat}, (∀ z ∈ m, z < 256) → ∀ a b : Nat, ∀ z ∈ (m.drop a).take b, z < 256 := fun h a b z hz => h z (List.mem_of_mem_drop (List.mem_of_mem_take hz))
  rw [show d + 3 = (d + 2) + 1 from rfl, run_equalIn_struct w (d + 2) t _ _ (by rw [hfs]; exact hu) hp, hfs]
  have h1 := equal_bytes (P := P) (w := w) d f.type e n uf he hsz (l := (l.drop 0).take n) (k := (k.drop 0).take n) (by rw [List.length_take, List.length_drop]; omega) (by rw [List.length_take, List.length_drop]; omega) (zt zl 0 n) (zt zk 0 n)
  have h2 := equal_bytes (P := P) (w := w) d g.type e n ug he hsz (l := (l.drop n).take n) (k := (k.drop n).take n) (by rw [List.length_take, List.length_drop]; omega) (by rw [List.length_take, List.length_drop]; omega) (zt zl n n) (zt zk n n)
  have e1 : decide (l = k) = (decide ((l.drop 0).take n = (k.drop 0).take n) && decide ((l.drop n).take n = (k.drop n).take n)) := by
    rw [Bool.eq_iff_iff]
    simp only [decide_eq_true_eq, Bool.and_eq_true, List.drop_zero]
    constructor
    · rintro rfl; exact ⟨rfl, rfl⟩
    · rintro ⟨a, b⟩
      rw [List.take_of_length_le (by rw [List.length_drop]; omega), List.take_of_length_le (by rw [List.length_drop]; omega)] at b
      rw [← List.take_append_drop n l, ← List.take_append_drop n k, a, b]
  rw [e1]
  have p1 := fun m => part_bytes (P := P) (w := w) f.type e n uf sf m 0
  have p2 := fun m => part_bytes (P := P) (w := w) g.type e n ug sg m n
  generalize decide ((l.drop 0).take n = (k.drop 0).take n) = b1 at h1 ⊢
  generalize decide ((l.drop n).take n = (k.drop n).take n) = b2 at h2 ⊢
  simp only [List.drop_zero] at h1
  cases b1
  · simp [Op.eqFields, nf, of, p1, h1]
  · cases b2 <;> simp [Op.eqFields, nf, ng, of, og, p1, p2, h1, h2]
variable {o : Oper} {a : Act}
/-- a whole array or struct is stored into the middle of a block -/
theorem exec_store_at (T : TypeId) (x y : Operand) (ho : o.op = .store T x y) {g off : Nat} {cells cur : Array Value} {t : TypeId}
    (hx : a.eval x = .pointer (some ⟨g, off, none⟩)) (hy : a.eval y = .agg cells) (hb : Blk w g t cur) (hi : (P.info? T).map (·.size) = some cells.size)
    (hs : off + cells.size ≤ cur.size) (h1 : cells.all (·.oneCell') = true) :
    (execOp a.eval o).run P w = .ok .skip (w.setRow g (cur.toList.take off ++ cells.toList ++ cur.toList.drop (off + cells.size)).toArray) := by
  have hst := run_storeCells_at P g off t cells.toList 0 cur w hb (by simpa using hs) (fun v hv => by
    have := Array.all_eq_true_iff_forall_mem.1 h1 v (Array.mem_toList_iff.1 hv)
    simpa using this)
  obtain ⟨i, hii, hsz⟩ := Option.map_eq_some_iff.1 hi
  have hv : (storeVar T ⟨g, off, none⟩ (.agg cells)).run P w = .ok () (w.setRow g (cur.toList.take off ++ cells.toList ++ cur.toList.drop (off + cells.size)).toArray) := by
    simp only [Nat.add_zero, Array.length_toList] at hst
    simp [storeVar, Value.cells, sizeOf, typeInfo, hii, hsz, hst]
  simp [execOp, ho, hx, hy, Instr.storeAt, Instr.sureAddr, hv, Result.andThen]
theorem wpList_store_at {ops : Array Oper} {rest : List Oper} {Q : Exit → Act → World → Prop} (T : TypeId) (x y : Operand) (hg : Region.wanted o (yielded ops a.tmps) = true) (ho : o.op = .store T x y) (g off : Nat) (cells cur : Array Value) (t : TypeId)
    (hx : a.eval x = .pointer (some ⟨g, off, none⟩)) (hy : a.eval y = .agg cells) (hb : Blk w g t cur) (hi : (P.info? T).map (·.size) = some cells.size)
    (hs : off + cells.size ≤ cur.size) (h1 : cells.all (·.oneCell') = true)
    (h : ∀ w1, Blk w1 g t (cur.toList.take off ++ cells.toList ++ cur.toList.drop (off + cells.size)).toArray → Mod (At g) w w1 → w1.heap.size = w.heap.size → wpList P ops Q rest (a.put o.dst undef) w1) :
    wpList P ops Q (o :: rest) a w :=
  wpList_unit hg (exec_store_at T x y ho hx hy hb hi hs h1) (h _ (hb.setRow_ _) (Mod.rowAt _ _ _) (by simp))
theorem own_of_blkS {e : TypeId} {cur : Array Value} {base n cap s g : Nat} {xs : List Value} (h : Blk w g e cur) (hb : base ≤ g) (hs : cur.size = cap * s) (hcap : cap ≤ maxLen) (hn : n ≤ cap) (hx : cur.toList.take (n * s) = xs) :
    w.ownsRow base e s (.slice (some ⟨g, 0, none⟩) n cap) n xs :=
  ⟨by rw [← hx, List.length_take, Array.length_toList, hs]; exact Nat.min_eq_left (Nat.mul_le_mul_right _ hn), .inr ⟨g, cap, cur, rfl, hb, h, hn, hcap, hs, hx⟩⟩
theorem blk_of_ownS {e : TypeId} {base cap s g : Nat} {xs : List Value} (h : w.ownsRow base e s (.slice (some ⟨g, 0, none⟩) cap cap) cap xs) : Blk w g e xs.toArray := by
  rcases h.2 with ⟨h0, _⟩ | ⟨g', cap', cur, hv, _, hg, _, _, hcs, ht⟩
  · cases h0
  · injection hv with hv _ hc
    injection hv with hv; injection hv with hv _ _
    subst hv; subst hc
    have : cur = xs.toArray := by
      rw [← ht, ← hcs, List.take_of_length_le (by simp)]
    rw [← this]; exact hg
/-- an array of bytes of which the first is told -/
theorem exec_build_byte (t e : TypeId) (n : Nat) (x : Operand) (ho : o.op = .build t #[(0, x)]) (hu : P.underlying t = some (.array (n + 1) e)) (hi : (P.info? e).map (·.size) = some 1)
    (hz : (P.info? t).map (·.zero) = some (some (.agg (bv (List.replicate (n + 1) 0)).toArray))) {b : Nat} (hx : a.eval x = .int .u8 (b : Int)) :
    (execOp a.eval o).run P w = .ok (.value (.agg (bv (b :: List.replicate n 0)).toArray)) w := by
  obtain ⟨it, hit, hzz⟩ := Option.map_eq_some_iff.1 hz
  obtain ⟨ie, hie, hes⟩ := Option.map_eq_some_iff.1 hi
  have hb : P.built t (#[(0, .int .u8 (b : Int))] : Array (Nat × Value)).toList = some (bv (b :: List.replicate n 0)).toArray := by
    unfold Program.built
    rw [hit, hu]
    simp only [hzz, hie, hes]
    simp [Instr.fill, bv, Value.cells, List.replicate_succ]
  have hr := run_build (P := P) w t _ _ hb
  simp only [execOp, ho, List.map_toArray, List.map_cons, List.map_nil, hx]
  simp [hr, Result.andThen]
/-- a struct of two arrays of n bytes of which the first is told -/
theorem exec_build_first (t : TypeId) (x : Operand) (ho : o.op = .build t #[(0, x)]) {n : Nat} (hz : (P.info? t).map (·.zero) = some (some (.agg (bv (List.replicate (n + n) 0)).toArray)))
    {fields : Array Field} (hu : P.underlying t = some (.struct fields)) (hpl : fields.toList.mapM (fun f => (P.info? f.type).map fun i => (f.offset, i.size)) = some [(0, n), (n, n)])
    {l : List Nat} (hx : a.eval x = .agg (bv l).toArray) (hl : l.length = n) : (execOp a.eval o).run P w = .ok (.value (.agg (bv (l ++ List.replicate n 0)).toArray)) w := by
  obtain ⟨it, hit, hzz⟩ := Option.map_eq_some_iff.1 hz
  have hb : P.built t (#[(0, .agg (bv l).toArray)] : Array (Nat × Value)).toList = some (bv (l ++ List.replicate n 0)).toArray := by
    unfold Program.built
    rw [hit, hu]
    simp only [hzz, hpl]
    simp [Instr.fill, Value.cells, bv_len, hl]
    have := foldl_sets (l.map (fun c : Nat => Value.int .u8 (c : Int))) 0 [] (List.replicate n (Value.int .u8 0)) rfl
    rw [List.length_map, hl, List.nil_append, List.nil_append] at this
    unfold bv
    rw [List.map_append, List.map_replicate, List.map_replicate, ← List.replicate_append_replicate]
    exact this
  have hr := run_build (P := P) w t _ _ hb
  simp only [execOp, ho, List.map_toArray, List.map_cons, List.map_nil, hx]
  simp [hr, Result.andThen]
theorem exec_eql_agg (t u : TypeId) (x y : Operand) (ho : o.op = .binOp .eql t x y u) {X Y : Array Value} {b : Bool} (hx : a.eval x = .agg X) (hy : a.eval y = .agg Y) (hm : P.eqGuardType P.depth t = false)
    (hq : (Op.equalIn 10000 t (.agg X) (.agg Y)).run P w = .ok b w) : (execOp a.eval o).run P w = .ok (.value (.bool b)) w := by
  simp [execOp, ho, hx, hy, run_eqGuard_agg, hm, run_eql_struct, hq, Result.andThen]
theorem exec_neq_agg (t u : TypeId) (x y : Operand) (ho : o.op = .binOp .neq t x y u) {X Y : Array Value} {b : Bool} (hx : a.eval x = .agg X) (hy : a.eval y = .agg Y) (hm : P.eqGuardType P.depth t = false)
    (hq : (Op.equalIn 10000 t (.agg X) (.agg Y)).run P w = .ok b w) : (execOp a.eval o).run P w = .ok (.value (.bool (!b))) w := by
  simp [execOp, ho, hx, hy, run_eqGuard_agg, hm, run_neq_struct, hq, Result.andThen]
end
end Go.Proofs.YtodnhbiomooknaaGreat
