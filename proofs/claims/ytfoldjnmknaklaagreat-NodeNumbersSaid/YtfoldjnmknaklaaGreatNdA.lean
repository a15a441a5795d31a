/- Own lemmas of several kinds, put together: NdC, Nd0, Nd1, Nd2. -/
import Derived.Test.YtfoldjnmknaklaaGreatRows
import Derived.Test.YtfoldjnmknaklaaGreatKitD
import Derived.Lib.BytesEntry
import Derived.Lib.Bytealg
import Derived.Test.YtfoldjnmknaklaaGreatCrcB
import Derived.Deep.DeepCutAuto
/- entry.Compare: keys side by side. -/
namespace Go.Proofs.YtfoldjnmknaklaaGreat
open Go.RowKit

/-- which of two rows of bytes stands ahead -/
def lexc : List Nat → List Nat → Int
  | [], [] => 0
  | [], _ :: _ => -1
  | _ :: _, [] => 1
  | a :: l, b :: k => if a < b then -1 else if b < a then 1 else lexc l k
theorem lexc_cons (a b : Nat) (l k : List Nat) : lexc (a :: l) (b :: k) = if a < b then -1 else if b < a then 1 else lexc l k := by rw [lexc]
theorem lexc_self : ∀ l, lexc l l = 0
  | [] => rfl
  | a :: l => by unfold lexc; rw [if_neg (Nat.lt_irrefl a), if_neg (Nat.lt_irrefl a), lexc_self l]
theorem lexc_zero : ∀ {l k : List Nat}, lexc l k = 0 → l = k
  | [], [], _ => rfl
  | [], _ :: _, h => by cases h
  | _ :: _, [], h => by cases h
  | a :: l, b :: k, h => by
    unfold lexc at h
    split at h
    · cases h
    · split at h
      · cases h
      · rw [lexc_zero h, show a = b from by omega]
theorem u8_lt {a b : Nat} (ha : a < 256) (hb : b < 256) : UInt8.ofNat a < UInt8.ofNat b ↔ a < b := by
  rw [UInt8.lt_iff_toNat_lt, UInt8.toNat_ofNat', UInt8.toNat_ofNat', Nat.mod_eq_of_lt ha, Nat.mod_eq_of_lt hb]
theorem compare_lexc : ∀ {l k : List Nat}, (∀ z ∈ l, z < 256) → (∀ z ∈ k, z < 256) → Lib.compareBytes (l.map UInt8.ofNat) (k.map UInt8.ofNat) = lexc l k
  | [], [], _, _ => rfl
  | [], _ :: _, _, _ => rfl
  | _ :: _, [], _, _ => rfl
  | a :: l, b :: k, hl, hk => by
    have ha := hl a List.mem_cons_self
    have hb := hk b List.mem_cons_self
    show (if UInt8.ofNat a < UInt8.ofNat b then (-1 : Int) else if UInt8.ofNat b < UInt8.ofNat a then 1 else Lib.compareBytes (l.map UInt8.ofNat) (k.map UInt8.ofNat)) = _
    rw [compare_lexc (fun z hz => hl z (List.mem_cons_of_mem _ hz)) (fun z hz => hk z (List.mem_cons_of_mem _ hz))]
    rw [lexc_cons]
    simp only [u8_lt ha hb, u8_lt hb ha]
section
variable {P : Program} {w : World} {A B : Option Addr} {n m c d : Nat} {l k : List Nat}
theorem bytes_read (h : Rd w A n (bv l)) : (Extern.Bytes.bytesOf (.slice A n c)).run P w = .ok ⟨(l.map UInt8.ofNat).toArray⟩ w := by
  have hL : l.length = n := by have := h.1; simpa [bv] using this
  cases A with
  | none =>
    have hn0 : n = 0 := by
      rcases Nat.eq_zero_or_pos n with h0 | h0
      · exact h0
      · obtain ⟨_, _, h, _⟩ := h.2 h0; cases h
    subst hn0
    obtain rfl : l = [] := List.eq_nil_of_length_eq_zero hL
    rfl
  | some a =>
    have hx := Lib.run_loadBytesX (P := P) w (l.map (fun c : Nat => (c : Int))) a .empty (fun j x hj => by
      rw [List.getElem?_map] at hj
      obtain ⟨z, hz, rfl⟩ := Option.map_eq_some_iff.1 hj
      obtain ⟨g, off, hA, hc⟩ := h.2 (by have := (List.getElem?_eq_some_iff.1 hz).1; omega)
      injection hA with hA
      subst hA
      have hadd : (⟨g, off, none⟩ : Addr).add j = ⟨g, off + j, none⟩ := by unfold Addr.add; split <;> simp_all
      rw [hadd]
      exact hc j _ (by unfold bv; rw [List.getElem?_map, hz]; rfl))
    rw [List.length_map, hL] at hx
    show (Extern.Bytes.loadBytes a n .empty).run P w = _
    rw [hx]
    congr 1
    apply ByteArray.ext
    show (#[] : Array UInt8) ++ (Lib.bytesOf (l.map (fun c : Nat => (c : Int)))).toArray = _
    unfold Lib.bytesOf
    rw [List.map_map]
    simp
theorem run_cmp (ha : Rd w A n (bv l)) (hb : Rd w B m (bv k)) (hl : ∀ z ∈ l, z < 256) (hk : ∀ z ∈ k, z < 256) :
    (Extern.BytealgCompare.compare #[.slice A n c, .slice B m d]).run P w = .ok (.int .i64 (lexc l k)) w := by
  change Sem.run P (do pure (goInt (Extern.BytealgCompare.cmp (← Extern.Bytes.bytesOf (.slice A n c)) (← Extern.Bytes.bytesOf (.slice B m d))))) w = _
  simp only [Sem.run_bind, bytes_read ha, bytes_read hb, Sem.run_pure, Result.andThen]
  rw [Lib.cmp_eq]
  show Result.ok (goInt (Lib.compareBytes (l.map UInt8.ofNat).toArray.toList (k.map UInt8.ofNat).toArray.toList)) w = _
  rw [List.toList_toArray, List.toList_toArray, compare_lexc hl hk]
  rfl
end
section
variable {w : World} {A B : Option Addr} {n m c d : Nat} {l k : List Nat}
set_option maxRecDepth 100000 in
theorem bcompare_any (ha : Rd w A n (bv l)) (hb : Rd w B m (bv k)) (hl : ∀ z ∈ l, z < 256) (hk : ∀ z ∈ k, z < 256) :
    Calls Tryz.prog 64 #[.slice A n c, .slice B m d] w fun e w' => e = .returned (.int .i64 (lexc l k)) ∧ w = w' := by
  have hc := run_cmp (P := Tryz.prog) (c := c) (d := d) ha hb hl hk
  generalize lexc l k = X at *
  have HC := Lib.hid hc
  clear ha hb hc
  go_enter Tryz.func64, Tryz.ntmps64
  go_wp2
  rw [run_callFunc_extern Tryz.func93 (by kernel_rfl) (by kernel_rfl) (by kernel_rfl) (e := Extern.BytealgCompare.compare) (by kernel_rfl), HC.out]
  simp only [Result.andThen]
  rw [Oper.upon_value]
  go_wp2
  go_ret
  exact ⟨rfl, rfl⟩
set_option maxRecDepth 100000 in
set_option maxHeartbeats 1600000 in
theorem ecompare_any (w : World) (hl : ∀ z ∈ l, z < 256) (hk : ∀ z ∈ k, z < 256) (h1 : l.length = 40) (h2 : k.length = 40) :
    Calls Tryz.prog 41 #[.agg (bv l).toArray, .agg (bv k).toArray] w fun e w' => e = .returned (.int .i64 (lexc l k)) ∧ Mod Nn w w' := by
  have m1 : Mod Nn w ((w.alloc (.cells (bv l).toArray 40)).alloc (.cells (bv k).toArray 40)).drew := (((Mod.refl Nn w).alloc _).alloc _).drew
  have z1 : (w.alloc (.cells (bv l).toArray 40)).heap.size = w.heap.size + 1 := by simp
  have b1 : Rd ((w.alloc (.cells (bv l).toArray 40)).alloc (.cells (bv k).toArray 40)).drew (some ⟨w.heap.size, 0, none⟩) 40 (bv l) := ((Rd.of_blk0 (Blk.new w _ _) (by rw [bv_len, h1])).mod ((Mod.refl Nn _).alloc _).drew (fun _ _ f => f))
  have b2 : Rd ((w.alloc (.cells (bv l).toArray 40)).alloc (.cells (bv k).toArray 40)).drew (some ⟨w.heap.size + 1, 0, none⟩) 40 (bv k) := by
    have := (Rd.of_blk0 (n := 40) (Blk.new (w.alloc (.cells (bv l).toArray 40)) 40 (bv k).toArray) (by rw [bv_len, h2])).drew
    rwa [z1] at this
  have HB := Lib.hid (And.intro m1 (And.intro b1 b2))
  clear m1 b1 b2 z1
  go_enter Tryz.func41, Tryz.ntmps41
  go_wp2_with fail
  refine wp_region_planV (fun _ => True) 2 (.pure 0 (.pure 1 (.alone 2 (.pure 3 .nil)))) (by kernel_rfl) (by kernel_rfl) trivial ?_
  iterate 2 (refine pv_pure rfl rfl (fun K hK => ?_); go_simp; refine hK _ ?_; clear hK K)
  refine pv_call rfl rfl (fun K hK => ?_); go_simp; refine ⟨_, _, ⟨rfl, rfl⟩, hK _ _ _ ?_⟩; clear hK K
  refine (bcompare_any HB.out.2.1 HB.out.2.2 hl hk).mono ?_
  rintro e w1 ⟨rfl, rfl⟩
  refine ⟨_, rfl, fun _ => trivial, ?_⟩
  iterate 1 (refine pv_pure rfl rfl (fun K hK => ?_); go_simp; refine hK _ ?_; clear hK K)
  refine pv_nil ?_
  go_wp2
  go_ret
  exact ⟨rfl, HB.out.1⟩
end
end Go.Proofs.YtfoldjnmknaklaaGreat

/- Nodes (layer 15) in plain words: rows that rise, a node's bytes. -/
namespace Go.Proofs.YtfoldjnmknaklaaGreat

/-- each stands ahead of the next -/
def riseB : List (List Nat) → Bool
  | a :: b :: l => decide (lexc a b < 0) && riseB (b :: l)
  | _ => true
theorem rise_iff : ∀ (L : List (List Nat)), riseB L = true ↔ ∀ i, i + 1 < L.length → lexc (L.getD i []) (L.getD (i + 1) []) < 0
  | [] => by simp [riseB]
  | [a] => by simp [riseB]
  | a :: b :: l => by
    have ih := rise_iff (b :: l)
    simp only [riseB, Bool.and_eq_true, decide_eq_true_eq, ih]
    constructor
    · rintro ⟨h1, h2⟩ i hi
      cases i with
      | zero => exact h1
      | succ i =>
        have := h2 i (by simp at hi ⊢; omega)
        simpa using this
    · intro h
      refine ⟨h 0 (by simp), fun i hi => ?_⟩
      have := h (i + 1) (by simp at hi ⊢; omega)
      simpa using this
theorem rise_false {L : List (List Nat)} {i : Nat} (hi : i + 1 < L.length) (h : ¬ lexc (L.getD i []) (L.getD (i + 1) []) < 0) : riseB L = false := by
  cases hb : riseB L with
  | false => rfl
  | true => exact (h ((rise_iff L).1 hb i hi)).elim
/-- rows of k bytes each -/
def Rows (k : Nat) (L : List (List Nat)) : Prop := ∀ r ∈ L, r.length = k ∧ ∀ z ∈ r, z < 256
theorem rows_len {k : Nat} : ∀ {L : List (List Nat)}, Rows k L → L.flatten.length = L.length * k
  | [], _ => by simp
  | r :: L, h => by
    rw [List.flatten_cons, List.length_append, rows_len (fun x hx => h x (List.mem_cons_of_mem _ hx)), (h r List.mem_cons_self).1, List.length_cons, Nat.add_mul]
    omega
theorem rows_at {k : Nat} : ∀ {L : List (List Nat)} (_ : Rows k L) {i : Nat} {r : List Nat}, L[i]? = some r → (L.flatten.drop (i * k)).take k = r
  | [], _, _, _, h => by simp at h
  | a :: L, hr, 0, r, h => by
    injection h with h
    subst h
    rw [List.flatten_cons, Nat.zero_mul, List.drop_zero, List.take_left' (hr a List.mem_cons_self).1]
  | a :: L, hr, i + 1, r, h => by
    have ha := (hr a List.mem_cons_self).1
    rw [List.flatten_cons, Nat.add_mul, Nat.one_mul, Nat.add_comm, ← List.drop_drop, List.drop_left' ha]
    exact rows_at (fun x hx => hr x (List.mem_cons_of_mem _ hx)) h
/-- a node -/
structure Nd where
  leaf : Bool
  ents : List (List Nat)
  keys : List (List Nat)
  kids : List Int
structure Nd.ok (N : Nd) : Prop where
  e : Rows 80 N.ents
  k : Rows 40 N.keys
def keyOf (r : List Nat) : List Nat := r.take 40
/-- may it be? -/
def Nd.right (N : Nd) : Bool :=
  if N.leaf then (N.keys.length == 0) && (N.kids.length == 0) && decide (N.ents.length ≤ 12) && riseB (N.ents.map keyOf)
  else N.kids.all (fun k => decide (0 ≤ k ∧ k ≤ 1048576)) && (N.ents.length == 0) && decide (2 ≤ N.kids.length) && decide (N.kids.length ≤ 20) && (N.keys.length + 1 == N.kids.length) && riseB N.keys
/-- its bytes but for the sum -/
def Nd.body (N : Nd) : List Nat :=
  let b := (if N.leaf then [1, N.ents.length % 256, 0, 0] else [2, N.kids.length % 256, 0, 0]) ++ N.ents.flatten ++ (N.kids.map (fun k => num k.toNat 4)).flatten ++ N.keys.flatten
  b ++ List.replicate (1020 - b.length) 0
def Nd.sum (N : Nd) : Nat := (crcS 2197175160#32 0#32 N.body).toNat
def Nd.bytes (N : Nd) : List Nat := N.body ++ num N.sum 4
end Go.Proofs.YtfoldjnmknaklaaGreat

/- node.rises (both instances) and its key functions. Printed by gen/ndrise.py. -/
namespace Go.Proofs.YtfoldjnmknaklaaGreat
open Go.RowKit

theorem info_ent : (Tryz.prog.info? 43).map (fun i => (i.zero, i.size)) = some (some (.agg (bv (List.replicate 80 0)).toArray), 80) := by kernel_rfl
theorem info_tk : (Tryz.prog.info? 40).map (fun i => (i.zero, i.size)) = some (some (.agg (bv (List.replicate 40 0)).toArray), 40) := by kernel_rfl
theorem size_ent : (Tryz.prog.info? 43).map (·.size) = some 80 := by kernel_rfl
theorem size_tk : (Tryz.prog.info? 40).map (·.size) = some 40 := by kernel_rfl
theorem bv_all (l : List Nat) : (bv l).toArray.all (·.oneCell') = true := by
  rw [Array.all_eq_true]
  intro i hi
  simp only [bv, List.getElem_toArray, List.getElem_map]
  rfl
theorem bv_part (l : List Nat) (a b : Nat) : ((bv l).drop a).take b = bv ((l.drop a).take b) := by unfold bv; rw [← List.map_drop, ← List.map_take]
theorem bv_size (l : List Nat) : (bv l).toArray.size = l.length := by unfold bv; simp
theorem keyOf_len {r : List Nat} (h : r.length = 80) : (keyOf r).length = 40 := by unfold keyOf; rw [List.length_take]; omega
theorem keyOf_lt {r : List Nat} (h : ∀ z ∈ r, z < 256) : ∀ z ∈ keyOf r, z < 256 := fun z hz => h z (List.mem_of_mem_take hz)
theorem RdC.mod {S : Nat → Prop} {w w' : World} {A : Option Addr} {m s : Nat} {xs : List Value} (h : RdC w A m s xs) (hs : 0 < s) (hm : Mod S w w') (hn : ∀ g, Of A g → ¬ S g) : RdC w' A m s xs := by
  refine ⟨h.1, fun hp => ?_⟩
  obtain ⟨g, off, hA, hc⟩ := h.2 hp
  have h0 : 0 < xs.length := by rw [h.1]; exact Nat.mul_pos hp hs
  have hlt : g < w.heap.size := World.block_lt_of_cell? w _ (hc 0 xs[0] (List.getElem?_eq_getElem h0))
  exact ⟨g, off, hA, fun j v hv => (hm.cell (p := ⟨g, off + j, none⟩) hlt (hn g ⟨_, hA, rfl⟩)).trans (hc j v hv)⟩
/-- row i of a slice of rows of k bytes each -/
theorem RdC.row {w : World} {A : Option Addr} {n k : Nat} {L : List (List Nat)} (h : RdC w A n k (bv L.flatten)) (hr : Rows k L) {i : Nat} {r : List Nat} (hi : L[i]? = some r) (hn : 0 < n) :
    ∃ g off, A = some ⟨g, off, none⟩ ∧ ∀ j v, (bv r)[j]? = some v → w.cell? ⟨g, off + i * k + j, none⟩ = some v := by
  obtain ⟨g, off, hA, hc⟩ := h.2 hn
  refine ⟨g, off, hA, fun j v hv => ?_⟩
  rw [Nat.add_assoc]
  apply hc
  have hj : j < r.length := by have := (List.getElem?_eq_some_iff.1 hv).1; rwa [bv_len] at this
  have hk := (hr r (List.mem_of_getElem? hi)).1
  rw [← rows_at hr hi, ← bv_part, List.getElem?_take, if_pos (by omega), List.getElem?_drop] at hv
  exact hv
set_option maxRecDepth 100000 in
theorem key1_any (w : World) {r : List Nat} (h : r.length = 80) : Calls Tryz.prog 18 #[.agg (bv r).toArray] w fun e w' => e = .returned (.agg (bv (keyOf r)).toArray) ∧ Mod Nn w w' := by
  have b0 : Blk (w.alloc (.cells (bv r).toArray 43)) w.heap.size 43 (bv r).toArray := Blk.new w _ _
  have m0 : Mod Nn w (w.alloc (.cells (bv r).toArray 43)) := (Mod.refl _ _).alloc _
  have z0 : (w.alloc (.cells (bv r).toArray 43)).heap.size = w.heap.size + 1 := by simp
  have hk := keyOf_len h
  have hks : (bv (List.replicate 40 0)).toArray.size = (bv (keyOf r)).toArray.size := by rw [bv_size, bv_size, hk, List.length_replicate]
  have HB := Lib.hid (And.intro b0 (And.intro m0 (And.intro z0 (And.intro hk hks))))
  clear b0 m0 z0 hks hk
  go_enter Tryz.func18, Tryz.ntmps18
  go_upto_region 1 with (first
    | (with_reducible change wpList _ _ _ (⟨some 2, Op.alloc _, _, _, _, _⟩ :: _) _ _
       go_must (refine wpList_alloc_var 40 rfl rfl info_tk ?_)
       intro w1 b1 m1 z1
       have B1 := Lib.hid (And.intro (HB.out.1.mod m1 (fun f => f)) (And.intro b1 (HB.out.2.1.trans m1)))
       clear b1 m1 z1))
  rw [HB.out.2.2.1] at B1 ⊢
  have hc1 : ∀ j v, (bv (keyOf r))[j]? = some v → w1.cell? ⟨w.heap.size, 0 + j, none⟩ = some v := fun j v hv => by
    rw [Nat.zero_add]
    refine (B1.out.1.cell j).trans ?_
    have hj := (List.getElem?_eq_some_iff.1 hv).1
    rw [bv_len, HB.out.2.2.2.1] at hj
    unfold keyOf at hv
    rw [bv_at, List.getElem?_take, if_pos hj] at hv
    rw [List.getElem?_toArray, bv_at]
    exact hv
  have HC := Lib.hid hc1
  clear hc1
  go_wp2_with (first
    | (with_reducible change wpList _ _ _ (⟨_, Op.load _ _, _, _, _, _⟩ :: _) _ _
       go_must (refine wpList_val rfl (exec_load_cells (P := Tryz.prog) 40 _ rfl (cs := bv (keyOf r)) rfl HC.out Tryz.underlying40 rfl (by rw [size_tk, bv_len, HB.out.2.2.2.1])) ?_))
    | (with_reducible change wpList _ _ _ (⟨none, Op.store _ _ _, _, _, _, _⟩ :: _) _ _
       go_must (refine wpList_store_var 40 _ _ rfl rfl (w.heap.size + 1) (bv (keyOf r)).toArray (bv (List.replicate 40 0)).toArray _ rfl rfl B1.out.2.1 (by rw [size_tk, bv_size, HB.out.2.2.2.1]) HB.out.2.2.2.2 (bv_all _) ?_)
       intro w9 b9 m9 z9))
  exact bodyPost_ret (results_cell_row (P := Tryz.prog) rfl _ w9 _ _ _ (0, 0) _ rfl b9 Tryz.underlying40 rfl (by rw [size_tk, bv_size, HB.out.2.2.2.1])) rfl ⟨rfl, B1.out.2.2.new_ m9 (by omega)⟩
set_option maxRecDepth 100000 in
theorem key2_any (w : World) {r : List Nat} (h : r.length = 40) : Calls Tryz.prog 20 #[.agg (bv r).toArray] w fun e w' => e = .returned (.agg (bv r).toArray) ∧ Mod Nn w w' := by
  have b0 : Blk (w.alloc (.cells (bv r).toArray 40)) w.heap.size 40 (bv r).toArray := Blk.new w _ _
  have m0 : Mod Nn w (w.alloc (.cells (bv r).toArray 40)) := (Mod.refl _ _).alloc _
  have z0 : (w.alloc (.cells (bv r).toArray 40)).heap.size = w.heap.size + 1 := by simp
  have hks : (bv (List.replicate 40 0)).toArray.size = (bv r).toArray.size := by rw [bv_size, bv_size, h, List.length_replicate]
  have HB := Lib.hid (And.intro b0 (And.intro m0 (And.intro z0 (And.intro h hks))))
  clear b0 m0 z0 hks h
  go_enter Tryz.func20, Tryz.ntmps20
  go_upto_region 1 with (first
    | (with_reducible change wpList _ _ _ (⟨some 2, Op.alloc _, _, _, _, _⟩ :: _) _ _
       go_must (refine wpList_alloc_var 40 rfl rfl info_tk ?_)
       intro w1 b1 m1 z1
       have B1 := Lib.hid (And.intro (HB.out.1.mod m1 (fun f => f)) (And.intro b1 (HB.out.2.1.trans m1)))
       clear b1 m1 z1))
  rw [HB.out.2.2.1] at B1 ⊢
  go_wp2_with (first
    | (with_reducible change wpList _ _ _ (⟨_, Op.load _ _, _, _, _, _⟩ :: _) _ _
       go_must (refine wpList_load_var 40 _ rfl rfl w.heap.size (bv r).toArray _ _ rfl B1.out.1 Tryz.underlying40 rfl (by rw [size_tk, bv_size, HB.out.2.2.2.1]) ?_))
    | (with_reducible change wpList _ _ _ (⟨none, Op.store _ _ _, _, _, _, _⟩ :: _) _ _
       go_must (refine wpList_store_var 40 _ _ rfl rfl (w.heap.size + 1) (bv r).toArray (bv (List.replicate 40 0)).toArray _ rfl rfl B1.out.2.1 (by rw [size_tk, bv_size, HB.out.2.2.2.1]) HB.out.2.2.2.2 (bv_all _) ?_)
       intro w9 b9 m9 z9))
  exact bodyPost_ret (results_cell_row (P := Tryz.prog) rfl _ w9 _ _ _ (0, 0) _ rfl b9 Tryz.underlying40 rfl (by rw [size_tk, bv_size, HB.out.2.2.2.1])) rfl ⟨rfl, B1.out.2.2.new_ m9 (by omega)⟩
set_option maxRecDepth 100000 in
set_option maxHeartbeats 3200000 in
theorem rises1_any {w : World} {A : Option Addr} {n c : Nat} {L : List (List Nat)} (h : RdC w A n 80 (bv L.flatten)) (hr : Rows 80 L) (hL : L.length = n) (hN : n ≤ 1000000000) :
    Calls Tryz.prog 17 #[.slice A n c, .func (.func 18) #[] #[]] w fun e w' => e = .returned (.bool (riseB (L.map keyOf))) ∧ Mod Nn w w' := by
  have HR := Lib.hid (And.intro h (And.intro hr hL))
  clear h hr hL
  go_enter Tryz.func17, Tryz.ntmps17
  go_wp2
  go_loopw [5] (fun i wr => ∃ k : Nat, 1 ≤ k ∧ (k ≤ n ∨ k = 1) ∧ i = .int .i64 k ∧ Hid (∀ i, i + 1 < k → lexc ((L.map keyOf).getD i []) ((L.map keyOf).getD (i + 1) []) < 0) ∧ Mod Nn w wr) (fun i _ => n + 1 - (intOf i).toNat)
  case atStart => exact ⟨1, by omega, .inr rfl, rfl, Lib.hid (fun i hi => by omega), Mod.refl _ _⟩
  case round =>
    obtain ⟨k, hk1, hkn, rfl, hrel, hm⟩ := hrel
    by_cases hlt : k < n
    · have hlt' : (k : Int) < n := by omega
      obtain ⟨p, hpk⟩ : ∃ p, p + 1 = k := ⟨k - 1, by omega⟩
      have hp1 : p < L.length := by rw [HR.out.2.2]; omega
      have hp2 : k < L.length := by rw [HR.out.2.2]; omega
      have i1 : L[p]? = some L[p] := List.getElem?_eq_getElem hp1
      have i2 : L[k]? = some L[k] := List.getElem?_eq_getElem hp2
      generalize L[p] = r1 at i1
      generalize L[k] = r2 at i2
      obtain ⟨l1, z1⟩ := HR.out.2.1 r1 (List.mem_of_getElem? i1)
      obtain ⟨l2, z2⟩ := HR.out.2.1 r2 (List.mem_of_getElem? i2)
      obtain ⟨g, off, rfl, hc1⟩ := HR.out.1.row HR.out.2.1 i1 (by omega)
      obtain ⟨_, _, hA, hc2⟩ := HR.out.1.row HR.out.2.1 i2 (by omega)
      injection hA with hA; injection hA with e1 e2 _; subst e1; subst e2
      have hin : g < w.heap.size := by
        have h0 : 0 < (bv r1).length := by rw [bv_len, l1]; omega
        exact World.block_lt_of_cell? w _ (hc1 0 (bv r1)[0] (List.getElem?_eq_getElem h0))
      have HX := Lib.hid (And.intro (show ∀ w', Mod Nn w w' → ∀ j v, (bv r1)[j]? = some v → w'.cell? ⟨g, off + p * 80 + j, none⟩ = some v from fun w' hS j v hv => (hS.cell (p := ⟨g, off + p * 80 + j, none⟩) hin (fun f => f)).trans (hc1 j v hv)) (show ∀ w', Mod Nn w w' → ∀ j v, (bv r2)[j]? = some v → w'.cell? ⟨g, off + k * 80 + j, none⟩ = some v from fun w' hS j v hv => (hS.cell (p := ⟨g, off + k * 80 + j, none⟩) hin (fun f => f)).trans (hc2 j v hv)))
      have HL := Lib.hid (And.intro l1 (And.intro l2 (And.intro z1 z2)))
      have hlex : (lexc ((L.map keyOf).getD p []) ((L.map keyOf).getD (p + 1) [])) = lexc (keyOf r1) (keyOf r2) := by
        rw [hpk]
        simp [List.getD_eq_getElem?_getD, i1, i2]
      have hi1 : p + 1 < (L.map keyOf).length := by (try simp only [List.length_map]); omega
      have HQ := Lib.hid (And.intro hlex hi1)
      have e1 : (k : Int) - 1 = (p : Int) := by omega
      have e2 : IntKind.i64.wrap (p : Int) = p := by rw [IntKind.wrap_i64]; omega
      have e3 : (p : Int) < n := by omega
      have HI := Lib.hid (And.intro hk1 hpk)
      clear hlex hi1 hc1 hc2 hin l1 l2 z1 z2 i1 i2 hp1 hp2 hpk
      go_wp2_with fail
      have hm := hm.drew
      refine wp_region_planV (fun w' => Mod Nn w w') 13 (.pure 0 (.pure 1 (.pure 2 (.pure 3 (.pure 4 (.read 5 (.pure 7 (.pure 8 (.pure 9 (.pure 10 (.read 11 (.alone 6 (.alone 12 (.alone 13 (.pure 14 .nil))))))))))))))) (by kernel_rfl) (by kernel_rfl) hm ?_
      iterate 5 (refine pv_pure rfl rfl (fun K hK => ?_); go_simp; refine hK _ ?_; clear hK K)
      refine pv_take _ rfl rfl (fun w' hS => exec_load_cells (P := Tryz.prog) 43 _ rfl (cs := bv r1) rfl (HX.out.1 w' hS) Tryz.underlying43 rfl (by rw [size_ent, bv_len, HL.out.1])) (fun K hK => ?_); go_simp; refine hK _ ?_; clear hK K
      iterate 4 (refine pv_pure rfl rfl (fun K hK => ?_); go_simp; refine hK _ ?_; clear hK K)
      refine pv_take _ rfl rfl (fun w' hS => exec_load_cells (P := Tryz.prog) 43 _ rfl (cs := bv r2) rfl (HX.out.2 w' hS) Tryz.underlying43 rfl (by rw [size_ent, bv_len, HL.out.2.1])) (fun K hK => ?_); go_simp; refine hK _ ?_; clear hK K
      refine pv_call rfl rfl (fun K hK => ?_); go_simp; refine ⟨_, _, ⟨rfl, rfl⟩, hK _ _ _ ?_⟩; clear hK K
      refine (key1_any _ HL.out.1).mono ?_
      rintro e w1 ⟨rfl, m1⟩
      refine ⟨_, rfl, fun _ => hm.trans m1, ?_⟩
      refine pv_call rfl rfl (fun K hK => ?_); go_simp; refine ⟨_, _, ⟨rfl, rfl⟩, hK _ _ _ ?_⟩; clear hK K
      refine (key1_any _ HL.out.2.1).mono ?_
      rintro e w2 ⟨rfl, m2⟩
      refine ⟨_, rfl, fun _ => (hm.trans m1).trans m2, ?_⟩
      refine pv_call rfl rfl (fun K hK => ?_); go_simp; refine ⟨_, _, ⟨rfl, rfl⟩, hK _ _ _ ?_⟩; clear hK K
      refine (ecompare_any _ (keyOf_lt HL.out.2.2.1) (keyOf_lt HL.out.2.2.2) (keyOf_len HL.out.1) (keyOf_len HL.out.2.1)).mono ?_
      rintro e w3 ⟨rfl, m3⟩
      refine ⟨_, rfl, fun h => by simp at h, ?_⟩
      have M3 := Lib.hid (((hm.trans m1).trans m2).trans m3)
      clear m1 m2 m3 hm
      generalize lexc (keyOf r1) (keyOf r2) = X at *
      by_cases hX : X < 0
      · have hX' : ¬ (0 : Int) ≤ X := by omega
        have HV := Lib.hid hX
        clear hX
        iterate 1 (refine pv_pure rfl rfl (fun K hK => ?_); go_simp; refine hK _ ?_; clear hK K)
        refine pv_nil ?_
        go_wp2
        go_roundw
        case rel =>
          refine ⟨k + 1, by omega, .inl (by omega), by go_num, Lib.hid (fun j hj => ?_), M3.out⟩
          rcases Nat.lt_or_ge (j + 1) k with h | h
          · exact hrel.out j h
          · have hjp : j = p := by have := HI.out.2; omega
            rw [hjp, HQ.out.1]
            exact HV.out
        case measure => simp [intOf]; have := HI.out.1; omega
      · have hX' : (0 : Int) ≤ X := by omega
        have HF := Lib.hid (rise_false HQ.out.2 (by rw [HQ.out.1]; exact hX))
        clear hX
        iterate 1 (refine pv_pure rfl rfl (fun K hK => ?_); go_simp; refine hK _ ?_; clear hK K)
        refine pv_nil ?_
        go_wp2
        go_ret
        exact ⟨by rw [HF.out]; rfl, M3.out⟩
    · have hkn' : ¬ (k : Int) < n := by omega
      have HF := Lib.hid (show riseB (L.map keyOf) = true from (rise_iff _).2 (fun i hi => hrel.out i (by
        have h1 : (L.map keyOf).length = n := by simp [HR.out.2.2]
        omega)))
      go_wp2
      go_ret
      exact ⟨by rw [HF.out]; rfl, hm⟩
set_option maxRecDepth 100000 in
set_option maxHeartbeats 3200000 in
theorem rises2_any {w : World} {A : Option Addr} {n c : Nat} {L : List (List Nat)} (h : RdC w A n 40 (bv L.flatten)) (hr : Rows 40 L) (hL : L.length = n) (hN : n ≤ 1000000000) :
    Calls Tryz.prog 19 #[.slice A n c, .func (.func 20) #[] #[]] w fun e w' => e = .returned (.bool (riseB L)) ∧ Mod Nn w w' := by
  have HR := Lib.hid (And.intro h (And.intro hr hL))
  clear h hr hL
  go_enter Tryz.func19, Tryz.ntmps19
  go_wp2
  go_loopw [5] (fun i wr => ∃ k : Nat, 1 ≤ k ∧ (k ≤ n ∨ k = 1) ∧ i = .int .i64 k ∧ Hid (∀ i, i + 1 < k → lexc (L.getD i []) (L.getD (i + 1) []) < 0) ∧ Mod Nn w wr) (fun i _ => n + 1 - (intOf i).toNat)
  case atStart => exact ⟨1, by omega, .inr rfl, rfl, Lib.hid (fun i hi => by omega), Mod.refl _ _⟩
  case round =>
    obtain ⟨k, hk1, hkn, rfl, hrel, hm⟩ := hrel
    by_cases hlt : k < n
    · have hlt' : (k : Int) < n := by omega
      obtain ⟨p, hpk⟩ : ∃ p, p + 1 = k := ⟨k - 1, by omega⟩
      have hp1 : p < L.length := by rw [HR.out.2.2]; omega
      have hp2 : k < L.length := by rw [HR.out.2.2]; omega
      have i1 : L[p]? = some L[p] := List.getElem?_eq_getElem hp1
      have i2 : L[k]? = some L[k] := List.getElem?_eq_getElem hp2
      generalize L[p] = r1 at i1
      generalize L[k] = r2 at i2
      obtain ⟨l1, z1⟩ := HR.out.2.1 r1 (List.mem_of_getElem? i1)
      obtain ⟨l2, z2⟩ := HR.out.2.1 r2 (List.mem_of_getElem? i2)
      obtain ⟨g, off, rfl, hc1⟩ := HR.out.1.row HR.out.2.1 i1 (by omega)
      obtain ⟨_, _, hA, hc2⟩ := HR.out.1.row HR.out.2.1 i2 (by omega)
      injection hA with hA; injection hA with e1 e2 _; subst e1; subst e2
      have hin : g < w.heap.size := by
        have h0 : 0 < (bv r1).length := by rw [bv_len, l1]; omega
        exact World.block_lt_of_cell? w _ (hc1 0 (bv r1)[0] (List.getElem?_eq_getElem h0))
      have HX := Lib.hid (And.intro (show ∀ w', Mod Nn w w' → ∀ j v, (bv r1)[j]? = some v → w'.cell? ⟨g, off + p * 40 + j, none⟩ = some v from fun w' hS j v hv => (hS.cell (p := ⟨g, off + p * 40 + j, none⟩) hin (fun f => f)).trans (hc1 j v hv)) (show ∀ w', Mod Nn w w' → ∀ j v, (bv r2)[j]? = some v → w'.cell? ⟨g, off + k * 40 + j, none⟩ = some v from fun w' hS j v hv => (hS.cell (p := ⟨g, off + k * 40 + j, none⟩) hin (fun f => f)).trans (hc2 j v hv)))
      have HL := Lib.hid (And.intro l1 (And.intro l2 (And.intro z1 z2)))
      have hlex : (lexc (L.getD p []) (L.getD (p + 1) [])) = lexc r1 r2 := by
        rw [hpk]
        simp [List.getD_eq_getElem?_getD, i1, i2]
      have hi1 : p + 1 < L.length := by (try simp only [List.length_map]); omega
      have HQ := Lib.hid (And.intro hlex hi1)
      have e1 : (k : Int) - 1 = (p : Int) := by omega
      have e2 : IntKind.i64.wrap (p : Int) = p := by rw [IntKind.wrap_i64]; omega
      have e3 : (p : Int) < n := by omega
      have HI := Lib.hid (And.intro hk1 hpk)
      clear hlex hi1 hc1 hc2 hin l1 l2 z1 z2 i1 i2 hp1 hp2 hpk
      go_wp2_with fail
      have hm := hm.drew
      refine wp_region_planV (fun w' => Mod Nn w w') 13 (.pure 0 (.pure 1 (.pure 2 (.pure 3 (.pure 4 (.read 5 (.pure 7 (.pure 8 (.pure 9 (.pure 10 (.read 11 (.alone 6 (.alone 12 (.alone 13 (.pure 14 .nil))))))))))))))) (by kernel_rfl) (by kernel_rfl) hm ?_
      iterate 5 (refine pv_pure rfl rfl (fun K hK => ?_); go_simp; refine hK _ ?_; clear hK K)
      refine pv_take _ rfl rfl (fun w' hS => exec_load_cells (P := Tryz.prog) 40 _ rfl (cs := bv r1) rfl (HX.out.1 w' hS) Tryz.underlying40 rfl (by rw [size_tk, bv_len, HL.out.1])) (fun K hK => ?_); go_simp; refine hK _ ?_; clear hK K
      iterate 4 (refine pv_pure rfl rfl (fun K hK => ?_); go_simp; refine hK _ ?_; clear hK K)
      refine pv_take _ rfl rfl (fun w' hS => exec_load_cells (P := Tryz.prog) 40 _ rfl (cs := bv r2) rfl (HX.out.2 w' hS) Tryz.underlying40 rfl (by rw [size_tk, bv_len, HL.out.2.1])) (fun K hK => ?_); go_simp; refine hK _ ?_; clear hK K
      refine pv_call rfl rfl (fun K hK => ?_); go_simp; refine ⟨_, _, ⟨rfl, rfl⟩, hK _ _ _ ?_⟩; clear hK K
      refine (key2_any _ HL.out.1).mono ?_
      rintro e w1 ⟨rfl, m1⟩
      refine ⟨_, rfl, fun _ => hm.trans m1, ?_⟩
      refine pv_call rfl rfl (fun K hK => ?_); go_simp; refine ⟨_, _, ⟨rfl, rfl⟩, hK _ _ _ ?_⟩; clear hK K
      refine (key2_any _ HL.out.2.1).mono ?_
      rintro e w2 ⟨rfl, m2⟩
      refine ⟨_, rfl, fun _ => (hm.trans m1).trans m2, ?_⟩
      refine pv_call rfl rfl (fun K hK => ?_); go_simp; refine ⟨_, _, ⟨rfl, rfl⟩, hK _ _ _ ?_⟩; clear hK K
      refine (ecompare_any _ HL.out.2.2.1 HL.out.2.2.2 HL.out.1 HL.out.2.1).mono ?_
      rintro e w3 ⟨rfl, m3⟩
      refine ⟨_, rfl, fun h => by simp at h, ?_⟩
      have M3 := Lib.hid (((hm.trans m1).trans m2).trans m3)
      clear m1 m2 m3 hm
      generalize lexc r1 r2 = X at *
      by_cases hX : X < 0
      · have hX' : ¬ (0 : Int) ≤ X := by omega
        have HV := Lib.hid hX
        clear hX
        iterate 1 (refine pv_pure rfl rfl (fun K hK => ?_); go_simp; refine hK _ ?_; clear hK K)
        refine pv_nil ?_
        go_wp2
        go_roundw
        case rel =>
          refine ⟨k + 1, by omega, .inl (by omega), by go_num, Lib.hid (fun j hj => ?_), M3.out⟩
          rcases Nat.lt_or_ge (j + 1) k with h | h
          · exact hrel.out j h
          · have hjp : j = p := by have := HI.out.2; omega
            rw [hjp, HQ.out.1]
            exact HV.out
        case measure => simp [intOf]; have := HI.out.1; omega
      · have hX' : (0 : Int) ≤ X := by omega
        have HF := Lib.hid (rise_false HQ.out.2 (by rw [HQ.out.1]; exact hX))
        clear hX
        iterate 1 (refine pv_pure rfl rfl (fun K hK => ?_); go_simp; refine hK _ ?_; clear hK K)
        refine pv_nil ?_
        go_wp2
        go_ret
        exact ⟨by rw [HF.out]; rfl, M3.out⟩
    · have hkn' : ¬ (k : Int) < n := by omega
      have HF := Lib.hid (show riseB L = true from (rise_iff _).2 (fun i hi => hrel.out i (by
        have h1 : L.length = n := by simp [HR.out.2.2]
        omega)))
      go_wp2
      go_ret
      exact ⟨by rw [HF.out]; rfl, hm⟩
end Go.Proofs.YtfoldjnmknaklaaGreat

/- node.Right. -/
namespace Go.Proofs.YtfoldjnmknaklaaGreat
open Go.RowKit

/-- a node's value -/
def ndV (leaf : Bool) (EA : Option Addr) (en ec : Nat) (KA : Option Addr) (kn kc : Nat) (CA : Option Addr) (cn cc : Nat) : Value :=
  .agg #[.bool leaf, .slice EA en ec, .slice KA kn kc, .slice CA cn cc]
/-- the slices read as the node -/
structure NdR (w : World) (N : Nd) (EA : Option Addr) (en : Nat) (KA : Option Addr) (kn : Nat) (CA : Option Addr) (cn : Nat) : Prop where
  e : RdC w EA en 80 (bv N.ents.flatten)
  k : RdC w KA kn 40 (bv N.keys.flatten)
  c : Rd w CA cn (N.kids.map (Value.int .i64))
  el : N.ents.length = en
  kl : N.keys.length = kn
  cl : N.kids.length = cn
  ok : N.ok
  be : en ≤ 1000000000
  bk : kn ≤ 1000000000
  bc : cn ≤ 1000000000
section
variable {w w' : World} {N : Nd} {EA KA CA : Option Addr} {en ec kn kc cn cc : Nat} {S : Nat → Prop}
theorem NdR.mod (h : NdR w N EA en KA kn CA cn) (hm : Mod S w w') (he : ∀ g, Of EA g → ¬ S g) (hk : ∀ g, Of KA g → ¬ S g) (hc : ∀ g, Of CA g → ¬ S g) : NdR w' N EA en KA kn CA cn :=
  ⟨h.e.mod (by omega) hm he, h.k.mod (by omega) hm hk, h.c.mod hm hc, h.el, h.kl, h.cl, h.ok, h.be, h.bk, h.bc⟩
theorem NdR.nn (h : NdR w N EA en KA kn CA cn) (hm : Mod Nn w w') : NdR w' N EA en KA kn CA cn := h.mod hm (fun _ _ f => f) (fun _ _ f => f) (fun _ _ f => f)
set_option maxRecDepth 100000 in
set_option maxHeartbeats 3200000 in
theorem nright_leaf (h : NdR w N EA en KA kn CA cn) (hl : N.leaf = true) :
    Calls Tryz.prog 6 #[ndV true EA en ec KA kn kc CA cn cc] w fun e w' => e = .returned (.bool N.right) ∧ Mod Nn w w' := by
  have M : Mod Nn w (w.alloc (.cells #[.bool true, .slice EA en ec, .slice KA kn kc, .slice CA cn cc] 32)) := (Mod.refl Nn w).alloc _
  have HM := Lib.hid M
  have hr : N.right = ((kn == 0) && (cn == 0) && decide (en ≤ 12) && riseB (N.ents.map keyOf)) := by
    unfold Nd.right
    rw [if_pos hl, h.kl, h.cl, h.el]
  have HR := Lib.hid (And.intro (h.nn M) h.ok)
  have hbe := h.be
  clear h M
  unfold ndV
  by_cases h1 : kn = 0
  · by_cases h2 : cn = 0
    · by_cases h3 : en ≤ 12
      · have b1 : ((kn : Int) == 0) = true := by simp [h1]
        have b2 : ((cn : Int) == 0) = true := by simp [h2]
        have b3 : (en : Int) ≤ 12 := by omega
        have HF := Lib.hid (show N.right = riseB (N.ents.map keyOf) by rw [hr]; simp [h1, h2, h3])
        clear hr h1 h2 h3
        go_enter Tryz.func6, Tryz.ntmps6
        go_wp2_with ((with_reducible refine (rises1_any HR.out.1.e HR.out.2.e HR.out.1.el hbe).mono ?_); rintro r w' ⟨rfl, m'⟩)
        go_ret
        exact ⟨by rw [HF.out]; rfl, HM.out.trans m'⟩
      · have b1 : ((kn : Int) == 0) = true := by simp [h1]
        have b2 : ((cn : Int) == 0) = true := by simp [h2]
        have b3 : ¬ (en : Int) ≤ 12 := by omega
        have HF := Lib.hid (show N.right = false by rw [hr]; simp [h3])
        clear hr h1 h2 h3
        go_enter Tryz.func6, Tryz.ntmps6
        go_wp2
        go_ret
        exact ⟨by rw [HF.out]; rfl, HM.out⟩
    · have b1 : ((kn : Int) == 0) = true := by simp [h1]
      have b2 : ((cn : Int) == 0) = false := by simp [h2]
      have HF := Lib.hid (show N.right = false by rw [hr]; simp [h2])
      clear hr h1 h2
      go_enter Tryz.func6, Tryz.ntmps6
      go_wp2
      go_ret
      exact ⟨by rw [HF.out]; rfl, HM.out⟩
  · have b1 : ((kn : Int) == 0) = false := by simp [h1]
    have HF := Lib.hid (show N.right = false by rw [hr]; simp [h1])
    clear hr h1
    go_enter Tryz.func6, Tryz.ntmps6
    go_wp2
    go_ret
    exact ⟨by rw [HF.out]; rfl, HM.out⟩
end
end Go.Proofs.YtfoldjnmknaklaaGreat
