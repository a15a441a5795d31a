/- Own lemmas of several kinds, put together: NdE, NdI, Nd8. -/
import Derived.Test.YtjndcgpfikngaaaGreatKitA
import Derived.Test.YtjndcgpfikngaaaGreatCrcA
import Derived.Laws.BytesArg
import Derived.Lib.SliceRun
import Derived.Laws.BitsLemmas
import Derived.Test.YtjndcgpfikngaaaGreatNd7
/- bytes.Equal (as FrE, of which it is a part). -/
namespace Go.Proofs.YtjndcgpfikngaaaGreat
open Go.RowKit

theorem size_u8' : (Tryz.prog.info? 5).map (·.size) = some 1 := by kernel_rfl
theorem own_made0 (w : World) : (w.alloc (.cells #[] 5)).ownsRow w.heap.size 5 1 (.slice (some ⟨w.heap.size, 0, none⟩) 0 0) 0 [] :=
  ⟨rfl, .inr ⟨w.heap.size, 0, #[], rfl, Nat.le_refl _, heap_alloc_new w _, Nat.le_refl _, Nat.zero_le _, rfl, rfl⟩⟩
def bstr (l : List Nat) : ByteArray := strOfNums (l.map (fun c : Nat => (c : Int)))
theorem bstr_list (l : List Nat) : (bstr l).toList = l.map UInt8.ofNat := by
  rw [ByteArray.toList_eq]
  unfold bstr
  rw [strOfNums_data, List.map_map]
  rfl
theorem map_inj8 : ∀ {l m : List Nat}, (∀ z ∈ l, z < 256) → (∀ z ∈ m, z < 256) → l.map UInt8.ofNat = m.map UInt8.ofNat → l = m
  | [], [], _, _, _ => rfl
  | [], _ :: _, _, _, h => by cases h
  | _ :: _, [], _, _, h => by cases h
  | a :: l, b :: m, hl, hm, h => by
    injection h with h1 h2
    have ha := hl a List.mem_cons_self
    have hb := hm b List.mem_cons_self
    have := congrArg UInt8.toNat h1
    rw [UInt8.toNat_ofNat', UInt8.toNat_ofNat', Nat.mod_eq_of_lt ha, Nat.mod_eq_of_lt hb] at this
    rw [this, map_inj8 (fun z hz => hl z (List.mem_cons_of_mem _ hz)) (fun z hz => hm z (List.mem_cons_of_mem _ hz)) h2]
theorem bstr_eq {l m : List Nat} (hl : ∀ z ∈ l, z < 256) (hm : ∀ z ∈ m, z < 256) : ((bstr l).toList == (bstr m).toList) = decide (l = m) := by
  rw [bstr_list, bstr_list]
  by_cases h : l = m
  · rw [h]; simp
  · rw [decide_eq_false h, beq_eq_false_iff_ne]
    exact fun e => h (map_inj8 hl hm e)
section
variable {P : Program} {w : World} {A : Option Addr} {n c : Nat} {l : List Nat}
theorem conv_str (src e dst : TypeId) (hs : P.underlying src = some (.slice e)) (he : P.underlying e = some (.int .u8)) (hd : P.underlying dst = some .string) (hr : Rd w A n (bv l)) : (convert src dst (.slice A n c)).run P w = .ok (.string (bstr l)) w := by
  have hL : l.length = n := by have := hr.1; simpa [bv] using this
  rcases Nat.eq_zero_or_pos n with hn | hn
  · subst hn
    obtain rfl : l = [] := List.eq_nil_of_length_eq_zero hL
    rw [run_convert_bytes_string w src dst e _ 0 c hs he hd]
    cases A <;> simp [Conv.bytesToString, loadCells]
    all_goals rfl
  · obtain ⟨g, off, rfl, hc⟩ := hr.2 hn
    exact run_convert_bytes_arg (P := P) w src e hs he g off n c (l.map (fun c : Nat => (c : Int))) (by simpa using hL) (fun i hi => hc i _ (by
      unfold bv
      rw [List.getElem?_map, List.getElem?_eq_getElem (by omega)]
      simp [List.getD, List.getElem?_eq_getElem (show i < l.length by omega)])) dst hd
end
section
variable {w : World} {A B : Option Addr} {n m c d : Nat} {l k : List Nat}
set_option maxRecDepth 100000 in
theorem bequal_any (h1 : Rd w A n (bv l)) (h2 : Rd w B m (bv k)) (hl : ∀ z ∈ l, z < 256) (hk : ∀ z ∈ k, z < 256) :
    Calls Tryz.prog 50 #[.slice A n c, .slice B m d] w fun e w' => e = .returned (.bool (decide (l = k))) ∧ w = w' := by
  have c1 := conv_str (P := Tryz.prog) (c := c) 30 5 9 Tryz.underlying30 Tryz.underlying5 Tryz.underlying9 h1
  have c2 := conv_str (P := Tryz.prog) (c := d) 30 5 9 Tryz.underlying30 Tryz.underlying5 Tryz.underlying9 h2
  have hi := bstr_eq hl hk
  generalize bstr l = S1 at *
  generalize bstr k = S2 at *
  generalize decide (l = k) = D at *
  have HI := Lib.hid hi; clear hi
  clear h1 h2
  go_enter Tryz.func50, Tryz.ntmps50
  go_wp2
  rw [HI.out]
  go_ret
  exact ⟨rfl, rfl⟩
end
end Go.Proofs.YtjndcgpfikngaaaGreat

/- Four bytes put together by shifts and ors. No program is named. -/
namespace Go.Proofs.YtjndcgpfikngaaaGreat
open Go.RowKit

theorem or_i64 (x y : Nat) (hx : x < 2 ^ 62) (hy : y < 2 ^ 62) : bits .or .i64 (x : Int) (y : Int) = ((x ||| y : Nat) : Int) := by
  show IntKind.i64.wrap ((BitVec.ofInt 64 (x : Int) ||| BitVec.ofInt 64 (y : Int)).toNat : Int) = _
  rw [BitVec.ofInt_natCast, BitVec.ofInt_natCast, BitVec.toNat_or, BitVec.toNat_ofNat, BitVec.toNat_ofNat, Nat.mod_eq_of_lt (by omega), Nat.mod_eq_of_lt (by omega), IntKind.wrap_i64]
  have := Nat.or_lt_two_pow hx hy
  generalize x ||| y = z at *
  omega
theorem wrap_small (x : Nat) (hx : x < 2 ^ 62) : IntKind.i64.wrap (x : Int) = (x : Int) := by rw [IntKind.wrap_i64]; omega
theorem or4 (a b c d : Nat) (ha : a < 256) (hb : b < 256) (hc : c < 256) (hd : d < 256) :
    bits .or .i64 (bits .or .i64 (bits .or .i64 (IntKind.i64.wrap (IntKind.i64.wrap (a : Int) * 16777216)) (IntKind.i64.wrap (IntKind.i64.wrap (b : Int) * 65536))) (IntKind.i64.wrap (IntKind.i64.wrap (c : Int) * 256))) (IntKind.i64.wrap (d : Int)) = ((a * 16777216 + b * 65536 + c * 256 + d : Nat) : Int) := by
  rw [wrap_small a (by omega), wrap_small b (by omega), wrap_small c (by omega), wrap_small d (by omega)]
  rw [show (a : Int) * 16777216 = ((a * 16777216 : Nat) : Int) by omega, show (b : Int) * 65536 = ((b * 65536 : Nat) : Int) by omega, show (c : Int) * 256 = ((c * 256 : Nat) : Int) by omega]
  rw [wrap_small (a * 16777216) (by omega), wrap_small (b * 65536) (by omega), wrap_small (c * 256) (by omega)]
  have e1 : a * 16777216 ||| b * 65536 = a * 16777216 + b * 65536 := by
    have := Nat.two_pow_add_eq_or_of_lt (b := b * 65536) (i := 24) (by omega) a
    rw [show 2 ^ 24 * a = a * 16777216 by omega] at this
    exact this.symm
  have e2 : (a * 16777216 + b * 65536) ||| c * 256 = a * 16777216 + b * 65536 + c * 256 := by
    have := Nat.two_pow_add_eq_or_of_lt (b := c * 256) (i := 16) (by omega) (a * 256 + b)
    rw [show 2 ^ 16 * (a * 256 + b) = a * 16777216 + b * 65536 by omega] at this
    exact this.symm
  have e3 : (a * 16777216 + b * 65536 + c * 256) ||| d = a * 16777216 + b * 65536 + c * 256 + d := by
    have := Nat.two_pow_add_eq_or_of_lt (b := d) (i := 8) (by omega) (a * 65536 + b * 256 + c)
    rw [show 2 ^ 8 * (a * 65536 + b * 256 + c) = a * 16777216 + b * 65536 + c * 256 by omega] at this
    exact this.symm
  rw [or_i64 _ _ (by omega) (by omega), e1, or_i64 _ _ (by omega) (by omega), e2, or_i64 _ _ (by omega) (by omega), e3]
end Go.Proofs.YtjndcgpfikngaaaGreat

/- node.Get: bytes that are none. Printed by gen/ndget.py. -/
namespace Go.Proofs.YtjndcgpfikngaaaGreat
open Go.RowKit

theorem info_node : (Tryz.prog.info? 26).map (fun i => (i.zero, i.size)) = some (some (.agg #[.bool false, .slice none 0 0, .slice none 0 0, .slice none 0 0]), 4) := by kernel_rfl
theorem nd4 (b : Bool) (A B C : Option Addr) (n1 c1 n2 c2 n3 c3 : Nat) : (#[.bool b, .slice A n1 c1, .slice B n2 c2, .slice C n3 c3] : Array Value).all (·.oneCell') = true := by simp [Value.oneCell']
theorem size_tv : (Tryz.prog.info? 50).map (·.size) = some 40 := by kernel_rfl
theorem size_se : (Tryz.prog.info? 22).map (·.size) = some 1 := by kernel_rfl
theorem size_sk : (Tryz.prog.info? 23).map (·.size) = some 1 := by kernel_rfl
theorem size_si : (Tryz.prog.info? 24).map (·.size) = some 1 := by kernel_rfl
theorem zero_ent : (Tryz.prog.info? 52).map (·.zero) = some (some (.agg (bv (List.replicate 80 0)).toArray)) := by kernel_rfl
theorem info_ent3 : (Tryz.prog.info? 52).map (fun i => (i.zero, i.size, i.bytes)) = some (some (.agg (bv (List.replicate 80 0)).toArray), 80, 80) := by kernel_rfl
theorem info_tk3 : (Tryz.prog.info? 49).map (fun i => (i.zero, i.size, i.bytes)) = some (some (.agg (bv (List.replicate 40 0)).toArray), 40, 40) := by kernel_rfl
theorem info_int3 : (Tryz.prog.info? 3).map (fun i => (i.zero, i.size, i.bytes)) = some (some (.int .i64 0), 1, 8) := by kernel_rfl
theorem info_int2 : (Tryz.prog.info? 3).map (fun i => (i.zero, i.size)) = some (some (.int .i64 0), 1) := by kernel_rfl
theorem bv_one' (L : List Nat) : ∀ u ∈ bv L, u.oneCell' = true := by
  intro u hu
  obtain ⟨_, _, rfl⟩ := List.mem_map.1 hu
  rfl
section
variable {w w' : World} {A : Option Addr} {n c : Nat} {l : List Nat}
set_option maxRecDepth 100000 in
set_option maxHeartbeats 1600000 in
theorem nget_len (hr : Rd w A n (bv l)) (hn : n ≠ 1024) : Calls Tryz.prog 18 #[.slice A n c] w (GetP w l) := by
  have hb : ((n : Int) != 1024) = true := by simp; omega
  have HNO := Lib.hid (show ¬ isNd l from fun h => hn (by have := hr.1; rw [bv_len] at this; rw [← this]; exact h.1))
  clear hr hn
  go_enter Tryz.func18, Tryz.ntmps18
  go_wp2_with (first
  | (with_reducible change wpList _ _ _ (⟨some 2, Op.alloc _, _, _, _, _⟩ :: _) _ _
     go_must (refine wpList_alloc_var 26 rfl rfl info_node ?_)
     intro wa ba ma za
     have HA := Lib.hid (And.intro ba (And.intro ma za))
     clear ba ma za)
  | (with_reducible change wpList _ _ _ (⟨none, Op.store _ (Operand.tmp 2) _, _, _, _, _⟩ :: _) _ _
     go_must (refine wpList_store_var 26 _ _ rfl rfl w.heap.size #[.bool false, .slice none 0 0, .slice none 0 0, .slice none 0 0] _ _ rfl rfl HA.out.1 size_node rfl (nd4 _ _ _ _ _ _ _ _ _ _) ?_)
     intro wb bb mb zb
     have MB := HA.out.2.1.new_ mb (Nat.le_refl _)
     have C0 := bb.cell 0; have C1 := bb.cell 1; have C2 := bb.cell 2; have C3 := bb.cell 3
     clear bb mb zb))
  refine bodyPost_ret (v := .tuple #[.agg #[.bool false, .slice none 0 0, .slice none 0 0, .slice none 0 0], .int .i64 4]) (by simp [results, Tryz.results18, go_sem, C0, C1, C2, C3]) rfl (.inr ⟨HNO.out, rfl, MB⟩)
end
end Go.Proofs.YtjndcgpfikngaaaGreat
