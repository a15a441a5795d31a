/- Own lemmas of several kinds, put together: NdE, Nd8. -/
import Derived.Test.YtfoldjnmknaklaaGreatKitA
import Derived.Test.YtfoldjnmknaklaaGreatCrcA
import Derived.Laws.BytesArg
import Derived.Lib.SliceRun
import Derived.Test.YtfoldjnmknaklaaGreatNd7
import Derived.Test.YtfoldjnmknaklaaGreatNdI
/- bytes.Equal (as FrE, of which it is a part). -/
namespace Go.Proofs.YtfoldjnmknaklaaGreat
open Go.RowKit

theorem size_u8' : (Tryz.prog.info? 5).map (·.size) = some 1 := by kernel_rfl
theorem own_made0 (w : World) : (w.alloc (.cells #[] 5)).ownsRow w.heap.size 5 1 (.slice (some ⟨w.heap.size, 0, none⟩) 0 0) 0 [] :=
  ⟨rfl, .inr ⟨w.heap.size, 0, #[], rfl, Nat.le_refl _, heap_alloc_new w _, Nat.le_refl _, Nat.zero_le _, rfl, rfl⟩⟩
def bstr (l : List Nat) : ByteArray := strOfNums (l.map (fun c : Nat => (c : Int)))
theorem bstr_list (l : List Nat) : (bstr l).toList = l.map UInt8.ofNat := by
  rw [ByteArray.toList_eq]
  unfold bstr
  rw [strOfNums_data, List.map_map]
  rfl
theorem map_inj8 : ∀ {l m : List Nat}, (∀ z ∈ l, z < 256) → (∀ z ∈ m, z < 256) → l.map UInt8.ofNat = m.map UInt8.ofNat → l = m
  | [], [], _, _, _ => rfl
  | [], _ :: _, _, _, h => by cases h
  | _ :: _, [], _, _, h => by cases h
  | a :: l, b :: m, hl, hm, h => by
    injection h with h1 h2
    have ha := hl a List.mem_cons_self
    have hb := hm b List.mem_cons_self
    have := congrArg UInt8.toNat h1
    rw [UInt8.toNat_ofNat', UInt8.toNat_ofNat', Nat.mod_eq_of_lt ha, Nat.mod_eq_of_lt hb] at this
    rw [this, map_inj8 (fun z hz => hl z (List.mem_cons_of_mem _ hz)) (fun z hz => hm z (List.mem_cons_of_mem _ hz)) h2]
theorem bstr_eq {l m : List Nat} (hl : ∀ z ∈ l, z < 256) (hm : ∀ z ∈ m, z < 256) : ((bstr l).toList == (bstr m).toList) = decide (l = m) := by
  rw [bstr_list, bstr_list]
  by_cases h : l = m
  · rw [h]; simp
  · rw [decide_eq_false h, beq_eq_false_iff_ne]
    exact fun e => h (map_inj8 hl hm e)
section
variable {P : Program} {w : World} {A : Option Addr} {n c : Nat} {l : List Nat}
theorem conv_str (src e dst : TypeId) (hs : P.underlying src = some (.slice e)) (he : P.underlying e = some (.int .u8)) (hd : P.underlying dst = some .string) (hr : Rd w A n (bv l)) : (convert src dst (.slice A n c)).run P w = .ok (.string (bstr l)) w := by
  have hL : l.length = n := by have := hr.1; simpa [bv] using this
  rcases Nat.eq_zero_or_pos n with hn | hn
  · subst hn
    obtain rfl : l = [] := List.eq_nil_of_length_eq_zero hL
    rw [run_convert_bytes_string w src dst e _ 0 c hs he hd]
    cases A <;> simp [Conv.bytesToString, loadCells]
    all_goals rfl
  · obtain ⟨g, off, rfl, hc⟩ := hr.2 hn
    exact run_convert_bytes_arg (P := P) w src e hs he g off n c (l.map (fun c : Nat => (c : Int))) (by simpa using hL) (fun i hi => hc i _ (by
      unfold bv
      rw [List.getElem?_map, List.getElem?_eq_getElem (by omega)]
      simp [List.getD, List.getElem?_eq_getElem (show i < l.length by omega)])) dst hd
end
section
variable {w : World} {A B : Option Addr} {n m c d : Nat} {l k : List Nat}
set_option maxRecDepth 100000 in
theorem bequal_any (h1 : Rd w A n (bv l)) (h2 : Rd w B m (bv k)) (hl : ∀ z ∈ l, z < 256) (hk : ∀ z ∈ k, z < 256) :
    Calls Tryz.prog 35 #[.slice A n c, .slice B m d] w fun e w' => e = .returned (.bool (decide (l = k))) ∧ w = w' := by
  have c1 := conv_str (P := Tryz.prog) (c := c) 24 5 9 Tryz.underlying24 Tryz.underlying5 Tryz.underlying9 h1
  have c2 := conv_str (P := Tryz.prog) (c := d) 24 5 9 Tryz.underlying24 Tryz.underlying5 Tryz.underlying9 h2
  have hi := bstr_eq hl hk
  generalize bstr l = S1 at *
  generalize bstr k = S2 at *
  generalize decide (l = k) = D at *
  have HI := Lib.hid hi; clear hi
  clear h1 h2
  go_enter Tryz.func35, Tryz.ntmps35
  go_wp2
  rw [HI.out]
  go_ret
  exact ⟨rfl, rfl⟩
end
end Go.Proofs.YtfoldjnmknaklaaGreat

/- node.Get: bytes that are none. Printed by gen/ndget.py. -/
namespace Go.Proofs.YtfoldjnmknaklaaGreat
open Go.RowKit

theorem info_node : (Tryz.prog.info? 32).map (fun i => (i.zero, i.size)) = some (some (.agg #[.bool false, .slice none 0 0, .slice none 0 0, .slice none 0 0]), 4) := by kernel_rfl
theorem nd4 (b : Bool) (A B C : Option Addr) (n1 c1 n2 c2 n3 c3 : Nat) : (#[.bool b, .slice A n1 c1, .slice B n2 c2, .slice C n3 c3] : Array Value).all (·.oneCell') = true := by simp [Value.oneCell']
theorem size_tv : (Tryz.prog.info? 41).map (·.size) = some 40 := by kernel_rfl
theorem size_se : (Tryz.prog.info? 28).map (·.size) = some 1 := by kernel_rfl
theorem size_sk : (Tryz.prog.info? 29).map (·.size) = some 1 := by kernel_rfl
theorem size_si : (Tryz.prog.info? 30).map (·.size) = some 1 := by kernel_rfl
theorem zero_ent : (Tryz.prog.info? 43).map (·.zero) = some (some (.agg (bv (List.replicate 80 0)).toArray)) := by kernel_rfl
theorem info_ent3 : (Tryz.prog.info? 43).map (fun i => (i.zero, i.size, i.bytes)) = some (some (.agg (bv (List.replicate 80 0)).toArray), 80, 80) := by kernel_rfl
theorem info_tk3 : (Tryz.prog.info? 40).map (fun i => (i.zero, i.size, i.bytes)) = some (some (.agg (bv (List.replicate 40 0)).toArray), 40, 40) := by kernel_rfl
theorem info_int3 : (Tryz.prog.info? 3).map (fun i => (i.zero, i.size, i.bytes)) = some (some (.int .i64 0), 1, 8) := by kernel_rfl
theorem info_int2 : (Tryz.prog.info? 3).map (fun i => (i.zero, i.size)) = some (some (.int .i64 0), 1) := by kernel_rfl
theorem bv_one' (L : List Nat) : ∀ u ∈ bv L, u.oneCell' = true := by
  intro u hu
  obtain ⟨_, _, rfl⟩ := List.mem_map.1 hu
  rfl
section
variable {w w' : World} {A : Option Addr} {n c : Nat} {l : List Nat}
set_option maxRecDepth 100000 in
set_option maxHeartbeats 1600000 in
theorem nget_len (hr : Rd w A n (bv l)) (hn : n ≠ 1024) : Calls Tryz.prog 10 #[.slice A n c] w (GetP w l) := by
  have hb : ((n : Int) != 1024) = true := by simp; omega
  have HNO := Lib.hid (show ¬ isNd l from fun h => hn (by have := hr.1; rw [bv_len] at this; rw [← this]; exact h.1))
  clear hr hn
  go_enter Tryz.func10, Tryz.ntmps10
  go_wp2_with (first
  | (with_reducible change wpList _ _ _ (⟨some 2, Op.alloc _, _, _, _, _⟩ :: _) _ _
     go_must (refine wpList_alloc_var 32 rfl rfl info_node ?_)
     intro wa ba ma za
     have HA := Lib.hid (And.intro ba (And.intro ma za))
     clear ba ma za)
  | (with_reducible change wpList _ _ _ (⟨none, Op.store _ (Operand.tmp 2) _, _, _, _, _⟩ :: _) _ _
     go_must (refine wpList_store_var 32 _ _ rfl rfl w.heap.size #[.bool false, .slice none 0 0, .slice none 0 0, .slice none 0 0] _ _ rfl rfl HA.out.1 size_node rfl (nd4 _ _ _ _ _ _ _ _ _ _) ?_)
     intro wb bb mb zb
     have MB := HA.out.2.1.new_ mb (Nat.le_refl _)
     have C0 := bb.cell 0; have C1 := bb.cell 1; have C2 := bb.cell 2; have C3 := bb.cell 3
     clear bb mb zb))
  refine bodyPost_ret (v := .tuple #[.agg #[.bool false, .slice none 0 0, .slice none 0 0, .slice none 0 0], .int .i64 4]) (by simp [results, Tryz.results10, go_sem, C0, C1, C2, C3]) rfl (.inr ⟨HNO.out, rfl, MB⟩)
end
end Go.Proofs.YtfoldjnmknaklaaGreat
