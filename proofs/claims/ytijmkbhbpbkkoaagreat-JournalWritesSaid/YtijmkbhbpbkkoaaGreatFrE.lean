/- bytes.Equal, HasPrefix, Clone. -/
import Derived.Test.YtijmkbhbpbkkoaaGreatFrS
import Derived.Laws.BytesArg
import Derived.Lib.SliceRun
namespace Go.Proofs.YtijmkbhbpbkkoaaGreat
open Go.RowKit

theorem size_u8' : (Tryz.prog.info? 5).map (·.size) = some 1 := by kernel_rfl
theorem own_made0 (w : World) : (w.alloc (.cells #[] 5)).ownsRow w.heap.size 5 1 (.slice (some ⟨w.heap.size, 0, none⟩) 0 0) 0 [] :=
  ⟨rfl, .inr ⟨w.heap.size, 0, #[], rfl, Nat.le_refl _, heap_alloc_new w _, Nat.le_refl _, Nat.zero_le _, rfl, rfl⟩⟩
def bstr (l : List Nat) : ByteArray := strOfNums (l.map (fun c : Nat => (c : Int)))
theorem bstr_list (l : List Nat) : (bstr l).toList = l.map UInt8.ofNat := by
  rw [ByteArray.toList_eq]
  unfold bstr
  rw [strOfNums_data, List.map_map]
  rfl
theorem map_inj8 : ∀ {l m : List Nat}, (∀ z ∈ l, z < 256) → (∀ z ∈ m, z < 256) → l.map UInt8.ofNat = m.map UInt8.ofNat → l = m
  | [], [], _, _, _ => rfl
  | [], _ :: _, _, _, h => by cases h
  | _ :: _, [], _, _, h => by cases h
  | a :: l, b :: m, hl, hm, h => by
    injection h with h1 h2
    have ha := hl a List.mem_cons_self
    have hb := hm b List.mem_cons_self
    have := congrArg UInt8.toNat h1
    rw [UInt8.toNat_ofNat', UInt8.toNat_ofNat', Nat.mod_eq_of_lt ha, Nat.mod_eq_of_lt hb] at this
    rw [this, map_inj8 (fun z hz => hl z (List.mem_cons_of_mem _ hz)) (fun z hz => hm z (List.mem_cons_of_mem _ hz)) h2]
theorem bstr_eq {l m : List Nat} (hl : ∀ z ∈ l, z < 256) (hm : ∀ z ∈ m, z < 256) : ((bstr l).toList == (bstr m).toList) = decide (l = m) := by
  rw [bstr_list, bstr_list]
  by_cases h : l = m
  · rw [h]; simp
  · rw [decide_eq_false h, beq_eq_false_iff_ne]
    exact fun e => h (map_inj8 hl hm e)
section
variable {P : Program} {w : World} {A : Option Addr} {n c : Nat} {l : List Nat}
theorem conv_str (src e dst : TypeId) (hs : P.underlying src = some (.slice e)) (he : P.underlying e = some (.int .u8)) (hd : P.underlying dst = some .string) (hr : Rd w A n (bv l)) : (convert src dst (.slice A n c)).run P w = .ok (.string (bstr l)) w := by
  have hL : l.length = n := by have := hr.1; simpa [bv] using this
  rcases Nat.eq_zero_or_pos n with hn | hn
  · subst hn
    obtain rfl : l = [] := List.eq_nil_of_length_eq_zero hL
    rw [run_convert_bytes_string w src dst e _ 0 c hs he hd]
    cases A <;> simp [Conv.bytesToString, loadCells]
    all_goals rfl
  · obtain ⟨g, off, rfl, hc⟩ := hr.2 hn
    exact run_convert_bytes_arg (P := P) w src e hs he g off n c (l.map (fun c : Nat => (c : Int))) (by simpa using hL) (fun i hi => hc i _ (by
      unfold bv
      rw [List.getElem?_map, List.getElem?_eq_getElem (by omega)]
      simp [List.getD, List.getElem?_eq_getElem (show i < l.length by omega)])) dst hd
end
section
variable {w : World} {A B : Option Addr} {n m c d : Nat} {l k : List Nat}
set_option maxRecDepth 100000 in
theorem bequal_any (h1 : Rd w A n (bv l)) (h2 : Rd w B m (bv k)) (hl : ∀ z ∈ l, z < 256) (hk : ∀ z ∈ k, z < 256) :
    Calls Tryz.prog 72 #[.slice A n c, .slice B m d] w fun e w' => e = .returned (.bool (decide (l = k))) ∧ w = w' := by
  have c1 := conv_str (P := Tryz.prog) (c := c) 29 5 9 Tryz.underlying29 Tryz.underlying5 Tryz.underlying9 h1
  have c2 := conv_str (P := Tryz.prog) (c := d) 29 5 9 Tryz.underlying29 Tryz.underlying5 Tryz.underlying9 h2
  have hi := bstr_eq hl hk
  generalize bstr l = S1 at *
  generalize bstr k = S2 at *
  generalize decide (l = k) = D at *
  have HI := Lib.hid hi; clear hi
  clear h1 h2
  go_enter Tryz.func72, Tryz.ntmps72
  go_wp2
  rw [HI.out]
  go_ret
  exact ⟨rfl, rfl⟩
set_option maxRecDepth 100000 in
theorem bprefix_any (h1 : Rd w A n (bv l)) (h2 : Rd w B m (bv k)) (hl : ∀ z ∈ l, z < 256) (hk : ∀ z ∈ k, z < 256) (hc : n ≤ c) :
    Calls Tryz.prog 66 #[.slice A n c, .slice B m d] w fun e w' => e = .returned (.bool (decide (m ≤ n ∧ l.take m = k))) ∧ w = w' := by
  by_cases hm : m ≤ n
  · have hp := h1.pre (c := c) m hm hc
    have e1 : (bv l).take m = bv (l.take m) := by unfold bv; rw [← List.map_take]
    rw [e1] at hp
    have hq := bequal_any (c := c) (d := d) hp h2 (fun z hz => hl z (List.mem_of_mem_take hz)) hk
    have e2 : decide (m ≤ n ∧ l.take m = k) = decide (l.take m = k) := by simp [hm]
    rw [e2]
    generalize decide (l.take m = k) = D at *
    clear h1 h2 hp e1 e2
    go_enter Tryz.func66, Tryz.ntmps66
    go_wp2_with (first
      | (with_reducible change wpList _ _ _ (⟨_, Op.slice _ _ _ _ _, _, _, _, _⟩ :: _) _ _
         go_must (refine wpList_sub_h 29 _ _ rfl rfl 5 1 Tryz.underlying29 size_u8' (h := m) rfl rfl (by omega) ?_))
      | (refine hq.mono ?_; rintro e w' ⟨rfl, rfl⟩))
    go_ret
    exact ⟨rfl, rfl⟩
  · have e2 : decide (m ≤ n ∧ l.take m = k) = false := by simp [hm]
    rw [e2]
    have hm' : ¬ (m : Int) ≤ n := by omega
    go_enter Tryz.func66, Tryz.ntmps66
    go_wp2
    go_ret
    exact ⟨rfl, rfl⟩
set_option maxRecDepth 100000 in
theorem bclone_any (h1 : Rd w A n (bv l)) (hn : n ≤ 140737488355328) :
    Calls Tryz.prog 64 #[.slice A n c] w fun e w' => ∃ v, e = .returned v ∧ w'.ownsRow w.heap.size 5 1 v n (bv l) ∧ Mod Nn w w' := by
  have q22 : ∀ (w : World) (a : Option Addr) (n c n' c' : Nat), (binOp .eql 29 (.slice a n c) (.slice none n' c')).run Tryz.prog w = .ok (.bool a.isNone) w := fun w a n c n' c' => Lib.run_eql_slice_nil w _ _ a n c n' c' Tryz.underlying29
  cases A with
  | none =>
    have hn0 : n = 0 := by
      rcases Nat.eq_zero_or_pos n with h | h
      · exact h
      · obtain ⟨_, _, h, _⟩ := h1.2 h; cases h
    subst hn0
    obtain rfl : l = [] := List.eq_nil_of_length_eq_zero (by have := h1.1; simpa [bv] using this)
    go_enter Tryz.func64, Tryz.ntmps64
    go_wp2
    go_ret
    exact ⟨_, rfl, own_nil _ _ _ _, Mod.refl _ _⟩
  | some a =>
    go_enter Tryz.func64, Tryz.ntmps64
    go_wp2_with (first
      | (with_reducible change wpList _ _ _ (⟨some 7, _, _, _, _, _⟩ :: _) _ _
         have m1 : Mod Nn w (w.alloc (.cells #[] 5)) := (Mod.refl Nn w).alloc _
         go_must (refine wpList_append_rd 29 _ _ rfl rfl w.heap.size 5 (.int .u8 0) 1 1 Tryz.underlying29 info_u8 rfl (by omega) _ 0 [] rfl (own_made0 w) _ n _ (bv l) rfl (h1.mod m1 (fun _ _ f => f)).toC (bv_one _) (by omega) (by omega) (by simp) ?_)
         intro v2 w2 o2 g2 b2
         have M2 := m1.grown g2 (fun g hg => .inl (by have hg : some w.heap.size = some g := hg; injection hg with hg; omega))
         rw [Nat.zero_add, List.nil_append] at o2
         have HO := Lib.hid o2
         clear g2 b2 m1 o2 h1 q22))
    go_ret
    exact ⟨_, rfl, HO.out, M2⟩
end
end Go.Proofs.YtijmkbhbpbkkoaaGreat
