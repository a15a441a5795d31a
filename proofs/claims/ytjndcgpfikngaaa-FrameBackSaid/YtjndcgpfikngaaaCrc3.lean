/- crc.Table.Add, New; crc.Add, Sum. -/
import Derived.Test.YtjndcgpfikngaaaCrc2
namespace Go.Proofs.Ytjndcgpfikngaaa
open Go.RowKit

def bv (l : List Nat) : List Value := l.map (fun c : Nat => Value.int .u8 (c : Int))
def TblAt (w : World) (b : Nat) (p : BitVec 32) : Prop := ∃ e, Blk w b 215 (tblC true p 0 0 e (rowsK p 0)) ∨ Blk w b 215 (tblC true p 1 0 e (rowsF p))
theorem TblAt.lt {w : World} {b : Nat} {p : BitVec 32} (h : TblAt w b p) : b < w.heap.size := by
  obtain ⟨e, h | h⟩ := h <;> exact h.lt
theorem TblAt.mod {w w' : World} {b : Nat} {p : BitVec 32} {S : Nat → Prop} (h : TblAt w b p) (hm : Mod S w w') (hn : ¬ S b) : TblAt w' b p := by
  obtain ⟨e, h | h⟩ := h
  · exact ⟨e, .inl (h.mod hm hn)⟩
  · exact ⟨e, .inr (h.mod hm hn)⟩
theorem idx_int (x : BitVec 32) (c : Nat) (hc : c < 256) : bits .xor .u8 ((x.toNat : Int) % 256) (c : Int) = (((x ^^^ BitVec.ofNat 32 c) &&& 255#32).toNat : Int) := by
  have h1 : ((x.toNat : Int) % 256) = ((x.toNat % 256 : Nat) : Int) := by omega
  have h2 : (x.toNat % 256) ^^^ c < 2 ^ 8 := Nat.xor_lt_two_pow (by omega) (by omega)
  rw [h1]
  show IntKind.u8.wrap ((BitVec.ofInt 8 ((x.toNat % 256 : Nat) : Int) ^^^ BitVec.ofInt 8 (c : Int)).toNat : Int) = _
  rw [BitVec.ofInt_natCast, BitVec.ofInt_natCast, BitVec.toNat_xor, BitVec.toNat_ofNat, BitVec.toNat_ofNat, IntKind.wrap_u8, Nat.mod_eq_of_lt (show x.toNat % 256 < 2 ^ 8 by omega), Nat.mod_eq_of_lt (show c < 2 ^ 8 by omega),
    BitVec.toNat_and, BitVec.toNat_xor, BitVec.toNat_ofNat, Nat.mod_eq_of_lt (show c < 2 ^ 32 by omega), show (255#32).toNat = 2 ^ 8 - 1 from rfl, Nat.and_two_pow_sub_one_eq_mod, Nat.xor_mod_two_pow, Nat.mod_eq_of_lt (show c < 2 ^ 8 by omega)]
  have h3 : x.toNat % 256 = x.toNat % 2 ^ 8 := rfl
  rw [h3] at h2 ⊢
  omega
theorem idx_lt (x : BitVec 32) : (x &&& 255#32).toNat < 256 := by
  rw [BitVec.toNat_and, show (255#32).toNat = 2 ^ 8 - 1 from rfl, Nat.and_two_pow_sub_one_eq_mod]
  omega

theorem b_not (s : BitVec 32) : bits .xor .u32 IntKind.u32.max (s.toNat : Int) = ((~~~ s).toNat : Int) := by
  have h : (IntKind.u32.max : Int) = ((BitVec.allOnes 32).toNat : Int) := by decide
  rw [h, b_xor, BitVec.allOnes_xor]
theorem shr8 (x : BitVec 32) : (x.toNat : Int) / (256 : Int) = ((x >>> 8).toNat : Int) := b_shr x 8
theorem bv_at (l : List Nat) (k : Nat) : (bv l)[k]? = (l[k]?).map (fun c : Nat => Value.int .u8 (c : Int)) := List.getElem?_map ..
theorem crcF_snoc (p x : BitVec 32) (l : List Nat) (k : Nat) (z : Nat) (h : l[k]? = some z) : crcF p x (l.take (k + 1)) = cby p (crcF p x (l.take k)) z := by
  have hk : k < l.length := (List.getElem?_eq_some_iff.1 h).1
  rw [List.take_succ_eq_append_getElem hk, crcF_append, (List.getElem?_eq_some_iff.1 h).2]
  rfl
set_option maxRecDepth 100000 in
set_option maxHeartbeats 1600000 in
theorem add_of {w : World} {b : Nat} {p : BitVec 32} {e : Int} (c0 : w.cell? ⟨b, 0, none⟩ = some (.bool true))
    (hdo : Calls Try.prog 109 #[.pointer (some ⟨b, 2, none⟩), .func (.func 110) #[.pointer (some ⟨b, 0, none⟩)] #[]] w fun r w' => r = .returned (.tuple #[]) ∧ Blk w' b 215 (tblC true p 1 0 e (rowsF p)) ∧ Mod (At b) w w')
    (s : BitVec 32) {A : Option Addr} {n c : Nat} {l : List Nat} (hr0 : Rd w A n (bv l)) (hA : ∀ g, Of A g → 0 < n → g ≠ b) (hl : ∀ z ∈ l, z < 256) (hn : n ≤ 140737488355328) :
    Calls Try.prog 87 #[.pointer (some ⟨b, 0, none⟩), .int .u32 (s.toNat : Int), .slice A n c] w fun r w' => r = .returned (.int .u32 ((crcS p s l).toNat : Int)) ∧ Blk w' b 215 (tblC true p 1 0 e (rowsF p)) ∧ Mod (At b) w w' := by
  have hmf : ∀ (fn : Fn) (first cap : Array Value) (w : World), (Instr.makeFunc fn first cap).run Try.prog w = .ok (.func fn first cap) w := fun _ _ _ _ => rfl
  unfold crcS
  have hS := b_not s
  generalize ~~~ s = S at *
  generalize hR : ~~~ crcF p S l = R
  have HSS := Lib.hid hS; have HR := Lib.hid hR; clear hS hR
  go_enter Try.func87, Try.ntmps87
  go_wp2_with fail
  refine hdo.mono ?_
  rintro r w ⟨rfl, hb, m2⟩
  have hr := hr0.mod0 m2 (fun hp g hg => hA g hg hp)
  have hL : l.length = n := by have := hr.1; simpa [bv] using this
  have HL := Lib.hid hL; clear hL hdo c0 hr0
  have hS := HSS.out
  go_wp2
  clear hS
  go_loop [7, 29] (fun v i => ∃ k : Nat, k ≤ n ∧ i = .int .i64 k ∧ v = .int .u32 ((crcF p S (l.take k)).toNat : Int)) (fun _ i => n - (intOf i).toNat)
  case atStart => exact ⟨0, Nat.zero_le _, rfl, rfl⟩
  case round =>
    obtain ⟨k, hk, rfl, rfl⟩ := hrel
    by_cases hlt : k < n
    · have hlt' : (k : Int) < n := by omega
      obtain ⟨g, off, v, rfl, hv, hc⟩ := hr.at_ hlt
      rw [bv_at] at hv
      obtain ⟨z, hz, rfl⟩ := Option.map_eq_some_iff.1 hv
      have hz8 : z < 256 := hl z (List.mem_of_getElem? hz)
      have hnext := crcF_snoc p S l k z hz
      generalize crcF p S (l.take k) = X at *
      have HN := Lib.hid hnext
      have hI := idx_int X z hz8
      have hIl := idx_lt (X ^^^ BitVec.ofNat 32 z)
      have hstep := cby_table p X z hz8
      have HST := Lib.hid hstep
      have cR : w.cell? ⟨b, 5 + ((X ^^^ BitVec.ofNat 32 z) &&& 255#32).toNat, none⟩ = some (.int .u32 ((cstN p 8 ((X ^^^ BitVec.ofNat 32 z) &&& 255#32)).toNat : Int)) := by
        rw [hb.cell (5 + _), tblC_row, rowsF_at p _ hIl, BitVec.ofNat_toNat, BitVec.setWidth_eq]; rfl
      generalize hT : cstN p 8 ((X ^^^ BitVec.ofNat 32 z) &&& 255#32) = T at *
      have HT := Lib.hid hT
      generalize ((X ^^^ BitVec.ofNat 32 z) &&& 255#32).toNat = I at *
      have HXs := Lib.hid (shr8 X)
      clear hnext hstep hT hv hz hr hA
      have hIl' : (0 : Int) ≤ I ∧ (I : Int) < 256 := by omega
      go_wp2
      exact ⟨⟨k + 1, by omega, by go_num, by rw [HXs.out, b_xor, HN.out, HST.out]⟩, by simp [intOf]; omega⟩
    · have hlt' : ¬ (k : Int) < n := by omega
      have hk' : l.take k = l := List.take_of_length_le (by rw [HL.out]; omega)
      rw [hk']
      have hS := b_not (crcF p S l)
      rw [HR.out] at hS
      clear hk' hr
      go_wp2
      go_ret
      exact ⟨rfl, hb, m2⟩

theorem add_any0 {w : World} {b : Nat} {p : BitVec 32} (h : TblAt w b p) (s : BitVec 32) {A : Option Addr} {n c : Nat} {l : List Nat} (hr : Rd w A n (bv l)) (hA : ∀ g, Of A g → 0 < n → g ≠ b) (hl : ∀ z ∈ l, z < 256) (hn : n ≤ 140737488355328) :
    Calls Try.prog 87 #[.pointer (some ⟨b, 0, none⟩), .int .u32 (s.toNat : Int), .slice A n c] w fun r w' => r = .returned (.int .u32 ((crcS p s l).toNat : Int)) ∧ TblAt w' b p ∧ Mod (At b) w w' := by
  obtain ⟨e, h | h⟩ := h
  · exact (add_of (e := e) ((h.cell 0).trans (tblC_0 _ _ _ _ _ _)) ((do_first h).mono fun r w' ⟨h1, h2, h3, _⟩ => ⟨h1, h2, h3⟩) s hr hA hl hn).mono fun r w' ⟨h1, h2, h3⟩ => ⟨h1, ⟨e, .inr h2⟩, h3⟩
  · exact (add_of (e := e) ((h.cell 0).trans (tblC_0 _ _ _ _ _ _)) ((do_done _ h).mono fun r w' ⟨h1, h2⟩ => ⟨h1, h2 ▸ h, h2 ▸ Mod.refl _ _⟩) s hr hA hl hn).mono fun r w' ⟨h1, h2, h3⟩ => ⟨h1, ⟨e, .inr h2⟩, h3⟩
end Go.Proofs.Ytjndcgpfikngaaa
