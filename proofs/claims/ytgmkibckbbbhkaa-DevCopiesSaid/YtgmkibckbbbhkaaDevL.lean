/- peatbanklaw08.like; DevLives. -/
import Derived.Test.YtgmkibckbbbhkaaDevS2
import Derived.Test.YtgmkibckbbbhkaaDev8
import Derived.Test.YtgmkibckbbbhkaaDevA
namespace Go.Proofs.Ytgmkibckbbbhkaa
open Go.RowKit

section
variable {w0 w : World} {b ms mo b' : Nat} {lv : Value} {F : Nat → Prop} {D : Dk} {L : List Sec}
/-- any step -/
theorem step_any (h : Pr w0 w b ms mo b' lv F D D L) (x : DoR) (hx : x.ok) (hf : Rd w0 x.fa x.fn (x.fl.map (Value.int .i64))) (hfn : x.fn ≤ 1000) :
    Calls Try.prog 32 #[.pointer (some ⟨b, 0, none⟩), .pointer (some ⟨b', 0, none⟩), doA x] w (StP w0 w b ms mo b' lv F) := by
  have hr := pick_range x.op 8 (by omega)
  by_cases h1 : pick x.op 8 ≤ 2
  · exact step_write h x hx (by omega)
  by_cases h2 : pick x.op 8 = 3
  · exact step_sync h x hx h2
  by_cases h3 : pick x.op 8 = 4
  · exact step_arm h x hx h3
  by_cases h4 : pick x.op 8 = 7
  · exact step_wake h x hx hf hfn h4
  · exact step_read h x hx (by omega)
theorem doSize : (Try.prog.info? 31).map (·.size) = some 5 := by kernel_rfl
theorem do_cells {g off k : Nat} {x : DoR} (h : DoAt w g off k x) : ∀ j v, [Value.int .i64 x.op, .int .i64 x.sec, .int .i64 x.num, .int .u8 x.byt, .slice x.fa x.fn x.fc][j]? = some v → w.cell? ⟨g, off + k * 5 + j, none⟩ = some v
  | 0, v, hv => by injection hv with hv; rw [← hv]; exact h.c0
  | 1, v, hv => by injection hv with hv; rw [← hv]; exact h.c1
  | 2, v, hv => by injection hv with hv; rw [← hv]; exact h.c2
  | 3, v, hv => by injection hv with hv; rw [← hv]; exact h.c3
  | 4, v, hv => by injection hv with hv; rw [← hv]; exact h.c4
  | j + 5, v, hv => by simp at hv

set_option maxRecDepth 100000 in
set_option maxHeartbeats 3200000 in
theorem like_any (h : Pr w0 w b ms mo b' lv F D D L) {A : Option Addr} {n c : Nat} {xs : List DoR} (hx : RdDo w0 A n xs) (hn : n ≤ 1000) :
    Calls Try.prog 34 #[.pointer (some ⟨b, 0, none⟩), .pointer (some ⟨b', 0, none⟩), .slice A n c] w fun e w' => e = .returned (.bool true) ∧ Mod Nn w w' := by
  have H := Lib.hid h; clear h
  have hloop : ∀ (P : Prop), P → P := fun _ h => h
  generalize hdn : D.down = dn at *
  generalize hDn : D.n = dN at *
  have HD := Lib.hid (And.intro hdn hDn); clear hdn hDn
  clear hloop
  go_enter Try.func34, Try.ntmps34
  go_wp2_with fail
  refine (down_any H.out.d).mono ?_
  rintro r w1 ⟨rfl, rfl⟩
  rw [HD.out.1]
  go_wp2_with fail
  refine (rdown_any H.out.r).mono ?_
  rintro r w1 ⟨rfl, rfl⟩
  rw [HD.out.1]
  go_wp2_with fail
  refine (sectors_any H.out.d).mono ?_
  rintro r w1 ⟨rfl, rfl⟩
  rw [HD.out.2]
  go_wp2_with fail
  refine (rsectors_any H.out.r).mono ?_
  rintro r w1 ⟨rfl, rfl⟩
  rw [HD.out.2]
  go_wp2_with fail
  refine (rsectors_any H.out.r).mono ?_
  rintro r w1 ⟨rfl, rfl⟩
  rw [HD.out.2]
  have HX := Lib.hid hx; clear hx
  by_cases h9 : dN < 9
  · have hbl : 512 * D.n.toNat ≤ 5000 := by have := HD.out.2; omega
    go_wp2_with fail
    refine (bytes_any H.out.d).mono ?_
    rintro r w2 ⟨v, rfl, own2, m2⟩
    have h2 := H.out.quiet m2
    obtain ⟨A1, c1, rfl, hr1, -⟩ := own_rd own2
    clear own2
    go_wp2_with fail
    refine (rbytes_any h2.r).mono ?_
    rintro r w3 ⟨v, rfl, own3, m3⟩
    obtain ⟨A2, c2, rfl, hr2, -⟩ := own_rd own3
    have hr1' := hr1.mod m3 (fun _ _ f => f)
    have M3 := m2.nn_ m3
    clear h2 own3 m3 hr1 m2
    go_wp2_with fail
    refine (same_any hr1' hr2 (by omega) (by omega)).mono ?_
    rintro r w4 ⟨rfl, m4⟩
    rw [show decide (bytesN D D.n.toNat = bytesN D D.n.toNat) = true from by simp]
    have M0 := M3.nn_ m4
    clear hr1' hr2 m4 M3
    go_wp2
    go_loopw [7] (fun i wr => ∃ k : Nat, k ≤ n ∧ i = .int .i64 k ∧ Mod Nn w wr) (fun i _ => n - (intOf i).toNat)
    case atStart => exact ⟨0, Nat.zero_le _, rfl, M0⟩
    case round =>
      clear M0
      obtain ⟨k, hk, rfl, hm⟩ := hrel
      obtain ⟨wo, rfl⟩ : ∃ wo : World, wo = wr := ⟨_, rfl⟩
      by_cases hlt : k < n
      · obtain ⟨g, off, x, rfl, hxk, hat, hxo, -⟩ := ((HX.out.mod H.out.md).mod hm).at_ hlt
        have hlt' : (k : Int) < n := by omega
        have cc1 := hat.c1
        have h2 := H.out.quiet hm
        have hl : (D.read x.sec).length ≤ 512 := by
          unfold Dk.read
          split
          · rw [H.out.d.ok.latest_len]; omega
          · simp
        generalize hM : D.may x.sec = M at *
        generalize hRd : D.read x.sec = l at *
        have HR := Lib.hid (And.intro hM hRd); clear hM hRd hxk hat
        go_wp2_with fail
        refine (read_any h2.d x.sec).mono ?_
        rintro r w2 ⟨v, rfl, own2, m2⟩
        rw [HR.out.1]
        rw [HR.out.2] at own2
        have h3 := h2.quiet m2
        have hgl : g < wo.heap.size := World.block_lt_of_cell? wo _ cc1
        have cc1 := (m2.cell (p := ⟨g, off + k * 5 + 1, none⟩) hgl (fun f => f)).trans cc1
        obtain ⟨A1, c1, rfl, hr1, -⟩ := own_rd own2
        have M2 := hm.nn_ m2
        clear h2 own2 m2 hm hgl
        go_wp2_with fail
        refine (rread_any h3.r x.sec).mono ?_
        rintro r w3 ⟨v, rfl, own3, m3⟩
        rw [HR.out.1]
        rw [HR.out.2] at own3
        obtain ⟨A2, c2, rfl, hr2, -⟩ := own_rd own3
        have hr1' := hr1.mod m3 (fun _ _ f => f)
        have M3 := M2.nn_ m3
        clear h3 own3 m3 hr1 M2 cc1
        go_wp2_with fail
        refine (same_any hr1' hr2 (by omega) (by omega)).mono ?_
        rintro r w4 ⟨rfl, m4⟩
        rw [show decide (l = l) = true from by simp]
        have M4 := M3.nn_ m4
        clear hr1' hr2 m4 M3
        go_wp2
        exact ⟨⟨k + 1, by omega, by go_num, M4⟩, by simp [intOf]; omega⟩
      · have hlt' : ¬ (k : Int) < n := by omega
        go_wp2
        go_ret
        exact ⟨rfl, hm⟩
  · have M0 : Mod Nn w w := Mod.refl _ _
    go_wp2
    go_loopw [7] (fun i wr => ∃ k : Nat, k ≤ n ∧ i = .int .i64 k ∧ Mod Nn w wr) (fun i _ => n - (intOf i).toNat)
    case atStart => exact ⟨0, Nat.zero_le _, rfl, M0⟩
    case round =>
      clear M0
      obtain ⟨k, hk, rfl, hm⟩ := hrel
      obtain ⟨wo, rfl⟩ : ∃ wo : World, wo = wr := ⟨_, rfl⟩
      by_cases hlt : k < n
      · obtain ⟨g, off, x, rfl, hxk, hat, hxo, -⟩ := ((HX.out.mod H.out.md).mod hm).at_ hlt
        have hlt' : (k : Int) < n := by omega
        have cc1 := hat.c1
        have h2 := H.out.quiet hm
        have hl : (D.read x.sec).length ≤ 512 := by
          unfold Dk.read
          split
          · rw [H.out.d.ok.latest_len]; omega
          · simp
        generalize hM : D.may x.sec = M at *
        generalize hRd : D.read x.sec = l at *
        have HR := Lib.hid (And.intro hM hRd); clear hM hRd hxk hat
        go_wp2_with fail
        refine (read_any h2.d x.sec).mono ?_
        rintro r w2 ⟨v, rfl, own2, m2⟩
        rw [HR.out.1]
        rw [HR.out.2] at own2
        have h3 := h2.quiet m2
        have hgl : g < wo.heap.size := World.block_lt_of_cell? wo _ cc1
        have cc1 := (m2.cell (p := ⟨g, off + k * 5 + 1, none⟩) hgl (fun f => f)).trans cc1
        obtain ⟨A1, c1, rfl, hr1, -⟩ := own_rd own2
        have M2 := hm.nn_ m2
        clear h2 own2 m2 hm hgl
        go_wp2_with fail
        refine (rread_any h3.r x.sec).mono ?_
        rintro r w3 ⟨v, rfl, own3, m3⟩
        rw [HR.out.1]
        rw [HR.out.2] at own3
        obtain ⟨A2, c2, rfl, hr2, -⟩ := own_rd own3
        have hr1' := hr1.mod m3 (fun _ _ f => f)
        have M3 := M2.nn_ m3
        clear h3 own3 m3 hr1 M2 cc1
        go_wp2_with fail
        refine (same_any hr1' hr2 (by omega) (by omega)).mono ?_
        rintro r w4 ⟨rfl, m4⟩
        rw [show decide (l = l) = true from by simp]
        have M4 := M3.nn_ m4
        clear hr1' hr2 m4 M3
        go_wp2
        exact ⟨⟨k + 1, by omega, by go_num, M4⟩, by simp [intOf]; omega⟩
      · have hlt' : ¬ (k : Int) < n := by omega
        go_wp2
        go_ret
        exact ⟨rfl, hm⟩
end
end Go.Proofs.Ytgmkibckbbbhkaa
