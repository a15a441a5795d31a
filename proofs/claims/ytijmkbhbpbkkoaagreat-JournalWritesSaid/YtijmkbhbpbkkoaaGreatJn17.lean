/- A journal that goes on: the device and the memory behind so many records; Append, Room, Open again. -/
import Derived.Test.YtijmkbhbpbkkoaaGreatJnD
import Derived.Test.YtijmkbhbpbkkoaaGreatJn15
namespace Go.Proofs.YtijmkbhbpbkkoaaGreat
open Go.RowKit

/-- a device whose half holds these records, and noughts behind; all else as at first -/
structure JSt (D0 D : Dk) (hf : Int) (J : Nat) (ep : Int) (done : List (List Nat)) : Prop where
  up : DUp D
  n : D.n = D0.n
  fit : jsec done ≤ J
  row : rowsL D hf J = natsn (jrow ep.toNat 0 done ++ List.replicate (512 * (J - jsec done)) 0)
  far : ∀ j, (j < hf ∨ hf + J ≤ j) → D.latest j = D0.latest j
section
variable {D0 D : Dk} {hf : Int} {J : Nat} {ep : Int} {done : List (List Nat)}
theorem JSt.step (h : JSt D0 D hf J ep done) (hok : D.ok) (hh : 0 ≤ hf) (hn : hf + J ≤ D0.n) (r : List Nat) (hfit : jsec done + fsec r.length ≤ J) :
    ∃ D', bwrite D (hf + (jsec done : Int)) (natsn (recB ep done.length r)) = (0, D') ∧ JSt D0 D' hf J ep (done ++ [r]) := by
  obtain ⟨D', h1, h2, h3, h4, h5⟩ := half_write (n := jsec done) (k := fsec r.length) (B := recB ep done.length r) hok h.up hh (by rw [h.n]; exact hn) h.row (jrow_len _ _ _) (recB_len _ _ _) hfit
  refine ⟨D', h1, h2, h3.trans h.n, by rw [jsec_snoc]; exact hfit, ?_, fun j hj => (h5 j hj).trans (h.far j hj)⟩
  rw [h4, jsec_snoc, jrow_snoc, Nat.zero_add, List.drop_replicate, List.append_assoc, List.append_assoc]
  show natsn (jrow ep.toNat 0 done ++ (recB ep done.length r ++ _)) = natsn (jrow ep.toNat 0 done ++ (recB ep done.length r ++ _))
  rw [show 512 * (J - jsec done) - 512 * fsec r.length = 512 * (J - (jsec done + fsec r.length)) from by omega]
theorem JSt.lt (h : JSt D0 D hf J ep done) (hl : ∀ r ∈ done, ∀ z ∈ r, z < 256) : ∀ z ∈ jrow ep.toNat 0 done ++ List.replicate (512 * (J - jsec done)) 0, z < 256 := fun z hz => by
  rcases List.mem_append.1 hz with h1 | h1
  · exact jrow_lt _ done 0 hl z h1
  · rw [(List.mem_replicate.1 h1).2]; omega
theorem jrow_alls (J : Nat) (he0 : 0 ≤ ep) (he1 : ep ≤ 1099511627776) (hq : done.length ≤ 1000000) (hb : ∀ r ∈ done, r.length ≤ 32768) : AllRecs (jrow ep.toNat 0 done ++ List.replicate (512 * (J - jsec done)) 0) ep (jsec done) done := by
  have h := jrow_all ep.toNat (by omega) done (by omega) hb (512 * (J - jsec done))
  rw [show ((ep.toNat : Nat) : Int) = ep from by omega] at h
  exact h
/-- the row of noughts and records has the half's length -/
theorem jrow_half_len (hfit : jsec done ≤ J) : (jrow ep.toNat 0 done ++ List.replicate (512 * (J - jsec done)) 0).length = 512 * J := by
  rw [List.length_append, jrow_len, List.length_replicate]; omega
end
/-- a journal of one's own at work -/
def JNow (w0 w : World) (c b ms mo mk jb : Nat) (D0 : Dk) (hf : Int) (J : Nat) (ep : Int) (done : List (List Nat)) (X : Nat → Prop) (t : Int) : Prop :=
  ∃ (D : Dk) (now hits misses : Int) (l : KL) (T : TL), OwnC w0 w c b ms mo mk D 8 now hits misses l T ∧ JO w0 w c b ms mo mk l jb hf J ep (jsec done : Int) (done.length : Int) ∧ JSt D0 D hf J ep done ∧ now ≤ t ∧
    ∀ k, X k → k < w.heap.size ∧ k ≠ jb ∧ ¬ InA c b ms mo mk l k
section
variable {w0 w w' : World} {c b ms mo mk jb g : Nat} {D0 : Dk} {hf : Int} {J : Nat} {ep : Int} {done : List (List Nat)} {X : Nat → Prop} {t : Int}
theorem JNow.nn (h : JNow w0 w c b ms mo mk jb D0 hf J ep done X t) (hm : Mod Nn w w') : JNow w0 w' c b ms mo mk jb D0 hf J ep done X t := by
  obtain ⟨D, now, hits, misses, l, T, h1, h2, h3, h4, h5⟩ := h
  exact ⟨D, now, hits, misses, l, T, h1.quiet hm, h2.nn hm, h3, h4, fun k hk => ⟨by have := hm.size; have := (h5 k hk).1; omega, (h5 k hk).2⟩⟩
theorem JNow.le (h : JNow w0 w c b ms mo mk jb D0 hf J ep done X t) {t' : Int} (ht : t ≤ t') : JNow w0 w c b ms mo mk jb D0 hf J ep done X t' := by
  obtain ⟨D, now, hits, misses, l, T, h1, h2, h3, h4, h5⟩ := h
  exact ⟨D, now, hits, misses, l, T, h1, h2, h3, by omega, h5⟩
theorem JNow.md (h : JNow w0 w c b ms mo mk jb D0 hf J ep done X t) : Mod Nn w0 w := by
  obtain ⟨D, now, hits, misses, l, T, h1, -⟩ := h
  exact h1.md
theorem JNow.fit (h : JNow w0 w c b ms mo mk jb D0 hf J ep done X t) : jsec done ≤ J := by
  obtain ⟨D, now, hits, misses, l, T, -, -, h3, -⟩ := h
  exact h3.fit
/-- a block of another's is written -/
theorem JNow.at_ (h : JNow w0 w c b ms mo mk jb D0 hf J ep done X t) (hg : X g) (h0 : w0.heap.size ≤ g) (hm : Mod (At g) w w') : JNow w0 w' c b ms mo mk jb D0 hf J ep done X t := by
  obtain ⟨D, now, hits, misses, l, T, h1, h2, h3, h4, h5⟩ := h
  obtain ⟨k1, k2, k3⟩ := h5 g hg
  refine ⟨D, now, hits, misses, l, T, ⟨h1.at_.mod hm (fun k hk e => k3 ((show k = g from e) ▸ hk)), h1.md.new_ hm h0, h1.fr⟩, ⟨h2.s.mod hm (fun e => k2 (show jb = g from e).symm), h2.fr, h2.sep⟩, h3, h4, fun k hk => ⟨by have := hm.size; have := (h5 k hk).1; omega, (h5 k hk).2⟩⟩
/-- a new block of another's -/
theorem JNow.with_ (h : JNow w0 w c b ms mo mk jb D0 hf J ep done X t) (hm : Mod Nn w w') (h0 : w.heap.size ≤ g) (h1 : g < w'.heap.size) : JNow w0 w' c b ms mo mk jb D0 hf J ep done (fun k => X k ∨ k = g) t := by
  obtain ⟨D, now, hits, misses, l, T, k1, k2, k3, k4, k5⟩ := h
  refine ⟨D, now, hits, misses, l, T, k1.quiet hm, k2.nn hm, k3, k4, fun k hk => ?_⟩
  rcases hk with hk | e
  · exact ⟨by have := hm.size; have := (k5 k hk).1; omega, (k5 k hk).2⟩
  · rw [e]
    exact ⟨h1, by have := k2.s.lt; omega, fun hin => by have := k1.at_.lt g hin; omega⟩
theorem JNow.sub (h : JNow w0 w c b ms mo mk jb D0 hf J ep done X t) {Y : Nat → Prop} (hs : ∀ k, Y k → X k) : JNow w0 w c b ms mo mk jb D0 hf J ep done Y t := by
  obtain ⟨D, now, hits, misses, l, T, k1, k2, k3, k4, k5⟩ := h
  exact ⟨D, now, hits, misses, l, T, k1, k2, k3, k4, fun k hk => k5 k (hs k hk)⟩
theorem jnow_append (h : JNow w0 w c b ms mo mk jb D0 hf J ep done X t) {A : Option Addr} {m cc : Nat} {r : List Nat} (hr : Rd w A m (bv r)) (hl : ∀ z ∈ r, z < 256) (he0 : 0 ≤ ep) (he1 : ep ≤ 1099511627776) (hq : done.length ≤ 1000000) (hm : m ≤ 32768)
    (hJ : J ≤ 1000000) (hh : 0 ≤ hf) (hh1 : hf ≤ 1000000) (hn : hf + J ≤ D0.n) (ht : t ≤ 1000000000) (hfit : jsec done + fsec m ≤ J) :
    Calls Tryz.prog 14 #[.pointer (some ⟨jb, 0, none⟩), .slice A m cc] w fun e w' => e = .returned (.int .i64 0) ∧ JNow w0 w' c b ms mo mk jb D0 hf J ep (done ++ [r]) X (t + fsec m) ∧ Mod (fun k => w0.heap.size ≤ k ∧ ¬ X k) w w' := by
  have hL : r.length = m := by have := hr.1; rwa [bv_len] at this
  obtain ⟨D, now, hits, misses, l, T, h1, hj, h3, h4, h5⟩ := h
  obtain ⟨D', hw, hst⟩ := h3.step h1.at_.d.ok hh hn r (by rw [hL]; exact hfit)
  refine (append_ok (D' := D') h1.at_ hj.s hj.sep hr hl he0 he1 (by omega : done.length ≤ 1099511627776) hm (by omega) (by have := h3.fit; omega) (by omega) (by omega) hh hh1 (by omega) hw).mono fun e w' ⟨now', l', T', he, hC, hb, hM, hG, hn'⟩ => ?_
  have hA : ∀ k, InA c b ms mo mk l' k → InA c b ms mo mk l k ∨ w.heap.size ≤ k := fun k hk => by
    rcases hk with (hk | hk | ⟨e, he, hk⟩) | hk
    · exact .inl (.inl (.inl hk))
    · exact .inl (.inl (.inr (.inl hk)))
    · rcases hG e he k hk with ⟨x, hx, hxk⟩ | h1
      · exact .inl (.inl (.inr (.inr ⟨x, hx, hxk⟩)))
      · exact .inr h1
    · exact .inl (.inr hk)
  refine ⟨he, ⟨D', now', hits, misses, l', T', ⟨hC, h1.md.then_ hM (fun k hk hin => ?_), fun k hk => ?_⟩, ⟨?_, hj.fr, fun hk => ?_⟩, hst, by omega, fun k hk => ⟨by have := hM.size; have := (h5 k hk).1; omega, (h5 k hk).2.1, fun hin => ?_⟩⟩, hM.mono (fun k _ hin => ?_)⟩
  · rcases hin with hin | hin
    · have := h1.fr k (inA_of hin); omega
    · have := hj.fr; omega
  · rcases hA k hk with h3 | h3
    · exact h1.fr k h3
    · have := h1.md.size; omega
  · rw [jsec_snoc, List.length_append, List.length_singleton, hL, show ((jsec done + fsec m : Nat) : Int) = (jsec done : Int) + (fsec m : Int) from by omega]; exact hb
  · rcases hA jb hk with h3 | h3
    · exact hj.sep h3
    · have := hj.s.lt; omega
  · rcases hA k hin with h3 | h3
    · exact (h5 k hk).2.2 h3
    · have := (h5 k hk).1; omega
  · rcases hin with hin | hin
    · exact ⟨h1.fr k (inA_of hin), fun hx => (h5 k hx).2.2 (inA_of hin)⟩
    · have := hj.fr
      exact ⟨by omega, fun hx => (h5 k hx).2.1 hin⟩
theorem jnow_full (h : JNow w0 w c b ms mo mk jb D0 hf J ep done X t) {A : Option Addr} {m cc : Nat} {r : List Nat} (hr : Rd w A m (bv r)) (hl : ∀ z ∈ r, z < 256) (he0 : 0 ≤ ep) (he1 : ep ≤ 1099511627776) (hq : done.length ≤ 1000000) (hm : m ≤ 32768)
    (hJ : J ≤ 1000000) (hfit : ¬ jsec done + fsec m ≤ J) :
    Calls Tryz.prog 14 #[.pointer (some ⟨jb, 0, none⟩), .slice A m cc] w fun e w' => e = .returned (.int .i64 5) ∧ Mod Nn w w' := by
  obtain ⟨D, now, hits, misses, l, T, h1, hj, h3, h4, h5⟩ := h
  exact append_full hj.s hr hl he0 he1 (by omega : done.length ≤ 1099511627776) hm (by omega) (by have := h3.fit; omega) (by omega) (by omega)
theorem jnow_room (h : JNow w0 w c b ms mo mk jb D0 hf J ep done X t) (hJ : J ≤ 1000000) :
    Calls Tryz.prog 17 #[.pointer (some ⟨jb, 0, none⟩)] w fun e w' => e = .returned (.int .i64 ((J : Int) - (jsec done : Int))) ∧ Mod Nn w w' := by
  obtain ⟨D, now, hits, misses, l, T, h1, hj, h3, h4, h5⟩ := h
  exact room_any hj.s (by omega) (by have := h3.fit; omega) (by omega)
/-- the journal opened where records stand -/
theorem jnow_open {D : Dk} {now hits misses : Int} {l : KL} {T : TL} (h1 : OwnC w0 w c b ms mo mk D 8 now hits misses l T) (g : Geo) (hst : JSt D0 D (g.half ep) J ep done) (hJ : g.j = J) (hm : jmay g ep D0.n) (hnow : now ≤ t) (ht : t ≤ 1000000000) (hq : done.length ≤ 1000000) (hb : ∀ r ∈ done, r.length ≤ 32768) (hl : ∀ r ∈ done, ∀ z ∈ r, z < 256) :
    Calls Tryz.prog 11 #[.pointer (some ⟨c, 0, none⟩), gV g, .int .i64 ep] w fun e w' => ∃ jb v, e = .returned (.tuple #[.pointer (some ⟨jb, 0, none⟩), v, .int .i64 0]) ∧ JNow w0 w' c b ms mo mk jb D0 (g.half ep) J ep done Nn (t + 1024) ∧ RowsOf w' w.heap.size v done ∧ Mod (fun k => w0.heap.size ≤ k) w w' := by
  refine (oj_open h1 g ep (by rw [hst.n]; exact hm) hst.up.1 (by omega) (lb := jrow ep.toNat 0 done ++ List.replicate (512 * (J - jsec done)) 0) (by rw [hJ, Int.toNat_natCast]; exact hst.row) (hst.lt hl) (jrow_alls J hm.2.1 hm.2.2.1 hq hb)).mono ?_
  rintro e w' ⟨jb, v, now', hits', misses', l', T', he, hC, hT, hn, hj, hr⟩
  rw [hJ] at hj
  exact ⟨jb, v, he, ⟨D, now', hits', misses', l', T', hC, hj, hst, by omega, fun k f => f.elim⟩, hr, hT.md.mono (fun k _ hk => h1.fr k (inA_of hk))⟩
/-- opened once more: the first stays as it was -/
theorem jnow_reopen (h : JNow w0 w c b ms mo mk jb D0 hf J ep done X t) (g : Geo) (hg : hf = g.half ep) (hJ : g.j = J) (hm : jmay g ep D0.n) (ht : t ≤ 1000000000) (hq : done.length ≤ 1000000) (hb : ∀ r ∈ done, r.length ≤ 32768) (hl : ∀ r ∈ done, ∀ z ∈ r, z < 256) :
    Calls Tryz.prog 11 #[.pointer (some ⟨c, 0, none⟩), gV g, .int .i64 ep] w fun e w' => ∃ jb2 v, e = .returned (.tuple #[.pointer (some ⟨jb2, 0, none⟩), v, .int .i64 0]) ∧ JNow w0 w' c b ms mo mk jb2 D0 hf J ep done X (t + 1024) ∧ JNow w0 w' c b ms mo mk jb D0 hf J ep done X (t + 1024) ∧ RowsOf w' w.heap.size v done ∧ Mod (fun k => w0.heap.size ≤ k ∧ ¬ X k) w w' := by
  subst hg
  obtain ⟨D, now, hits, misses, l, T, h1, h2, hst, h4, h5⟩ := h
  refine (open_ok h1.at_ g ep (by rw [hst.n]; exact hm) hst.up.1 (by omega) (lb := jrow ep.toNat 0 done ++ List.replicate (512 * (J - jsec done)) 0) (by rw [hJ, Int.toNat_natCast]; exact hst.row) (hst.lt hl)).mono ?_
  rintro e w' ⟨jb2, v, n2, R2, now', hits', misses', l', T', he, hall, hC, hT, hn, hj, hjb, hsep, hr⟩
  obtain ⟨rfl, rfl⟩ := (jrow_alls J hm.2.1 hm.2.2.1 hq hb).uniq hall
  rw [hJ] at hj
  have h5' : ∀ k, X k → k < w'.heap.size ∧ ¬ InA c b ms mo mk l' k := fun k hk => ⟨by have := hT.md.size; have := (h5 k hk).1; omega, fun hin => by
    rcases hT.A hin with h6 | h6
    · exact (h5 k hk).2.2 h6
    · have := (h5 k hk).1; omega⟩
  refine ⟨jb2, v, he, ⟨D, now', hits', misses', l', T', h1.step hC hT, ⟨hj, Nat.le_trans h1.md.size hjb, hsep⟩, hst, by omega, fun k hk => ⟨(h5' k hk).1, by have := (h5 k hk).1; omega, (h5' k hk).2⟩⟩, ⟨D, now', hits', misses', l', T', h1.step hC hT, h2.cto hT, hst, by omega, fun k hk => ⟨(h5' k hk).1, (h5 k hk).2.1, (h5' k hk).2⟩⟩, hr, hT.md.mono (fun k _ hk => ⟨h1.fr k (inA_of hk), fun hx => (h5 k hx).2.2 (inA_of hk)⟩)⟩
/-- another's own row has grown -/
theorem JNow.grow {vo v' : Value} (h : JNow w0 w c b ms mo mk jb D0 hf J ep done (fun k => vo.ownBlock = some k) t) (hm : Mod (fun g => vo.ownBlock = some g) w w') (h0 : ∀ g, vo.ownBlock = some g → w0.heap.size ≤ g)
    (hv : ∀ g, v'.ownBlock = some g → g < w'.heap.size ∧ (vo.ownBlock = some g ∨ w.heap.size ≤ g)) : JNow w0 w' c b ms mo mk jb D0 hf J ep done (fun k => v'.ownBlock = some k) t := by
  obtain ⟨D, now, hits, misses, l, T, h1, h2, h3, h4, h5⟩ := h
  refine ⟨D, now, hits, misses, l, T, ⟨h1.at_.mod hm (fun k hk e => (h5 k e).2.2 hk), h1.md.then_ hm (fun k hk e => by have := h0 k e; omega), h1.fr⟩, ⟨h2.s.mod hm (fun e => (h5 jb e).2.1 rfl), h2.fr, h2.sep⟩, h3, h4, fun k hk => ?_⟩
  obtain ⟨h6, h7⟩ := hv k hk
  refine ⟨h6, ?_⟩
  rcases h7 with h7 | h7
  · exact (h5 k h7).2
  · exact ⟨by have := h2.s.lt; omega, fun hin => by have := h1.at_.lt k hin; omega⟩
end
end Go.Proofs.YtijmkbhbpbkkoaaGreat
