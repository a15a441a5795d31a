/- The cache (cache.Cache): New, Sectors, Sync, Read, Write. -/
import Derived.Test.YtijmkbhbpbkkoaaCa2
import Derived.Test.YtijmkbhbpbkkoaaDev6
namespace Go.Proofs.Ytijmkbhbpbkkoaa
open Go.RowKit

structure CAt (w : World) (c b ms mo mk : Nat) (D : Dk) (most now hits misses : Int) (l : KL) (T : TL) : Prop where
  mem : CMem w c b mk most now hits misses l
  d : DiskAt w b ms mo D
  coh : ∀ e ∈ l, e.2.bs = D.latest e.1 ∧ 0 ≤ e.1 ∧ e.1 < D.n
  lru : Lru l now most T (!D.down)
  sep : ∀ k, In3 b ms mo k → ¬ InM c mk l k
  m1 : 1 ≤ most
  n0 : 0 ≤ now
  h0 : 0 ≤ hits
  s0 : 0 ≤ misses
  hs : hits + misses ≤ now
/-- all of the cache's -/
def InA (c b ms mo mk : Nat) (l : KL) : Nat → Prop := fun k => InM c mk l k ∨ In3 b ms mo k
/-- what a deed writes -/
def InW (c b ms mo mk : Nat) : Nat → Prop := fun k => InCM c mk k ∨ In3 b ms mo k

section
variable {w w' : World} {c b ms mo mk : Nat} {D : Dk} {most now hits misses : Int} {l : KL} {T : TL} {S : Nat → Prop}
theorem CAt.mod (h : CAt w c b ms mo mk D most now hits misses l T) (hm : Mod S w w') (hn : ∀ k, InA c b ms mo mk l k → ¬ S k) : CAt w' c b ms mo mk D most now hits misses l T :=
  ⟨h.mem.mod hm (fun k hk => hn k (.inl hk)), h.d.mod hm (fun k hk => hn k (.inr hk)), h.coh, h.lru, h.sep, h.m1, h.n0, h.h0, h.s0, h.hs⟩
theorem CAt.quiet (h : CAt w c b ms mo mk D most now hits misses l T) (hm : Mod Nn w w') : CAt w' c b ms mo mk D most now hits misses l T := h.mod hm (fun _ _ f => f)
theorem CAt.lt (h : CAt w c b ms mo mk D most now hits misses l T) : ∀ k, InA c b ms mo mk l k → k < w.heap.size := fun k hk => hk.elim (h.mem.lt k) (h.d.lt k)
theorem inM_of {k : Nat} (h : InCM c mk k) : InM c mk l k := h.elim .inl (fun h => .inr (.inl h))
theorem inA_of {k : Nat} (h : InW c b ms mo mk k) : InA c b ms mo mk l k := h.elim (fun h => .inl (inM_of h)) .inr

/-- a step of the cache: what it leaves -/
structure CTo (w w' : World) (c b ms mo mk : Nat) (l l' : KL) : Prop where
  md : Mod (InW c b ms mo mk) w w'
  G : ∀ e ∈ l', ∀ g, Of e.2.A g → (∃ x ∈ l, Of x.2.A g) ∨ w.heap.size ≤ g
theorem CTo.A {l' : KL} (h : CTo w w' c b ms mo mk l l') {k : Nat} (hk : InA c b ms mo mk l' k) : InA c b ms mo mk l k ∨ w.heap.size ≤ k := by
  rcases hk with (hk | hk | ⟨e, he, hk⟩) | hk
  · exact .inl (.inl (.inl hk))
  · exact .inl (.inl (.inr (.inl hk)))
  · rcases h.G e he k hk with ⟨x, hx, hxk⟩ | h1
    · exact .inl (.inl (.inr (.inr ⟨x, hx, hxk⟩)))
    · exact .inr h1
  · exact .inl (.inr hk)
theorem CTo.same (hm : Mod (InW c b ms mo mk) w w') : CTo w w' c b ms mo mk l l := ⟨hm, fun e he g hg => .inl ⟨e, he, hg⟩⟩

/-- behind keep -/
theorem CAt.kept (h : CAt w c b ms mo mk D most now hits misses l T) {wk : World} {hits' misses' : Int} {l' : KL} {k : Int} {x : Kp} {bs : List Int} (hk : Kept (aset l k x) most l') (hx : x.bs = bs) (ht : x.t = now + 1)
    (hC : CMem w' c b mk most (now + 1) hits' misses' l') (hA : ∀ g, Of x.A g → wk.heap.size ≤ g) (hm : Mod (InCM c mk) w w') (hwk : w.heap.size ≤ wk.heap.size) (hb : bs = D.latest k) (hk0 : 0 ≤ k) (hk1 : k < D.n)
    (h0 : 0 ≤ hits') (h1 : 0 ≤ misses') (hs : hits' + misses' ≤ now + 1) : CAt w' c b ms mo mk D most (now + 1) hits' misses' l' (touchL T k (now + 1)) ∧ CTo w w' c b ms mo mk l l' := by
  have hmem : ∀ e ∈ l', (e ∈ l ∧ e.1 ≠ k) ∨ e = (k, x) := fun e he => (mem_aset h.mem.map.nd).1 (hk.mem he)
  have hG : ∀ e ∈ l', ∀ g, Of e.2.A g → (∃ x ∈ l, Of x.2.A g) ∨ w.heap.size ≤ g := fun e he g hg => by
    rcases hmem e he with ⟨h1, -⟩ | rfl
    · exact .inl ⟨e, h1, hg⟩
    · exact .inr (Nat.le_trans hwk (hA g hg))
  refine ⟨⟨hC, h.d.mod hm (fun j hj hin => h.sep j hj (inM_of hin)), fun e he => ?_, Kept.lru h.lru h.m1 ht hk, fun j hj hin => ?_, h.m1, by have := h.n0; omega, h0, h1, hs⟩, hm.mono (fun _ _ e => .inl e), hG⟩
  · rcases hmem e he with ⟨h1, -⟩ | rfl
    · exact h.coh e h1
    · exact ⟨hx.trans hb, hk0, hk1⟩
  · rcases hin with hin | hin | ⟨e, he, hin⟩
    · exact h.sep j hj (.inl hin)
    · exact h.sep j hj (.inr (.inl hin))
    · rcases hG e he j hin with ⟨y, hy, hyj⟩ | h1
      · exact h.sep j hj (.inr (.inr ⟨y, hy, hyj⟩))
      · have := h.d.lt j hj; omega

theorem own_ge5 {base n s : Nat} {e : TypeId} {v : Value} {xs : List Value} (h : w.ownsRow base e s v n xs) : ∀ g, v.ownBlock = some g → base ≤ g := fun g hg => by
  obtain ⟨A, c, rfl, _, hA⟩ := own_form h
  exact (hA g (own_of hg)).1
set_option maxRecDepth 100000 in
theorem csectors_any (h : CAt w c b ms mo mk D most now hits misses l T) :
    Calls Try.prog 43 #[.pointer (some ⟨c, 0, none⟩)] w fun e w' => e = .returned (.int .i64 D.n) ∧ w = w' := by
  have c0 : w.cell? ⟨c, 0, none⟩ = some (.pointer (some ⟨b, 0, none⟩)) := h.mem.blk.cell 0
  generalize hn : D.n = N at *
  have HN := Lib.hid hn; clear hn
  go_enter Try.func43, Try.ntmps43
  go_wp2_with fail
  refine (known_any h.mem h.m1).mono ?_
  rintro e w1 ⟨rfl, rfl⟩
  go_wp2_with fail
  refine (sectors_any h.d).mono ?_
  rintro e w1 ⟨rfl, rfl⟩
  rw [HN.out]
  go_wp2
  go_ret
  exact ⟨rfl, rfl⟩
theorem sync_latest (D : Dk) (k : Int) : D.sync.2.latest k = D.latest k := by
  have hc : ∀ D : Dk, D.crash.latest k = D.latest k := fun D => by unfold Dk.crash; split <;> rfl
  have hf : ∀ D : Dk, D.flush.latest k = D.latest k := fun D => by
    show ((none : Option (List Int)).or ((D.opn k).or (D.safe k))).getD zsec = _
    rw [Option.none_or]; rfl
  unfold Dk.sync
  split
  · split
    · exact hc D
    · rw [hf, hc]
  · rfl
theorem crash_n (D : Dk) : D.crash.n = D.n := by unfold Dk.crash; split <;> rfl
theorem sync_n (D : Dk) : D.sync.2.n = D.n := by
  unfold Dk.sync
  split
  · split
    · exact crash_n D
    · exact crash_n D
  · rfl
theorem crash_down (D : Dk) (h : D.down = true) : D.crash.down = true ∨ D.crash.down = false := by cases D.crash.down <;> simp
/-- a disk that went down has not come up -/
theorem sync_down (D : Dk) (h : D.sync.2.down = false) : D.down = false := by
  unfold Dk.sync Dk.may at h
  cases hd : D.down with
  | false => rfl
  | true => rw [hd] at h; simp at h; rw [hd] at h; cases h
theorem write_down (D : Dk) (k : Int) (bs : List Int) (h : (D.write k bs).2.down = false) : D.down = false := by
  unfold Dk.write Dk.may at h
  cases hd : D.down with
  | false => rfl
  | true => rw [hd] at h; simp at h; rw [hd] at h; cases h
theorem lru_up {u v : Bool} (h : Lru l now most T u) (hu : v = true → u = true) : Lru l now most T v := ⟨h.inc, h.nd, h.le, h.sub, fun hv => h.top (hu hv), h.cnt, h.kd⟩

def CSyncP (w : World) (c b ms mo mk : Nat) (D : Dk) (most now hits misses : Int) (l : KL) (T : TL) (e : Ending) (w' : World) : Prop :=
  e = .returned (.int .i64 D.sync.1) ∧ CAt w' c b ms mo mk D.sync.2 most now hits misses l T ∧ CTo w w' c b ms mo mk l l
end
end Go.Proofs.Ytijmkbhbpbkkoaa
