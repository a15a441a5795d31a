/- peatbanklaw09.CacheAlike: two caches and a device alone, side by side. -/
import Derived.Test.YtgmkibckbbbhkaaCa6
import Derived.Test.YtgmkibckbbbhkaaCa14
import Derived.Test.YtgmkibckbbbhkaaDevB
import Derived.Test.YtgmkibckbbbhkaaBytes1
namespace Go.Proofs.Ytgmkibckbbbhkaa
open Go.RowKit

structure Id5 where
  c : Nat
  b : Nat
  ms : Nat
  mo : Nat
  km : Nat
structure CV where
  now : Int
  hits : Int
  misses : Int
  l : KL
  T : TL
abbrev OC (w0 w : World) (I : Id5) (D : Dk) (p : Int) (u : CV) : Prop := OwnC w0 w I.c I.b I.ms I.mo I.km D p u.now u.hits u.misses u.l u.T
abbrev InI (I : Id5) (l : KL) : Nat → Prop := InA I.c I.b I.ms I.mo I.km l
structure Al (w0 w : World) (I J : Id5) (b ms mo : Nat) (D1 D2 D3 : Dk) (p q : Int) (u v : CV) : Prop where
  one : OC w0 w I D1 p u
  two : OC w0 w J D2 q v
  al : Own w0 w b ms mo D3
  s12 : ∀ k, InI I u.l k → ¬ InI J v.l k
  s13 : ∀ k, InI I u.l k → ¬ In3 b ms mo k
  s23 : ∀ k, InI J v.l k → ¬ In3 b ms mo k
section
variable {w0 w w' : World} {I J : Id5} {b ms mo : Nat} {D1 D2 D3 D' : Dk} {p q : Int} {u v u' : CV}
theorem OwnC.mod {S : Nat → Prop} {c b ms mo mk : Nat} {D : Dk} {most now hits misses : Int} {l : KL} {T : TL} (h : OwnC w0 w c b ms mo mk D most now hits misses l T) (hm : Mod S w w') (hS : ∀ k, InA c b ms mo mk l k → ¬ S k) (h0 : ∀ k, S k → w0.heap.size ≤ k) : OwnC w0 w' c b ms mo mk D most now hits misses l T :=
  ⟨h.at_.mod hm hS, h.md.then_ hm (fun k hk hs => by have := h0 k hs; omega), h.fr⟩
theorem Own.mod {S : Nat → Prop} {D : Dk} (h : Own w0 w b ms mo D) (hm : Mod S w w') (hS : ∀ k, In3 b ms mo k → ¬ S k) (h0 : ∀ k, S k → w0.heap.size ≤ k) : Own w0 w' b ms mo D :=
  ⟨h.at_.mod hm hS, h.md.then_ hm (fun k hk hs => by have := h0 k hs; omega), h.fr⟩
theorem Al.quiet (h : Al w0 w I J b ms mo D1 D2 D3 p q u v) (hm : Mod Nn w w') : Al w0 w' I J b ms mo D1 D2 D3 p q u v := ⟨h.one.quiet hm, h.two.quiet hm, h.al.quiet hm, h.s12, h.s13, h.s23⟩
theorem Al.step1 (h : Al w0 w I J b ms mo D1 D2 D3 p q u v) (hC : CAt w' I.c I.b I.ms I.mo I.km D' p u'.now u'.hits u'.misses u'.l u'.T) (hT : CTo w w' I.c I.b I.ms I.mo I.km u.l u'.l) : Al w0 w' I J b ms mo D' D2 D3 p q u' v := by
  have h0 : ∀ k, InW I.c I.b I.ms I.mo I.km k → w0.heap.size ≤ k := fun k hk => h.one.fr k (inA_of hk)
  refine ⟨h.one.step hC hT, h.two.mod hT.md (fun k hk hs => h.s12 k (inA_of hs) hk) h0, h.al.mod hT.md (fun k hk hs => h.s13 k (inA_of hs) hk) h0, fun k hk hin => ?_, fun k hk hin => ?_, h.s23⟩
  · rcases hT.A hk with h1 | h1
    · exact h.s12 k h1 hin
    · have := h.two.at_.lt k hin; omega
  · rcases hT.A hk with h1 | h1
    · exact h.s13 k h1 hin
    · have := h.al.at_.lt k hin; omega
theorem Al.step2 (h : Al w0 w I J b ms mo D1 D2 D3 p q u v) (hC : CAt w' J.c J.b J.ms J.mo J.km D' q u'.now u'.hits u'.misses u'.l u'.T) (hT : CTo w w' J.c J.b J.ms J.mo J.km v.l u'.l) : Al w0 w' I J b ms mo D1 D' D3 p q u u' := by
  have h0 : ∀ k, InW J.c J.b J.ms J.mo J.km k → w0.heap.size ≤ k := fun k hk => h.two.fr k (inA_of hk)
  refine ⟨h.one.mod hT.md (fun k hk hs => h.s12 k hk (inA_of hs)) h0, h.two.step hC hT, h.al.mod hT.md (fun k hk hs => h.s23 k (inA_of hs) hk) h0, fun k hk hin => ?_, h.s13, fun k hk hin => ?_⟩
  · rcases hT.A hin with h1 | h1
    · exact h.s12 k hk h1
    · have := h.one.at_.lt k hk; omega
  · rcases hT.A hk with h1 | h1
    · exact h.s23 k h1 hin
    · have := h.al.at_.lt k hin; omega
theorem Al.step3 (h : Al w0 w I J b ms mo D1 D2 D3 p q u v) (hd : DiskAt w' b ms mo D') (hm : Mod (In3 b ms mo) w w') : Al w0 w' I J b ms mo D1 D2 D' p q u v :=
  ⟨h.one.mod hm (fun k hk hs => h.s13 k hk hs) h.al.fr, h.two.mod hm (fun k hk hs => h.s23 k hk hs) h.al.fr, h.al.step hd hm, h.s12, h.s13, h.s23⟩
end
/-- as long as nothing is armed -/
structure Up (D : Dk) : Prop where
  n : D.n = 6
  a : D.armed = 0
  d : D.down = false
theorem Up.write {D : Dk} (h : Up D) (k : Int) (bs : List Int) : Up (D.write k bs).2 := by
  have hc : (D.put k bs).crash = D.put k bs := crash_off h.a
  unfold Dk.write
  split
  · split
    · rw [hc]; exact ⟨h.n, h.a, h.d⟩
    · exact h
  · exact h
theorem Up.sync {D : Dk} (h : Up D) : Up D.sync.2 := by
  rw [sync_up h.d h.a (by rw [h.n]; omega)]
  exact ⟨h.n, h.a, h.d⟩
def AlS (w w' : World) (I J : Id5) (b ms mo : Nat) (p q : Int) (k : Int) : Prop := ∃ D u v, Al w w' I J b ms mo D D D p q u v ∧ Up D ∧ u.now ≤ k ∧ v.now ≤ k
end Go.Proofs.Ytgmkibckbbbhkaa
