/- node.Put of any node: one contract. -/
import Derived.Test.YtjndcgpfikngaaaNdAw
import Derived.Test.YtjndcgpfikngaaaBytesS
import Derived.Test.YtjndcgpfikngaaaKitB
namespace Go.Proofs.Ytjndcgpfikngaaa
open Go.RowKit

def Nd.perr (N : Nd) : Int := if N.right = true then 0 else 4
def Nd.pbytes (N : Nd) : List Nat := if N.right = true then N.bytes else []
theorem nd_pb {N : Nd} (hok : N.ok) : N.pbytes.length ≤ 1024 ∧ ∀ z ∈ N.pbytes, z < 256 := by
  unfold Nd.pbytes
  split
  · next h => exact ⟨by rw [(bytes_ok hok h).1]; exact Nat.le_refl _, (bytes_ok hok h).2⟩
  · exact ⟨Nat.zero_le _, (fun z hz => by cases hz)⟩
/-- what Put tells -/
def NPut (w : World) (N : Nd) (r : Ending) (w' : World) : Prop :=
  ∃ (A' : Option Addr) (c' : Nat), r = .returned (.tuple #[.slice A' N.pbytes.length c', .int .i64 N.perr]) ∧ w'.ownsRow w.heap.size 5 1 (.slice A' N.pbytes.length c') N.pbytes.length (bv N.pbytes) ∧ Mod Nn w w'
section
variable {w w' : World} {N : Nd} {EA KA CA : Option Addr} {en ec kn kc cn cc : Nat}
theorem nput_all (h : NdR w N EA en KA kn CA cn) : Calls Try.prog 28 #[ndV N.leaf EA en ec KA kn kc CA cn cc] w (NPut w N) := by
  cases hr : N.right with
  | true =>
    refine (nput_ok h hr).mono fun r w' ⟨g, h1, h2, h3, h4⟩ => ?_
    unfold NPut Nd.pbytes Nd.perr
    rw [if_pos hr, if_pos hr]
    have hl := (bytes_ok h.ok hr).1
    refine ⟨some ⟨g, 0, none⟩, 1024, by rw [hl]; exact h1, ?_, h3⟩
    have hb := h2.blk
    rw [hl, Nat.sub_self, List.replicate_zero, List.append_nil] at hb
    rw [hl]
    exact own_of_blk hb h4 (by rw [bv_size, hl]) (by decide) (Nat.le_refl _) (by
      show (bv N.bytes).take 1024 = bv N.bytes
      rw [List.take_of_length_le (by rw [bv_len, hl]; exact Nat.le_refl _)])
  | false =>
    refine (nput_bad h hr).mono fun r w' ⟨h1, h2⟩ => ?_
    unfold NPut Nd.pbytes Nd.perr
    rw [if_neg (by rw [hr]; exact Bool.false_ne_true), if_neg (by rw [hr]; exact Bool.false_ne_true)]
    exact ⟨none, 0, h1, own_nil _ _ _ _, h2⟩
/-- the slices read as a node, of whatever size -/
structure NdQ (w : World) (N : Nd) (EA : Option Addr) (en : Nat) (KA : Option Addr) (kn : Nat) (CA : Option Addr) (cn : Nat) : Prop where
  e : RdC w EA en 80 (bv N.ents.flatten)
  k : RdC w KA kn 40 (bv N.keys.flatten)
  c : Rd w CA cn (N.kids.map (Value.int .i64))
  el : N.ents.length = en
  kl : N.keys.length = kn
  cl : N.kids.length = cn
  ok : N.ok
theorem NdQ.r (h : NdQ w N EA en KA kn CA cn) (hs : ¬ 3000 < en + kn + cn) : NdR w N EA en KA kn CA cn := ⟨h.e, h.k, h.c, h.el, h.kl, h.cl, h.ok, by omega, by omega, by omega⟩
end
end Go.Proofs.Ytjndcgpfikngaaa
