/- A tree's nodes, told, are loaded by the document as its entries. -/
import Derived.Test.YtkcpmkeckcnobaaUn3
import Derived.Test.YtkcpmkeckcnobaaUn4
import Derived.Test.YtkcpmkeckcnobaaTr29
namespace Go.Proofs.Ytkcpmkeckcnobaa
open Go.RowKit

theorem nodes_small2 : ∀ (d : Nat) (L : List (List Nat)) (k b : Nat) (Ms : List PN) (i : Nat), NodesIs d L k b Ms i → k ≤ hiB d → ∀ n ∈ Ms, n.ents.length ≤ 20 ∧ n.keys.length ≤ 20 ∧ n.kids.length ≤ 20
  | 0, L, k, b, Ms, i, ⟨h, _, hk⟩, hh, n, hn => by
    subst h
    rw [List.mem_singleton] at hn; subst hn
    simp only [hiB] at hh
    exact ⟨by show L.length ≤ 20; omega, Nat.zero_le _, Nat.zero_le _⟩
  | d + 1, L, k, b, Ms, i, ⟨ks, qs, h1, _, h3, h4, h5, _, _, _, h9⟩, hh, n, hn => by
    subst h1
    simp only [hiB] at hh
    rcases List.mem_append.1 hn with hn | hn
    · obtain ⟨q, hq, hn⟩ := List.mem_flatMap.1 hn
      obtain ⟨j, hj⟩ := List.mem_iff_getElem?.1 hq
      obtain ⟨ha, _, hb⟩ := h9 j q hj
      exact nodes_small2 d _ _ _ _ _ ha hb n hn
    · rw [List.mem_singleton] at hn; subst hn
      exact ⟨Nat.zero_le _, by show ks.length ≤ 20; omega, by show (qs.map _).length ≤ 20; rw [List.length_map]; omega⟩
def nxT (t : TN) : NX := ⟨ndP t.n, t.eA, t.n.ents.length, t.ec, t.kA, t.n.keys.length, t.kc, t.cA, t.n.kids.length, t.cc⟩
theorem flat_nx (Us : List TN) : flat NX.cells (Us.map nxT) = flat TN.cells Us := by
  unfold flat
  rw [List.flatMap_map]
  rfl
section
variable {w : World} {base i : Nat} {L : List (List Nat)} {v : Value} {Us : List TN}
theorem nsat_of (h : NodesV w base L v i Us) : ∃ A c, v = .slice A Us.length c ∧ NsAt w A Us.length (Us.map nxT) := by
  obtain ⟨A, c, rfl, _, _⟩ := own_form h.row
  obtain ⟨d, k, hn, hk, _⟩ := h.is_
  have hsm := nodes_small2 d _ _ _ _ _ hn hk
  refine ⟨A, c, rfl, ?_, List.length_map .., fun x hx => ?_⟩
  · rw [flat_nx]; exact (Hold.of_own h.row).rd
  · obtain ⟨t, ht, rfl⟩ := List.mem_map.1 hx
    have hok := h.ok t ht
    obtain ⟨s1, s2, s3⟩ := hsm t.n (List.mem_map_of_mem ht)
    exact ⟨hok.eh.rd, hok.kh.rd, by
      have := Rd.of_own hok.c
      have e : (nxT t).N.kids.map (Value.int .i64) = iv t.n.kids := List.map_map ..
      rw [e]; exact this, rfl, rfl, List.length_map .., ⟨hok.er, hok.kr⟩, by show t.n.ents.length ≤ _; omega, by show t.n.keys.length ≤ _; omega, by show t.n.kids.length ≤ _; omega⟩
theorem loadM_nodes (h : NodesV w base L v i Us) (hs : Srt L) (hl : L.length ≤ 2000) : loadM ((Us.map nxT).map (·.N)) i = some L := by
  have e : (Us.map nxT).map (·.N) = (Us.map (·.n)).map ndP := by rw [List.map_map, List.map_map]; rfl
  have hlen := nodesT_len h.is_
  obtain ⟨d, σ, h1, h2⟩ := load_nodes h.is_ hs (by omega)
  unfold loadM
  rw [e, h1]
  exact if_pos h2
theorem tload_any {w' : World} (h : NodesV w' base L v i Us) (hs : Srt L) (hl : L.length ≤ 2000) : Calls Try.prog 34 #[v, .int .i64 (i : Nat)] w' (LoadP w' (some L)) := by
  have hlen := nodesT_len h.is_
  rw [List.length_map] at hlen
  obtain ⟨A, c, rfl, hns⟩ := nsat_of h
  have := load16_any (c := c) (root := (i : Int)) hns (by omega)
  rwa [loadM_nodes h hs hl] at this
end
end Go.Proofs.Ytkcpmkeckcnobaa
