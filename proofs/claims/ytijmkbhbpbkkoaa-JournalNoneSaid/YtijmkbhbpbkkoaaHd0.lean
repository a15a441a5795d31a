/- Heads (layer 12) and geometries (layer 11) in plain words. No program is named. -/
import Derived.Test.YtijmkbhbpbkkoaaFr1
import Derived.Test.YtijmkbhbpbkkoaaFr3
namespace Go.Proofs.Ytijmkbhbpbkkoaa

structure Geo where
  v : Int
  S : Int
  s : Int
  u : Int
  j : Int
deriving DecidableEq
def Geo.fields (g : Geo) : Prop := 8 ≤ g.v ∧ g.v ≤ 4096 ∧ g.v % 8 = 0 ∧ 2 ≤ g.S ∧ g.S ≤ 256 ∧ 1 ≤ g.u ∧ g.u ≤ 16 ∧ 16 ≤ g.s ∧ 2 * (8 * g.u + 1) ≤ g.s ∧ g.s ≤ 1024 ∧ 8 ≤ g.j ∧ g.j ≤ 64
def Geo.pages (g : Geo) : Int := 2 + (g.S * g.s + 9 * (g.v / 8) + 8) / 4
def Geo.sectors (g : Geo) : Int := 2 + 2 * g.j + 4 * g.pages + g.S * g.s
def Geo.right (g : Geo) : Prop := g.fields ∧ g.sectors ≤ 262144
instance (g : Geo) : Decidable g.fields := by unfold Geo.fields; infer_instance
instance (g : Geo) : Decidable g.right := by unfold Geo.right; infer_instance
def Geo.npages (g : Geo) : Int := if g.right then g.pages else 0
theorem prod_le {a b : Int} (ha : 2 ≤ a) (hA : a ≤ 256) (hb : 16 ≤ b) (hB : b ≤ 1024) : 32 ≤ a * b ∧ a * b ≤ 262144 :=
  ⟨show (2 : Int) * 16 ≤ a * b from Int.mul_le_mul ha hb (by omega) (by omega), show a * b ≤ 256 * 1024 from Int.mul_le_mul hA hB (by omega) (by omega)⟩
theorem Geo.prod {g : Geo} (h : g.fields) : 32 ≤ g.S * g.s ∧ g.S * g.s ≤ 262144 := by
  obtain ⟨_, _, _, h1, h2, _, _, h3, _, h4, _⟩ := h
  exact prod_le h1 h2 h3 h4
theorem Geo.pages_le {g : Geo} (h : g.fields) : 2 ≤ g.pages ∧ g.pages ≤ 70000 := by
  have hp := Geo.prod h
  obtain ⟨h0, h0', _⟩ := h
  unfold Geo.pages; omega

structure Hd where
  g : Geo
  n : Int
  p : Int
  r : Int
  k : Int
deriving DecidableEq
/-- what stands in the data is right -/
def Hd.inner (h : Hd) : Prop := h.g.right ∧ 1 ≤ h.p ∧ h.p ≤ h.g.pages ∧ 0 ≤ h.r ∧ h.r < h.p ∧ 1 ≤ h.k ∧ h.k ≤ 1073741824
def Hd.right (h : Hd) : Prop := h.inner ∧ 0 ≤ h.n ∧ h.n ≤ 1099511627776
instance (h : Hd) : Decidable h.inner := by unfold Hd.inner; infer_instance
instance (h : Hd) : Decidable h.right := by unfold Hd.right; infer_instance
def Hd.nums (h : Hd) : List Int := [h.g.v, h.g.S, h.g.s, h.g.u, h.g.j, h.p, h.r, h.k]
def Hd.data (h : Hd) : List Nat := h.nums.flatMap (fun n => num n.toNat 4)
def Hd.fr (h : Hd) : Fr := ⟨1, h.n.toNat, 0, h.data⟩
def hd0 : Hd := ⟨⟨0, 0, 0, 0, 0⟩, 0, 0, 0, 0⟩
theorem hd0_not : ¬ hd0.right := by decide
theorem Hd.nums_le {h : Hd} (hr : h.inner) : ∀ x ∈ h.nums, 0 ≤ x ∧ x < 4294967296 := by
  obtain ⟨hg, h1, h2, h3, h4, h5, h6⟩ := hr
  have hp := Geo.pages_le hg.1
  obtain ⟨g1, g2, g3, g4, g5, g6, g7, g8, g9, g10, g11, g12⟩ := hg.1
  intro x hx
  simp only [Hd.nums, List.mem_cons, List.not_mem_nil, or_false] at hx
  rcases hx with rfl | rfl | rfl | rfl | rfl | rfl | rfl | rfl <;> omega
theorem Hd.data_len (h : Hd) : h.data.length = 32 := by simp [Hd.data, Hd.nums, num_len]
theorem Hd.data_lt (h : Hd) : ∀ z ∈ h.data, z < 256 := by
  intro z hz
  obtain ⟨n, _, hn⟩ := List.mem_flatMap.1 hz
  exact num_lt _ _ z hn
theorem Hd.fr_ok {h : Hd} (hr : h.right) : h.fr.ok :=
  ⟨by show 1 ≤ 255; omega, by show h.n.toNat ≤ _; have := hr.2; omega, Nat.zero_le _, by show h.data.length ≤ _; rw [h.data_len]; decide⟩
theorem Hd.bytes_len (h : Hd) : h.fr.bytes.length = 512 := by
  rw [Fr.bytes_len]; show 512 * fsec h.data.length = 512; rw [h.data_len]; decide
/-- four bytes' number -/
def w4 (d : List Nat) (i : Nat) : Int := (said ((d.drop (4 * i)).take 4) : Nat)
def hdOf (l : List Nat) : Hd := ⟨⟨w4 (frOf l).data 0, w4 (frOf l).data 1, w4 (frOf l).data 2, w4 (frOf l).data 3, w4 (frOf l).data 4⟩, (frOf l).epoch, w4 (frOf l).data 5, w4 (frOf l).data 6, w4 (frOf l).data 7⟩
/-- do bytes hold a head? -/
def HoldsH (l : List Nat) : Prop := l.length = 512 ∧ Holds l ∧ frLong l = 32 ∧ (hdOf l).right ∧ (hdOf l).fr.bytes = l
/-- what Get tells of bytes -/
def HGet (l : List Nat) (h : Hd) (e : Int) : Prop := (HoldsH l ∧ h = hdOf l ∧ e = 0) ∨ (¬ HoldsH l ∧ h = hd0 ∧ e = 4)
theorem hget_of (l : List Nat) : ∃ h e, HGet l h e := by
  by_cases H : HoldsH l
  · exact ⟨_, _, .inl ⟨H, rfl, rfl⟩⟩
  · exact ⟨_, _, .inr ⟨H, rfl, rfl⟩⟩
theorem HGet.iff {l : List Nat} {h : Hd} {e : Int} (H : HGet l h e) : (e = 0 ↔ HoldsH l) ∧ (e = 0 ∨ e = 4) ∧ (e = 0 ↔ h.right) := by
  rcases H with ⟨h1, rfl, rfl⟩ | ⟨h1, rfl, rfl⟩
  · exact ⟨⟨fun _ => h1, fun _ => rfl⟩, .inl rfl, ⟨fun _ => h1.2.2.2.1, fun _ => rfl⟩⟩
  · exact ⟨⟨fun e => absurd e (by decide), fun h => (h1 h).elim⟩, .inr rfl, ⟨fun e => absurd e (by decide), fun h => (hd0_not h).elim⟩⟩
theorem HGet.uniq {l : List Nat} {h k : Hd} {e f : Int} (H : HGet l h e) (K : HGet l k f) : h = k ∧ e = f := by
  rcases H with ⟨h1, rfl, rfl⟩ | ⟨h1, rfl, rfl⟩ <;> rcases K with ⟨k1, rfl, rfl⟩ | ⟨k1, rfl, rfl⟩
  · exact ⟨rfl, rfl⟩
  · exact (k1 h1).elim
  · exact (h1 k1).elim
  · exact ⟨rfl, rfl⟩
/-- the eight numbers are got out of the data -/
theorem w4_data (h : Hd) (hi : h.inner) : [w4 h.data 0, w4 h.data 1, w4 h.data 2, w4 h.data 3, w4 h.data 4, w4 h.data 5, w4 h.data 6, w4 h.data 7] = h.nums := by
  have hn := Hd.nums_le hi
  have key : ∀ x ∈ h.nums, ((said (num x.toNat 4) : Nat) : Int) = x := fun x hx => by
    have := hn x hx
    have h4 : x.toNat < 256 ^ 4 := by rw [show (256 : Nat) ^ 4 = 4294967296 from by decide]; omega
    rw [said_num_lt _ _ h4]; omega
  obtain ⟨g, n, p, r, k⟩ := h
  obtain ⟨v, S, s, u, j⟩ := g
  simp only [Hd.nums] at key ⊢
  have e : (⟨⟨v, S, s, u, j⟩, n, p, r, k⟩ : Hd).data = num v.toNat 4 ++ (num S.toNat 4 ++ (num s.toNat 4 ++ (num u.toNat 4 ++ (num j.toNat 4 ++ (num p.toNat 4 ++ (num r.toNat 4 ++ (num k.toNat 4))))))) := by
    simp [Hd.data, Hd.nums]
  rw [e]
  simp only [List.mem_cons, List.not_mem_nil, or_false, forall_eq_or_imp, forall_eq] at key
  obtain ⟨k0, k1, k2, k3, k4, k5, k6, k7⟩ := key
  generalize hA : num v.toNat 4 = a0 at *
  generalize hB : num S.toNat 4 = a1 at *
  generalize hC : num s.toNat 4 = a2 at *
  generalize hD : num u.toNat 4 = a3 at *
  generalize hE : num j.toNat 4 = a4 at *
  generalize hF : num p.toNat 4 = a5 at *
  generalize hG : num r.toNat 4 = a6 at *
  generalize hH : num k.toNat 4 = a7 at *
  have l0 : a0.length = 4 := by rw [← hA, num_len]
  have l1 : a1.length = 4 := by rw [← hB, num_len]
  have l2 : a2.length = 4 := by rw [← hC, num_len]
  have l3 : a3.length = 4 := by rw [← hD, num_len]
  have l4 : a4.length = 4 := by rw [← hE, num_len]
  have l5 : a5.length = 4 := by rw [← hF, num_len]
  have l6 : a6.length = 4 := by rw [← hG, num_len]
  have l7 : a7.length = 4 := by rw [← hH, num_len]
  clear hA hB hC hD hE hF hG hH hn e hi
  simp [w4, List.drop_append, List.take_append, l0, l1, l2, l3, l4, l5, l6, l7, List.drop_of_length_le, List.take_of_length_le, k0, k1, k2, k3, k4, k5, k6, k7]
/-- what a head's bytes are got as -/
theorem Hd.back {h : Hd} (hr : h.right) : HoldsH h.fr.bytes ∧ hdOf h.fr.bytes = h := by
  have hg := h.fr.got (Hd.fr_ok hr) []
  have hh := h.fr.holds (Hd.fr_ok hr) []
  rw [List.append_nil] at hg hh
  have e : hdOf h.fr.bytes = h := by
    unfold hdOf
    rw [hg.2]
    have hw := w4_data h hr.1
    have hd : h.fr.data = h.data := rfl
    have he : ((h.fr.epoch : Nat) : Int) = h.n := by show ((h.n.toNat : Nat) : Int) = _; have := hr.2; omega
    rw [hd, he]
    simp only [Hd.nums, List.cons.injEq, and_true] at hw
    obtain ⟨h0, h1, h2, h3, h4, h5, h6, h7⟩ := hw
    rw [h0, h1, h2, h3, h4, h5, h6, h7]
  refine ⟨⟨h.bytes_len, hh, ?_, by rw [e]; exact hr, by rw [e]⟩, e⟩
  rw [hg.1]; exact h.data_len
/-- what a head's Pick tells -/
def hpick (h : Hd) (e : Int) (k : Hd) (f : Int) : Hd × Int := if f = 0 ∧ (e ≠ 0 ∨ h.n < k.n) then (k, 1) else if e = 0 then (h, 0) else (hd0, -1)
theorem hd_eta (h : Hd) : h = ⟨⟨h.g.v, h.g.S, h.g.s, h.g.u, h.g.j⟩, h.n, h.p, h.r, h.k⟩ := rfl
end Go.Proofs.Ytijmkbhbpbkkoaa
