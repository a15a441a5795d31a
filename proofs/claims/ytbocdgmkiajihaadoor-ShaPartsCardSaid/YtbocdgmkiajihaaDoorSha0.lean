/- SHA-256 in plain words. No program is named. -/
import Derived.Laws.BitsLemmas
import Derived.Lib.Hide
namespace Go.Proofs.YtbocdgmkiajihaaDoor

abbrev W32 := BitVec 32
def rot (x : W32) (n : Nat) : W32 := (x >>> n) ||| (x <<< (32 - n))
def sig0 (x : W32) : W32 := (rot x 7 ^^^ rot x 18) ^^^ (x >>> 3)
def sig1 (x : W32) : W32 := (rot x 17 ^^^ rot x 19) ^^^ (x >>> 10)
def Sg1 (e : W32) : W32 := (rot e 6 ^^^ rot e 11) ^^^ rot e 25
def Sg0 (a : W32) : W32 := (rot a 2 ^^^ rot a 13) ^^^ rot a 22
def chR (e f g : W32) : W32 := (e &&& f) ^^^ ((~~~ e) &&& g)
def mjR (a b c : W32) : W32 := ((a &&& b) ^^^ (a &&& c)) ^^^ (b &&& c)
theorem ch_eq (e f g : W32) : g ^^^ (e &&& (f ^^^ g)) = chR e f g := by
  unfold chR
  apply BitVec.eq_of_getLsbD_eq
  intro i hi
  simp only [BitVec.getLsbD_xor, BitVec.getLsbD_and, BitVec.getLsbD_not, hi, decide_true, Bool.true_and]
  cases e.getLsbD i <;> cases f.getLsbD i <;> cases g.getLsbD i <;> rfl
theorem mj_eq (a b c : W32) : (a &&& b) ||| (c &&& (a ||| b)) = mjR a b c := by
  unfold mjR
  apply BitVec.eq_of_getLsbD_eq
  intro i hi
  simp only [BitVec.getLsbD_xor, BitVec.getLsbD_and, BitVec.getLsbD_or]
  cases a.getLsbD i <;> cases b.getLsbD i <;> cases c.getLsbD i <;> rfl

/-- word i of a block's bytes -/
def B32 (c : Nat) : W32 := BitVec.ofNat 32 c
def word (m : List Nat) (i : Nat) : W32 := ((B32 (m.getD (4 * i) 0) <<< 24 ||| B32 (m.getD (4 * i + 1) 0) <<< 16) ||| B32 (m.getD (4 * i + 2) 0) <<< 8) ||| B32 (m.getD (4 * i + 3) 0)
def wnext (l : List W32) (i : Nat) : W32 := ((l.getD (i - 16) 0#32 + sig0 (l.getD (i - 15) 0#32)) + l.getD (i - 7) 0#32) + sig1 (l.getD (i - 2) 0#32)
theorem wnext_eq (l : List W32) (i : Nat) : ((l.getD (i - 16) 0#32 + l.getD (i - 7) 0#32) + sig0 (l.getD (i - 15) 0#32)) + sig1 (l.getD (i - 2) 0#32) = wnext l i := by
  unfold wnext; ac_rfl
def wsch (m : List Nat) : Nat → List W32
  | 0 => []
  | k + 1 => wsch m k ++ [if k < 16 then word m k else wnext (wsch m k) k]
theorem wsch_len (m : List Nat) : ∀ k, (wsch m k).length = k
  | 0 => rfl
  | k + 1 => by show (wsch m k ++ [_]).length = _; rw [List.length_append, wsch_len m k]; rfl
theorem wsch_at (m : List Nat) : ∀ (k i : Nat), i < k → ∀ n, k ≤ n → (wsch m n).getD i 0#32 = (wsch m k).getD i 0#32
  | k, i, hi, 0, hn => by omega
  | k, i, hi, n + 1, hn => by
    by_cases h : k = n + 1
    · rw [h]
    · have := wsch_at m k i hi n (by omega)
      rw [← this]
      show (wsch m n ++ [_]).getD i 0#32 = _
      rw [List.getD_eq_getElem?_getD, List.getElem?_append_left (by rw [wsch_len]; omega), ← List.getD_eq_getElem?_getD]

structure S8 where
  a : W32
  b : W32
  c : W32
  d : W32
  e : W32
  f : W32
  g : W32
  h : W32
def S8.l (v : S8) : List W32 := [v.a, v.b, v.c, v.d, v.e, v.f, v.g, v.h]
def S8.add (v u : S8) : S8 := ⟨v.a + u.a, v.b + u.b, v.c + u.c, v.d + u.d, v.e + u.e, v.f + u.f, v.g + u.g, v.h + u.h⟩
def kK : List W32 := [1116352408#32, 1899447441#32, 3049323471#32, 3921009573#32, 961987163#32, 1508970993#32, 2453635748#32, 2870763221#32, 3624381080#32, 310598401#32, 607225278#32, 1426881987#32, 1925078388#32, 2162078206#32, 2614888103#32, 3248222580#32, 3835390401#32, 4022224774#32, 264347078#32, 604807628#32, 770255983#32, 1249150122#32, 1555081692#32, 1996064986#32, 2554220882#32, 2821834349#32, 2952996808#32, 3210313671#32, 3336571891#32, 3584528711#32, 113926993#32, 338241895#32, 666307205#32, 773529912#32, 1294757372#32, 1396182291#32, 1695183700#32, 1986661051#32, 2177026350#32, 2456956037#32, 2730485921#32, 2820302411#32, 3259730800#32, 3345764771#32, 3516065817#32, 3600352804#32, 4094571909#32, 275423344#32, 430227734#32, 506948616#32, 659060556#32, 883997877#32, 958139571#32, 1322822218#32, 1537002063#32, 1747873779#32, 1955562222#32, 2024104815#32, 2227730452#32, 2361852424#32, 2428436474#32, 2756734187#32, 3204031479#32, 3329325298#32]
def iV : S8 := ⟨1779033703#32, 3144134277#32, 1013904242#32, 2773480762#32, 1359893119#32, 2600822924#32, 528734635#32, 1541459225#32⟩
theorem kK_len : kK.length = 64 := rfl
def T1 (v : S8) (k w : W32) : W32 := (((v.h + Sg1 v.e) + chR v.e v.f v.g) + k) + w
def T2 (v : S8) : W32 := Sg0 v.a + mjR v.a v.b v.c
def rnd (v : S8) (k w : W32) : S8 := ⟨T1 v k w + T2 v, v.a, v.b, v.c, v.d + T1 v k w, v.e, v.f, v.g⟩
def rnds (ws : List W32) (v : S8) : Nat → S8
  | 0 => v
  | n + 1 => rnd (rnds ws v n) (kK.getD n 0#32) (ws.getD n 0#32)
def cmpr (v : S8) (m : List Nat) : S8 := v.add (rnds (wsch m 64) v 64)
/-- n blocks -/
def blks (v : S8) (l : List Nat) : Nat → S8
  | 0 => v
  | n + 1 => blks (cmpr v (l.take 64)) (l.drop 64) n
theorem blks_succ (l : List Nat) : ∀ (n : Nat) (v : S8), blks v l (n + 1) = cmpr (blks v l n) ((l.drop (64 * n)).take 64) := by
  intro n
  induction n generalizing l with
  | zero => intro v; simp [blks]
  | succ n ih =>
    intro v
    show blks (cmpr v (l.take 64)) (l.drop 64) (n + 1) = cmpr (blks (cmpr v (l.take 64)) (l.drop 64) n) _
    rw [ih (l.drop 64), List.drop_drop, show 64 + 64 * n = 64 * (n + 1) from by omega]
theorem blks_append : ∀ (n : Nat) (v : S8) (a b : List Nat), a.length = 64 * n → ∀ k, blks v (a ++ b) (n + k) = blks (blks v a n) b k
  | 0, v, a, b, h, k => by
    rw [List.eq_nil_of_length_eq_zero (show a.length = 0 by omega)]; simp [blks]
  | n + 1, v, a, b, h, k => by
    rw [show n + 1 + k = (n + k) + 1 from by omega]
    show blks (cmpr v ((a ++ b).take 64)) ((a ++ b).drop 64) (n + k) = blks (blks (cmpr v (a.take 64)) (a.drop 64) n) b k
    rw [List.take_append_of_le_length (by omega), List.drop_append_of_le_length (by omega)]
    exact blks_append n _ (a.drop 64) b (by simp; omega) k
theorem blks_take : ∀ (n : Nat) (v : S8) (a : List Nat) (k : Nat), 64 * n ≤ k → blks v (a.take k) n = blks v a n
  | 0, _, _, _, _ => rfl
  | n + 1, v, a, k, h => by
    show blks (cmpr v ((a.take k).take 64)) ((a.take k).drop 64) n = blks (cmpr v (a.take 64)) (a.drop 64) n
    rw [List.take_take, Nat.min_eq_left (by omega), List.drop_take, blks_take n _ (a.drop 64) (k - 64) (by omega)]

/-- how many noughts, the length's bytes, the padded text -/
def zrs (n : Nat) : Nat := (119 - n % 64) % 64
theorem zrs_mod (n : Nat) : (n + 1 + zrs n) % 64 = 56 := by unfold zrs; omega
theorem zrs_min (n j : Nat) (h : j < zrs n) : (n + 1 + j) % 64 ≠ 56 := by unfold zrs at h; omega
theorem zrs_lt (n : Nat) : zrs n < 64 := by unfold zrs; omega
theorem zrs_same (n m : Nat) (h : n % 64 = m % 64) : zrs n = zrs m := by unfold zrs; rw [h]
def len8 (n : Nat) : List Nat := (List.range 8).map (fun i => (8 * n) / 2 ^ (8 * (7 - i)) % 256)
/-- what stands behind a text of n bytes -/
def tail8 (n : Nat) : List Nat := 128 :: (List.replicate (zrs n) 0 ++ len8 n)
theorem len8_len (n : Nat) : (len8 n).length = 8 := by simp [len8]
theorem tail8_len (n : Nat) : (tail8 n).length = 9 + zrs n := by simp [tail8, len8_len]; omega
theorem padded_mod (n : Nat) : (n + (tail8 n).length) % 64 = 0 := by rw [tail8_len]; have := zrs_mod n; omega
def digS (l : List Nat) : S8 := blks iV (l ++ tail8 l.length) ((l.length + (tail8 l.length).length) / 64)
def keyL (v : S8) : List Nat := (List.range 32).map (fun i => ((v.l.getD (i / 4) 0#32) >>> (24 - i % 4 * 8)).toNat % 256)
def digL (l : List Nat) : List Nat := keyL (digS l)
/-- the state behind all whole blocks of l -/
def stS (l : List Nat) : S8 := blks iV l (l.length / 64)
def rest (l : List Nat) : List Nat := l.drop (64 * (l.length / 64))
theorem rest_len (l : List Nat) : (rest l).length = l.length % 64 := by unfold rest; rw [List.length_drop]; omega
theorem front_len (l : List Nat) : (l.take (64 * (l.length / 64))).length = 64 * (l.length / 64) := by rw [List.length_take]; omega
theorem front_rest (l : List Nat) : l.take (64 * (l.length / 64)) ++ rest l = l := List.take_append_drop ..
theorem stS_front (l : List Nat) : blks iV (l.take (64 * (l.length / 64))) (l.length / 64) = stS l := blks_take _ _ _ _ (Nat.le_refl _)
/-- more behind it -/
theorem st_more (l m : List Nat) : blks (stS l) (rest l ++ m) (((rest l).length + m.length) / 64) = stS (l ++ m) := by
  rw [← stS_front l, ← blks_append _ _ _ _ (front_len l), ← List.append_assoc, front_rest]
  unfold stS
  congr 1
  rw [rest_len, List.length_append]
  omega
theorem drop_front (a b : List Nat) (n : Nat) : (a ++ b).drop (a.length + n) = b.drop n := by
  rw [List.drop_append, List.drop_of_length_le (by omega), List.nil_append]
  congr 1; omega
theorem rest_more (l m : List Nat) : (rest l ++ m).drop (64 * (((rest l).length + m.length) / 64)) = rest (l ++ m) := by
  have h : (l ++ m) = l.take (64 * (l.length / 64)) ++ (rest l ++ m) := by rw [← List.append_assoc, front_rest]
  have hn : 64 * ((l ++ m).length / 64) = (l.take (64 * (l.length / 64))).length + 64 * (((rest l).length + m.length) / 64) := by
    rw [front_len, List.length_append, rest_len]; omega
  have h2 : rest (l ++ m) = (l ++ m).drop (64 * ((l ++ m).length / 64)) := rfl
  rw [h2, hn]
  conv => rhs; rw [h]
  rw [drop_front]
theorem dig_of (l : List Nat) : blks (stS l) (rest l ++ tail8 l.length) (((rest l).length + (tail8 l.length).length) / 64) = digS l := by
  rw [st_more]
  unfold stS digS
  rw [List.length_append]
end Go.Proofs.YtbocdgmkiajihaaDoor
