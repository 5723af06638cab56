/- Numbers, texts and runs as bytes: what is written and what is read. -/
import Derived.Test.YtoklfidamhigcaaW
namespace Go.Proofs.Ytoklfidamhigcaa.D
open Go.RowKit
set_option linter.unusedVariables false
set_option linter.unusedSimpArgs false

theorem u8_nat {n : Nat} (h : n < 256) : (u8 (n : Int)).toNat = n := by
  have := u8_val (n : Int)
  omega
theorem u8_self (c : UInt8) : u8 (c.toNat : Int) = c := by
  apply UInt8.toNat.inj
  exact u8_nat c.toNat_lt
/-- A number in groups of seven bits. -/
def put (n : Nat) : List UInt8 := if n < 128 then [u8 n] else u8 ((128 + n % 128 : Nat) : Int) :: put (n / 128)
termination_by n
theorem put_lt {n : Nat} (h : n < 128) : put n = [u8 n] := by rw [put, if_pos h]
theorem put_ge {n : Nat} (h : 128 ≤ n) : put n = u8 ((128 + n % 128 : Nat) : Int) :: put (n / 128) := by rw [put, if_neg (by omega)]
theorem put_pos (n : Nat) : 0 < (put n).length := by rw [put]; split <;> simp
theorem put_le : ∀ (k n : Nat), n < 128 ^ k → 0 < k → (put n).length ≤ k := by
  intro k
  induction k with
  | zero => intro n _ h; omega
  | succ k ih =>
    intro n h _
    by_cases h1 : n < 128
    · rw [put_lt h1]; simp
    · rw [put_ge (by omega)]
      have hk : 0 < k := by
        rcases Nat.eq_zero_or_pos k with h0 | h0
        · subst h0; simp at h; omega
        · exact h0
      have : n / 128 < 128 ^ k := Nat.div_lt_of_lt_mul (by rw [Nat.mul_comm, ← Nat.pow_succ]; exact h)
      have := ih _ this hk
      simp; omega
theorem put_len {n : Nat} (h : n < 2 ^ 63) : (put n).length ≤ 9 := put_le 9 n (by omega) (by omega)
/-- The number that bytes begin with, by how many were read ahead of them: and how many bytes it has. -/
def gs : Nat → List UInt8 → Option (Nat × Nat)
  | _, [] => none
  | n, c :: s => if n = 8 ∧ 63 < c.toNat then none else if c.toNat < 128 then (if n = 0 ∨ 0 < c.toNat then some (c.toNat, 1) else none)
    else (gs (n + 1) s).map fun r => (c.toNat % 128 + 128 * r.1, r.2 + 1)
def MaxN : Nat := 4611686018427387903
theorem gs_put : ∀ (v n : Nat) (m : List UInt8), v * 128 ^ n ≤ MaxN → (0 < n → 0 < v) → gs n (put v ++ m) = some (v, (put v).length) := by
  intro v
  induction v using Nat.strongRecOn with
  | _ v ih =>
    intro n m h h0
    have h9 : n ≤ 8 := by
      rcases Nat.lt_or_ge n 9 with hn | hn
      · omega
      · have : 0 < v := h0 (by omega)
        have : 128 ^ 9 ≤ 128 ^ n := Nat.pow_le_pow_right (by omega) hn
        have : 1 * 128 ^ 9 ≤ v * 128 ^ n := Nat.mul_le_mul (by omega) this
        simp only [MaxN] at h; omega
    have h8 : n = 8 → v ≤ 63 := fun e => by subst e; simp only [MaxN] at h; omega
    by_cases h1 : v < 128
    · rw [put_lt h1]
      have e := u8_nat (n := v) (by omega)
      simp only [List.cons_append, List.nil_append, gs, e]
      rw [if_neg (by omega), if_pos h1, if_pos (by omega)]; rfl
    · rw [put_ge (by omega)]
      have e := u8_nat (n := 128 + v % 128) (by omega)
      simp only [List.cons_append, gs, e]
      rw [if_neg (by omega), if_neg (by omega), ih (v / 128) (by omega) (n + 1) m ?_ (by omega)]
      · simp; omega
      · refine Nat.le_trans ?_ h
        rw [Nat.pow_succ, Nat.mul_comm (128 ^ n), ← Nat.mul_assoc]
        exact Nat.mul_le_mul_right _ (Nat.div_mul_le_self v 128)
theorem gs_inv : ∀ (s : List UInt8) (n v k : Nat), n ≤ 8 → gs n s = some (v, k) → s.take k = put v ∧ k ≤ s.length ∧ 0 < k ∧ v * 128 ^ n ≤ MaxN ∧ (0 < n → 0 < v) ∧ k + n ≤ 9 := by
  intro s
  induction s with
  | nil => intro n v k hn h; simp [gs] at h
  | cons c s ih =>
    intro n v k hn h
    simp only [gs] at h
    split at h
    · simp at h
    · rename_i h1
      split at h
      · rename_i h2
        split at h
        · rename_i h3
          simp at h
          obtain ⟨rfl, rfl⟩ := h
          refine ⟨?_, by simp, by omega, ?_, by omega, by omega⟩
          · rw [put_lt h2, u8_self]; simp
          · have : 128 ^ n ≤ 128 ^ 8 := Nat.pow_le_pow_right (by omega) hn
            rcases Nat.lt_or_ge n 8 with h4 | h4
            · have h5 : 128 ^ n ≤ 128 ^ 7 := Nat.pow_le_pow_right (by omega) (by omega)
              have : c.toNat * 128 ^ n ≤ 127 * 128 ^ 7 := Nat.mul_le_mul (by omega) h5
              simp only [MaxN]; omega
            · have : n = 8 := by omega
              subst this
              simp only [MaxN]; omega
        · simp at h
      · rename_i h2
        simp only [Option.map_eq_some_iff] at h
        obtain ⟨⟨v', k'⟩, h3, h4⟩ := h
        simp only [Prod.mk.injEq] at h4
        obtain ⟨rfl, rfl⟩ := h4
        have hn8 : n < 8 := by have := c.toNat_lt; omega
        obtain ⟨g1, g2, g3, g4, g5, g6⟩ := ih (n + 1) v' k' (by omega) h3
        have hv := g5 (by omega)
        refine ⟨?_, by simp; omega, by omega, ?_, by omega, by omega⟩
        · rw [put_ge (by omega)]
          have e1 : (c.toNat % 128 + 128 * v') / 128 = v' := by omega
          have e2 : 128 + (c.toNat % 128 + 128 * v') % 128 = c.toNat := by have := c.toNat_lt; omega
          rw [e1, e2, List.take_succ_cons, g1]
          rw [u8_self]
        · have e3 : v' * 128 ^ (n + 1) = (128 * v') * 128 ^ n := by rw [Nat.pow_succ]; rw [Nat.mul_comm (128 ^ n), ← Nat.mul_assoc, Nat.mul_comm v']
          rw [e3] at g4
          have h5 : 128 ^ n ≤ 128 ^ 7 := Nat.pow_le_pow_right (by omega) (by omega)
          have h6 : 128 * v' * 128 ^ n ≤ MaxN / 128 ^ (n+1) * 128 ^ (n + 1) := by
            rw [← e3]
            refine Nat.mul_le_mul_right _ ?_
            rw [Nat.le_div_iff_mul_le (Nat.pow_pos (by omega)), e3]; exact g4
          have e4 : (c.toNat % 128 + 128 * v') * 128 ^ n ≤ 127 * 128 ^ n + MaxN / 128 ^ (n + 1) * 128 ^ (n + 1) := by
            rw [Nat.add_mul]; exact Nat.add_le_add (Nat.mul_le_mul_right _ (by omega)) h6
          refine Nat.le_trans e4 ?_
          have : n = 0 ∨ n = 1 ∨ n = 2 ∨ n = 3 ∨ n = 4 ∨ n = 5 ∨ n = 6 ∨ n = 7 := by omega
          rcases this with rfl | rfl | rfl | rfl | rfl | rfl | rfl | rfl <;> simp only [MaxN] <;> decide
/-- .. at a place: the number and the place behind it. -/
def get (l : List UInt8) (a : Nat) : Option (Nat × Nat) := (gs 0 (l.drop a)).map fun r => (r.1, a + r.2)
theorem get_put (p m : List UInt8) (v : Nat) (h : v ≤ MaxN) : get (p ++ (put v ++ m)) p.length = some (v, p.length + (put v).length) := by
  rw [get, List.drop_left, gs_put v 0 m (by simpa using h) (by omega)]; rfl
theorem get_inv {l : List UInt8} {a v b : Nat} (h : get l a = some (v, b)) : l = l.take a ++ (put v ++ l.drop b) ∧ a < b ∧ b ≤ l.length ∧ v ≤ MaxN ∧ b = a + (put v).length := by
  simp only [get, Option.map_eq_some_iff] at h
  obtain ⟨⟨v', k⟩, h1, h2⟩ := h
  simp only [Prod.mk.injEq] at h2
  obtain ⟨rfl, rfl⟩ := h2
  obtain ⟨g1, g2, g3, g4, _, _⟩ := gs_inv _ _ _ _ (by omega) h1
  simp only [List.length_drop] at g2
  have hk : (put v').length = k := by rw [← g1]; simp; omega
  refine ⟨?_, by omega, by omega, by simpa using g4, by omega⟩
  rw [← g1, ← List.drop_drop, List.take_append_drop, List.take_append_drop]
theorem get_mono {l m : List UInt8} {a v b : Nat} (h : get l a = some (v, b)) : get (l ++ m) a = some (v, b) := by
  obtain ⟨h1, h2, h3, h4, h5⟩ := get_inv h
  have h6 : a = (l.take a).length := by simp; omega
  rw [h1, List.append_assoc, List.append_assoc]
  have := get_put (l.take a) (l.drop b ++ m) v h4
  rw [← h6] at this
  rw [this, h5]
theorem get_lt {l : List UInt8} {a : Nat} {r : Nat × Nat} (h : get l a = some r) : a < l.length := by
  obtain ⟨v, b⟩ := r
  obtain ⟨_, h2, h3, _⟩ := get_inv h; omega

/-- How many of their first bytes two texts share. -/
def alike : List UInt8 → List UInt8 → Nat
  | a :: as, b :: bs => if a = b then alike as bs + 1 else 0
  | _, _ => 0
theorem alike_le : ∀ (a b : List UInt8), alike a b ≤ a.length ∧ alike a b ≤ b.length
  | [], b => by simp [alike]
  | _ :: _, [] => by simp [alike]
  | a :: as, b :: bs => by simp only [alike]; split <;> simp; exact alike_le as bs
theorem alike_take : ∀ (a b : List UInt8), a.take (alike a b) = b.take (alike a b)
  | [], b => by simp [alike]
  | _ :: _, [] => by simp [alike]
  | a :: as, b :: bs => by simp only [alike]; split; (rename_i h; subst h; simp; exact alike_take as bs); simp
/-- Where they part, or one ends. -/
theorem alike_eq : ∀ (a b : List UInt8) (n : Nat), n ≤ a.length → n ≤ b.length → a.take n = b.take n → (∀ (h1 : n < a.length) (h2 : n < b.length), a[n] ≠ b[n]) → alike a b = n
  | [], b, n, h1, _, _, _ => by simp at h1; simp [alike, h1]
  | _ :: _, [], n, _, h1, _, _ => by simp at h1; simp [alike, h1]
  | a :: as, b :: bs, 0, _, _, _, h => by
    have := h (by simp) (by simp)
    simp only [List.getElem_cons_zero] at this
    rw [alike, if_neg this]
  | a :: as, b :: bs, n + 1, h1, h2, h3, h4 => by
    simp only [List.take_succ_cons, List.cons.injEq] at h3
    rw [alike, if_pos h3.1, alike_eq as bs n (by simpa using h1) (by simpa using h2) h3.2 fun g1 g2 => h4 (Nat.succ_lt_succ g1) (Nat.succ_lt_succ g2)]

def putTs (last : List UInt8) : List (List UInt8) → List UInt8
  | [] => []
  | t :: ts => put (alike last t) ++ put (t.length - alike last t) ++ t.drop (alike last t) ++ putTs t ts
/-- A list of texts as bytes. -/
def putT (ts : List (List UInt8)) : List UInt8 := put ts.length ++ putTs [] ts
def total (ts : List (List UInt8)) : Nat := (ts.map List.length).sum
theorem putTs_append (last : List UInt8) : ∀ (a b : List (List UInt8)), putTs last (a ++ b) = putTs last a ++ putTs (a.getLast?.getD last) b
  | [], b => by simp [putTs]
  | [t], b => by simp [putTs]
  | t :: u :: a, b => by
    have := putTs_append t (u :: a) b
    simp only [List.cons_append] at this ⊢
    rw [putTs, this]
    conv => rhs; rw [putTs]
    simp [List.append_assoc, List.getLast?_cons]
def MaxB : Nat := 1048576
/-- The texts that bytes hold from a place on: n more behind the last one, that had some bytes together. -/
def tsN (l : List UInt8) : Nat → Nat → List UInt8 → Nat → Option (List (List UInt8) × Nat)
  | 0, a, _, _ => some ([], a)
  | n + 1, a, last, all =>
    match get l a with
    | none => none
    | some (k, b) => match get l b with
      | none => none
      | some (m, c) =>
        if k ≤ last.length ∧ m ≤ l.length - c ∧ all + (k + m) ≤ MaxB ∧ alike last (last.take k ++ (l.drop c).take m) = k then
          (tsN l n (c + m) (last.take k ++ (l.drop c).take m) (all + (k + m))).map fun r => ((last.take k ++ (l.drop c).take m) :: r.1, r.2)
        else none
def getT (l : List UInt8) (a : Nat) : Option (List (List UInt8) × Nat) := match get l a with | none => none | some (n, b) => if n ≤ 4096 then tsN l n b [] 0 else none
theorem tsN_inv (l : List UInt8) : ∀ (n a : Nat) (last : List UInt8) (all : Nat) (ts : List (List UInt8)) (b : Nat), a ≤ l.length → tsN l n a last all = some (ts, b) →
    ts.length = n ∧ a ≤ b ∧ b ≤ l.length ∧ l = l.take a ++ (putTs last ts ++ l.drop b) ∧ (0 < n → all + total ts ≤ MaxB) := by
  intro n
  induction n with
  | zero => intro a last all ts b ha h; simp [tsN] at h; obtain ⟨rfl, rfl⟩ := h; simp [putTs, ha]
  | succ n ih =>
    intro a last all ts b ha h
    simp only [tsN] at h
    split at h
    · simp at h
    · rename_i k c h1
      split at h
      · simp at h
      · rename_i m d h2
        split at h
        · rename_i h3
          obtain ⟨h3, h4, h5, h6⟩ := h3
          simp only [Option.map_eq_some_iff] at h
          obtain ⟨⟨ts', b'⟩, h7, h8⟩ := h
          simp only [Prod.mk.injEq] at h8
          obtain ⟨rfl, rfl⟩ := h8
          obtain ⟨i1, i2, i3, i4, i5⟩ := get_inv h1
          obtain ⟨j1, j2, j3, j4, j5⟩ := get_inv h2
          obtain ⟨g1, g2, g3, g4, g5⟩ := ih (d + m) _ _ _ _ (by omega) h7
          have hlen : (last.take k ++ (l.drop d).take m).length = k + m := by simp; omega
          refine ⟨by simp [g1], by omega, g3, ?_, fun _ => ?_⟩
          · have e1 : (last.take k ++ (l.drop d).take m).drop k = (l.drop d).take m := by
              rw [List.drop_append_of_le_length (by simp; omega)]; simp
            have e2 : l.drop d = (l.drop d).take m ++ l.drop (d + m) := by rw [← List.drop_drop]; exact (List.take_append_drop _ _).symm
            have e3 : l.drop (d + m) = putTs (last.take k ++ (l.drop d).take m) ts' ++ l.drop b' := by
              have := congrArg (List.drop (d + m)) g4
              rw [List.drop_left' (by simp; omega)] at this
              exact this
            have e4 : l.drop c = put m ++ l.drop d := by
              have := congrArg (List.drop c) j1
              rw [List.drop_left' (by simp; omega)] at this
              exact this
            rw [putTs, h6, hlen, show k + m - k = m by omega, e1]
            conv => lhs; rw [i1, e4, e2, e3]
            simp [List.append_assoc]
          · simp only [total, List.map_cons, List.sum_cons, hlen] at g5 ⊢
            rcases Nat.eq_zero_or_pos n with h0 | h0
            · subst h0
              have : ts' = [] := List.eq_nil_of_length_eq_zero g1
              subst this; simp; omega
            · have := g5 h0; omega
        · simp at h
/-- What is written is read. -/
theorem tsN_put : ∀ (ts : List (List UInt8)) (p m : List UInt8) (last : List UInt8) (all : Nat), all + total ts ≤ MaxB → last.length ≤ MaxB →
    tsN (p ++ (putTs last ts ++ m)) ts.length p.length last all = some (ts, p.length + (putTs last ts).length)
  | [], p, m, last, all, _, _ => by simp [tsN, putTs]
  | t :: ts, p, m, last, all, h, hl => by
    obtain ⟨a1, a2⟩ := alike_le last t
    simp only [total, List.map_cons, List.sum_cons] at h
    have hB : MaxB ≤ MaxN := by simp [MaxB, MaxN]
    simp only [putTs, List.length_cons, tsN]
    have e1 := get_put p (put (t.length - alike last t) ++ (t.drop (alike last t) ++ (putTs t ts ++ m))) (alike last t) (by omega)
    have e2 := get_put (p ++ put (alike last t)) (t.drop (alike last t) ++ (putTs t ts ++ m)) (t.length - alike last t) (by omega)
    simp only [List.append_assoc, List.length_append] at e1 e2 ⊢
    simp only [e1, e2]
    have e3 : (p ++ (put (alike last t) ++ (put (t.length - alike last t) ++ (t.drop (alike last t) ++ (putTs t ts ++ m))))).drop (p.length + (put (alike last t)).length + (put (t.length - alike last t)).length) = t.drop (alike last t) ++ (putTs t ts ++ m) := by
      rw [← List.append_assoc, ← List.append_assoc]
      exact List.drop_left' (by simp; omega)
    have e4 : (t.drop (alike last t) ++ (putTs t ts ++ m)).take (t.length - alike last t) = t.drop (alike last t) := by
      exact List.take_left' (by simp)
    have e5 : last.take (alike last t) ++ t.drop (alike last t) = t := by rw [alike_take, List.take_append_drop]
    rw [e3, e4, e5, if_pos ⟨a1, by simp; omega, by omega, rfl⟩]
    have e6 := tsN_put ts (p ++ put (alike last t) ++ put (t.length - alike last t) ++ t.drop (alike last t)) m t (all + t.length) (by simp only [total]; omega) (by omega)
    simp only [List.append_assoc, List.length_append, List.length_drop] at e6
    rw [show alike last t + (t.length - alike last t) = t.length by omega]
    rw [show p.length + (put (alike last t)).length + (put (t.length - alike last t)).length + (t.length - alike last t) = p.length + ((put (alike last t)).length + ((put (t.length - alike last t)).length + (t.length - alike last t))) by omega, e6]
    simp; omega
theorem getT_put {ts : List (List UInt8)} (h : total ts ≤ MaxB) (hn : ts.length ≤ 4096) (p m : List UInt8) : getT (p ++ (putT ts ++ m)) p.length = some (ts, p.length + (putT ts).length) := by
  have e1 := get_put p (putTs [] ts ++ m) ts.length (by simp only [MaxN]; omega)
  have e2 := tsN_put ts (p ++ put ts.length) m [] 0 (by omega) (by simp)
  simp only [List.append_assoc, List.length_append] at e1 e2
  simp only [getT, putT, List.append_assoc, e1, if_pos hn, e2, List.length_append]
  simp; omega
theorem getT_inv {l : List UInt8} {a b : Nat} {ts : List (List UInt8)} (h : getT l a = some (ts, b)) : a < b ∧ b ≤ l.length ∧ l = l.take a ++ (putT ts ++ l.drop b) ∧ total ts ≤ MaxB ∧ ts.length ≤ 4096 := by
  simp only [getT] at h
  split at h
  · simp at h
  · rename_i n c h1
    split at h
    · rename_i h2
      obtain ⟨i1, i2, i3, i4, i5⟩ := get_inv h1
      obtain ⟨g1, g2, g3, g4, g5⟩ := tsN_inv l n c [] 0 ts b i3 h
      refine ⟨by omega, g3, ?_, ?_, by omega⟩
      · have e3 : l.drop c = putTs [] ts ++ l.drop b := by
          have := congrArg (List.drop c) g4
          rw [List.drop_left' (by simp; omega)] at this
          exact this
        conv => lhs; rw [i1, e3]
        simp [putT, g1, List.append_assoc]
      · rcases Nat.eq_zero_or_pos n with h0 | h0
        · have : ts = [] := List.eq_nil_of_length_eq_zero (by omega)
          subst this; simp [total]
        · have := g5 h0; omega
    · simp at h
theorem getT_mono {l m : List UInt8} {a b : Nat} {ts : List (List UInt8)} (h : getT l a = some (ts, b)) : getT (l ++ m) a = some (ts, b) := by
  obtain ⟨h1, h2, h3, h4, h5⟩ := getT_inv h
  have h6 : (l.take a).length = a := by simp; omega
  have h7 : b = a + (putT ts).length := by
    have := congrArg List.length h3
    simp at this; omega
  have := getT_put h4 h5 (l.take a) (l.drop b ++ m)
  rw [h6] at this
  rw [h3, List.append_assoc, List.append_assoc, this, h7]
end Go.Proofs.Ytoklfidamhigcaa.D
