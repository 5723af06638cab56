/- Runs of numbers as bytes: what is written and what is read. -/
import Derived.Test.YtoklfidamhigcaaPCod
namespace Go.Proofs.Ytoklfidamhigcaa.D
open Go.RowKit
set_option linter.unusedVariables false
set_option linter.unusedSimpArgs false

def M4 : Int := 1152921504606846975
/-- The sign in the lowest bit. -/
def zig (d : Int) : Nat := if d < 0 then (-2 * d - 1).toNat else (2 * d).toNat
def zag (z : Nat) : Int := if z % 2 = 1 then -(((z + 1) / 2 : Nat) : Int) else ((z / 2 : Nat) : Int)
theorem zag_zig (d : Int) : zag (zig d) = d := by
  unfold zag zig
  split <;> split at * <;> omega
theorem zig_zag (z : Nat) : zig (zag z) = z := by
  unfold zag zig
  split <;> split at * <;> omega
/-- How many go on with that difference. -/
def more (d : Int) : Int → List Int → Nat
  | _, [] => 0
  | y, z :: s => if z - y = d then more d z s + 1 else 0
theorem more_le (d : Int) : ∀ (y : Int) (s : List Int), more d y s ≤ s.length
  | _, [] => by simp [more]
  | y, z :: s => by simp only [more]; split <;> simp; exact more_le d z s
/-- How long the first run is. -/
def rl : List Int → Nat
  | [] => 0
  | [_] => 1
  | x :: y :: s => more (y - x) y s + 2
theorem rl_pos {s : List Int} (h : s ≠ []) : 0 < rl s := by
  match s, h with
  | [_], _ => simp [rl]
  | _ :: _ :: _, _ => simp [rl]
theorem rl_le (s : List Int) : rl s ≤ s.length := by
  match s with
  | [] => simp [rl]
  | [_] => simp [rl]
  | x :: y :: s => simp only [rl, List.length_cons]; have := more_le (y - x) y s; omega
/-- The numbers of a run. -/
def seq (v d : Int) : Nat → List Int
  | 0 => []
  | n + 1 => v :: seq (v + d) d n
@[simp] theorem seq_length (v d : Int) (n : Nat) : (seq v d n).length = n := by
  induction n generalizing v with
  | zero => rfl
  | succ n ih => simp [seq, ih]
theorem more_seq (d : Int) : ∀ (y : Int) (s : List Int), s.take (more d y s) = seq (y + d) d (more d y s)
  | _, [] => by simp [more, seq]
  | y, z :: s => by
    simp only [more]; split
    · rename_i h
      rw [List.take_succ_cons, seq, more_seq d z s]
      have : y + d = z := by omega
      rw [this]
    · simp [seq]
theorem rl_seq {x y : Int} {s : List Int} : (x :: y :: s).take (rl (x :: y :: s)) = seq x (y - x) (rl (x :: y :: s)) := by
  simp only [rl, List.take_succ_cons, seq]
  rw [more_seq, show x + (y - x) = y by omega]
def putRs (l : List Int) : List UInt8 :=
  match h : l with
  | [] => []
  | [x] => put x.toNat ++ put 1
  | x :: y :: s => put x.toNat ++ put (rl l) ++ put (zig (y - x)) ++ putRs (l.drop (rl l))
termination_by l.length
decreasing_by subst h; have := rl_pos (s := x :: y :: s) (by simp); simp; simp only [rl] at *; omega
/-- A list of numbers as bytes. -/
def putR (l : List Int) : List UInt8 := put l.length ++ putRs l
theorem putRs_nil : putRs [] = [] := by rw [putRs]
theorem putRs_one (x : Int) : putRs [x] = put x.toNat ++ put 1 := by rw [putRs]
theorem putRs_two (x y : Int) (s : List Int) : putRs (x :: y :: s) = put x.toNat ++ put (rl (x :: y :: s)) ++ put (zig (y - x)) ++ putRs ((x :: y :: s).drop (rl (x :: y :: s))) := by rw [putRs]
def inM (x : Int) : Prop := 0 ≤ x ∧ x ≤ M4
instance (x : Int) : Decidable (inM x) := by unfold inM; infer_instance
/-- The numbers that bytes hold from a place on: r more. -/
def rsN (l : List UInt8) (r a : Nat) : Option (List Int × Nat) :=
  if r = 0 then some ([], a) else
  match get l a with
  | none => none
  | some (v, b) => match get l b with
    | none => none
    | some (k, c) =>
      if h : (v : Int) ≤ M4 ∧ 1 ≤ k ∧ k ≤ r then
        if k = 1 then (rsN l (r - 1) c).map fun x => ((v : Int) :: x.1, x.2) else
        match get l c with
        | none => none
        | some (z, d) => if ∀ x ∈ seq v (zag z) k, inM x then (rsN l (r - k) d).map fun x => (seq v (zag z) k ++ x.1, x.2) else none
      else none
termination_by r
decreasing_by all_goals omega
/-- .. whether or not they are the shortest bytes of theirs. -/
def getR0 (l : List UInt8) (a : Nat) : Option (List Int × Nat) := match get l a with | none => none | some (n, b) => if n ≤ 4096 then rsN l n b else none
/-- .. and they are. -/
def getR (l : List UInt8) (a : Nat) : Option (List Int × Nat) := match getR0 l a with | none => none | some (xs, b) => if putR xs = (l.drop a).take (b - a) then some (xs, b) else none
theorem rsN_inv (l : List UInt8) : ∀ (r a : Nat) (xs : List Int) (b : Nat), a ≤ l.length → rsN l r a = some (xs, b) → xs.length = r ∧ a ≤ b ∧ b ≤ l.length ∧ ∀ x ∈ xs, inM x := by
  intro r
  induction r using Nat.strongRecOn with
  | _ r ih =>
    intro a xs b ha h
    rw [rsN] at h
    split at h
    · rename_i h0; simp at h; obtain ⟨rfl, rfl⟩ := h; simp [h0, ha]
    · rename_i h0
      split at h
      · simp at h
      · rename_i v c h1
        obtain ⟨i1, i2, i3, i4, i5⟩ := get_inv h1
        split at h
        · simp at h
        · rename_i k d h2
          obtain ⟨j1, j2, j3, j4, j5⟩ := get_inv h2
          split at h
          · rename_i h3
            split at h
            · rename_i h4
              simp only [Option.map_eq_some_iff] at h
              obtain ⟨⟨ys, e⟩, h5, h6⟩ := h
              simp only [Prod.mk.injEq] at h6
              obtain ⟨rfl, rfl⟩ := h6
              obtain ⟨g1, g2, g3, g4⟩ := ih (r - 1) (by omega) d ys e (by omega) h5
              refine ⟨by simp; omega, by omega, g3, fun x hx => ?_⟩
              rcases List.mem_cons.1 hx with rfl | hx
              · exact ⟨by omega, h3.1⟩
              · exact g4 x hx
            · rename_i h4
              split at h
              · simp at h
              · rename_i z e h5
                obtain ⟨k1, k2, k3, k4, k5⟩ := get_inv h5
                split at h
                · rename_i h6
                  simp only [Option.map_eq_some_iff] at h
                  obtain ⟨⟨ys, f⟩, h7, h8⟩ := h
                  simp only [Prod.mk.injEq] at h8
                  obtain ⟨rfl, rfl⟩ := h8
                  obtain ⟨g1, g2, g3, g4⟩ := ih (r - k) (by omega) e ys f (by omega) h7
                  refine ⟨by simp; omega, by omega, g3, fun x hx => ?_⟩
                  rcases List.mem_append.1 hx with hx | hx
                  · exact h6 x hx
                  · exact g4 x hx
                · simp at h
          · simp at h
theorem zig_le {x y : Int} (hx : inM x) (hy : inM y) : zig (y - x) ≤ MaxN := by
  simp only [inM, M4] at hx hy
  simp only [zig, MaxN]; split <;> omega
theorem rsN_put : ∀ (n : Nat) (xs : List Int) (p m : List UInt8), xs.length ≤ n → (∀ x ∈ xs, inM x) → xs.length ≤ 4096 → rsN (p ++ (putRs xs ++ m)) xs.length p.length = some (xs, p.length + (putRs xs).length) := by
  intro n
  induction n with
  | zero =>
    intro xs p m hn hx _
    have : xs = [] := List.eq_nil_of_length_eq_zero (by omega)
    subst this
    rw [rsN]; simp [putRs_nil]
  | succ n ih =>
    intro xs p m hn hx h4
    match xs, hn, hx, h4 with
    | [], _, _, _ => rw [rsN]; simp [putRs_nil]
    | [x], _, hx, _ =>
      have h0 := hx x (by simp)
      simp only [inM, M4] at h0
      have e1 := get_put p (put 1 ++ m) x.toNat (by simp only [MaxN]; omega)
      have e2 := get_put (p ++ put x.toNat) m 1 (by simp only [MaxN]; omega)
      simp only [List.append_assoc, List.length_append] at e1 e2
      rw [rsN, putRs_one]
      simp only [List.append_assoc, e1, e2, List.length_singleton]
      rw [if_neg (by omega), dif_pos ⟨by simp only [M4]; omega, by omega, by omega⟩, if_pos trivial, rsN]
      simp; omega
    | x :: y :: s, hn, hx, h4 =>
      have hrl := rl_le (x :: y :: s)
      have hr2 : 2 ≤ rl (x :: y :: s) := by simp [rl]
      have h0 := hx x (by simp)
      have h1 := hx y (by simp)
      have hz := zig_le h0 h1
      have h0' := h0
      simp only [inM, M4] at h0'
      generalize hk : rl (x :: y :: s) = k at *
      have hseq : (x :: y :: s).take k = seq x (y - x) k := by rw [← hk]; exact rl_seq
      have e1 := get_put p (put k ++ (put (zig (y - x)) ++ (putRs ((x :: y :: s).drop k) ++ m))) x.toNat (by simp only [MaxN]; omega)
      have e2 := get_put (p ++ put x.toNat) (put (zig (y - x)) ++ (putRs ((x :: y :: s).drop k) ++ m)) k (by simp only [MaxN]; omega)
      have e3 := get_put (p ++ put x.toNat ++ put k) (putRs ((x :: y :: s).drop k) ++ m) (zig (y - x)) hz
      have e4 := ih ((x :: y :: s).drop k) (p ++ put x.toNat ++ put k ++ put (zig (y - x))) m (by simp only [List.length_drop]; omega) (fun z hz => hx z (List.mem_of_mem_drop hz)) (by simp only [List.length_drop]; omega)
      rw [rsN, putRs_two, hk]
      simp only [List.append_assoc, List.length_append] at e1 e2 e3 e4 ⊢
      rw [← Nat.add_assoc] at e3
      simp only [e1, e2]
      have hx0 : ((x.toNat : Nat) : Int) = x := by omega
      rw [if_neg (by simp), dif_pos ⟨by rw [hx0]; exact h0.2, by omega, by omega⟩, if_neg (by omega)]
      simp only [e3, hx0, zag_zig]
      rw [if_pos ?_]
      · rw [List.length_drop] at e4
        rw [show p.length + (put x.toNat).length + (put k).length + (put (zig (y - x))).length = p.length + ((put x.toNat).length + ((put k).length + (put (zig (y - x))).length)) by omega, e4]
        simp only [Option.map_some, Option.some.injEq, Prod.mk.injEq]
        refine ⟨?_, by omega⟩
        rw [← hseq, List.take_append_drop]
      · intro z hz
        rw [← hseq] at hz
        exact hx z (List.mem_of_mem_take hz)
theorem getR0_put {xs : List Int} (hx : ∀ x ∈ xs, inM x) (hn : xs.length ≤ 4096) (p m : List UInt8) : getR0 (p ++ (putR xs ++ m)) p.length = some (xs, p.length + (putR xs).length) := by
  have e1 := get_put p (putRs xs ++ m) xs.length (by simp only [MaxN]; omega)
  have e2 := rsN_put _ xs (p ++ put xs.length) m (Nat.le_refl _) hx hn
  simp only [List.append_assoc, List.length_append] at e1 e2
  simp only [getR0, putR, List.append_assoc, e1, if_pos hn, e2, List.length_append]
  simp; omega
theorem getR_put {xs : List Int} (hx : ∀ x ∈ xs, inM x) (hn : xs.length ≤ 4096) (p m : List UInt8) : getR (p ++ (putR xs ++ m)) p.length = some (xs, p.length + (putR xs).length) := by
  rw [getR, getR0_put hx hn]
  simp
theorem getR0_inv {l : List UInt8} {a b : Nat} {xs : List Int} (h : getR0 l a = some (xs, b)) : a < b ∧ b ≤ l.length ∧ (∀ x ∈ xs, inM x) ∧ xs.length ≤ 4096 := by
  simp only [getR0] at h
  split at h
  · simp at h
  · rename_i n c h1
    split at h
    · rename_i h2
      obtain ⟨i1, i2, i3, i4, i5⟩ := get_inv h1
      obtain ⟨g1, g2, g3, g4⟩ := rsN_inv l n c xs b i3 h
      exact ⟨by omega, g3, g4, by omega⟩
    · simp at h
theorem getR_inv {l : List UInt8} {a b : Nat} {xs : List Int} (h : getR l a = some (xs, b)) : a < b ∧ b ≤ l.length ∧ l = l.take a ++ (putR xs ++ l.drop b) ∧ (∀ x ∈ xs, inM x) ∧ xs.length ≤ 4096 := by
  simp only [getR] at h
  split at h
  · simp at h
  · rename_i ys c h1
    split at h
    · rename_i h2
      simp only [Option.some.injEq, Prod.mk.injEq] at h
      obtain ⟨rfl, rfl⟩ := h
      obtain ⟨g1, g2, g3, g4⟩ := getR0_inv h1
      refine ⟨g1, g2, ?_, g3, g4⟩
      rw [h2]
      conv => lhs; rw [← List.take_append_drop a l, ← List.take_append_drop (c - a) (l.drop a), List.drop_drop, show a + (c - a) = c by omega]
    · simp at h
theorem getR_mono {l m : List UInt8} {a b : Nat} {xs : List Int} (h : getR l a = some (xs, b)) : getR (l ++ m) a = some (xs, b) := by
  obtain ⟨h1, h2, h3, h4, h5⟩ := getR_inv h
  have h6 : (l.take a).length = a := by simp; omega
  have h7 : b = a + (putR xs).length := by
    have := congrArg List.length h3
    simp at this; omega
  have := getR_put h4 h5 (l.take a) (l.drop b ++ m)
  rw [h6] at this
  rw [h3, List.append_assoc, List.append_assoc, this, h7]
end Go.Proofs.Ytoklfidamhigcaa.D
