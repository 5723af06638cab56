/- Readers of bytes: the next number, the next text, by both. -/
import Derived.Test.YtoklfidamhigcaaCod
namespace Go.Proofs.Ytoklfidamhigcaa.D
open Go.RowKit
set_option maxRecDepth 100000
set_option linter.unusedVariables false
set_option linter.unusedSimpArgs false

theorem and8 (c : UInt8) : bits .and .u8 (c.toNat : Int) 127 = ((c.toNat % 128 : Nat) : Int) := by
  have hc := c.toNat_lt
  show IntKind.u8.wrap (((BitVec.ofInt 8 (c.toNat : Int) &&& BitVec.ofInt 8 ((127 : Nat) : Int)).toNat : Nat) : Int) = _
  rw [bv_and 8 (by omega) (by omega), wu8]
  have e : c.toNat &&& 127 = c.toNat % 128 := Nat.and_two_pow_sub_one_eq_mod c.toNat 7
  rw [e]; omega
theorem shl7 {a n : Nat} (h : n ≤ 8) (ha : a < 128) : IntKind.u64.wrap ((a : Int) * 2 ^ (min ((7 * n : Nat) : Int).toNat (IntKind.u64).bits)) = ((a * 128 ^ n : Nat) : Int) := by
  have e1 : min ((7 * n : Nat) : Int).toNat (IntKind.u64).bits = 7 * n := by simp [IntKind.bits]; omega
  have e2 : (2 : Int) ^ (7 * n) = ((128 ^ n : Nat) : Int) := by rw [Int.pow_mul]; simp
  have hp : 128 ^ n ≤ 128 ^ 8 := Nat.pow_le_pow_right (by omega) h
  have : a * 128 ^ n ≤ 127 * 128 ^ 8 := Nat.mul_le_mul (by omega) hp
  rw [e1, e2, wu64, ← Int.natCast_mul]
  omega
theorem or64 {v x n : Nat} (h : n ≤ 8) (hv : v < 128 ^ n) (hx : x < 128) : bits .or .u64 (v : Int) ((x * 128 ^ n : Nat) : Int) = ((v + x * 128 ^ n : Nat) : Int) := by
  have hp : 128 ^ n ≤ 128 ^ 8 := Nat.pow_le_pow_right (by omega) h
  have h3 : x * 128 ^ n ≤ 127 * 128 ^ 8 := Nat.mul_le_mul (by omega) hp
  show IntKind.u64.wrap (((BitVec.ofInt 64 (v : Int) ||| BitVec.ofInt 64 ((x * 128 ^ n : Nat) : Int)).toNat : Nat) : Int) = _
  rw [bv_or 64 (by omega) (by omega), wu64]
  have e2 : (128 : Nat) ^ n = 2 ^ (7 * n) := by rw [Nat.pow_mul]
  have : v ||| x * 128 ^ n = v + x * 128 ^ n := by
    have h1 := Nat.shiftLeft_add_eq_or_of_lt (show v < 2 ^ (7 * n) by rw [← e2]; exact hv) x
    rw [Nat.shiftLeft_eq, ← e2] at h1
    rw [Nat.or_comm, ← h1, Nat.add_comm]
  rw [this]; omega
theorem wu64n {a : Nat} (h : a < 18446744073709551616) : IntKind.u64.wrap (a : Int) = a := by rw [wu64]; omega
theorem wu64_7 {a : Nat} (h : a < 18446744073709551000) : IntKind.u64.wrap ((a : Int) + 7) = ((a + 7 : Nat) : Int) := by rw [wu64]; omega
theorem get_step {l : List UInt8} {a n v : Nat} (hlt : a + n < l.length) (h3 : get l a = (gs n (l.drop (a + n))).map fun r => (v + 128 ^ n * r.1, a + n + r.2)) :
    (n = 8 → 63 < l[a + n].toNat → get l a = none) ∧
    (l[a + n].toNat < 128 → ¬ (n = 8 ∧ 63 < l[a + n].toNat) → get l a = if n = 0 ∨ 0 < l[a + n].toNat then some (v + l[a + n].toNat % 128 * 128 ^ n, a + n + 1) else none) ∧
    (128 ≤ l[a + n].toNat → ¬ n = 8 → get l a = (gs (n + 1) (l.drop (a + (n + 1)))).map fun r => (v + l[a + n].toNat % 128 * 128 ^ n + 128 ^ (n + 1) * r.1, a + (n + 1) + r.2)) := by
  have hd : l.drop (a + n) = l[a + n] :: l.drop (a + (n + 1)) := List.drop_eq_getElem_cons hlt
  rw [hd, gs] at h3
  refine ⟨fun g1 g2 => by rw [h3, if_pos ⟨g1, g2⟩]; rfl, fun g1 g2 => ?_, fun g1 g2 => ?_⟩
  · rw [h3, if_neg g2, if_pos g1]
    split
    · rw [Nat.mod_eq_of_lt g1, Nat.mul_comm l[a + n].toNat]; rfl
    · rfl
  · rw [h3, if_neg (by omega), if_neg (by omega), Option.map_map]
    congr 1
    funext r
    simp only [Function.comp, Prod.mk.injEq]
    refine ⟨?_, by omega⟩
    rw [Nat.mul_add, Nat.pow_succ, Nat.mul_comm (128 ^ n) (_ % 128), ← Nat.add_assoc, Nat.mul_assoc]
/-- What a reader gives that asks for a number. -/
def NumP (l : List UInt8) (a : Nat) (bad : Bool) : SV → List Row → Prop := fun r Lo =>
  ∃ (v : Int) (b : Nat) (bad' : Bool), Lo = [rdR l b bad'] ∧ r = vI .i64 v ∧ b ≤ l.length ∧ match (if bad then none else get l a) with | some (x, y) => bad' = false ∧ v = x ∧ b = y | none => bad' = true ∧ v = 0
theorem i_num0 (l : List UInt8) (a : Nat) (bad : Bool) (hl : l.length ≤ 2 ^ 40) (ha : a ≤ l.length) :
    CallM Try.prog id_impl_reader_num [.one (.ptr 0 0)] [rdR l a bad] [] false (NumP l a bad) := by
  refine F_impl_reader_num ?_
  try (conv => whnf)
  repeat (refine SeqJ.thru ?_; conv => whnf)
  cases bad with
  | true =>
    refine LoopE.mk (fun _ : Nat => mk [(0, .one (.ptr 0 0))] [(0, rdR l a true)]) (fun _ => True) (fun x => x) 0 trivial (LeX.of ?_) ?_
    · try (conv => whnf)
      repeat (refine Need.mk ?_ ?_; (focus (first | omega | (simp; done))); conv => whnf)
      trivial
    · rintro n -
      try (conv => whnf)
      repeat (refine SeqJ.thru ?_; conv => whnf)
      refine Out.mk false [0, 1, 2, 3, 4] [] ?_
      try (conv => whnf)
      exact ⟨_, _, _, rfl, rfl, ha, rfl, rfl⟩
  | false =>
    refine LoopE.mk (fun (x : Nat × Nat) => mk [(0, .one (.ptr 0 0)), (3, vI .u64 x.2), (4, vI .u64 (7 * x.1 : Nat))] [(0, rdR l (a + x.1) false)])
      (fun x => x.1 ≤ 8 ∧ x.2 < 128 ^ x.1 ∧ a + x.1 ≤ l.length ∧ get l a = (gs x.1 (l.drop (a + x.1))).map fun r => (x.2 + 128 ^ x.1 * r.1, a + x.1 + r.2)) (fun x => 9 - x.1) (0, 0) ⟨by simp, by simp, by simpa using ha, by simp [get]⟩ (LeX.of ?_) ?_
    · try (conv => whnf)
      repeat (refine Need.mk ?_ ?_; (focus (first | omega | (simp; done))); conv => whnf)
      trivial
    · rintro ⟨n, v⟩ ⟨h1, h2, h4, h3⟩
      dsimp only at h1 h2 h3 h4 ⊢
      have hp : 128 ^ n ≤ 128 ^ 8 := Nat.pow_le_pow_right (by omega) h1
      have hp9 : (128 : Nat) ^ (n + 1) = 128 ^ n * 128 := Nat.pow_succ ..
      rcases Nat.lt_or_ge (a + n) l.length with hlt | hge
      · obtain ⟨q1, q2, q3⟩ := get_step hlt h3
        have hc := l[a + n].toNat_lt
        have hm : l[a + n].toNat % 128 * 128 ^ n ≤ 127 * 128 ^ n := Nat.mul_le_mul_right _ (by omega)
        have hvm : v + l[a + n].toNat % 128 * 128 ^ n < 128 ^ (n + 1) := by omega
        have hm8 : l[a + n].toNat < 64 → n = 8 → l[a + n].toNat % 128 * 128 ^ n ≤ 63 * 128 ^ n := fun g _ => Nat.mul_le_mul_right _ (by omega)
        have hm7 : n = 8 ∨ 128 ^ n ≤ 128 ^ 7 := by
          rcases Nat.lt_or_ge n 8 with h | h
          · exact .inr (Nat.pow_le_pow_right (by omega) (by omega))
          · exact .inl (by omega)
        try (conv => whnf)
        repeat' (first
          | (refine Need.mk ?_ ?_; (focus (omega)); conv => whnf)
          | (refine Pick.mk ?_ ?_ ?_; rotate_left; (focus (first | (with_reducible refine wu64_7 ?_; omega) | (with_reducible refine wu64n ?_; omega) | (with_reducible refine or64 ?_ ?_ ?_ <;> omega) | (with_reducible refine shl7 ?_ ?_ <;> omega) | with_reducible exact and8 _ | exact List.length_map _ | (refine wid ?_ ?_ <;> omega) | (refine pick_nat _ _ _ ?_; omega))); conv => whnf)
          | (refine SeqJ.thru ?_; conv => whnf)
          | (refine br_dec (fun _ => ?_) (fun _ => ?_) <;> first | (exfalso; omega) | contradiction | conv => whnf)
          | (refine br_not ?_; conv => whnf)
          | (refine br_bne (fun _ => ?_) (fun _ => ?_) <;> first | (exfalso; omega) | contradiction | conv => whnf)
          | (refine br_beq (fun _ => ?_) (fun _ => ?_) <;> first | (exfalso; omega) | contradiction | conv => whnf))
        · refine Out.mk false [0, 1, 2, 3, 4] [] ?_
          try (conv => whnf)
          refine ⟨_, _, _, rfl, rfl, (by omega : a + n + 1 ≤ l.length), ?_⟩
          rw [if_neg (by simp), q1 (by omega) (by omega)]
          exact ⟨rfl, rfl⟩
        · refine Out.mk false [0, 1, 2, 3, 4] [] ?_
          try (conv => whnf)
          refine ⟨_, _, _, rfl, rfl, (by omega : a + n + 1 ≤ l.length), ?_⟩
          rw [if_neg (by simp), q2 (by omega) (by omega), if_neg (by omega)]
          exact ⟨rfl, rfl⟩
        · refine Out.mk false [0, 1, 2, 3, 4] [] ?_
          try (conv => whnf)
          refine ⟨_, _, _, rfl, rfl, (by omega : a + n + 1 ≤ l.length), ?_⟩
          rw [if_neg (by simp), q2 (by omega) (by omega), if_pos (by omega)]
          exact ⟨rfl, rfl, rfl⟩
        · skip
          refine Out.mk false [0, 1, 2, 3, 4] [] ?_
          try (conv => whnf)
          refine ⟨_, _, _, rfl, rfl, (by omega : a + n + 1 ≤ l.length), ?_⟩
          rw [if_neg (by simp), q2 (by omega) (by omega), if_neg (by omega)]
          exact ⟨rfl, rfl⟩
        · skip
          refine Out.mk false [0, 1, 2, 3, 4] [] ?_
          try (conv => whnf)
          refine ⟨_, _, _, rfl, rfl, (by omega : a + n + 1 ≤ l.length), ?_⟩
          rw [if_neg (by simp), q2 (by omega) (by omega), if_pos (by omega)]
          exact ⟨rfl, rfl, rfl⟩
        · skip
          refine Out.mk false [0, 1, 2, 3, 4] [] ?_
          try (conv => whnf)
          refine ⟨_, _, _, rfl, rfl, (by omega : a + n + 1 ≤ l.length), ?_⟩
          rw [if_neg (by simp), q2 (by omega) (by omega), if_pos (by omega)]
          exact ⟨rfl, rfl, rfl⟩
        · refine Pick.mk (n + 1, v + l[a + n].toNat % 128 * 128 ^ n) ⟨⟨by dsimp only; omega, by dsimp only; exact hvm, by dsimp only; omega, q3 (by omega) (by omega)⟩, by dsimp only; omega⟩ (LeX.of ?_)
          try (conv => whnf)
          repeat (refine Need.mk ?_ ?_; (focus (first | omega | (simp; done))); conv => whnf)
          trivial
      · have hn : get l a = none := by rw [h3, List.drop_eq_nil_of_le hge]; rfl
        try (conv => whnf)
        repeat' (first
          | (refine Pick.mk ?_ ?_ ?_; rotate_left; (focus (exact List.length_map _)); conv => whnf)
          | (refine SeqJ.thru ?_; conv => whnf)
          | (refine br_dec (fun _ => ?_) (fun _ => ?_) <;> first | (exfalso; omega) | contradiction | conv => whnf)
          | (refine br_not ?_; conv => whnf)
          | (refine br_bne (fun _ => ?_) (fun _ => ?_) <;> first | (exfalso; omega) | contradiction | conv => whnf)
          | (refine br_beq (fun _ => ?_) (fun _ => ?_) <;> first | (exfalso; omega) | contradiction | conv => whnf))
        refine Out.mk false [0, 1, 2, 3, 4] [] ?_
        try (conv => whnf)
        refine ⟨_, _, _, rfl, rfl, h4, ?_⟩
        rw [if_neg (by simp), hn]
        exact ⟨rfl, rfl⟩

theorem i_num {l : List UInt8} {a x y : Nat} (h : get l a = some (x, y)) (hl : l.length ≤ 2 ^ 40) :
    CallM Try.prog id_impl_reader_num [.one (.ptr 0 0)] [rdR l a false] [] false fun r Lo => Lo = [rdR l y false] ∧ r = vI .i64 x :=
  (i_num0 l a false hl (Nat.le_of_lt (get_lt h))).mono fun r Lo ⟨v, b, bad', h1, h2, h3, h4⟩ => by
    rw [if_neg (by simp), h] at h4; obtain ⟨rfl, rfl, rfl⟩ := h4; exact ⟨h1, h2⟩
theorem i_numN {l : List UInt8} {a : Nat} (h : get l a = none) (hl : l.length ≤ 2 ^ 40) (ha : a ≤ l.length) :
    CallM Try.prog id_impl_reader_num [.one (.ptr 0 0)] [rdR l a false] [] false fun r Lo => ∃ b : Nat, Lo = [rdR l b true] ∧ r = vI .i64 0 ∧ b ≤ l.length :=
  (i_num0 l a false hl ha).mono fun r Lo ⟨v, b, bad', h1, h2, h3, h4⟩ => by
    rw [if_neg (by simp), h] at h4; obtain ⟨rfl, rfl⟩ := h4; exact ⟨b, h1, h2, h3⟩
theorem i_numB {l : List UInt8} {a : Nat} (hl : l.length ≤ 2 ^ 40) (ha : a ≤ l.length) :
    CallM Try.prog id_impl_reader_num [.one (.ptr 0 0)] [rdR l a true] [] false fun r Lo => ∃ b : Nat, Lo = [rdR l b true] ∧ r = vI .i64 0 ∧ b ≤ l.length :=
  (i_num0 l a true hl ha).mono fun r Lo ⟨v, b, bad', h1, h2, h3, h4⟩ => by
    rw [if_pos rfl] at h4; obtain ⟨rfl, rfl⟩ := h4; exact ⟨b, h1, h2, h3⟩
theorem s_num0 (l : List UInt8) (a : Nat) (bad : Bool) (hl : l.length ≤ 2 ^ 40) (ha : a ≤ l.length) :
    CallM Try.prog id_spec_l01Reader_num [.one (.ptr 0 0)] [rdR l a bad] [] false (NumP l a bad) := by
  refine F_spec_l01Reader_num ?_
  try (conv => whnf)
  repeat (refine SeqJ.thru ?_; conv => whnf)
  cases bad with
  | true =>
    try (conv => whnf)
    refine Out.mk false [0, 1, 2, 3, 4] [] ?_
    try (conv => whnf)
    exact ⟨_, _, _, rfl, rfl, ha, rfl, rfl⟩
  | false =>
    try (conv => whnf)
    refine Hand.mk [] ?_
    try (conv => whnf)
    refine CallW.r (s_l01Get l a hl (by omega)) ?_
    rintro _ _ ⟨v, b, ok, rfl, rfl, h⟩
    cases hg : get l a with
    | none =>
      rw [hg] at h
      dsimp only at h
      subst h
      try (conv => whnf)
      repeat (refine SeqJ.thru ?_; conv => whnf)
      refine Out.mk false [0, 1, 2, 3, 4] [] ?_
      try (conv => whnf)
      refine ⟨_, _, _, rfl, rfl, ha, ?_⟩
      rw [if_neg (by simp), hg]
      exact ⟨rfl, rfl⟩
    | some r =>
      obtain ⟨x, y⟩ := r
      obtain ⟨_, _, g3, _⟩ := get_inv hg
      rw [hg] at h
      dsimp only at h
      obtain ⟨rfl, rfl, rfl⟩ := h
      try (conv => whnf)
      repeat (refine SeqJ.thru ?_; conv => whnf)
      refine Out.mk false [0, 1, 2, 3, 4] [] ?_
      try (conv => whnf)
      refine ⟨_, _, _, rfl, rfl, g3, ?_⟩
      rw [if_neg (by simp), hg]
      exact ⟨rfl, rfl, rfl⟩
theorem s_num {l : List UInt8} {a x y : Nat} (h : get l a = some (x, y)) (hl : l.length ≤ 2 ^ 40) :
    CallM Try.prog id_spec_l01Reader_num [.one (.ptr 0 0)] [rdR l a false] [] false fun r Lo => Lo = [rdR l y false] ∧ r = vI .i64 x :=
  (s_num0 l a false hl (Nat.le_of_lt (get_lt h))).mono fun r Lo ⟨v, b, bad', h1, h2, h3, h4⟩ => by
    rw [if_neg (by simp), h] at h4; obtain ⟨rfl, rfl, rfl⟩ := h4; exact ⟨h1, h2⟩
theorem s_numN {l : List UInt8} {a : Nat} (h : get l a = none) (hl : l.length ≤ 2 ^ 40) (ha : a ≤ l.length) :
    CallM Try.prog id_spec_l01Reader_num [.one (.ptr 0 0)] [rdR l a false] [] false fun r Lo => ∃ b : Nat, Lo = [rdR l b true] ∧ r = vI .i64 0 ∧ b ≤ l.length :=
  (s_num0 l a false hl ha).mono fun r Lo ⟨v, b, bad', h1, h2, h3, h4⟩ => by
    rw [if_neg (by simp), h] at h4; obtain ⟨rfl, rfl⟩ := h4; exact ⟨b, h1, h2, h3⟩
theorem s_numB {l : List UInt8} {a : Nat} (hl : l.length ≤ 2 ^ 40) (ha : a ≤ l.length) :
    CallM Try.prog id_spec_l01Reader_num [.one (.ptr 0 0)] [rdR l a true] [] false fun r Lo => ∃ b : Nat, Lo = [rdR l b true] ∧ r = vI .i64 0 ∧ b ≤ l.length :=
  (s_num0 l a true hl ha).mono fun r Lo ⟨v, b, bad', h1, h2, h3, h4⟩ => by
    rw [if_pos rfl] at h4; obtain ⟨rfl, rfl⟩ := h4; exact ⟨b, h1, h2, h3⟩
/-- A text taken. -/
theorem i_text {l : List UInt8} {a n : Nat} (h : n ≤ l.length - a) (ha : a ≤ l.length) (hl : l.length ≤ 2 ^ 40) :
    CallM Try.prog id_impl_reader_text [.one (.ptr 0 0), vI .i64 n] [rdR l a false] [] false fun r Lo => Lo = [rdR l (a + n : Nat) false] ∧ r = vS (bs ((l.drop a).take n)) := by
  refine F_impl_reader_text ?_
  have e1 : (a : Int) + n = ((a + n : Nat) : Int) := by omega
  have e2 : (l.take (a + n)).drop a = (l.drop a).take n := by rw [List.drop_take]; congr 1; omega
  try (conv => whnf)
  repeat' (first
    | (refine Need.mk ?_ ?_; (focus ((simp; done))); conv => whnf)
    | (refine Pick.mk ?_ ?_ ?_; rotate_left; (focus (first | with_reducible exact sl_map _ _ _ _ | (refine bnd_id ?_; omega) | exact List.length_map _ | (refine wid ?_ ?_ <;> omega) | ((fail_if_success (show @Eq (Option _) _ _)); rfl))); conv => whnf)
    | (refine SeqJ.thru ?_; conv => whnf)
    | (refine br_dec (fun _ => ?_) (fun _ => ?_) <;> first | (exfalso; omega) | contradiction | conv => whnf)
    | (refine br_not ?_; conv => whnf)
    | (refine br_bne (fun _ => ?_) (fun _ => ?_) <;> first | (exfalso; omega) | contradiction | conv => whnf)
    | (refine br_beq (fun _ => ?_) (fun _ => ?_) <;> first | (exfalso; omega) | contradiction | conv => whnf))
  refine Out.mk false [0, 1, 2, 3, 4] [] ?_
  try (conv => whnf)
  rw [e2]
  exact ⟨rfl, rfl⟩
/-- .. where there is none. -/
theorem i_textN {l : List UInt8} {a n : Nat} {bad : Bool} (h : bad = true ∨ l.length - a < n) (ha : a ≤ l.length) (hl : l.length ≤ 2 ^ 40) (hn : n ≤ MaxN) :
    CallM Try.prog id_impl_reader_text [.one (.ptr 0 0), vI .i64 n] [rdR l a bad] [] false fun r Lo => Lo = [rdR l a true] ∧ r = vS (bs []) := by
  refine F_impl_reader_text ?_
  cases bad with
  | true =>
    try (conv => whnf)
    repeat (refine SeqJ.thru ?_; conv => whnf)
    refine Out.mk false [0, 1, 2, 3, 4] [] ?_
    try (conv => whnf)
    exact ⟨rfl, rfl⟩
  | false =>
    have h : l.length - a < n := by simpa using h
    try (conv => whnf)
    repeat' (first
      | (refine Pick.mk ?_ ?_ ?_; rotate_left; (focus (first | exact List.length_map _ | (refine wid ?_ ?_ <;> omega))); conv => whnf)
      | (refine SeqJ.thru ?_; conv => whnf)
      | (refine br_dec (fun _ => ?_) (fun _ => ?_) <;> first | (exfalso; omega) | contradiction | conv => whnf)
      | (refine br_not ?_; conv => whnf)
      | (refine br_bne (fun _ => ?_) (fun _ => ?_) <;> first | (exfalso; omega) | contradiction | conv => whnf)
      | (refine br_beq (fun _ => ?_) (fun _ => ?_) <;> first | (exfalso; omega) | contradiction | conv => whnf))
    refine Out.mk false [0, 1, 2, 3, 4] [] ?_
    try (conv => whnf)
    exact ⟨rfl, rfl⟩
theorem s_take {l : List UInt8} {a n : Nat} (h : n ≤ l.length - a) (ha : a ≤ l.length) (hl : l.length ≤ 2 ^ 40) :
    CallM Try.prog id_spec_l01Reader_take [.one (.ptr 0 0), vI .i64 n] [rdR l a false] [] false fun r Lo => Lo = [rdR l (a + n : Nat) false] ∧ r = vS (bs ((l.drop a).take n)) := by
  refine F_spec_l01Reader_take ?_
  have e1 : (a : Int) + n = ((a + n : Nat) : Int) := by omega
  have e2 : (l.take (a + n)).drop a = (l.drop a).take n := by rw [List.drop_take]; congr 1; omega
  have e3 : (a : Int) + n - n = (a : Int) ∧ a ≤ a + n := by omega
  have e4 : (a : Int) + n = ((a + n : Nat) : Int) ∧ a + n ≤ l.length := by omega
  try (conv => whnf)
  repeat' (first
    | (refine Need.mk ?_ ?_; (focus ((simp; done))); conv => whnf)
    | (refine Pick.mk ?_ ?_ ?_; rotate_left; (focus (first | assumption | with_reducible exact sl_map _ _ _ _ | exact List.length_map _ | (refine wid ?_ ?_ <;> omega) | ((fail_if_success (show @Eq (Option _) _ _)); rfl))); conv => whnf)
    | (refine SeqJ.thru ?_; conv => whnf)
    | (refine br_dec (fun _ => ?_) (fun _ => ?_) <;> first | (exfalso; omega) | contradiction | conv => whnf)
    | (refine br_not ?_; conv => whnf)
    | (refine br_bne (fun _ => ?_) (fun _ => ?_) <;> first | (exfalso; omega) | contradiction | conv => whnf)
    | (refine br_beq (fun _ => ?_) (fun _ => ?_) <;> first | (exfalso; omega) | contradiction | conv => whnf))
  refine Out.mk false [0, 1, 2, 3, 4] [] ?_
  try (conv => whnf)
  rw [e2]
  exact ⟨rfl, rfl⟩
theorem s_takeN {l : List UInt8} {a n : Nat} {bad : Bool} (h : bad = true ∨ l.length - a < n) (ha : a ≤ l.length) (hl : l.length ≤ 2 ^ 40) (hn : n ≤ MaxN) :
    CallM Try.prog id_spec_l01Reader_take [.one (.ptr 0 0), vI .i64 n] [rdR l a bad] [] false fun r Lo => Lo = [rdR l a true] ∧ r = vS (bs []) := by
  refine F_spec_l01Reader_take ?_
  cases bad with
  | true =>
    try (conv => whnf)
    repeat (refine SeqJ.thru ?_; conv => whnf)
    refine Out.mk false [0, 1, 2, 3, 4] [] ?_
    try (conv => whnf)
    exact ⟨rfl, rfl⟩
  | false =>
    have h : l.length - a < n := by simpa using h
    try (conv => whnf)
    repeat' (first
      | (refine Pick.mk ?_ ?_ ?_; rotate_left; (focus (first | exact List.length_map _ | (refine wid ?_ ?_ <;> omega))); conv => whnf)
      | (refine SeqJ.thru ?_; conv => whnf)
      | (refine br_dec (fun _ => ?_) (fun _ => ?_) <;> first | (exfalso; omega) | contradiction | conv => whnf)
      | (refine br_not ?_; conv => whnf)
      | (refine br_bne (fun _ => ?_) (fun _ => ?_) <;> first | (exfalso; omega) | contradiction | conv => whnf)
      | (refine br_beq (fun _ => ?_) (fun _ => ?_) <;> first | (exfalso; omega) | contradiction | conv => whnf))
    refine Out.mk false [0, 1, 2, 3, 4] [] ?_
    try (conv => whnf)
    exact ⟨rfl, rfl⟩
/-- A count of a list's elements. -/
theorem s_count {l : List UInt8} {a x y : Nat} (h : get l a = some (x, y)) (hx : x ≤ 4096) (hl : l.length ≤ 2 ^ 40) :
    CallM Try.prog id_spec_l01Reader_count [.one (.ptr 0 0)] [rdR l a false] [] false fun r Lo => Lo = [rdR l y false] ∧ r = vI .i64 x := by
  refine F_spec_l01Reader_count ?_
  try (conv => whnf)
  refine Hand.mk [] ?_
  try (conv => whnf)
  refine CallW.n (s_num h hl) ?_
  rintro _ _ ⟨rfl, rfl⟩
  try (conv => whnf)
  repeat' (first
    | (refine SeqJ.thru ?_; conv => whnf)
    | (refine br_dec (fun _ => ?_) (fun _ => ?_) <;> first | (exfalso; omega) | contradiction | conv => whnf)
    | (refine br_not ?_; conv => whnf)
    | (refine br_bne (fun _ => ?_) (fun _ => ?_) <;> first | (exfalso; omega) | contradiction | conv => whnf)
    | (refine br_beq (fun _ => ?_) (fun _ => ?_) <;> first | (exfalso; omega) | contradiction | conv => whnf))
  refine Out.mk false [0, 1, 2, 3, 4] [] ?_
  try (conv => whnf)
  exact ⟨rfl, rfl⟩
theorem s_countN {l : List UInt8} {a : Nat} (h : ∀ x y, get l a = some (x, y) → 4096 < x) (hl : l.length ≤ 2 ^ 40) (ha : a ≤ l.length) :
    CallM Try.prog id_spec_l01Reader_count [.one (.ptr 0 0)] [rdR l a false] [] false fun r Lo => ∃ b : Nat, Lo = [rdR l b true] ∧ r = vI .i64 0 ∧ b ≤ l.length := by
  refine F_spec_l01Reader_count ?_
  cases hg : get l a with
  | none =>
    try (conv => whnf)
    refine Hand.mk [] ?_
    try (conv => whnf)
    refine CallW.n (s_numN hg hl ha) ?_
    rintro _ _ ⟨b, rfl, rfl, hb⟩
    try (conv => whnf)
    repeat' (first
      | (refine SeqJ.thru ?_; conv => whnf)
      | (refine br_dec (fun _ => ?_) (fun _ => ?_) <;> first | (exfalso; omega) | contradiction | conv => whnf)
      | (refine br_not ?_; conv => whnf)
      | (refine br_bne (fun _ => ?_) (fun _ => ?_) <;> first | (exfalso; omega) | contradiction | conv => whnf)
      | (refine br_beq (fun _ => ?_) (fun _ => ?_) <;> first | (exfalso; omega) | contradiction | conv => whnf))
    refine Out.mk false [0, 1, 2, 3, 4] [] ?_
    try (conv => whnf)
    exact ⟨_, rfl, rfl, hb⟩
  | some r =>
    obtain ⟨x, y⟩ := r
    have hx := h x y hg
    obtain ⟨_, _, g3, _⟩ := get_inv hg
    try (conv => whnf)
    refine Hand.mk [] ?_
    try (conv => whnf)
    refine CallW.n (s_num hg hl) ?_
    rintro _ _ ⟨rfl, rfl⟩
    try (conv => whnf)
    repeat' (first
      | (refine SeqJ.thru ?_; conv => whnf)
      | (refine br_dec (fun _ => ?_) (fun _ => ?_) <;> first | (exfalso; omega) | contradiction | conv => whnf)
      | (refine br_not ?_; conv => whnf)
      | (refine br_bne (fun _ => ?_) (fun _ => ?_) <;> first | (exfalso; omega) | contradiction | conv => whnf)
      | (refine br_beq (fun _ => ?_) (fun _ => ?_) <;> first | (exfalso; omega) | contradiction | conv => whnf))
    refine Out.mk false [0, 1, 2, 3, 4] [] ?_
    try (conv => whnf)
    exact ⟨_, rfl, rfl, g3⟩
theorem s_l01Alike (a b : List UInt8) (ha : a.length ≤ 2 ^ 40) (hb : b.length ≤ 2 ^ 40) : CallD Try.prog id_spec_l01Alike [vS (bs a), vS (bs b)] [] (vI .i64 (alike a b)) [] := by
  refine F_spec_l01Alike ?_
  try (conv => whnf)
  repeat (refine SeqJ.thru ?_; conv => whnf)
  refine LoopE.mk (fun i : Nat => mk [(0, vS (bs a)), (1, vS (bs b)), (5, vI .i64 i)] []) (fun i => i ≤ a.length ∧ i ≤ b.length ∧ a.take i = b.take i) (fun i => a.length - i) 0 (by simp) (LeX.of ?_) ?_
  · try (conv => whnf)
    repeat (refine Need.mk ?_ ?_; (focus (first | omega | (simp; done))); conv => whnf)
    trivial
  · rintro i ⟨h1, h2, h3⟩
    by_cases h4 : i < a.length ∧ i < b.length
    · have ha' := byLt (a[i]'h4.1)
      by_cases h5 : a[i]'h4.1 = b[i]'h4.2
      · have e : ((a[i]'h4.1).toNat : Int) = ((b[i]'h4.2).toNat : Int) := by rw [h5]
        try (conv => whnf)
        repeat' (first
          | (refine Pick.mk ?_ ?_ ?_; rotate_left; (focus (first | (refine bs_get _ _ ?_; omega) | exact size_bs _ | (refine wid ?_ ?_ <;> omega))); conv => whnf)
          | (refine SeqJ.thru ?_; conv => whnf)
          | (refine br_dec (fun _ => ?_) (fun _ => ?_) <;> first | (exfalso; omega) | contradiction | conv => whnf)
          | (refine br_not ?_; conv => whnf)
          | (refine br_bne (fun _ => ?_) (fun _ => ?_) <;> first | (exfalso; omega) | contradiction | conv => whnf)
          | (refine br_beq (fun _ => ?_) (fun _ => ?_) <;> first | (exfalso; omega) | contradiction | conv => whnf))
        · refine Pick.mk (i + 1) ⟨⟨by omega, by omega, ?_⟩, by omega⟩ (LeX.of ?_)
          · rw [List.take_succ_eq_append_getElem h4.1, List.take_succ_eq_append_getElem h4.2, h3, h5]
          · try (conv => whnf)
            repeat (refine Need.mk ?_ ?_; (focus (first | omega | (simp; done))); conv => whnf)
            trivial
      · have e : ((a[i]'h4.1).toNat : Int) ≠ ((b[i]'h4.2).toNat : Int) := fun e => h5 (UInt8.toNat.inj (by omega))
        try (conv => whnf)
        repeat' (first
          | (refine Pick.mk ?_ ?_ ?_; rotate_left; (focus (first | (refine bs_get _ _ ?_; omega) | exact size_bs _)); conv => whnf)
          | (refine SeqJ.thru ?_; conv => whnf)
          | (refine br_dec (fun _ => ?_) (fun _ => ?_) <;> first | (exfalso; omega) | contradiction | conv => whnf)
          | (refine br_not ?_; conv => whnf)
          | (refine br_bne (fun _ => ?_) (fun _ => ?_) <;> first | (exfalso; omega) | contradiction | conv => whnf)
          | (refine br_beq (fun _ => ?_) (fun _ => ?_) <;> first | (exfalso; omega) | contradiction | conv => whnf))
        refine Out.mk true [] [] ?_
        try (conv => whnf)
        rw [alike_eq a b i h1 h2 h3 fun _ _ => h5]
        exact ⟨rfl, rfl⟩
    · try (conv => whnf)
      repeat' (first
        | (refine Pick.mk ?_ ?_ ?_; rotate_left; (focus (exact size_bs _)); conv => whnf)
        | (refine SeqJ.thru ?_; conv => whnf)
        | (refine br_dec (fun _ => ?_) (fun _ => ?_) <;> first | (exfalso; omega) | contradiction | conv => whnf)
        | (refine br_not ?_; conv => whnf)
        | (refine br_bne (fun _ => ?_) (fun _ => ?_) <;> first | (exfalso; omega) | contradiction | conv => whnf)
        | (refine br_beq (fun _ => ?_) (fun _ => ?_) <;> first | (exfalso; omega) | contradiction | conv => whnf))
      all_goals
        refine Out.mk true [] [] ?_
        try (conv => whnf)
        rw [alike_eq a b i h1 h2 h3 fun g1 g2 => absurd ⟨g1, g2⟩ h4]
        exact ⟨rfl, rfl⟩
theorem i_common (a b : List UInt8) (ha : a.length ≤ 2 ^ 40) (hb : b.length ≤ 2 ^ 40) : CallD Try.prog id_impl_common [vS (bs a), vS (bs b)] [] (vI .i64 (alike a b)) [] := by
  refine F_impl_common ?_
  try (conv => whnf)
  repeat (refine SeqJ.thru ?_; conv => whnf)
  refine LoopE.mk (fun i : Nat => mk [(0, vS (bs a)), (1, vS (bs b)), (5, vI .i64 i)] []) (fun i => i ≤ a.length ∧ i ≤ b.length ∧ a.take i = b.take i) (fun i => a.length - i) 0 (by simp) (LeX.of ?_) ?_
  · try (conv => whnf)
    repeat (refine Need.mk ?_ ?_; (focus (first | omega | (simp; done))); conv => whnf)
    trivial
  · rintro i ⟨h1, h2, h3⟩
    by_cases h4 : i < a.length ∧ i < b.length
    · have ha' := byLt (a[i]'h4.1)
      by_cases h5 : a[i]'h4.1 = b[i]'h4.2
      · have e : ((a[i]'h4.1).toNat : Int) = ((b[i]'h4.2).toNat : Int) := by rw [h5]
        try (conv => whnf)
        repeat' (first
          | (refine Pick.mk ?_ ?_ ?_; rotate_left; (focus (first | (refine bs_get _ _ ?_; omega) | exact size_bs _ | (refine wid ?_ ?_ <;> omega))); conv => whnf)
          | (refine SeqJ.thru ?_; conv => whnf)
          | (refine br_dec (fun _ => ?_) (fun _ => ?_) <;> first | (exfalso; omega) | contradiction | conv => whnf)
          | (refine br_not ?_; conv => whnf)
          | (refine br_bne (fun _ => ?_) (fun _ => ?_) <;> first | (exfalso; omega) | contradiction | conv => whnf)
          | (refine br_beq (fun _ => ?_) (fun _ => ?_) <;> first | (exfalso; omega) | contradiction | conv => whnf))
        · refine Pick.mk (i + 1) ⟨⟨by omega, by omega, ?_⟩, by omega⟩ (LeX.of ?_)
          · rw [List.take_succ_eq_append_getElem h4.1, List.take_succ_eq_append_getElem h4.2, h3, h5]
          · try (conv => whnf)
            repeat (refine Need.mk ?_ ?_; (focus (first | omega | (simp; done))); conv => whnf)
            trivial
      · have e : ((a[i]'h4.1).toNat : Int) ≠ ((b[i]'h4.2).toNat : Int) := fun e => h5 (UInt8.toNat.inj (by omega))
        try (conv => whnf)
        repeat' (first
          | (refine Pick.mk ?_ ?_ ?_; rotate_left; (focus (first | (refine bs_get _ _ ?_; omega) | exact size_bs _)); conv => whnf)
          | (refine SeqJ.thru ?_; conv => whnf)
          | (refine br_dec (fun _ => ?_) (fun _ => ?_) <;> first | (exfalso; omega) | contradiction | conv => whnf)
          | (refine br_not ?_; conv => whnf)
          | (refine br_bne (fun _ => ?_) (fun _ => ?_) <;> first | (exfalso; omega) | contradiction | conv => whnf)
          | (refine br_beq (fun _ => ?_) (fun _ => ?_) <;> first | (exfalso; omega) | contradiction | conv => whnf))
        refine Out.mk true [] [] ?_
        try (conv => whnf)
        rw [alike_eq a b i h1 h2 h3 fun _ _ => h5]
        exact ⟨rfl, rfl⟩
    · try (conv => whnf)
      repeat' (first
        | (refine Pick.mk ?_ ?_ ?_; rotate_left; (focus (exact size_bs _)); conv => whnf)
        | (refine SeqJ.thru ?_; conv => whnf)
        | (refine br_dec (fun _ => ?_) (fun _ => ?_) <;> first | (exfalso; omega) | contradiction | conv => whnf)
        | (refine br_not ?_; conv => whnf)
        | (refine br_bne (fun _ => ?_) (fun _ => ?_) <;> first | (exfalso; omega) | contradiction | conv => whnf)
        | (refine br_beq (fun _ => ?_) (fun _ => ?_) <;> first | (exfalso; omega) | contradiction | conv => whnf))
      all_goals
        refine Out.mk true [] [] ?_
        try (conv => whnf)
        rw [alike_eq a b i h1 h2 h3 fun g1 g2 => absurd ⟨g1, g2⟩ h4]
        exact ⟨rfl, rfl⟩
end Go.Proofs.Ytoklfidamhigcaa.D
