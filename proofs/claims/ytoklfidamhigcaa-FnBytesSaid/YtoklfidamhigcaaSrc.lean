/- The source that the laws draw from: bytes, numbers, words. -/
import Derived.Test.YtoklfidamhigcaaW
import Derived.Test.YtoklfidamhigcaaH
namespace Go.Proofs.Ytoklfidamhigcaa.D
open Go.RowKit
set_option maxRecDepth 100000
set_option linter.unusedVariables false
set_option linter.unusedSimpArgs false

/-- A source over a code, at a place, with a seed. -/
abbrev srcR (code : List UInt8) (a s : Int) : Row := .box [cY code, cI a, cI s]
/-- Its numbers are as they should; it was called for b bytes at most. -/
structure Src (code : List UInt8) (a s b : Int) : Prop where
  len : code.length ≤ 2 ^ 40
  lo : 0 ≤ a
  hi : a ≤ b
  slo : 0 ≤ s
  shi : s < 2147483648
theorem Src.mono {code : List UInt8} {a s b c : Int} (h : Src code a s b) (hc : b ≤ c) : Src code a s c := ⟨h.len, h.lo, Int.le_trans h.hi hc, h.slo, h.shi⟩
/-- What a call that draws gives, and the source behind it. -/
def Draws (code : List UInt8) (b : Int) (Q : SV → List Row → Prop) : SV → List Row → Prop :=
  fun r Lo => ∃ a' s' Lo', Lo = srcR code a' s' :: Lo' ∧ Src code a' s' b ∧ Q r Lo'
abbrev DI (Q : Int → Prop) : SV → List Row → Prop := fun r Lo => ∃ v, Lo = [] ∧ r = vI .i64 v ∧ Q v
abbrev DB (Q : Bool → Prop) : SV → List Row → Prop := fun r Lo => ∃ v, Lo = [] ∧ r = vB v ∧ Q v
abbrev DT (Q : List UInt8 → Prop) : SV → List Row → Prop := fun r Lo => ∃ v, Lo = [] ∧ r = vS (bs v) ∧ Q v
abbrev DY (Q : List UInt8 → Prop) : SV → List Row → Prop := fun r Lo => ∃ v : List UInt8, Lo = [.own 1 (v.map byD)] ∧ r = .one (.os 1 1 0 v.length) ∧ Q v
theorem s_l01Source (code : List UInt8) (hc : code.length ≤ 2 ^ 40) :
    CallM Try.prog id_spec_l01Source [vY code] [] [] false fun r Lo => ∃ s, Lo = [srcR code 0 s] ∧ r = .one (.ptr 0 0) ∧ Src code 0 s 0 := by
  refine F_spec_l01Source ?_
  try (conv => whnf)
  repeat (first
    | (refine Need.mk ?_ ?_; (focus (omega)); conv => whnf)
    | (refine Pick.mk ?_ ?_ ?_; rotate_left; (focus (first | exact List.length_map _ | (refine tmodn ?_; omega))); conv => whnf))
  refine Out.mk false [0, 1, 2, 3, 4] [] ?_
  try (conv => whnf)
  exact ⟨_, rfl, rfl, hc, by omega, by omega, by omega, by omega⟩
theorem tmod_lt {n : Int} (h0 : 0 ≤ n) (m : Int) (hm : 0 < m) : 0 ≤ n.tmod m ∧ n.tmod m < m := by
  rw [Int.tmod_eq_emod_of_nonneg h0]
  exact ⟨Int.emod_nonneg _ (by omega), Int.emod_lt_of_pos _ hm⟩
section
variable {code : List UInt8} {a s b : Int}
theorem s_byte (hS : Src code a s b) (hb : b ≤ 2 ^ 60) :
    CallM Try.prog id_spec_l01Src_byte [.one (.ptr 0 0)] [srcR code a s] [] false (Draws code (b + 1) (DI fun v => 0 ≤ v ∧ v ≤ 255)) := by
  refine F_spec_l01Src_byte ?_
  obtain ⟨hc, h0, h1, h2, h3⟩ := hS
  try (conv => whnf)
  repeat' (first
    | (refine Need.mk ?_ ?_; (focus (omega)); conv => whnf)
    | (refine Pick.mk ?_ ?_ ?_; rotate_left; (focus (first | exact List.length_map _ | (refine wid ?_ ?_ <;> omega) | exact wby _ | (refine tmodn ?_; omega) | (refine wdiv ?_ ?_ ?_ <;> omega) | (refine pick_int _ _ _ ?_ ?_ <;> omega) | ((fail_if_success (show @Eq (Option _) _ _)); rfl))); conv => whnf)
    | (refine SeqJ.thru ?_; conv => whnf)
    | (refine br_dec (fun _ => ?_) (fun _ => ?_) <;> first | (exfalso; omega) | contradiction | conv => whnf)
    | (refine br_not ?_; conv => whnf)
    | (refine br_bne (fun _ => ?_) (fun _ => ?_) <;> first | (exfalso; omega) | contradiction | conv => whnf)
    | (refine br_beq (fun _ => ?_) (fun _ => ?_) <;> first | (exfalso; omega) | contradiction | conv => whnf))
  · refine Out.mk false [0, 1, 2, 3, 4] [] ?_
    try (conv => whnf)
    have hb := byLt (code[(a + 1 - 1).toNat]'(by omega))
    rw [wid (x := s * 31 + _) (by omega) (by omega), wid (by omega) (by omega)]
    have ht := tmod_lt (n := s * 31 + ((code[(a + 1 - 1).toNat]'(by omega)).toNat : Int) + 7) (by omega) 2147483648 (by omega)
    exact ⟨a + 1, _, [], rfl, ⟨hc, by omega, by omega, ht.1, ht.2⟩, _, rfl, rfl, by omega, by omega⟩
  · refine Out.mk false [0, 1, 2, 3, 4] [] ?_
    try (conv => whnf)
    exact ⟨a + 1, s, [], rfl, ⟨hc, by omega, by omega, by omega, by omega⟩, _, rfl, rfl, by omega, by omega⟩
  · refine Out.mk false [0, 1, 2, 3, 4] [] ?_
    try (conv => whnf)
    exact ⟨a + 1, _, [], rfl, ⟨hc, by omega, by omega, by omega, by omega⟩, _, rfl, rfl, by omega, by omega⟩
theorem s_next (hS : Src code a s b) (hb : b ≤ 2 ^ 59) (n : Int) (hn : n ≤ 2 ^ 62) :
    CallM Try.prog id_spec_l01Src_next [.one (.ptr 0 0), vI .i64 n] [srcR code a s] [] false (Draws code (b + 3) (DI fun v => 0 ≤ v ∧ (v < n ∨ v = 0))) := by
  refine F_spec_l01Src_next ?_
  try (conv => whnf)
  repeat' (first
    | (refine SeqJ.thru ?_; conv => whnf)
    | (refine br_dec (fun _ => ?_) (fun _ => ?_) <;> first | (exfalso; omega) | contradiction | conv => whnf)
    | (refine br_not ?_; conv => whnf)
    | (refine br_bne (fun _ => ?_) (fun _ => ?_) <;> first | (exfalso; omega) | contradiction | conv => whnf)
    | (refine br_beq (fun _ => ?_) (fun _ => ?_) <;> first | (exfalso; omega) | contradiction | conv => whnf))
  · refine Out.mk false [0, 1, 2, 3, 4] [] ?_
    try (conv => whnf)
    exact ⟨a, s, [], rfl, hS.mono (by omega), _, rfl, rfl, by omega, by omega⟩
  · refine Hand.mk [] ?_
    try (conv => whnf)
    refine CallW.n (s_byte hS (by omega)) ?_
    rintro _ _ ⟨a1, s1, _, rfl, hS1, v1, rfl, rfl, hv1⟩
    try (conv => whnf)
    repeat (first
      | (refine Need.mk ?_ ?_; (focus (omega)); conv => whnf)
      | (refine Pick.mk ?_ ?_ ?_; rotate_left; (focus ((refine tmodn ?_; omega))); conv => whnf))
    refine Out.mk false [0, 1, 2, 3, 4] [] ?_
    try (conv => whnf)
    have := Int.emod_nonneg v1 (show n ≠ 0 by omega)
    have := Int.emod_lt_of_pos v1 (show 0 < n by omega)
    exact ⟨_, _, [], rfl, hS1.mono (by omega), _, rfl, rfl, by omega, by omega⟩
  · refine Hand.mk [] ?_
    try (conv => whnf)
    refine CallW.n (s_byte hS (by omega)) ?_
    rintro _ _ ⟨a1, s1, _, rfl, hS1, v1, rfl, rfl, hv1⟩
    try (conv => whnf)
    repeat (refine Pick.mk ?_ ?_ ?_; rotate_left; (focus ((refine wid ?_ ?_ <;> omega))); conv => whnf)
    refine Hand.mk [] ?_
    try (conv => whnf)
    refine CallW.n (s_byte hS1 (by omega)) ?_
    rintro _ _ ⟨a2, s2, _, rfl, hS2, v2, rfl, rfl, hv2⟩
    try (conv => whnf)
    repeat (refine Pick.mk ?_ ?_ ?_; rotate_left; (focus ((refine wid ?_ ?_ <;> omega))); conv => whnf)
    refine Hand.mk [] ?_
    try (conv => whnf)
    refine CallW.n (s_byte hS2 (by omega)) ?_
    rintro _ _ ⟨a3, s3, _, rfl, hS3, v3, rfl, rfl, hv3⟩
    try (conv => whnf)
    repeat (first
      | (refine Need.mk ?_ ?_; (focus (omega)); conv => whnf)
      | (refine Pick.mk ?_ ?_ ?_; rotate_left; (focus (first | (refine wid ?_ ?_ <;> omega) | (refine tmodn ?_; omega))); conv => whnf))
    refine Out.mk false [0, 1, 2, 3, 4] [] ?_
    try (conv => whnf)
    have := Int.emod_nonneg (v1 * 65536 + v2 * 256 + v3) (show n ≠ 0 by omega)
    have := Int.emod_lt_of_pos (v1 * 65536 + v2 * 256 + v3) (show 0 < n by omega)
    exact ⟨_, _, [], rfl, hS3.mono (by omega), _, rfl, rfl, by omega, by omega⟩
theorem s_chance (hS : Src code a s b) (hb : b ≤ 2 ^ 59) (n : Int) (h0 : 0 ≤ n) (hn : n ≤ 2 ^ 62) :
    CallM Try.prog id_spec_l01Src_chance [.one (.ptr 0 0), vI .i64 n] [srcR code a s] [] false (Draws code (b + 3) (DB fun v => True)) := by
  refine F_spec_l01Src_chance ?_
  try (conv => whnf)
  refine Hand.mk [] ?_
  try (conv => whnf)
  refine CallW.n (s_next hS hb n hn) ?_
  rintro _ _ ⟨a1, s1, _, rfl, hS1, v1, rfl, rfl, hv1⟩
  try (conv => whnf)
  repeat (refine Pick.mk ?_ ?_ ?_; rotate_left; (focus ((refine wid ?_ ?_ <;> omega))); conv => whnf)
  refine Out.mk false [0, 1, 2, 3, 4] [] ?_
  try (conv => whnf)
  exact ⟨_, _, [], rfl, hS1, _, rfl, rfl, trivial⟩
/-- One out of a written row of texts, or of numbers. -/
def isT (k : Nat) : List DV → Bool
  | [.sc (.string s)] => Nat.ble s.size k
  | _ => false
theorem pickT {es : List (List DV)} {n : Nat} {X : List DV → Prop} (k : Nat) (hk : es.all (isT k) = true) (hn : n < es.length) (h : ∀ t : List UInt8, t.length ≤ k → X (stD (bs t))) : Pick (fun c => es[n]? = some c) X := by
  have h1 := List.all_eq_true.1 hk es[n] (List.getElem_mem _)
  have h2 : es[n]? = some es[n] := List.getElem?_eq_getElem hn
  unfold isT at h1
  split at h1
  · rename_i s he
    obtain ⟨t, rfl⟩ := bs_all s
    exact ⟨_, h2.trans (by rw [he]), h t (by simpa using Nat.le_of_ble_eq_true h1)⟩
  · simp at h1
def isI (p : Int → Bool) : List DV → Bool
  | [.sc (.int .i64 n)] => p n
  | _ => false
theorem pickI {es : List (List DV)} {n : Nat} {X : List DV → Prop} (p : Int → Bool) (hk : es.all (isI p) = true) (hn : n < es.length) (h : ∀ x : Int, p x = true → X (inD x)) : Pick (fun c => es[n]? = some c) X := by
  have h1 := List.all_eq_true.1 hk es[n] (List.getElem_mem _)
  have h2 : es[n]? = some es[n] := List.getElem?_eq_getElem hn
  unfold isI at h1
  split at h1
  · rename_i x he
    exact ⟨_, h2.trans (by rw [he]), h x h1⟩
  · simp at h1
theorem s_word (hS : Src code a s b) (hb : b ≤ 2 ^ 59) :
    CallM Try.prog id_spec_l01Src_word [.one (.ptr 0 0)] [srcR code a s] [] false (Draws code (b + 3) (DT fun v => v.length ≤ 5)) := by
  refine F_spec_l01Src_word ?_
  try (conv => whnf)
  repeat (refine Pick.mk ?_ ?_ ?_; rotate_left; (focus ((simp only [chunks]; rfl))); conv => whnf)
  refine Hand.mk [] ?_
  try (conv => whnf)
  refine CallW.n (s_next hS hb 10 (by omega)) ?_
  rintro _ _ ⟨a1, s1, _, rfl, hS1, v1, rfl, rfl, hv1⟩
  try (conv => whnf)
  repeat (refine Need.mk ?_ ?_; (focus (omega)); conv => whnf)
  refine pickT 5 rfl (by rw [addN_eq]; show _ < 10; omega) fun t ht => ?_
  try (conv => whnf)
  refine Out.mk false [0, 1, 2, 3, 4] [] ?_
  try (conv => whnf)
  exact ⟨_, _, [], rfl, hS1, _, rfl, rfl, ht⟩
theorem s_bytes (hS : Src code a s b) (n : Nat) (hn : n ≤ 2 ^ 40) (hb : b + n ≤ 2 ^ 59) :
    CallM Try.prog id_spec_l01Src_bytes [.one (.ptr 0 0), vI .i64 n] [srcR code a s] [] false (Draws code (b + n) (DY fun v => v.length = n)) := by
  refine F_spec_l01Src_bytes ?_
  try (conv => whnf)
  repeat (refine Pick.mk ?_ ?_ ?_; rotate_left; (focus ((simp only [chunks]; rfl))); conv => whnf)
  refine LoopE.mk (fun (x : Nat × Int × Int × List UInt8) => mk [(0, .one (.ptr 0 0)), (1, vI .i64 n), (5, .one (.os 8192 1 0 x.2.2.2.length)), (6, vI .i64 x.1)] [(0, srcR code x.2.1 x.2.2.1), (8192, .own 1 (x.2.2.2.map byD))])
    (fun x => x.1 ≤ n ∧ x.2.2.2.length = x.1 ∧ Src code x.2.1 x.2.2.1 (b + x.1)) (fun x => n - x.1) (0, a, s, []) ⟨by omega, rfl, hS.mono (by simp)⟩ (LeX.of ?_) ?_
  · try (conv => whnf)
    repeat (refine Need.mk ?_ ?_; (focus (first | omega | (simp; done))); conv => whnf)
    trivial
  · rintro ⟨i, a, s, l⟩ ⟨hi, hl, hS⟩
    dsimp only at hi hl hS ⊢
    try (conv => whnf)
    repeat' (first
      | (refine SeqJ.thru ?_; conv => whnf)
      | (refine br_dec (fun _ => ?_) (fun _ => ?_) <;> first | (exfalso; omega) | contradiction | conv => whnf)
      | (refine br_not ?_; conv => whnf)
      | (refine br_bne (fun _ => ?_) (fun _ => ?_) <;> first | (exfalso; omega) | contradiction | conv => whnf)
      | (refine br_beq (fun _ => ?_) (fun _ => ?_) <;> first | (exfalso; omega) | contradiction | conv => whnf))
    · refine Hand.mk [] ?_
      try (conv => whnf)
      refine CallW.n (s_byte hS (by omega)) ?_
      rintro _ _ ⟨a1, s1, _, rfl, hS1, v1, rfl, rfl, hv1⟩
      try (conv => whnf)
      repeat (first
        | (refine Need.mk ?_ ?_; (focus (omega)); conv => whnf)
        | (refine Pick.mk ?_ ?_ ?_; rotate_left; (focus (first | (simp only [List.length_map, List.length_append, List.length_cons, List.length_nil, List.length_replicate, Nat.zero_add]; rfl) | exact map_snoc byD _ _ | (simp only [chunks]; rfl) | (refine wid ?_ ?_ <;> omega) | exact wbyte _ | (refine SlOf.full ?_; first | (simp; done) | (simp; omega)))); conv => whnf))
      refine Pick.mk (i + 1, a1, s1, l ++ [u8 v1]) ⟨⟨by dsimp only; omega, by simp; exact hl, hS1.mono (by simp; omega)⟩, by dsimp only; omega⟩ (LeX.of ?_)
      try (conv => whnf)
      repeat (refine Need.mk ?_ ?_; (focus (first | omega | (simp; done))); conv => whnf)

      trivial
    · refine Out.mk false [0, 1, 2, 3, 4] [] ?_
      try (conv => whnf)
      exact ⟨_, _, _, rfl, hS.mono (by omega), _, rfl, rfl, by omega⟩
end
end Go.Proofs.Ytoklfidamhigcaa.D
