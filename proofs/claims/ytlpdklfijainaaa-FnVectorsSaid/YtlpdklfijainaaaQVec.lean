import Derived.Test.YtlpdklfijainaaaQSrc
import Derived.Test.YtlpdklfijainaaaPx28
import Derived.Test.YtlpdklfijainaaaPx30
/-! Vectors: which are valid, which is below which. -/
namespace Go.Proofs.Ytlpdklfijainaaa.Q
open Go.RowKit Go.Proofs.Ytlpdklfijainaaa.P Go.Proofs.YtlpdklfijainaaaW.PrintWords Go.Proofs.YtlpdklfijainaaaW.PrintLast Go.Proofs.YtlpdklfijainaaaW.PrintMore
set_option linter.unusedVariables false
set_option linter.unusedSimpArgs false

theorem wnat {n : Nat} (h : n < 9223372036854775807) : wrap64 ((n : Int) + 1) = ((n + 1 : Nat) : Int) := by rw [w64] <;> omega
theorem rd_drop {l : List Int} {n : Nat} (h : n < l.length) : rd l (n : Int) = l[n] := by simp [rd, List.getD, h]

def cok (c : Int) : Bool := decide (0 ≤ c ∧ c ≤ 1000000000000)
def vok (a : List Int) : Bool := decide (a.length = 16) && a.all cok
theorem vok_iff {a : List Int} : vok a = true ↔ a.length = 16 ∧ ∀ c ∈ a, 0 ≤ c ∧ c ≤ 1000000000000 := by
  simp [vok, cok, List.all_eq_true]
theorem vok_rd {a : List Int} (h : vok a = true) {i : Int} (h0 : 0 ≤ i) (h1 : i < 16) : 0 ≤ rd a i ∧ rd a i ≤ 1000000000000 := by
  obtain ⟨hl, ha⟩ := vok_iff.1 h
  exact rd_range (P := fun c => 0 ≤ c ∧ c ≤ 1000000000000) ha h0 (by omega)
theorem impl_vok (a : List Int) : Tot (fun k => impl_VecOK.f k a) (· = vok a) := by
  have loop : ∀ (d n : Nat), n + d = a.length → a.length = 16 → Tot (fun k => impl_VecOK.l0 k a (a.length : Int) (n : Int)) (· = (a.drop n).all cok) := by
    intro d
    induction d with
    | zero =>
      intro n hn hl
      refine Tot.step (fun k => by rw [impl_VecOK.l0]) (Tot.neg (by omega) (Tot.ret _ ?_))
      rw [List.drop_eq_nil_of_le (by omega)]; rfl
    | succ d ih =>
      intro n hn hl
      have hlt : n < a.length := by omega
      refine Tot.step (fun k => by rw [impl_VecOK.l0]) (Tot.pos (by omega) (Tot.pos (by omega) (Tot.pos (by omega) ?_)))
      rw [rd_drop hlt, wnat (by omega), List.drop_eq_getElem_cons hlt, List.all_cons]
      refine Tot.ite (fun g => Tot.ret _ ?_) (fun g => Tot.ite (fun g' => Tot.ret _ ?_) (fun g' => (ih (n + 1) (by omega) hl).mono ?_))
      · have : cok a[n] = false := by simp [cok]; omega
        rw [this, Bool.false_and]
      · have : cok a[n] = false := by simp [cok]; omega
        rw [this, Bool.false_and]
      · rintro r rfl
        have : cok a[n] = true := by simp [cok]; omega
        rw [this, Bool.true_and]
  unfold impl_VecOK.f vok
  refine Tot.ite (fun g => ?_) (fun g => Tot.ret _ ?_)
  · have h := loop a.length 0 (by omega) (by omega)
    have hl : a.length = 16 := by omega
    simpa [hl] using h
  · have : ¬ a.length = 16 := by omega
    simp [this]
theorem spec_vok (a : List Int) : Tot (fun k => spec_VecOK.f k a) (· = vok a) := by
  have loop : ∀ (d n : Nat), n + d = 16 → a.length = 16 → Tot (fun k => spec_VecOK.l0 k (n : Int) a) (· = (a.drop n).all cok) := by
    intro d
    induction d with
    | zero =>
      intro n hn hl
      refine Tot.step (fun k => by rw [spec_VecOK.l0]) (Tot.neg (by omega) (Tot.ret _ ?_))
      rw [List.drop_eq_nil_of_le (by omega)]; rfl
    | succ d ih =>
      intro n hn hl
      have hlt : n < a.length := by omega
      refine Tot.step (fun k => by rw [spec_VecOK.l0]) (Tot.pos (by omega) (Tot.pos (by omega) (Tot.pos (by omega) ?_)))
      rw [rd_drop hlt, wnat (by omega), List.drop_eq_getElem_cons hlt, List.all_cons]
      refine Tot.ite (fun g => Tot.ret _ ?_) (fun g => Tot.ite (fun g' => Tot.ret _ ?_) (fun g' => (ih (n + 1) (by omega) hl).mono ?_))
      · have : cok a[n] = false := by simp [cok]; omega
        rw [this, Bool.false_and]
      · have : cok a[n] = false := by simp [cok]; omega
        rw [this, Bool.false_and]
      · rintro r rfl
        have : cok a[n] = true := by simp [cok]; omega
        rw [this, Bool.true_and]
  unfold spec_VecOK.f vok
  refine Tot.ite (fun g => ?_) (fun g => Tot.ret _ ?_)
  · have hl : a.length = 16 := by omega
    have h := loop 16 0 (by omega) hl
    simpa [hl] using h
  · have : ¬ a.length = 16 := by omega
    simp [this]

/-- No count of a, from place n on, is above that of b. -/
def vleFrom (a b : List Int) (n : Nat) : Prop := ∀ i : Nat, n ≤ i → i < 16 → rd a (i : Int) ≤ rd b (i : Int)
def vle (a b : List Int) : Prop := vleFrom a b 0
noncomputable instance (a b : List Int) (n : Nat) : Decidable (vleFrom a b n) := Classical.propDecidable _
noncomputable instance (a b : List Int) : Decidable (vle a b) := Classical.propDecidable _
theorem vleFrom_step {a b : List Int} {n : Nat} (h : n < 16) : vleFrom a b n ↔ rd a (n : Int) ≤ rd b (n : Int) ∧ vleFrom a b (n + 1) := by
  constructor
  · intro k
    exact ⟨k n (Nat.le_refl _) h, fun i hi hi' => k i (by omega) hi'⟩
  · rintro ⟨k0, k⟩ i hi hi'
    rcases Nat.eq_or_lt_of_le hi with rfl | hi
    · exact k0
    · exact k i hi hi'
theorem vleFrom_end {a b : List Int} {n : Nat} (h : 16 ≤ n) : vleFrom a b n := fun i hi hi' => by omega
theorem impl_vle {a b : List Int} (ha : a.length = 16) (hb : b.length = 16) : Tot (fun k => impl_vecLE.f k a b) (· = decide (vle a b)) := by
  have loop : ∀ (d n : Nat), n + d = 16 → Tot (fun k => impl_vecLE.l0 k a (a.length : Int) (n : Int) b) (· = decide (vleFrom a b n)) := by
    intro d
    induction d with
    | zero =>
      intro n hn
      refine Tot.step (fun k => by rw [impl_vecLE.l0]) (Tot.neg (by omega) (Tot.ret _ ?_))
      rw [decide_eq_true (vleFrom_end (by omega))]
    | succ d ih =>
      intro n hn
      refine Tot.step (fun k => by rw [impl_vecLE.l0]) (Tot.pos (by omega) (Tot.pos (by omega) (Tot.pos (by omega) (Tot.pos (by omega) ?_))))
      rw [wnat (by omega)]
      refine Tot.ite (fun g => Tot.ret _ ?_) (fun g => (ih (n + 1) (by omega)).mono ?_)
      · symm; rw [decide_eq_false_iff_not, vleFrom_step (by omega)]; intro h; omega
      · rintro r rfl
        rw [decide_eq_decide, vleFrom_step (n := n) (by omega)]
        exact ⟨fun h => ⟨by omega, h⟩, fun h => h.2⟩
  exact loop 16 0 (by omega)
/-- The document's word has its arguments the other way round. -/
theorem spec_covers {a b : List Int} (ha : a.length = 16) (hb : b.length = 16) : Tot (fun k => spec_l02Covers.f k a b) (· = decide (vle b a)) := by
  have loop : ∀ (d n : Nat), n + d = 16 → Tot (fun k => spec_l02Covers.l0 k (n : Int) a b) (· = decide (vleFrom b a n)) := by
    intro d
    induction d with
    | zero =>
      intro n hn
      refine Tot.step (fun k => by rw [spec_l02Covers.l0]) (Tot.neg (by omega) (Tot.ret _ ?_))
      rw [decide_eq_true (vleFrom_end (by omega))]
    | succ d ih =>
      intro n hn
      refine Tot.step (fun k => by rw [spec_l02Covers.l0]) (Tot.pos (by omega) (Tot.pos (by omega) (Tot.pos (by omega) (Tot.pos (by omega) ?_))))
      rw [wnat (by omega)]
      refine Tot.ite (fun g => Tot.ret _ ?_) (fun g => (ih (n + 1) (by omega)).mono ?_)
      · symm; rw [decide_eq_false_iff_not, vleFrom_step (by omega)]; intro h; omega
      · rintro r rfl
        rw [decide_eq_decide, vleFrom_step (n := n) (by omega)]
        exact ⟨fun h => ⟨by omega, h⟩, fun h => h.2⟩
  exact loop 16 0 (by omega)

/-- A list of sixteen numbers told place by place. -/
def sixteen (f : Nat → Int) : List Int := (List.range 16).map f
theorem sixteen_length (f : Nat → Int) : (sixteen f).length = 16 := by simp [sixteen]
theorem sixteen_rd (f : Nat → Int) {n : Nat} (h : n < 16) : rd (sixteen f) (n : Int) = f n := by
  simp [rd, sixteen, List.getD, h]
theorem sixteen_eq {l : List Int} {f : Nat → Int} (hl : l.length = 16) (h : ∀ n : Nat, n < 16 → rd l (n : Int) = f n) : l = sixteen f := by
  refine rd_ext (by rw [hl, sixteen_length]) fun i h0 h1 => ?_
  obtain ⟨n, rfl⟩ := Int.eq_ofNat_of_zero_le h0
  rw [h n (by omega), sixteen_rd f (by omega)]
def vjoin (a b : List Int) : List Int := sixteen fun i => mx (rd a (i : Int)) (rd b (i : Int))
def vmeet (a b : List Int) : List Int := sixteen fun i => mn (rd a (i : Int)) (rd b (i : Int))
end Go.Proofs.Ytlpdklfijainaaa.Q
