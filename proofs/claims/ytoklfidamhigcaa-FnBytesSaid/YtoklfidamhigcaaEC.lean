/- The steps of a run, in the form that is gone through by reduction: code. -/
import Derived.Test.YtoklfidamhigcaaEB
namespace Go.Proofs.Ytoklfidamhigcaa.D
open Go.RowKit
set_option linter.unusedVariables false

structure LeX (S S' : St) : Prop where
  le : Le S S'
/-- One piece of code behind another: run through, or stopped at what is said of a state in between. -/
inductive SeqJ (X : (St → Prop) → Prop) (R : St → Prop) : Prop
  | mk (R' : St → Prop) (x : X R') (r : ∀ S', R' S' → ∃ S1, Le S' S1 ∧ R S1)
theorem SeqJ.thru {X : (St → Prop) → Prop} {R : St → Prop} (h : X R) : SeqJ X R := ⟨R, h, fun S' h => ⟨S', Le.refl _, h⟩⟩
theorem SeqJ.join {X : (St → Prop) → Prop} {R : St → Prop} {σ : Type} (st : σ → St) (J : σ → Prop) (x : X fun S' => Pick J fun s => LeX S' (st s)) (r : ∀ s, J s → R (st s)) : SeqJ X R :=
  ⟨_, x, fun S' ⟨s, h1, h2⟩ => ⟨st s, h2.le, r s h1⟩⟩
/-- A loop, by what is said of the states at its head. -/
inductive LoopE (B : St → (Exit → St → Prop) → Prop) (S : St) (Q : Exit → St → Prop) : Prop
  | mk {σ : Type} (st : σ → St) (J : σ → Prop) (μ : σ → Nat) (s0 : σ) (h0 : J s0) (hle : LeX S (st s0))
    (round : ∀ s, J s → B (st s) (exitK (fun S'' => Pick (fun s' => J s' ∧ μ s' < μ s) fun s' => LeX S'' (st s')) Q))

def St.know (S : St) (c : Operand) (b : Bool) : St := match c with | .tmp t => S.put (some t) (vB b) | _ => S
theorem know_eq {S : St} {c : Operand} {b : Bool} (h : S.ev c = .one (.dv (.sc (.bool b)))) : S.know c b = S := by
  cases c with
  | tmp t =>
    obtain ⟨T, L, m⟩ := S
    simp only [St.know, St.put, St.mk.injEq, and_true]
    funext u
    by_cases e : u = t
    · subst e; simp only [upd_same]; exact h.symm
    · rw [upd_ne _ _ _ _ e]
  | _ => rfl

section
variable {P : Program} {tb : TypeId → Option TyI} {S : St}

/-- An operation, where its guard lets it. -/
def stepE (P : Program) (tb : TypeId → Option TyI) (base : Nat) (ops : List Oper) (i : Nat) (o : Oper) (S : St) (K : St → Prop) : Prop :=
  match o.guard with
  | none => opE P tb (base + 16 * i) S o.op o.dst K
  | some (j, want) =>
    match (ops[j]?).bind (·.dst) with
    | some t => (match S.T t with
      | .one (.dv (.sc (.bool b))) =>
        (match want with
        | true => br b (opE P tb (base + 16 * i) (S.know (.tmp t) true) o.op o.dst K) (K ((S.know (.tmp t) false).put o.dst (.tup [])))
        | false => br b (K ((S.know (.tmp t) true).put o.dst (.tup []))) (opE P tb (base + 16 * i) (S.know (.tmp t) false) o.op o.dst K))
      | .tup [] => K (S.put o.dst (.tup []))
      | _ => False)
    | none => False
theorem stepE_ok {base : Nat} {ops : List Oper} {i : Nat} {o : Oper} {K : St → Prop} (h : stepE P tb base ops i o S K) :
    (o.guard = none ∧ opE P tb (base + 16 * i) S o.op o.dst K) ∨ (∃ j want t b, o.guard = some (j, want) ∧ (ops[j]?).bind (·.dst) = some t ∧ S.T t = .one (.dv (.sc (.bool b))) ∧
      (b = want → opE P tb (base + 16 * i) S o.op o.dst K) ∧ (b ≠ want → K (S.put o.dst (.tup [])))) ∨ ∃ j want t, o.guard = some (j, want) ∧ (ops[j]?).bind (·.dst) = some t ∧ S.T t = .tup [] ∧ K (S.put o.dst (.tup [])) := by
  unfold stepE at h
  split at h
  · rename_i e; exact .inl ⟨e, h⟩
  · rename_i j want e
    split at h
    · rename_i t ht
      split at h
      · rename_i b hb
        refine .inr (.inl ⟨j, want, t, b, e, ht, hb, ?_⟩)
        split at h
        · obtain ⟨h1, h2⟩ := br_iff.1 h
          refine ⟨fun e => ?_, fun e => ?_⟩
          · subst e; have := h1 rfl; rwa [know_eq (c := .tmp t) hb] at this
          · simp at e; subst e; have := h2 rfl; rwa [know_eq (c := .tmp t) hb] at this
        · obtain ⟨h1, h2⟩ := br_iff.1 h
          refine ⟨fun e => ?_, fun e => ?_⟩
          · subst e; have := h2 rfl; rwa [know_eq (c := .tmp t) hb] at this
          · simp at e; subst e; have := h1 rfl; rwa [know_eq (c := .tmp t) hb] at this
      · rename_i hb; exact .inr (.inr ⟨j, want, t, e, ht, hb, h⟩)
      · exact h.elim
    · exact h.elim
def opsE (P : Program) (tb : TypeId → Option TyI) (base : Nat) (ops : List Oper) : Nat → List Oper → St → (St → Prop) → Prop
  | _, [], S, K => K S
  | i, o :: rest, S, K => stepE P tb base ops i o S fun S' => opsE P tb base ops (i + 1) rest S' K
theorem opsE_ok {base : Nat} {ops : List Oper} : ∀ {rest : List Oper} {i : Nat} {S : St} {K K' : St → Prop}, (∀ T, K T → K' T) → opsE P tb base ops i rest S K → opsD P tb base ops i rest S K'
  | [], i, S, K, K', hk, h => hk _ h
  | o :: rest, i, S, K, K', hk, h => by
    have h : stepE P tb base ops i o S fun S' => opsE P tb base ops (i + 1) rest S' K := h
    simp only [opsD]
    rcases stepE_ok h with ⟨e, h⟩ | ⟨j, want, t, b, e, ht, hb, h1, h2⟩ | ⟨j, want, t, e, ht, hb, h1⟩
    · simp only [e]; exact opE_ok (fun T h => opsE_ok hk h) h
    · simp only [e, ht, hb]
      exact ⟨fun e => opE_ok (fun T h => opsE_ok hk h) (h1 (by simpa using e)), fun e => opsE_ok hk (h2 (by simpa using e))⟩
    · simp only [e, ht, hb]
      exact opsE_ok hk h1

/-- A value taken once more. -/
def againE (tb : TypeId → Option TyI) (ops : List Oper) (o : Oper) (S : St) (K : SV → Prop) : Prop :=
  match o.guard with
  | none => valE tb S o.op K
  | some (j, want) =>
    match (ops[j]?).bind (·.dst) with
    | some t => (match S.T t with
      | .one (.dv (.sc (.bool b))) => (match want with | true => br b (valE tb S o.op K) (K (.tup [])) | false => br b (K (.tup [])) (valE tb S o.op K))
      | .tup [] => K (.tup [])
      | _ => False)
    | none => False
def rechs (tb : TypeId → Option TyI) (ops : List Oper) (S : St) : List Nat → Prop
  | [] => Done True
  | i :: re =>
    match ops[i]? with
    | some o => (match o.dst with | some t => againE tb ops o S fun v => fS v fun v => fS (S.T t) fun u => Need (v = u) (rechs tb ops S re) | none => False)
    | none => False
/-- .. of several, told apart from what comes behind. -/
def rechE (tb : TypeId → Option TyI) (ops : List Oper) (S : St) (re : List Nat) (X : Prop) : Prop :=
  match re with
  | [] => X
  | i :: re => Need (rechs tb ops S (i :: re)) X
theorem againE_ok {ops : Array Oper} {o : Oper} {K K' : SV → Prop} (hk : ∀ v, K v → K' v) (h : againE tb ops.toList o S K) : stepV tb ops o S K' := by
  unfold againE at h; unfold stepV
  split at h
  · rename_i e; simp only [e]; exact valE_ok hk h
  · rename_i j want e; simp only [e]
    split at h
    · rename_i t ht
      have ht' : (ops[j]?).bind (·.dst) = some t := by simpa using ht
      split at h
      · rename_i b hb
        have : guardOf ops S j want = some b := by simp [guardOf, ht', hb]
        simp only [this]
        split at h
        · obtain ⟨h1, h2⟩ := br_iff.1 h
          exact ⟨fun e => valE_ok hk (h1 e), fun e => hk _ (h2 (by simpa using e))⟩
        · obtain ⟨h1, h2⟩ := br_iff.1 h
          exact ⟨fun e => valE_ok hk (h2 e), fun e => hk _ (h1 (by simpa using e))⟩
      · rename_i hb
        have : guardOf ops S j want = some !want := by simp [guardOf, ht', hb]
        simp only [this]
        exact ⟨fun e => by simp at e, fun _ => hk _ h⟩
      · exact h.elim
    · exact h.elim
theorem rechs_ok {ops : Array Oper} : ∀ {re : List Nat}, rechs tb ops.toList S re → ∀ i ∈ re, recheck tb ops i S
  | [], h => by simp
  | i :: re, h => by
    unfold rechs at h
    split at h
    · rename_i o ho
      split at h
      · rename_i t ht
        have h1 := againE_ok (K' := fun v => v = S.T t ∧ (∀ i ∈ re, recheck tb ops i S)) (fun v h => by have h := fS_iff.1 (fS_iff.1 h); exact ⟨h.1, rechs_ok h.2⟩) h
        have h2 : recheck tb ops i S := ⟨o, t, by simpa using ho, ht, stepV_mono (fun v h => h.1) h1⟩
        have h3 := stepV_const (stepV_mono (fun v h => h.2) h1)
        exact fun x hx => by rcases List.mem_cons.1 hx with rfl | hx; exact h2; exact h3 x hx
      · exact h.elim
    · exact h.elim
theorem rechE_ok {ops : Array Oper} {re : List Nat} {X : Prop} (h : rechE tb ops.toList S re X) : (∀ i ∈ re, recheck tb ops i S) ∧ X := by
  unfold rechE at h
  split at h
  · exact ⟨by simp, h⟩
  · exact ⟨rechs_ok h.1, h.2⟩
def planE (P : Program) (tb : TypeId → Option TyI) (base : Nat) (ops : List Oper) : PS → St → (St → Prop) → Prop
  | .done, S, K => K S
  | .v i rest, S, K => (match ops[i]? with | some o => stepE P tb base ops i o S fun S' => planE P tb base ops rest S' K | none => False)
  | .x i re rest, S, K => (match ops[i]? with | some o => stepE P tb base ops i o S fun S' => rechE tb ops S' re (planE P tb base ops rest S' K) | none => False)
  | .or a b, S, K => Need (planE P tb base ops a S K) (planE P tb base ops b S K)
theorem stepE_D {base : Nat} {ops : Array Oper} {i : Nat} {o : Oper} {K K' : St → Prop} (ho : ops.toList[i]? = some o) (hk : ∀ T, K T → K' T) (h : stepE P tb base ops.toList i o S K) : stepD P tb base ops i S K' := by
  have ho' : ops[i]? = some o := by simpa using ho
  simp only [stepD, ho']
  rcases stepE_ok h with ⟨e, h⟩ | ⟨j, want, t, b, e, ht, hb, h1, h2⟩ | ⟨j, want, t, e, ht, hb, h1⟩
  · simp only [e]; exact opE_ok hk h
  · have ht' : (ops[j]?).bind (·.dst) = some t := by simpa using ht
    have : guardOf ops S j want = some b := by simp [guardOf, ht', hb]
    simp only [e, this]
    exact ⟨fun e => opE_ok hk (h1 e), fun e => hk _ (h2 e)⟩
  · have ht' : (ops[j]?).bind (·.dst) = some t := by simpa using ht
    have : guardOf ops S j want = some !want := by simp [guardOf, ht', hb]
    simp only [e, this]
    exact ⟨fun e => by simp at e, fun _ => hk _ h1⟩
theorem planE_ok {base : Nat} {ops : Array Oper} : ∀ (plan : PS) {S : St} {K K' : St → Prop}, (∀ T, K T → K' T) → planE P tb base ops.toList plan S K → planD P tb base ops plan S K'
  | .done, S, K, K', hk, h => hk _ h
  | .v i rest, S, K, K', hk, h => by
    simp only [planE] at h; simp only [planD]
    split at h
    · rename_i ho; exact stepE_D ho (fun T h => planE_ok rest hk h) h
    · exact h.elim
  | .x i re rest, S, K, K', hk, h => by
    simp only [planE] at h; simp only [planD]
    split at h
    · rename_i ho; exact stepE_D ho (fun T h => ⟨(rechE_ok h).1, planE_ok rest hk (rechE_ok h).2⟩) h
    · exact h.elim
  | .or a b, S, K, K', hk, h => ⟨planE_ok a hk h.1, planE_ok b hk h.2⟩

def PS.ways : PS → Bool
  | .done => false
  | .v _ r => r.ways
  | .x _ _ r => r.ways
  | .or _ _ => true

def wpE (P : Program) (tb : TypeId → Option TyI) (pl : Nat → Option PS) : Code → St → (Exit → St → Prop) → Prop
  | .skip, S, Q => Q .normal S
  | .seq x y, S, Q =>
    (match x with
    | .cond _ _ _ => SeqJ (fun K => wpE P tb pl x S (exitK K Q)) fun S' => wpE P tb pl y S' Q
    | .block _ _ => SeqJ (fun K => wpE P tb pl x S (exitK K Q)) fun S' => wpE P tb pl y S' Q
    | .seq _ (.cond _ _ _) => SeqJ (fun K => wpE P tb pl x S (exitK K Q)) fun S' => wpE P tb pl y S' Q
    | .region id _ true => (match pl id with
      | some plan => (match plan.ways with
        | true => SeqJ (fun K => wpE P tb pl x S (exitK K Q)) fun S' => wpE P tb pl y S' Q
        | false => wpE P tb pl x S (exitK (fun S' => wpE P tb pl y S' Q) Q))
      | none => False)
    | _ => wpE P tb pl x S (exitK (fun S' => wpE P tb pl y S' Q) Q))
  | .cond c x y, S, Q =>
    (match S.ev c with
    | .one (.dv (.sc (.bool b))) => br b (wpE P tb pl x (S.know c true) Q) (wpE P tb pl y (S.know c false) Q)
    | _ => False)
  | .block id c, S, Q => wpE P tb pl c S (blockK id Q)
  | .exit id, S, Q => Q (.exit id) S
  | .ret, S, Q => Q .ret S
  | .region id ops false, S, Q => opsE P tb (4096 * (id + 1)) ops.toList 0 ops.toList S (Q .normal)
  | .region id ops true, S, Q => (match pl id with | some plan => planE P tb (4096 * (id + 1)) ops.toList plan S (Q .normal) | none => False)
  | .loop c, S, Q => LoopE (wpE P tb pl c) S Q
  | _, _, _ => False
/-- The plans fit the code. -/
def plansOk (tb : TypeId → Option TyI) (pl : Nat → Option PS) : Code → Bool
  | .seq x y => plansOk tb pl x && plansOk tb pl y
  | .cond _ x y => plansOk tb pl x && plansOk tb pl y
  | .block _ c => plansOk tb pl c
  | .loop c => plansOk tb pl c
  | .region id ops true => (match pl id with | some plan => planOk tb ops true ops.size [] (Array.replicate ops.size false) plan | none => true)
  | _ => true

theorem exitK_mono {K K' : St → Prop} {Q Q' : Exit → St → Prop} (hk : ∀ S, K S → K' S) (hq : ∀ e S, Q e S → Q' e S) : ∀ e S, exitK K Q e S → exitK K' Q' e S := by
  intro e S h; cases e <;> first | exact hk _ h | exact hq _ _ h
theorem blockK_mono {i : Nat} {Q Q' : Exit → St → Prop} (hq : ∀ e S, Q e S → Q' e S) : ∀ e S, blockK i Q e S → blockK i Q' e S := by
  intro e S h; cases e <;> first
    | exact hq _ _ h
    | (simp only [blockK] at h ⊢
       split at h
       · rename_i e; rw [if_pos e]; exact hq _ _ h
       · rename_i e; rw [if_neg e]; exact hq _ _ h)

theorem wpE_ok {pl : Nat → Option PS} : ∀ (c : Code) (S : St) (Q Q' : Exit → St → Prop), plansOk tb pl c = true → (∀ e S, Q e S → Q' e S) → wpE P tb pl c S Q → wpD P tb c S Q'
  | .skip, S, Q, Q', _, hq, h => hq _ _ h
  | .seq x y, S, Q, Q', hp, hq, h => by
    simp only [plansOk, Bool.and_eq_true] at hp
    have thru : wpE P tb pl x S (exitK (fun S' => wpE P tb pl y S' Q) Q) → wpD P tb (.seq x y) S Q' := fun h =>
      ⟨fun S' => wpE P tb pl y S' Q, wpE_ok x S _ _ hp.1 (exitK_mono (fun _ h => h) hq) h, fun S' h => ⟨S', Le.refl _, wpE_ok y S' _ _ hp.2 hq h⟩⟩
    have join : SeqJ (fun K => wpE P tb pl x S (exitK K Q)) (fun S' => wpE P tb pl y S' Q) → wpD P tb (.seq x y) S Q' := fun ⟨R', h1, h2⟩ =>
      ⟨R', wpE_ok x S _ _ hp.1 (exitK_mono (fun _ h => h) hq) h1, fun S' h => (h2 S' h).elim fun S1 g => ⟨S1, g.1, wpE_ok y S1 _ _ hp.2 hq g.2⟩⟩
    unfold wpE at h
    split at h
    · exact join h
    · exact join h
    · exact join h
    · split at h
      · split at h
        · exact join h
        · exact thru h
      · exact h.elim
    · exact thru h
  | .cond c x y, S, Q, Q', hp, hq, h => by
    simp only [plansOk, Bool.and_eq_true] at hp
    simp only [wpE] at h; simp only [wpD]
    split at h
    · rename_i b hb
      obtain ⟨h1, h2⟩ := br_iff.1 h
      simp only [hb]
      refine ⟨fun e => ?_, fun e => ?_⟩
      · subst e; have := h1 rfl; rw [know_eq hb] at this; exact wpE_ok x S _ _ hp.1 hq this
      · subst e; have := h2 rfl; rw [know_eq hb] at this; exact wpE_ok y S _ _ hp.2 hq this
    · exact h.elim
  | .block id c, S, Q, Q', hp, hq, h => wpE_ok c S _ _ hp (blockK_mono hq) h
  | .exit id, S, Q, Q', _, hq, h => hq _ _ h
  | .ret, S, Q, Q', _, hq, h => hq _ _ h
  | .region id ops false, S, Q, Q', _, hq, h => opsE_ok (hq _) h
  | .region id ops true, S, Q, Q', hp, hq, h => by
    simp only [wpE] at h
    simp only [plansOk] at hp
    split at h
    · rename_i plan e
      rw [e] at hp
      exact .inl ⟨plan, hp, planE_ok plan (hq _) h⟩
    · exact h.elim
  | .loop c, S, Q, Q', hp, hq, h => by
    obtain ⟨st, J, μ, s0, h0, hle, round⟩ := h
    refine ⟨fun n S' => ∃ s, J s ∧ μ s = n ∧ S' = st s, ⟨_, _, hle.le, s0, h0, rfl, rfl⟩, ?_⟩
    rintro m S' ⟨s, h1, rfl, rfl⟩
    refine wpE_ok c _ _ _ hp (exitK_mono ?_ hq) (round s h1)
    rintro T ⟨s', ⟨g1, g2⟩, g3⟩
    exact ⟨_, _, g2, g3.le, s', g1, rfl, rfl⟩
  | .rangeFunc .., _, _, _, _, _, h => h.elim
  | .scope _, _, _, _, _, _, h => h.elim
  | .label _, _, _, _, _, _, h => h.elim
  | .goto _, _, _, _, _, _, h => h.elim
  | .refuse _, _, _, _, _, _, h => h.elim
end
end Go.Proofs.Ytoklfidamhigcaa.D
