/- The steps of a run, in the form that is gone through by reduction: code. -/
import Derived.Test.YtpdjehnlejjfmaaJ4
namespace Go.Proofs.Ytpdjehnlejjfmaa.D
open Go.RowKit
set_option linter.unusedVariables false

structure LeX (S S' : St) : Prop where
  le : Le S S'
/-- One piece of code behind another: run through, or stopped at what is said of a state in between. -/
inductive SeqJ (X : (St → Prop) → Prop) (R : St → Prop) : Prop
  | mk (R' : St → Prop) (x : X R') (r : ∀ S', R' S' → ∃ S1, Le S' S1 ∧ R S1)
theorem SeqJ.thru {X : (St → Prop) → Prop} {R : St → Prop} (h : X R) : SeqJ X R := ⟨R, h, fun S' h => ⟨S', Le.refl _, h⟩⟩
theorem SeqJ.join {X : (St → Prop) → Prop} {R : St → Prop} {σ : Type} (st : σ → St) (J : σ → Prop) (x : X fun S' => Pick J fun s => LeX S' (st s)) (r : ∀ s, J s → R (st s)) : SeqJ X R :=
  ⟨_, x, fun S' ⟨s, h1, h2⟩ => ⟨st s, h2.le, r s h1⟩⟩
/-- A loop, by what is said of the states at its head. -/
inductive LoopE (B : St → (Exit → St → Prop) → Prop) (S : St) (Q : Exit → St → Prop) : Prop
  | mk {σ : Type} (st : σ → St) (J : σ → Prop) (μ : σ → Nat) (s0 : σ) (h0 : J s0) (hle : LeX S (st s0))
    (round : ∀ s, J s → B (st s) (exitK (fun S'' => Pick (fun s' => J s' ∧ μ s' < μ s) fun s' => LeX S'' (st s')) Q))

def St.know (S : St) (c : Operand) (b : Bool) : St := match c with | .tmp t => S.put (some t) (vB b) | _ => S
theorem know_eq {S : St} {c : Operand} {b : Bool} (h : S.ev c = .one (.dv (.sc (.bool b)))) : S.know c b = S := by
  cases c with
  | tmp t =>
    obtain ⟨T, L, m⟩ := S
    simp only [St.know, St.put, St.mk.injEq, and_true]
    funext u
    by_cases e : u = t
    · subst e; simp only [upd_same]; exact h.symm
    · rw [upd_ne _ _ _ _ e]
  | _ => rfl

section
variable {P : Program} {tb : TypeId → Option TyI} {S : St}

/-- An operation, where its guard lets it. -/
def stepE (P : Program) (tb : TypeId → Option TyI) (base : Nat) (ops : List Oper) (i : Nat) (o : Oper) (S : St) (K : St → Prop) : Prop :=
  match o.guard with
  | none => opE P tb (base + 16 * i) S o.op o.dst K
  | some (j, want) =>
    match (ops[j]?).bind (·.dst) with
    | some t => (match S.T t with
      | .one (.dv (.sc (.bool b))) =>
        (match want with
        | true => br b (opE P tb (base + 16 * i) (S.know (.tmp t) true) o.op o.dst K) (K ((S.know (.tmp t) false).put o.dst (.tup [])))
        | false => br b (K ((S.know (.tmp t) true).put o.dst (.tup []))) (opE P tb (base + 16 * i) (S.know (.tmp t) false) o.op o.dst K))
      | .tup [] => K (S.put o.dst (.tup []))
      | _ => False)
    | none => False
theorem stepE_ok {base : Nat} {ops : List Oper} {i : Nat} {o : Oper} {K : St → Prop} (h : stepE P tb base ops i o S K) :
    (o.guard = none ∧ opE P tb (base + 16 * i) S o.op o.dst K) ∨ (∃ j want t b, o.guard = some (j, want) ∧ (ops[j]?).bind (·.dst) = some t ∧ S.T t = .one (.dv (.sc (.bool b))) ∧
      (b = want → opE P tb (base + 16 * i) S o.op o.dst K) ∧ (b ≠ want → K (S.put o.dst (.tup [])))) ∨ ∃ j want t, o.guard = some (j, want) ∧ (ops[j]?).bind (·.dst) = some t ∧ S.T t = .tup [] ∧ K (S.put o.dst (.tup [])) := by
  unfold stepE at h
  split at h
  · rename_i e; exact .inl ⟨e, h⟩
  · rename_i j want e
    split at h
    · rename_i t ht
      split at h
      · rename_i b hb
        refine .inr (.inl ⟨j, want, t, b, e, ht, hb, ?_⟩)
        split at h
        · obtain ⟨h1, h2⟩ := br_iff.1 h
          refine ⟨fun e => ?_, fun e => ?_⟩
          · subst e; have := h1 rfl; rwa [know_eq (c := .tmp t) hb] at this
          · simp at e; subst e; have := h2 rfl; rwa [know_eq (c := .tmp t) hb] at this
        · obtain ⟨h1, h2⟩ := br_iff.1 h
          refine ⟨fun e => ?_, fun e => ?_⟩
          · subst e; have := h2 rfl; rwa [know_eq (c := .tmp t) hb] at this
          · simp at e; subst e; have := h1 rfl; rwa [know_eq (c := .tmp t) hb] at this
      · rename_i hb; exact .inr (.inr ⟨j, want, t, e, ht, hb, h⟩)
      · exact h.elim
    · exact h.elim
def opsE (P : Program) (tb : TypeId → Option TyI) (base : Nat) (ops : List Oper) : Nat → List Oper → St → (St → Prop) → Prop
  | _, [], S, K => K S
  | i, o :: rest, S, K => stepE P tb base ops i o S fun S' => opsE P tb base ops (i + 1) rest S' K
theorem opsE_ok {base : Nat} {ops : List Oper} : ∀ {rest : List Oper} {i : Nat} {S : St} {K K' : St → Prop}, (∀ T, K T → K' T) → opsE P tb base ops i rest S K → opsD P tb base ops i rest S K'
  | [], i, S, K, K', hk, h => hk _ h
  | o :: rest, i, S, K, K', hk, h => by
    have h : stepE P tb base ops i o S fun S' => opsE P tb base ops (i + 1) rest S' K := h
    simp only [opsD]
    rcases stepE_ok h with ⟨e, h⟩ | ⟨j, want, t, b, e, ht, hb, h1, h2⟩ | ⟨j, want, t, e, ht, hb, h1⟩
    · simp only [e]; exact opE_ok (fun T h => opsE_ok hk h) h
    · simp only [e, ht, hb]
      exact ⟨fun e => opE_ok (fun T h => opsE_ok hk h) (h1 (by simpa using e)), fun e => opsE_ok hk (h2 (by simpa using e))⟩
    · simp only [e, ht, hb]
      exact opsE_ok hk h1

/-- A value taken once more. -/
def againE (tb : TypeId → Option TyI) (ops : List Oper) (o : Oper) (S : St) (K : SV → Prop) : Prop :=
  match o.guard with
  | none => valE tb S o.op K
  | some (j, want) =>
    match (ops[j]?).bind (·.dst) with
    | some t => (match S.T t with
      | .one (.dv (.sc (.bool b))) => (match want with | true => br b (valE tb S o.op K) (K (.tup [])) | false => br b (K (.tup [])) (valE tb S o.op K))
      | .tup [] => K (.tup [])
      | _ => False)
    | none => False
def rechs (tb : TypeId → Option TyI) (ops : List Oper) (S : St) : List Nat → Prop
  | [] => Done True
  | i :: re =>
    match ops[i]? with
    | some o => (match o.dst with | some t => againE tb ops o S fun v => fS v fun v => fS (S.T t) fun u => Need (v = u) (rechs tb ops S re) | none => False)
    | none => False
/-- .. of several, told apart from what comes behind. -/
def rechE (tb : TypeId → Option TyI) (ops : List Oper) (S : St) (re : List Nat) (X : Prop) : Prop :=
  match re with
  | [] => X
  | i :: re => Need (rechs tb ops S (i :: re)) X
theorem againE_ok {ops : Array Oper} {o : Oper} {K K' : SV → Prop} (hk : ∀ v, K v → K' v) (h : againE tb ops.toList o S K) : stepV tb ops o S K' := by
  unfold againE at h; unfold stepV
  split at h
  · rename_i e; simp only [e]; exact valE_ok hk h
  · rename_i j want e; simp only [e]
    split at h
    · rename_i t ht
      have ht' : (ops[j]?).bind (·.dst) = some t := by simpa using ht
      split at h
      · rename_i b hb
        have : guardOf ops S j want = some b := by simp [guardOf, ht', hb]
        simp only [this]
        split at h
        · obtain ⟨h1, h2⟩ := br_iff.1 h
          exact ⟨fun e => valE_ok hk (h1 e), fun e => hk _ (h2 (by simpa using e))⟩
        · obtain ⟨h1, h2⟩ := br_iff.1 h
          exact ⟨fun e => valE_ok hk (h2 e), fun e => hk _ (h1 (by simpa using e))⟩
      · rename_i hb
        have : guardOf ops S j want = some !want := by simp [guardOf, ht', hb]
        simp only [this]
        exact ⟨fun e => by simp at e, fun _ => hk _ h⟩
      · exact h.elim
    · exact h.elim
theorem rechs_ok {ops : Array Oper} : ∀ {re : List Nat}, rechs tb ops.toList S re → ∀ i ∈ re, recheck tb ops i S
  | [], h => by simp
  | i :: re, h => by
    unfold rechs at h
    split at h
    · rename_i o ho
      split at h
      · rename_i t ht
        have h1 := againE_ok (K' := fun v => v = S.T t ∧ (∀ i ∈ re, recheck tb ops i S)) (fun v h => by have h := fS_iff.1 (fS_iff.1 h); exact ⟨h.1, rechs_ok h.2⟩) h
        have h2 : recheck tb ops i S := ⟨o, t, by simpa using ho, ht, stepV_mono (fun v h => h.1) h1⟩
        have h3 := stepV_const (stepV_mono (fun v h => h.2) h1)
        exact fun x hx => by rcases List.mem_cons.1 hx with rfl | hx; exact h2; exact h3 x hx
      · exact h.elim
    · exact h.elim
theorem rechE_ok {ops : Array Oper} {re : List Nat} {X : Prop} (h : rechE tb ops.toList S re X) : (∀ i ∈ re, recheck tb ops i S) ∧ X := by
  unfold rechE at h
  split at h
  · exact ⟨by simp, h⟩
  · exact ⟨rechs_ok h.1, h.2⟩
def planE (P : Program) (tb : TypeId → Option TyI) (base : Nat) (ops : List Oper) : PS → St → (St → Prop) → Prop
  | .done, S, K => K S
  | .v i rest, S, K => (match ops[i]? with | some o => stepE P tb base ops i o S fun S' => planE P tb base ops rest S' K | none => False)
  | .x i re rest, S, K => (match ops[i]? with | some o => stepE P tb base ops i o S fun S' => rechE tb ops S' re (planE P tb base ops rest S' K) | none => False)
  | .or a b, S, K => Need (planE P tb base ops a S K) (planE P tb base ops b S K)
theorem stepE_D {base : Nat} {ops : Array Oper} {i : Nat} {o : Oper} {K K' : St → Prop} (ho : ops.toList[i]? = some o) (hk : ∀ T, K T → K' T) (h : stepE P tb base ops.toList i o S K) : stepD P tb base ops i S K' := by
  have ho' : ops[i]? = some o := by simpa using ho
  simp only [stepD, ho']
  rcases stepE_ok h with ⟨e, h⟩ | ⟨j, want, t, b, e, ht, hb, h1, h2⟩ | ⟨j, want, t, e, ht, hb, h1⟩
  · simp only [e]; exact opE_ok hk h
  · have ht' : (ops[j]?).bind (·.dst) = some t := by simpa using ht
    have : guardOf ops S j want = some b := by simp [guardOf, ht', hb]
    simp only [e, this]
    exact ⟨fun e => opE_ok hk (h1 e), fun e => hk _ (h2 e)⟩
  · have ht' : (ops[j]?).bind (·.dst) = some t := by simpa using ht
    have : guardOf ops S j want = some !want := by simp [guardOf, ht', hb]
    simp only [e, this]
    exact ⟨fun e => by simp at e, fun _ => hk _ h1⟩
theorem planE_ok {base : Nat} {ops : Array Oper} : ∀ (plan : PS) {S : St} {K K' : St → Prop}, (∀ T, K T → K' T) → planE P tb base ops.toList plan S K → planD P tb base ops plan S K'
  | .done, S, K, K', hk, h => hk _ h
  | .v i rest, S, K, K', hk, h => by
    simp only [planE] at h; simp only [planD]
    split at h
    · rename_i ho; exact stepE_D ho (fun T h => planE_ok rest hk h) h
    · exact h.elim
  | .x i re rest, S, K, K', hk, h => by
    simp only [planE] at h; simp only [planD]
    split at h
    · rename_i ho; exact stepE_D ho (fun T h => ⟨(rechE_ok h).1, planE_ok rest hk (rechE_ok h).2⟩) h
    · exact h.elim
  | .or a b, S, K, K', hk, h => ⟨planE_ok a hk h.1, planE_ok b hk h.2⟩

def PS.ways : PS → Bool
  | .done => false
  | .v _ r => r.ways
  | .x _ _ r => r.ways
  | .or _ _ => true

def wpE (P : Program) (tb : TypeId → Option TyI) (pl : Nat → Option PS) : Code → St → (Exit → St → Prop) → Prop
  | .skip, S, Q => Q .normal S
  | .seq x y, S, Q =>
    (match x with
    | .cond _ _ _ => SeqJ (fun K => wpE P tb pl x S (exitK K Q)) fun S' => wpE P tb pl y S' Q
    | .block _ _ => SeqJ (fun K => wpE P tb pl x S (exitK K Q)) fun S' => wpE P tb pl y S' Q
    | .seq _ (.cond _ _ _) => SeqJ (fun K => wpE P tb pl x S (exitK K Q)) fun S' => wpE P tb pl y S' Q
    | .region id _ true => (match pl id with
      | some plan => (match plan.ways with
        | true => SeqJ (fun K => wpE P tb pl x S (exitK K Q)) fun S' => wpE P tb pl y S' Q
        | false => wpE P tb pl x S (exitK (fun S' => wpE P tb pl y S' Q) Q))
      | none => False)
    | _ => wpE P tb pl x S (exitK (fun S' => wpE P tb pl y S' Q) Q))
  | .cond c x y, S, Q =>
    (match S.ev c with
    | .one (.dv (.sc (.bool b))) => br b (wpE P tb pl x (S.know c true) Q) (wpE P tb pl y (S.know c false) Q)
    | _ => False)
  | .block id c, S, Q => wpE P tb pl c S (blockK id Q)
  | .exit id, S, Q => Q (.exit id) S
  | .ret, S, Q => Q .ret S
  | .region id ops false, S, Q => opsE P tb (4096 * (id + 1)) ops.toList 0 ops.toList S (Q .normal)
  | .region id ops true, S, Q => (match pl id with | some plan => planE P tb (4096 * (id + 1)) ops.toList plan S (Q .normal) | none => False)
  | .loop c, S, Q => LoopE (wpE P tb pl c) S Q
  | _, _, _ => False
/-- The plans fit the code. -/
def plansOk (tb : TypeId → Option TyI) (pl : Nat → Option PS) : Code → Bool
  | .seq x y => plansOk tb pl x && plansOk tb pl y
  | .cond _ x y => plansOk tb pl x && plansOk tb pl y
  | .block _ c => plansOk tb pl c
  | .loop c => plansOk tb pl c
  | .region id ops true => (match pl id with | some plan => planOk tb ops true ops.size [] (Array.replicate ops.size false) plan | none => true)
  | _ => true

theorem exitK_mono {K K' : St → Prop} {Q Q' : Exit → St → Prop} (hk : ∀ S, K S → K' S) (hq : ∀ e S, Q e S → Q' e S) : ∀ e S, exitK K Q e S → exitK K' Q' e S := by
  intro e S h; cases e <;> first | exact hk _ h | exact hq _ _ h
theorem blockK_mono {i : Nat} {Q Q' : Exit → St → Prop} (hq : ∀ e S, Q e S → Q' e S) : ∀ e S, blockK i Q e S → blockK i Q' e S := by
  intro e S h; cases e <;> first
    | exact hq _ _ h
    | (simp only [blockK] at h ⊢
       split at h
       · rename_i e; rw [if_pos e]; exact hq _ _ h
       · rename_i e; rw [if_neg e]; exact hq _ _ h)

theorem wpE_ok {pl : Nat → Option PS} : ∀ (c : Code) (S : St) (Q Q' : Exit → St → Prop), plansOk tb pl c = true → (∀ e S, Q e S → Q' e S) → wpE P tb pl c S Q → wpD P tb c S Q'
  | .skip, S, Q, Q', _, hq, h => hq _ _ h
  | .seq x y, S, Q, Q', hp, hq, h => by
    simp only [plansOk, Bool.and_eq_true] at hp
    have thru : wpE P tb pl x S (exitK (fun S' => wpE P tb pl y S' Q) Q) → wpD P tb (.seq x y) S Q' := fun h =>
      ⟨fun S' => wpE P tb pl y S' Q, wpE_ok x S _ _ hp.1 (exitK_mono (fun _ h => h) hq) h, fun S' h => ⟨S', Le.refl _, wpE_ok y S' _ _ hp.2 hq h⟩⟩
    have join : SeqJ (fun K => wpE P tb pl x S (exitK K Q)) (fun S' => wpE P tb pl y S' Q) → wpD P tb (.seq x y) S Q' := fun ⟨R', h1, h2⟩ =>
      ⟨R', wpE_ok x S _ _ hp.1 (exitK_mono (fun _ h => h) hq) h1, fun S' h => (h2 S' h).elim fun S1 g => ⟨S1, g.1, wpE_ok y S1 _ _ hp.2 hq g.2⟩⟩
    unfold wpE at h
    split at h
    · exact join h
    · exact join h
    · exact join h
    · split at h
      · split at h
        · exact join h
        · exact thru h
      · exact h.elim
    · exact thru h
  | .cond c x y, S, Q, Q', hp, hq, h => by
    simp only [plansOk, Bool.and_eq_true] at hp
    simp only [wpE] at h; simp only [wpD]
    split at h
    · rename_i b hb
      obtain ⟨h1, h2⟩ := br_iff.1 h
      simp only [hb]
      refine ⟨fun e => ?_, fun e => ?_⟩
      · subst e; have := h1 rfl; rw [know_eq hb] at this; exact wpE_ok x S _ _ hp.1 hq this
      · subst e; have := h2 rfl; rw [know_eq hb] at this; exact wpE_ok y S _ _ hp.2 hq this
    · exact h.elim
  | .block id c, S, Q, Q', hp, hq, h => wpE_ok c S _ _ hp (blockK_mono hq) h
  | .exit id, S, Q, Q', _, hq, h => hq _ _ h
  | .ret, S, Q, Q', _, hq, h => hq _ _ h
  | .region id ops false, S, Q, Q', _, hq, h => opsE_ok (hq _) h
  | .region id ops true, S, Q, Q', hp, hq, h => by
    simp only [wpE] at h
    simp only [plansOk] at hp
    split at h
    · rename_i plan e
      rw [e] at hp
      exact .inl ⟨plan, hp, planE_ok plan (hq _) h⟩
    · exact h.elim
  | .loop c, S, Q, Q', hp, hq, h => by
    obtain ⟨st, J, μ, s0, h0, hle, round⟩ := h
    refine ⟨fun n S' => ∃ s, J s ∧ μ s = n ∧ S' = st s, ⟨_, _, hle.le, s0, h0, rfl, rfl⟩, ?_⟩
    rintro m S' ⟨s, h1, rfl, rfl⟩
    refine wpE_ok c _ _ _ hp (exitK_mono ?_ hq) (round s h1)
    rintro T ⟨s', ⟨g1, g2⟩, g3⟩
    exact ⟨_, _, g2, g3.le, s', g1, rfl, rfl⟩
  | .rangeFunc .., _, _, _, _, _, h => h.elim
  | .scope _, _, _, _, _, _, h => h.elim
  | .label _, _, _, _, _, _, h => h.elim
  | .goto _, _, _, _, _, _, h => h.elim
  | .refuse _, _, _, _, _, _, h => h.elim
end
end Go.Proofs.Ytpdjehnlejjfmaa.D
/- The steps of a run: a function's end; what a state says less. -/
namespace Go.Proofs.Ytpdjehnlejjfmaa.D
open Go.RowKit
set_option linter.unusedVariables false

section
variable {P : Program} {tb : TypeId → Option TyI} {S : St}

def resE (tb : TypeId → Option TyI) (S : St) : List ResultVar → (List SV → Prop) → Prop
  | [], K => K []
  | .tmp t :: rs, K => resE tb S rs fun vs => K (S.T t :: vs)
  | .cell t ty :: rs, K =>
    match tb ty, S.T t with
    | some i, .one c => ptrE S i c fun v => resE tb S rs fun vs => K (v :: vs)
    | _, _ => False
theorem resE_ok : ∀ {rs : List ResultVar} {K K' : List SV → Prop}, (∀ vs, K vs → K' vs) → resE tb S rs K → resD tb S rs K'
  | [], _, _, hk, h => hk _ h
  | .tmp t :: rs, K, K', hk, h => resE_ok (rs := rs) (fun vs h => hk _ h) h
  | .cell t ty :: rs, K, K', hk, h => by
    simp only [resE] at h; simp only [resD]
    split at h
    · rename_i e1 e2; simp only [e1, e2]
      obtain ⟨cs, o, h1, h2⟩ := ptrE_ok (K' := fun v => resD tb S rs fun vs => K' (v :: vs)) (fun v h => resE_ok (fun vs h => hk _ h) h) h
      simp only [h1]
      exact h2
    · exact h.elim
def cvNames (c : CV) : List Nat := match c with | .os p _ _ _ => [p.top] | .ptr p _ => [p] | .ep p _ _ _ => [p.top] | _ => []
def svNames : SV → List Nat | .one c => cvNames c | .agg cs => cs.foldr (fun c r => cvNames c ++ r) [] | .tup vs => vs.foldr (fun v r => v.2.foldr (fun c r => cvNames c ++ r) r) []
def boxesNames (S : St) : Nat → List Nat
  | 0 => []
  | n + 1 => boxesNames S n ++ (boxNames S n).map Nm.top
def addNewN (xs : List Nat) (x : Nat) : List Nat := match xs.any (fun y => Nat.beq x y) with | true => xs | false => xs ++ [x]
def uniqN (xs : List Nat) : List Nat := xs.foldl addNewN []
def upTo : Nat → List Nat | 0 => [] | n + 1 => upTo n ++ [n]
theorem upTo_eq (n : Nat) : upTo n = List.range n := by
  induction n with
  | zero => rfl
  | succ n ih => simp [upTo, ih, List.range_succ]
/-- What goes out: nil slices as empty ones, read (where 'nl') or own (those cells, by their numbers, with their elements' size); which of the results' own slices stay own; the others are read only from now on. -/
inductive Out (X : Bool → List Nat → List (Nat × Nat) → Prop) : Prop
  | mk (nl : Bool) (keep : List Nat) (z : List (Nat × Nat)) (h : X nl keep z)
def zlook (z : List (Nat × Nat)) (i : Nat) : Option Nat := match z with | [] => none | (j, k) :: r => match Nat.beq i j with | true => some k | false => zlook r i
def zCs (nl : Bool) (z : List (Nat × Nat)) : Nat → List CV → List CV × List (Nat × Nat)
  | _, [] => ([], [])
  | i, c :: cs =>
    match c with
    | .nil => (match zlook z i with
      | some k => (.os (.v (1000000 + i)) k 0 0 :: (zCs nl z (i + 1) cs).1, (1000000 + i, k) :: (zCs nl z (i + 1) cs).2)
      | none => ((match nl with | true => .dv (.sl []) | false => .nil) :: (zCs nl z (i + 1) cs).1, (zCs nl z (i + 1) cs).2))
    | c => (c :: (zCs nl z (i + 1) cs).1, (zCs nl z (i + 1) cs).2)
theorem zCs_wk {nl : Bool} {z : List (Nat × Nat)} : ∀ (cs : List CV) (i : Nat), wkCs cs (zCs nl z i cs).1
  | [], _ => trivial
  | c :: cs, i => by
    unfold zCs
    split
    · split
      · exact ⟨.inr ⟨rfl, .inr ⟨_, _, rfl⟩⟩, zCs_wk cs _⟩
      · cases nl
        · exact ⟨.inl rfl, zCs_wk cs _⟩
        · exact ⟨.inr ⟨rfl, .inl rfl⟩, zCs_wk cs _⟩
    · exact ⟨.inl rfl, zCs_wk cs _⟩
def zPs (nl : Bool) (z : List (Nat × Nat)) : Nat → List (Bool × List CV) → List (Bool × List CV) × List (Nat × Nat)
  | _, [] => ([], [])
  | i, (b, cs) :: ps => ((b, (zCs nl z i cs).1) :: (zPs nl z (i + cs.length) ps).1, (zCs nl z i cs).2 ++ (zPs nl z (i + cs.length) ps).2)
theorem zPs_wk {nl : Bool} {z : List (Nat × Nat)} : ∀ (ps : List (Bool × List CV)) (i : Nat), wkPs ps (zPs nl z i ps).1
  | [], _ => trivial
  | (b, cs) :: ps, i => ⟨⟨rfl, zCs_wk cs i⟩, zPs_wk ps _⟩
def zS (nl : Bool) (z : List (Nat × Nat)) : SV → SV
  | .one c => (match (zCs nl z 0 [c]).1 with | [c'] => .one c' | _ => .one c)
  | .agg cs => .agg (zCs nl z 0 cs).1
  | .tup ps => .tup (zPs nl z 0 ps).1
def zZ (nl : Bool) (z : List (Nat × Nat)) : SV → List (Nat × Nat)
  | .one c => (zCs nl z 0 [c]).2
  | .agg cs => (zCs nl z 0 cs).2
  | .tup ps => (zPs nl z 0 ps).2
theorem zS_wk {nl : Bool} {z : List (Nat × Nat)} (sv : SV) : wkS sv (zS nl z sv) := by
  cases sv with
  | one c =>
    simp only [zS]
    have := zCs_wk (nl := nl) (z := z) [c] 0
    split
    · rename_i c' e; rw [e] at this; exact this.1
    · exact .inl rfl
  | agg cs => exact zCs_wk cs 0
  | tup ps => exact zPs_wk ps 0
def emptiesE (S : St) : List (Nat × Nat) → (St → Prop) → Prop
  | [], K => K S
  | (p, k) :: zs, K => chk (fresh S p) (fN p fun p => emptiesE { S with L := upd S.L p (some (.own k [])) } zs K)
theorem emptiesE_ok : ∀ {zs : List (Nat × Nat)} {S : St} {K : St → Prop}, emptiesE S zs K → emptiesOk S zs ∧ K (S.empties zs)
  | [], _, _, h => ⟨trivial, h⟩
  | (p, k) :: zs, S, K, h => by
    obtain ⟨h1, h2⟩ := chk_iff.1 h
    obtain ⟨h3, h4⟩ := emptiesE_ok (fN_iff.1 h2)
    exact ⟨⟨fresh_iff h1, h3⟩, h4⟩
def keepNames (keep : List Nat) : SV → List Nat
  | .one c => (match keep.any (Nat.beq 0) with | true => cvNames c | false => [])
  | .agg cs => (match keep.any (Nat.beq 0) with | true => cs.foldr (fun c r => cvNames c ++ r) [] | false => [])
  | .tup ps => (ps.foldl (fun r p => (r.1 + 1, match keep.any (Nat.beq r.1) with | true => r.2 ++ p.2.foldr (fun c r => cvNames c ++ r) [] | false => r.2)) (0, [])).2
def argPsE (S : St) (out : List Nm) : List (Bool × List CV) → (List (Bool × List CV) → Prop) → Prop
  | [], K => K []
  | (b, cs) :: ps, K => argCsE true S out cs fun cs' => argPsE S out ps fun ps' => K ((b, cs') :: ps')
theorem argPsE_ok {out : List Nm} (hg : goodN out = true) : ∀ {ps : List (Bool × List CV)} {K K' : List (Bool × List CV) → Prop}, (∀ x, K x → K' x) → argPsE S out ps K → argPs S out ps K'
  | [], _, _, hk, h => hk _ h
  | (b, cs) :: ps, K, K', hk, h => argCsE_ok hg (fun _ h => argPsE_ok hg (fun _ h => hk _ h) h) h
def argRE (S : St) (out : List Nm) (v : SV) (K : SV → Prop) : Prop :=
  match v with
  | .one c => argCE true S out c fun c' => K (.one c')
  | .agg cs => argCsE true S out cs fun cs' => K (.agg cs')
  | .tup ps => argPsE S out ps fun ps' => K (.tup ps')
theorem argRE_ok {out : List Nm} (hg : goodN out = true) {v : SV} {K K' : SV → Prop} (hk : ∀ x, K x → K' x) (h : argRE S out v K) : argR S out v K' := by
  cases v with
  | one c => exact argCE_ok hg (fun _ h => hk _ h) h
  | agg cs => exact argCsE_ok hg (fun _ h => hk _ h) h
  | tup ps => exact argPsE_ok hg (fun _ h => hk _ h) h
/-- A name that goes out. -/
def outB (out : List Nm) (p : Nat) : Bool := match idxV p out with | some _ => true | none => false
theorem outB_ok {out : List Nm} {nm : Nm} (h : outB out nm.top = true) : mapN out nm ≠ none := by
  unfold outB at h
  rw [idxV_eq] at h
  cases e : idxOf (.v nm.top) out with
  | none => rw [e] at h; simp at h
  | some i =>
    unfold mapN
    cases nm with
    | v p => simp only [Nm.top] at e; simp [e]
    | h p a b =>
      simp only [Nm.top] at e
      cases idxOf (.h p a b) out <;> simp [e]
def cleanCE (S : St) (out : List Nm) (c : CV) (X : Prop) : Prop :=
  match c with
  | .dv d => chk (flatD d) X
  | .dp _ _ => False
  | .os p _ _ _ => (match outB out p.top with | true => X | false => ownE S p fun _ es => Need (flatEs es) X)
  | _ => X
theorem cleanCE_ok {out : List Nm} {c : CV} {X : Prop} (h : cleanCE S out c X) : cleanC S out c ∧ X := by
  unfold cleanCE at h; unfold cleanC
  split at h
  · exact chk_iff.1 h
  · exact h.elim
  · split at h
    · rename_i e
      exact ⟨.inl (outB_ok e), h⟩
    · obtain ⟨k, es, e, h⟩ := ownE_ok h
      simp only [e]; exact ⟨.inr h.1, h.2⟩
  · rename_i h1 h2 h3
    refine ⟨?_, h⟩
    split
    · exact absurd rfl (h1 _)
    · exact absurd rfl (h2 _ _)
    · exact absurd rfl (h3 _ _ _ _)
    · trivial
def cleanCsE (S : St) (out : List Nm) : List CV → Prop → Prop
  | [], X => X
  | c :: cs, X => cleanCE S out c (cleanCsE S out cs X)
theorem cleanCsE_ok {out : List Nm} : ∀ {cs : List CV} {X : Prop}, cleanCsE S out cs X → (∀ c ∈ cs, cleanC S out c) ∧ X
  | [], _, h => ⟨by simp, h⟩
  | c :: cs, X, h => by
    obtain ⟨h1, h2⟩ := cleanCE_ok h
    obtain ⟨h3, h4⟩ := cleanCsE_ok h2
    exact ⟨fun x hx => (List.mem_cons.1 hx).elim (fun e => e ▸ h1) (h3 x), h4⟩
def cleanPsE (S : St) (out : List Nm) : List (Bool × List CV) → Prop → Prop
  | [], X => X
  | p :: ps, X => cleanCsE S out p.2 (cleanPsE S out ps X)
theorem cleanPsE_ok {out : List Nm} : ∀ {ps : List (Bool × List CV)} {X : Prop}, cleanPsE S out ps X → (∀ p ∈ ps, ∀ c ∈ p.2, cleanC S out c) ∧ X
  | [], _, h => ⟨by simp, h⟩
  | p :: ps, X, h => by
    obtain ⟨h1, h2⟩ := cleanCsE_ok h
    obtain ⟨h3, h4⟩ := cleanPsE_ok h2
    exact ⟨fun x hx => (List.mem_cons.1 hx).elim (fun e => e ▸ h1) (h3 x), h4⟩
def cleanSE (S : St) (out : List Nm) (v : SV) (X : Prop) : Prop :=
  match v with
  | .one c => cleanCE S out c X
  | .agg cs => cleanCsE S out cs X
  | .tup ps => cleanPsE S out ps X
theorem cleanSE_ok {out : List Nm} {v : SV} {X : Prop} (h : cleanSE S out v X) : cleanS S out v ∧ X := by
  cases v with
  | one c => exact cleanCE_ok h
  | agg cs => exact cleanCsE_ok h
  | tup ps => exact cleanPsE_ok h
def cleanLE (S : St) (out : List Nm) : List Nat → Prop → Prop
  | [], X => X
  | p :: ps, X => match S.L p with
    | some (.own _ es) => Need (flatEs es) (cleanLE S out ps X)
    | some (.box cs) => cleanCsE S out cs (cleanLE S out ps X)
    | none => cleanLE S out ps X
theorem cleanLE_ok {out : List Nm} : ∀ {ps : List Nat} {X : Prop}, cleanLE S out ps X → (∀ p ∈ ps, ∀ r, S.L p = some r → cleanR S out r) ∧ X
  | [], _, h => ⟨by simp, h⟩
  | p :: ps, X, h => by
    unfold cleanLE at h
    split at h
    · rename_i e
      obtain ⟨h1, h2⟩ := h
      obtain ⟨h3, h4⟩ := cleanLE_ok h2
      exact ⟨fun x hx r hr => (List.mem_cons.1 hx).elim (fun e' => by subst e'; rw [e] at hr; injection hr with hr; subst hr; exact h1) (fun hx => h3 x hx r hr), h4⟩
    · rename_i e
      obtain ⟨h1, h2⟩ := cleanCsE_ok h
      obtain ⟨h3, h4⟩ := cleanLE_ok h2
      exact ⟨fun x hx r hr => (List.mem_cons.1 hx).elim (fun e' => by subst e'; rw [e] at hr; injection hr with hr; subst hr; exact h1) (fun hx => h3 x hx r hr), h4⟩
    · rename_i e
      obtain ⟨h3, h4⟩ := cleanLE_ok h
      exact ⟨fun x hx r hr => (List.mem_cons.1 hx).elim (fun e' => by subst e'; rw [e] at hr; simp at hr) (fun hx => h3 x hx r hr), h4⟩
def cleanE (cl : Bool) (S : St) (out : List Nat) (vs : List Nm) (v : SV) (X : Prop) : Prop := match cl with | true => cleanSE S vs v (cleanLE S vs out X) | false => X
def madeB (out : List Nm) (c : CV) : Bool := match c with | .os p _ _ _ => outB out p.top || newB p.top | _ => true
theorem madeB_ok {out : List Nm} {c : CV} (h : madeB out c = true) : borN out c := by
  unfold madeB at h; unfold borN
  split at h
  · simp only [Bool.or_eq_true] at h
    exact h.imp outB_ok newB_ok
  · rename_i hne
    split
    · exact absurd rfl (hne _ _ _ _)
    · trivial
def madeS (out : List Nm) : SV → Bool
  | .one c => madeB out c
  | .agg cs => cs.all (madeB out)
  | .tup qs => qs.all fun q => q.2.all (madeB out)
theorem madeS_ok {out : List Nm} {v : SV} (h : madeS out v = true) : borS out v := by
  cases v with
  | one c => exact madeB_ok h
  | agg cs => exact fun c hc => madeB_ok (List.all_eq_true.1 h c hc)
  | tup qs => exact fun q hq c hc => madeB_ok (List.all_eq_true.1 (List.all_eq_true.1 h q hq) c hc)
def madeL (S : St) (vs : List Nm) : List Nat → Bool
  | [] => true
  | p :: ps => (match S.L p with | some (.box cs) => cs.all (madeB vs) | _ => true) && madeL S vs ps
theorem madeL_ok {vs : List Nm} : ∀ {ps : List Nat}, madeL S vs ps = true → ∀ p ∈ ps, ∀ cs, S.L p = some (.box cs) → ∀ c ∈ cs, borN vs c
  | [], _, p, hp => by simp at hp
  | q :: ps, h, p, hp => by
    simp only [madeL, Bool.and_eq_true] at h
    rcases List.mem_cons.1 hp with rfl | hp
    · intro cs hcs c hc
      rw [hcs] at h
      exact madeB_ok (List.all_eq_true.1 h.1 c hc)
    · exact madeL_ok h.2 p hp
def finE (S : St) (sv : SV) (n : Nat) (mv : List Nat) (cl : Bool) (Post : SV → List Row → Prop) : Prop :=
  Out fun nl keep z => emptiesE S (zZ nl z sv) fun S => fS (zS nl z sv) fun sv =>
    fNs (upTo n ++ (uniqN (keepNames keep sv ++ boxesNames S n)).filter fun p => Nat.ble n p)
      fun out => fNms (out.map .v) fun vs => chk (nodupB out && (S.mv.all fun p => Nat.ble n p || mv.any (Nat.beq p)) && goodN vs && (out.drop n).all newB && madeS vs sv && madeL S vs out)
        (cleanE cl S out vs sv (argRE S vs sv fun res => rowsE true S vs vs fun Lo => fS res fun res => Done (Post res Lo)))
theorem finE_ok {sv : SV} {n : Nat} {mv : List Nat} {cl : Bool} {Post : SV → List Row → Prop} (h : finE S sv n mv cl Post) : finD S sv n mv cl Post := by
  obtain ⟨nl, keep, z, h⟩ := h
  obtain ⟨hz, h⟩ := emptiesE_ok h
  have h := fNms_iff.1 (fNs_iff.1 (fS_iff.1 h))
  generalize hSe : S.empties (zZ nl z sv) = Se at h
  generalize hout : upTo n ++ (uniqN (keepNames keep (zS nl z sv) ++ boxesNames Se n)).filter (fun p => Nat.ble n p) = out at h
  obtain ⟨h1, h2⟩ := chk_iff.1 h
  simp only [Bool.and_eq_true] at h1
  obtain ⟨⟨⟨⟨⟨h1, hm⟩, hg⟩, hnew⟩, hb1⟩, hb2⟩ := h1
  have hm : ∀ p ∈ Se.mv, p < n → p ∈ mv := fun p hp hlt => by
    have h5 := List.all_eq_true.1 hm p hp
    simp only [Bool.or_eq_true] at h5
    rcases h5 with h5 | h5
    · have := Nat.le_of_ble_eq_true h5; omega
    · obtain ⟨x, hx, h6⟩ := List.any_eq_true.1 h5
      rw [Nat.eq_of_beq_eq_true h6]; exact hx
  have h3 : (cl = true → cleanS Se (out.map .v) (zS nl z sv) ∧ ∀ p ∈ out, ∀ r, Se.L p = some r → cleanR Se (out.map .v) r) ∧ argRE Se (out.map .v) (zS nl z sv) fun res => rowsE true Se (out.map .v) (out.map .v) fun Lo => fS res fun res => Done (Post res Lo) := by
    cases cl with
    | false => exact ⟨fun h => by simp at h, h2⟩
    | true =>
      obtain ⟨g1, g2⟩ := cleanSE_ok h2
      obtain ⟨g3, g4⟩ := cleanLE_ok g2
      exact ⟨fun _ => ⟨g1, g3⟩, g4⟩
  refine ⟨zZ nl z sv, zS nl z sv, out, ⟨hz, zS_wk sv, by rw [hSe]; exact hm⟩, ⟨nodupB_ok h1, by rw [← hout, upTo_eq, List.take_append_of_le_length (by simp)]; simp, fun p hp => newB_ok (List.all_eq_true.1 hnew p hp)⟩, ?_⟩
  rw [hSe]
  exact ⟨h3.1, ⟨madeS_ok hb1, madeL_ok hb2⟩, argRE_ok hg (fun _ h => rowsE_ok hg (fun _ h => (fS_iff.1 h).ok) h) h3.2⟩
def joinE (vs : List SV) (K : SV → Prop) : Prop :=
  match vs with
  | [v] => K v
  | [] => K (.tup [])
  | u :: v :: vs => match pairsS (u :: v :: vs) with | some ps => K (.tup ps) | none => False
theorem joinE_ok {vs : List SV} {K K' : SV → Prop} (hk : ∀ v, K v → K' v) (h : joinE vs K) : joinD vs K' := by
  unfold joinE at h; unfold joinD
  split at h
  · exact hk _ h
  · simp only [pairsS]; exact hk _ h
  · split at h
    · rename_i e; simp only [e]; exact hk _ h
    · exact h.elim
def retE (tb : TypeId → Option TyI) (rs : List ResultVar) (n : Nat) (mv : List Nat) (cl : Bool) (Post : SV → List Row → Prop) : Exit → St → Prop
  | .normal, S => resE tb S rs fun vs => joinE vs fun sv => finE S sv n mv cl Post
  | .ret, S => resE tb S rs fun vs => joinE vs fun sv => finE S sv n mv cl Post
  | _, _ => False
theorem retE_ok {rs : List ResultVar} {n : Nat} {mv : List Nat} {cl : Bool} {Post : SV → List Row → Prop} : ∀ e S, retE tb rs n mv cl Post e S → retD tb rs n mv cl Post e S := by
  intro e S h
  cases e <;> first
    | exact h.elim
    | exact resE_ok (fun vs h => joinE_ok (fun v h => finE_ok h) h) h

def argT (args : List SV) (t : Nat) : SV := match args[t]? with | some v => v | none => .one .dead
theorem CallM.ofE (T : Tab P) {f : FuncId} {fn : Func} {c : Code} {args : List SV} {Li : List Row} {mv : List Nat} {cl : Bool} {Post : SV → List Row → Prop} (pl : Nat → Option PS) (hf : P.funcs[f]? = some fn) (hname : (fn.name == "runtime.NumGoroutine") = false) (hb : fn.body = some c)
    (hok : slotsOk fn.ntmps c = true) (hp : plansOk T.tb pl c = true) (hN : args.length ≤ fn.ntmps) (h : wpE P T.tb pl c ⟨argT args, Lof Li, []⟩ (retE T.tb fn.results.toList Li.length mv cl Post)) : CallM P f args Li mv cl Post := by
  refine CallM.of_body T hf hname hb hok hN ?_
  have := wpE_ok c _ _ _ hp retE_ok h
  have e : argT args = fun t => (args[t]?).getD (.one .dead) := by
    funext t; unfold argT; cases args[t]? <;> rfl
  rwa [e] at this

/-! What a state says less: shown cell by cell. -/
def eqNm (p' p : Nm) (X : Prop) : Prop :=
  match p', p with
  | .v p', .v p => chk (Nat.beq p' p) X
  | .h p' a' b', .h p a b => chk (Nat.beq p' p && Nat.beq b' b) (Need (a' = a) X)
  | _, _ => False
theorem eqNm_ok {p' p : Nm} {X : Prop} (h : eqNm p' p X) : p' = p ∧ X := by
  unfold eqNm at h
  split at h
  · obtain ⟨h1, h2⟩ := chk_iff.1 h
    rw [Nat.eq_of_beq_eq_true h1]; exact ⟨rfl, h2⟩
  · obtain ⟨h1, h2, h3⟩ := chk_iff.1 h
    simp only [Bool.and_eq_true] at h1
    rw [Nat.eq_of_beq_eq_true h1.1, Nat.eq_of_beq_eq_true h1.2, h2]; exact ⟨rfl, h3⟩
  · exact h.elim
def eqC (S : St) (ls : List (Nat × Row)) (c c' : CV) (X : Prop) : Prop :=
  match c' with
  | .dead => X
  | .dv (.sc (.int k n)) => (match c with | .dv (.sc (.int k' n')) => chk (decide (k' = k)) (Need (n' = n) X) | _ => False)
  | .dv (.sc v) => (match c with | .dv (.sc v') => Need (v' = v) X | _ => False)
  | .dv (.sl es) => (match c with
    | .dv (.sl es') => Need (es' = es) X
    | .nil => Need ([] = es) X
    | .os p k off len => (match lookL ls p.top with | none => ownE S p fun k' es' => chk (newB p.top && Nat.beq k k') (Need (SlF es' off len es) X) | some _ => False)
    | _ => False)
  | .dv _ => False
  | .os p k off len => (match c with | .os p' k' off' len' => chk (Nat.beq k' k) (eqNm p' p (Need (off' = off ∧ len' = len) X)) | .nil => Need (0 = len) X | _ => False)
  | .nil => (match c with | .nil => X | _ => False)
  | .ptr p o => (match c with | .ptr p' o' => chk (Nat.beq p' p && Nat.beq o' o) X | _ => False)
  | .ep p k i f => Need (c = .ep p k i f) X
  | .dp cs f => Need (c = .dp cs f) X
  | .sb .. => False
theorem eqC_ok {ls : List (Nat × Row)} {c c' : CV} {X : Prop} (h : eqC S ls c c' X) : cle S ls c c' ∧ X := by
  unfold eqC at h
  split at h
  · exact ⟨trivial, h⟩
  · split at h
    · obtain ⟨h1, h2, h3⟩ := chk_iff.1 h
      obtain rfl := of_decide_eq_true h1
      subst h2; exact ⟨rfl, h3⟩
    · exact h.elim
  · split at h
    · obtain ⟨h2, h3⟩ := h; subst h2; exact ⟨rfl, h3⟩
    · exact h.elim
  · split at h
    · obtain ⟨h2, h3⟩ := h; subst h2; exact ⟨.inl rfl, h3⟩
    · obtain ⟨h2, h3⟩ := h; exact ⟨.inr (.inl ⟨rfl, h2.symm⟩), h3⟩
    · split at h
      · rename_i e1
        obtain ⟨k', es', e2, h⟩ := ownE_ok h
        obtain ⟨h1, ⟨h2, h4⟩, h3⟩ := chk_iff.1 h
        simp only [Bool.and_eq_true] at h1
        obtain rfl := Nat.eq_of_beq_eq_true h1.2
        exact ⟨.inr (.inr ⟨_, _, _, _, _, rfl, e1, newB_ok h1.1, e2, h2, h4⟩), h3⟩
      · exact h.elim
    · exact h.elim
  · exact h.elim
  · split at h
    · obtain ⟨h1, h⟩ := chk_iff.1 h
      obtain ⟨rfl, ⟨rfl, rfl⟩, h3⟩ := eqNm_ok h
      obtain rfl := Nat.eq_of_beq_eq_true h1
      exact ⟨.inl rfl, h3⟩
    · obtain ⟨h2, h3⟩ := h; exact ⟨.inr ⟨rfl, h2.symm⟩, h3⟩
    · exact h.elim
  · split at h
    · exact ⟨rfl, h⟩
    · exact h.elim
  · split at h
    · obtain ⟨h1, h3⟩ := chk_iff.1 h
      simp only [Bool.and_eq_true] at h1
      obtain rfl := Nat.eq_of_beq_eq_true h1.1
      obtain rfl := Nat.eq_of_beq_eq_true h1.2
      exact ⟨rfl, h3⟩
    · exact h.elim
  · obtain ⟨h2, h3⟩ := h; subst h2; exact ⟨rfl, h3⟩
  · obtain ⟨h2, h3⟩ := h; subst h2; exact ⟨rfl, h3⟩
  · exact h.elim
def refB (ls : List (Nat × Row)) (c : CV) : Bool := match c with
  | .os p _ _ _ => (lookL ls p.top).isSome
  | .ptr p _ => (lookL ls p).isSome
  | .ep p _ _ _ => (lookL ls p.top).isSome
  | .sb .. => false
  | _ => true
theorem refB_ok {ls : List (Nat × Row)} {c : CV} (h : refB ls c = true) : refC ls c := by cases c <;> first | exact h | trivial
def eqCs (S : St) (ls : List (Nat × Row)) : List CV → List CV → Prop → Prop
  | [], [], X => X
  | c :: cs, c' :: cs', X => chk (refB ls c') (eqC S ls c c' (eqCs S ls cs cs' X))
  | _, _, _ => False
theorem eqCs_ok {ls : List (Nat × Row)} : ∀ {cs cs' : List CV} {X : Prop}, eqCs S ls cs cs' X → csle S ls cs cs' ∧ refCs ls cs' ∧ X
  | [], [], _, h => ⟨trivial, trivial, h⟩
  | c :: cs, c' :: cs', X, h => by
    obtain ⟨h1, h2⟩ := chk_iff.1 h
    obtain ⟨h3, h4⟩ := eqC_ok h2
    obtain ⟨h5, h6, h7⟩ := eqCs_ok h4
    exact ⟨⟨h3, h5⟩, ⟨refB_ok h1, h6⟩, h7⟩
  | [], _ :: _, _, h => h.elim
  | _ :: _, [], _, h => h.elim
def eqS (S : St) (ls : List (Nat × Row)) (s s' : SV) (X : Prop) : Prop :=
  match s' with
  | .one .dead => X
  | .one c' => (match s with | .one c => chk (refB ls c') (eqC S ls c c' X) | _ => False)
  | .agg cs' => (match s with | .agg cs => eqCs S ls cs cs' X | _ => False)
  | .tup _ => False
theorem eqS_ok {ls : List (Nat × Row)} {s s' : SV} {X : Prop} (h : eqS S ls s s' X) : (sle S ls s s' ∧ refS ls s') ∧ X := by
  unfold eqS at h
  split at h
  · exact ⟨⟨trivial, trivial⟩, h⟩
  · rename_i c' hne
    split at h
    · obtain ⟨h1, h2⟩ := chk_iff.1 h
      obtain ⟨h3, h4⟩ := eqC_ok h2
      refine ⟨⟨?_, refB_ok h1⟩, h4⟩
      unfold sle
      split
      · trivial
      · rename_i e1 e2; injection e1 with e1; injection e2 with e2; subst e1; subst e2; exact h3
      · rename_i e1 e2; simp at e1
      · rename_i h1 h2 h3; exact absurd rfl (h2 _ _ rfl)
    · exact h.elim
  · split at h
    · obtain ⟨h1, h2, h3⟩ := eqCs_ok h
      exact ⟨⟨h1, h2⟩, h3⟩
    · exact h.elim
  · exact h.elim
def eqT (S : St) (ls : List (Nat × Row)) : List (Nat × SV) → Prop → Prop
  | [], X => X
  | (i, v) :: r, X => eqS S ls (S.T i) v (eqT S ls r X)
theorem eqT_ok {ls : List (Nat × Row)} : ∀ {ts : List (Nat × SV)} {X : Prop}, eqT S ls ts X → leT S ls ts ∧ X
  | [], _, h => ⟨trivial, h⟩
  | (i, v) :: r, X, h => by
    obtain ⟨h1, h2⟩ := eqS_ok h
    obtain ⟨h3, h4⟩ := eqT_ok h2
    exact ⟨⟨h1, h3⟩, h4⟩
def eqL (S : St) (ls : List (Nat × Row)) : List (Nat × Row) → Prop
  | [] => True
  | (p, .box cs') :: rest => (match S.L p with | some (.box cs) => eqCs S ls cs cs' (eqL S ls rest) | _ => False)
  | (p, .own k es) :: rest => (match S.L p with
    | some (.own k' es') => chk (Nat.beq k' k) (Need (es' = es) (eqL S ls rest))
    | none => chk (Nat.ble 1000 p) (Need ([] = es) (eqL S ls rest))
    | _ => False)
theorem eqL_ok {ls : List (Nat × Row)} : ∀ {rest : List (Nat × Row)}, eqL S ls rest → leL S ls rest
  | [], _ => trivial
  | (p, .box cs') :: rest, h => by
    simp only [eqL] at h; simp only [leL]
    split at h
    · rename_i e; simp only [e]
      obtain ⟨h1, h2, h3⟩ := eqCs_ok h
      exact ⟨⟨h1, h2⟩, eqL_ok h3⟩
    · exact h.elim
  | (p, .own k es) :: rest, h => by
    simp only [eqL] at h; simp only [leL]
    split at h
    · rename_i e; simp only [e]
      obtain ⟨h1, h2, h3⟩ := chk_iff.1 h
      obtain rfl := Nat.eq_of_beq_eq_true h1
      subst h2
      exact ⟨rfl, eqL_ok h3⟩
    · rename_i e; simp only [e]
      obtain ⟨h1, h2, h3⟩ := chk_iff.1 h
      exact ⟨⟨h2.symm, Nat.le_of_ble_eq_true h1⟩, eqL_ok h3⟩
    · exact h.elim
theorem LeX.of {ts : List (Nat × SV)} {ls : List (Nat × Row)} {mv : List Nat} (h : chk (S.mv.all fun p => Nat.ble 1000 p || mv.any (Nat.beq p)) (eqT S ls ts (eqL S ls ls))) : LeX S (D.mk ts ls mv) := by
  obtain ⟨hm, h⟩ := chk_iff.1 h
  refine ⟨le_mk (eqT_ok h).1 (eqL_ok (eqT_ok h).2) fun p hp => ?_⟩
  have h5 := List.all_eq_true.1 hm p hp
  simp only [Bool.or_eq_true] at h5
  rcases h5 with h5 | h5
  · exact .inr (Nat.le_of_ble_eq_true h5)
  · obtain ⟨x, hx, h6⟩ := List.any_eq_true.1 h5
    rw [Nat.eq_of_beq_eq_true h6]; exact .inl hx
end
end Go.Proofs.Ytpdjehnlejjfmaa.D
/- Words: numbers, bytes and lists as the runs show them. -/
namespace Go.Proofs.Ytpdjehnlejjfmaa.D
open Go.RowKit
set_option linter.unusedVariables false
set_option linter.unusedSimpArgs false

abbrev byD (b : UInt8) : List DV := [.sc (.int .u8 b.toNat)]
abbrev inD (x : Int) : List DV := [.sc (.int .i64 x)]
abbrev stD (s : ByteArray) : List DV := [.sc (.string s)]
abbrev boD (b : Bool) : List DV := [.sc (.bool b)]
/-- A slice that is read: of bytes, of numbers, of texts. -/
abbrev vY (l : List UInt8) : SV := .one (.dv (.sl (l.map byD)))
abbrev vN (l : List Int) : SV := .one (.dv (.sl (l.map inD)))
abbrev vT (l : List ByteArray) : SV := .one (.dv (.sl (l.map stD)))
abbrev cI (n : Int) : CV := .dv (.sc (.int .i64 n))
abbrev cB (b : Bool) : CV := .dv (.sc (.bool b))
abbrev cS (s : ByteArray) : CV := .dv (.sc (.string s))
abbrev cY (l : List UInt8) : CV := .dv (.sl (l.map byD))
abbrev cN (l : List Int) : CV := .dv (.sl (l.map inD))
abbrev cT (l : List ByteArray) : CV := .dv (.sl (l.map stD))

/-- A contract that does not say that what is given back is made of new memory alone. -/
abbrev CallN (P : Program) (f : FuncId) (args : List SV) (Li : List Row) (mv : List Nat) (res : SV) (Lo : List Row) : Prop := CallM P f args Li mv false fun r l => r = res ∧ l = Lo
theorem CallW.k {P : Program} {f : FuncId} {args : List SV} {Li Lo : List Row} {mv : List Nat} {res : SV} {K : List Nat → SV → List Row → Prop} (h : CallN P f args Li mv res Lo) (k : K mv res Lo) : CallW P f args Li false K :=
  CallW.n h fun _ _ h => by obtain ⟨rfl, rfl⟩ := h; exact k
theorem wdiv {a b : Int} (h0 : 0 ≤ a) (hb : 0 < b) (h : a ≤ 9223372036854775807) : IntKind.i64.wrap (a.tdiv b) = a / b := by
  rw [Int.tdiv_eq_ediv_of_nonneg h0]
  have h1 : 0 ≤ a / b := Int.ediv_nonneg h0 (by omega)
  have h2 : a / b ≤ a := Int.ediv_le_self b h0
  exact wid (by omega) (by omega)
theorem tmodn {a b : Int} (h0 : 0 ≤ a) : a.tmod b = a % b := Int.tmod_eq_emod_of_nonneg h0
theorem shrn {a b : Int} {n : Nat} (h : b.toNat = n) (hn : n ≤ 64) : a.fdiv (2 ^ (min b.toNat (IntKind.i64).bits)) = a / 2 ^ n := by
  rw [h, Nat.min_eq_left (by simpa [IntKind.bits] using hn), Int.fdiv_eq_ediv_of_nonneg _ (Int.pow_nonneg (by omega))]
theorem shr8 (a : Int) : a.fdiv (2 ^ (min (8 : Int).toNat (IntKind.i64).bits)) = a / 256 := Int.fdiv_eq_ediv_of_nonneg _ (by decide)
theorem shr16 (a : Int) : a.fdiv (2 ^ (min (16 : Int).toNat (IntKind.i64).bits)) = a / 65536 := Int.fdiv_eq_ediv_of_nonneg _ (by decide)
theorem shr24 (a : Int) : a.fdiv (2 ^ (min (24 : Int).toNat (IntKind.i64).bits)) = a / 16777216 := Int.fdiv_eq_ediv_of_nonneg _ (by decide)
theorem shr32 (a : Int) : a.fdiv (2 ^ (min (32 : Int).toNat (IntKind.i64).bits)) = a / 4294967296 := Int.fdiv_eq_ediv_of_nonneg _ (by decide)
theorem wu8 (n : Int) : IntKind.u8.wrap n = n % 256 := by simp [IntKind.wrap, IntKind.bits, IntKind.signed]
theorem wu32 (n : Int) : IntKind.u32.wrap n = n % 4294967296 := by simp [IntKind.wrap, IntKind.bits, IntKind.signed]
theorem wu64 (n : Int) : IntKind.u64.wrap n = n % 18446744073709551616 := by simp [IntKind.wrap, IntKind.bits, IntKind.signed]
theorem byLt (b : UInt8) : (b.toNat : Int) < 256 := by have := b.toNat_lt; omega
theorem wby (b : UInt8) : IntKind.i64.wrap (b.toNat : Int) = b.toNat := wid (by omega) (by have := byLt b; omega)
theorem wby32 (b : UInt8) : IntKind.u32.wrap (b.toNat : Int) = b.toNat := by have := byLt b; rw [wu32]; omega
theorem wby64 (b : UInt8) : IntKind.u64.wrap (b.toNat : Int) = b.toNat := by have := byLt b; rw [wu64]; omega
theorem wu32_i64 {n : Int} (h0 : 0 ≤ n) (h : n < 4294967296) : IntKind.i64.wrap n = n := wid (by omega) (by omega)
/-- A text by its bytes. -/
abbrev bs (t : List UInt8) : ByteArray := ⟨t.toArray⟩
@[simp] theorem size_bs (t : List UInt8) : (ByteArray.mk t.toArray).size = t.length := by simp [ByteArray.size]
theorem bs_all (s : ByteArray) : ∃ t, s = bs t := ⟨s.data.toList, by cases s; simp [bs]⟩
theorem bs_list (t : List UInt8) : (ByteArray.mk t.toArray).toList = t := by rw [ByteArray.toList_eq]
theorem bs_beq (a b : List UInt8) : ((ByteArray.mk a.toArray).toList == (ByteArray.mk b.toArray).toList) = decide (a = b) := by
  rw [bs_list, bs_list]; by_cases h : a = b <;> simp [h]
theorem bs_less (a b : List UInt8) : Op.bytesLess (ByteArray.mk a.toArray).toList (ByteArray.mk b.toArray).toList = Op.bytesLess a b := by rw [bs_list, bs_list]
theorem bs_leq (a b : List UInt8) : (Op.bytesLess (ByteArray.mk a.toArray).toList (ByteArray.mk b.toArray).toList || (ByteArray.mk a.toArray).toList == (ByteArray.mk b.toArray).toList) = (Op.bytesLess a b || decide (a = b)) := by rw [bs_less, bs_beq]
theorem bs_app (a b : List UInt8) : ByteArray.mk a.toArray ++ ByteArray.mk b.toArray = bs (a ++ b) := by
  apply ByteArray.ext; simp [ByteArray.data_append]
theorem bs_get (t : List UInt8) (i : Nat) (h : i < t.length) : 0 ≤ (i : Int) ∧ (ByteArray.mk t.toArray)[(i : Int).toNat]? = some t[i] := by
  refine ⟨by omega, ?_⟩
  have h1 : (i : Int).toNat = i := by omega
  rw [h1, getElem?_pos _ _ (by simpa using h)]
  rfl
theorem bs_int (t : List UInt8) (n : Int) (h0 : 0 ≤ n) (h : n < t.length) : 0 ≤ n ∧ (ByteArray.mk t.toArray)[n.toNat]? = some (t[n.toNat]'(by omega)) := by
  refine ⟨h0, ?_⟩
  rw [getElem?_pos _ _ (by simp; omega)]
  rfl
theorem bs_extract (t : List UInt8) (l h : Nat) : (ByteArray.mk t.toArray).extract l h = bs ((t.take h).drop l) := by
  apply ByteArray.ext
  rw [ByteArray.data_extract]
  show t.toArray.extract l h = _
  rw [List.extract_toArray, List.drop_take]
theorem bs_extract0 (t : List UInt8) (h : Nat) : (ByteArray.mk t.toArray).extract 0 h = bs (t.take h) := by rw [bs_extract]; rfl
theorem bs_extractN (t : List UInt8) (l : Nat) : (ByteArray.mk t.toArray).extract l t.length = bs (t.drop l) := by rw [bs_extract, List.take_length]
theorem sl_map {α : Type} (f : α → List DV) (l : List α) (h m : Nat) : ((l.map f).take h).drop m = ((l.take h).drop m).map f := by simp [List.map_take, List.map_drop]
theorem sl_map0 {α : Type} (f : α → List DV) (l : List α) (h : Nat) : ((l.map f).take h).drop 0 = (l.take h).map f := by simp [List.map_take]
theorem sl_mapN {α : Type} (f : α → List DV) (l : List α) (m : Nat) : ((l.map f).take l.length).drop m = (l.drop m).map f := by simp [List.map_drop, List.take_of_length_le]
theorem bnd {n : Int} {m y : Nat} (h : n = m) (h2 : m ≤ y) : n = (m : Int) ∧ m ≤ y := ⟨h, h2⟩
theorem bnd_sub {a k y : Nat} (h : (@OfNat.ofNat Int k instOfNat) ≤ (a : Int)) (h2 : a ≤ y) : ((a : Int) - (@OfNat.ofNat Int k instOfNat)) = ((a - k : Nat) : Int) ∧ a - k ≤ y := by
  have h : ((k : Nat) : Int) ≤ a := h
  refine ⟨?_, by omega⟩
  show (a : Int) - ((k : Nat) : Int) = _
  omega
theorem bnd_add {a k y : Nat} (h : a + k ≤ y) : ((a : Int) + (k : Int)) = ((a + k : Nat) : Int) ∧ a + k ≤ y := ⟨by omega, h⟩
theorem bnd_subN {a k y : Nat} (h : k ≤ a) (h2 : a - k ≤ y) : ((a : Int) - (k : Int)) = ((a - k : Nat) : Int) ∧ a - k ≤ y := ⟨by omega, h2⟩
theorem bnd_id {a y : Nat} (h : a ≤ y) : (a : Int) = (a : Int) ∧ a ≤ y := ⟨rfl, h⟩
theorem bnd_int {n : Int} {y : Nat} (h0 : 0 ≤ n) (h : n ≤ y) : n = (n.toNat : Int) ∧ n.toNat ≤ y := ⟨by omega, by omega⟩
/-- The byte of a number. -/
def u8 (n : Int) : UInt8 := UInt8.ofNat (n % 256).toNat
theorem u8_val (n : Int) : ((u8 n).toNat : Int) = n % 256 := by
  simp only [u8, UInt8.toNat_ofNat']
  have := Int.emod_nonneg n (show (256 : Int) ≠ 0 by omega)
  have := Int.emod_lt_of_pos n (show (0 : Int) < 256 by omega)
  omega
theorem wbyte (n : Int) : IntKind.u8.wrap n = ((u8 n).toNat : Int) := by rw [wu8, u8_val]

theorem bv_xor (n : Nat) {a b : Nat} (ha : a < 2 ^ n) (hb : b < 2 ^ n) : (BitVec.ofInt n (a : Int) ^^^ BitVec.ofInt n (b : Int)).toNat = a ^^^ b := by
  rw [BitVec.toNat_xor, BitVec.ofInt_natCast, BitVec.ofInt_natCast, BitVec.toNat_ofNat, BitVec.toNat_ofNat, Nat.mod_eq_of_lt ha, Nat.mod_eq_of_lt hb]
theorem bv_and (n : Nat) {a b : Nat} (ha : a < 2 ^ n) (hb : b < 2 ^ n) : (BitVec.ofInt n (a : Int) &&& BitVec.ofInt n (b : Int)).toNat = a &&& b := by
  rw [BitVec.toNat_and, BitVec.ofInt_natCast, BitVec.ofInt_natCast, BitVec.toNat_ofNat, BitVec.toNat_ofNat, Nat.mod_eq_of_lt ha, Nat.mod_eq_of_lt hb]
theorem bv_or (n : Nat) {a b : Nat} (ha : a < 2 ^ n) (hb : b < 2 ^ n) : (BitVec.ofInt n (a : Int) ||| BitVec.ofInt n (b : Int)).toNat = a ||| b := by
  rw [BitVec.toNat_or, BitVec.ofInt_natCast, BitVec.ofInt_natCast, BitVec.toNat_ofNat, BitVec.toNat_ofNat, Nat.mod_eq_of_lt ha, Nat.mod_eq_of_lt hb]
theorem xor_i64 {a b : Nat} (ha : a < 9223372036854775808) (hb : b < 9223372036854775808) : bits .xor .i64 (a : Int) (b : Int) = ((a ^^^ b : Nat) : Int) := by
  have hx : a ^^^ b < 2 ^ 63 := Nat.xor_lt_two_pow (by simpa using ha) (by simpa using hb)
  show IntKind.i64.wrap (((BitVec.ofInt 64 (a : Int) ^^^ BitVec.ofInt 64 (b : Int)).toNat : Nat) : Int) = _
  rw [bv_xor 64 (by omega) (by omega)]
  exact wid (by omega) (by omega)
theorem and_i64 {a b : Nat} (ha : a < 9223372036854775808) (hb : b < 9223372036854775808) : bits .and .i64 (a : Int) (b : Int) = ((a &&& b : Nat) : Int) := by
  have hx : a &&& b < 2 ^ 63 := Nat.and_lt_two_pow _ (by simpa using hb)
  show IntKind.i64.wrap (((BitVec.ofInt 64 (a : Int) &&& BitVec.ofInt 64 (b : Int)).toNat : Nat) : Int) = _
  rw [bv_and 64 (by omega) (by omega)]
  exact wid (by omega) (by omega)
theorem xor_u32 {a b : Nat} (ha : a < 4294967296) (hb : b < 4294967296) : bits .xor .u32 (a : Int) (b : Int) = ((a ^^^ b : Nat) : Int) := by
  have hx : a ^^^ b < 2 ^ 32 := Nat.xor_lt_two_pow (by simpa using ha) (by simpa using hb)
  show IntKind.u32.wrap (((BitVec.ofInt 32 (a : Int) ^^^ BitVec.ofInt 32 (b : Int)).toNat : Nat) : Int) = _
  rw [bv_xor 32 (by omega) (by omega), wu32]
  omega
theorem xor_u8 (a b : UInt8) : bits .xor .u8 (a.toNat : Int) (b.toNat : Int) = ((a ^^^ b).toNat : Int) := by
  have ha := a.toNat_lt
  have hb := b.toNat_lt
  have hx : a.toNat ^^^ b.toNat < 2 ^ 8 := Nat.xor_lt_two_pow (by simpa using ha) (by simpa using hb)
  show IntKind.u8.wrap (((BitVec.ofInt 8 (a.toNat : Int) ^^^ BitVec.ofInt 8 (b.toNat : Int)).toNat : Nat) : Int) = _
  rw [bv_xor 8 (by omega) (by omega), wu8, UInt8.toNat_xor]
  omega

theorem natlit (n : Nat) : (@OfNat.ofNat Int n instOfNat) = (n : Int) := rfl
theorem rep_by (m : Nat) : List.replicate m (zerosD [.zi .u8]) = (List.replicate m (0 : UInt8)).map byD := by rw [List.map_replicate]; rfl
theorem rep_in (m : Nat) : List.replicate m (zerosD [.zi .i64]) = (List.replicate m (0 : Int)).map inD := by rw [List.map_replicate]; rfl
theorem rep_bo (m : Nat) : List.replicate m (zerosD [.zb]) = (List.replicate m false).map boD := by rw [List.map_replicate]; rfl
theorem rep_st (m : Nat) : List.replicate m (zerosD [.zs]) = (List.replicate m (bs [])).map stD := by rw [List.map_replicate]; rfl
theorem flat_by (l : List UInt8) : flatEs (l.map byD) := fun e he d hd => by obtain ⟨b, _, rfl⟩ := List.mem_map.1 he; simp at hd; subst hd; rfl
theorem flat_in (l : List Int) : flatEs (l.map inD) := fun e he d hd => by obtain ⟨b, _, rfl⟩ := List.mem_map.1 he; simp at hd; subst hd; rfl
theorem flat_st (l : List ByteArray) : flatEs (l.map stD) := fun e he d hd => by obtain ⟨b, _, rfl⟩ := List.mem_map.1 he; simp at hd; subst hd; rfl
theorem flat_bo (l : List Bool) : flatEs (l.map boD) := fun e he d hd => by obtain ⟨b, _, rfl⟩ := List.mem_map.1 he; simp at hd; subst hd; rfl
theorem flat_cl {es : List (List DV)} (h : (es.all fun e => e.all flatD) = true) : flatEs es := fun e he d hd => List.all_eq_true.1 (List.all_eq_true.1 h e he) d hd
theorem u8_mod (n : Int) : u8 (n % 256) = u8 n := by simp [u8]
theorem flat_nil : flatEs [] := fun e he => by simp at he
theorem flat_app {a b : List (List DV)} (ha : flatEs a) (hb : flatEs b) : flatEs (a ++ b) := fun e he => (List.mem_append.1 he).elim (ha e) (hb e)
theorem map_app {α : Type} (f : α → List DV) (a b : List α) : a.map f ++ b.map f = (a ++ b).map f := (List.map_append ..).symm
theorem map_snoc {α : Type} (f : α → List DV) (a : List α) (x : α) : a.map f ++ [f x] = (a ++ [x]).map f := by simp
theorem map_one {α : Type} (f : α → List DV) (x : α) : [f x] = [x].map f := rfl
theorem get_by (l : List UInt8) {n m : Nat} (h : n = m) (hm : m < l.length) : (l.map byD)[n]? = some (byD (l.getD m 0)) := by subst h; simp [List.getD, hm]
theorem pick_by (l : List UInt8) {n : Int} {m : Nat} (h : n = m) (hm : m < l.length) : 0 ≤ n ∧ (l.map byD)[n.toNat]? = some (byD (l.getD m 0)) := ⟨by omega, get_by l (by omega) hm⟩
theorem len_cl {es : List (List DV)} {k : Nat} (h : (es.all fun e => Nat.beq e.length k) = true) : ∀ e ∈ es, e.length = k := fun e he => Nat.eq_of_beq_eq_true (List.all_eq_true.1 h e he)
theorem len_app {a b : List (List DV)} {k : Nat} (ha : ∀ e ∈ a, e.length = k) (hb : ∀ e ∈ b, e.length = k) : ∀ e ∈ a ++ b, e.length = k := fun e he => (List.mem_append.1 he).elim (ha e) (hb e)
theorem len_in (l : List Int) : ∀ e ∈ l.map inD, e.length = 1 := all_map _ _ _ fun _ => rfl
theorem len_st (l : List ByteArray) : ∀ e ∈ l.map stD, e.length = 1 := all_map _ _ _ fun _ => rfl
attribute [simp] chunks
theorem len_by (l : List UInt8) : ∀ e ∈ l.map byD, e.length = 1 := all_map _ _ _ fun _ => rfl
theorem set_byN (l : List UInt8) (n : Nat) (c : DV) (b : UInt8) : (l.map byD).set (addN 0 (n : Int).toNat) (splice [c] 0 [.sc (.int .u8 b.toNat)]) = (l.set n b).map byD := by
  rw [addN_eq, List.map_set, show 0 + (n : Int).toNat = n by omega]; rfl
theorem set_byI (l : List UInt8) (n : Int) (c : DV) (b : UInt8) : (l.map byD).set (addN 0 n.toNat) (splice [c] 0 [.sc (.int .u8 b.toNat)]) = (l.set n.toNat b).map byD := by
  rw [addN_eq, List.map_set, Nat.zero_add]; rfl
theorem set_inN (l : List Int) (n : Nat) (c : DV) (b : Int) : (l.map inD).set (addN 0 (n : Int).toNat) (splice [c] 0 [.sc (.int .i64 b)]) = (l.set n b).map inD := by
  rw [addN_eq, List.map_set, show 0 + (n : Int).toNat = n by omega]; rfl
theorem set_inI (l : List Int) (n : Int) (c : DV) (b : Int) : (l.map inD).set (addN 0 n.toNat) (splice [c] 0 [.sc (.int .i64 b)]) = (l.set n.toNat b).map inD := by
  rw [addN_eq, List.map_set, Nat.zero_add]; rfl
theorem set_stN (l : List ByteArray) (n : Nat) (c : DV) (b : ByteArray) : (l.map stD).set (addN 0 (n : Int).toNat) (splice [c] 0 [.sc (.string b)]) = (l.set n b).map stD := by
  rw [addN_eq, List.map_set, show 0 + (n : Int).toNat = n by omega]; rfl
theorem set_boN (l : List Bool) (n : Nat) (c : DV) (b : Bool) : (l.map boD).set (addN 0 (n : Int).toNat) (splice [c] 0 [.sc (.bool b)]) = (l.set n b).map boD := by
  rw [addN_eq, List.map_set, show 0 + (n : Int).toNat = n by omega]; rfl
theorem set_boI (l : List Bool) (n : Int) (c : DV) (b : Bool) : (l.map boD).set (addN 0 n.toNat) (splice [c] 0 [.sc (.bool b)]) = (l.set n.toNat b).map boD := by
  rw [addN_eq, List.map_set, Nat.zero_add]; rfl
theorem get_mapN {α : Type} (f : α → List DV) (l : List α) (n : Nat) (h : n < l.length) : (l.map f)[addN 0 (n : Int).toNat]? = some (f l[n]) := by
  rw [addN_eq, show 0 + (n : Int).toNat = n by omega, List.getElem?_map, List.getElem?_eq_getElem h]; rfl
theorem get_mapI {α : Type} (f : α → List DV) (l : List α) (n : Int) (h0 : 0 ≤ n) (h : n < l.length) : (l.map f)[addN 0 n.toNat]? = some (f (l[n.toNat]'(by omega))) := by
  rw [addN_eq, Nat.zero_add, List.getElem?_map, List.getElem?_eq_getElem (by omega)]; rfl
/-- Made over up to a place. -/
def over {α : Type} (m t : List α) (j : Nat) : List α := m.take j ++ t.drop j
theorem over_set {α : Type} {m t : List α} (h : m.length = t.length) {j : Nat} (hj : j < t.length) : (over m t j).set j (m[j]'(by omega)) = over m t (j + 1) := by
  have h1 : (m.take j).length = j := by simp; omega
  rw [over, List.set_append, if_neg (by omega), h1, Nat.sub_self, List.drop_eq_getElem_cons hj]
  simp only [List.set_cons_zero, over]
  rw [List.take_succ_eq_append_getElem (show j < m.length by omega), List.append_assoc]; rfl
theorem over_end {α : Type} {m t : List α} (h : m.length = t.length) {j : Nat} (hj : t.length ≤ j) : over m t j = m := by
  rw [over, List.take_of_length_le (by omega), List.drop_eq_nil_of_le hj]; simp
theorem over_get {α : Type} {m t : List α} (h : m.length = t.length) {j : Nat} (hj : j < t.length) : (over m t j)[j]? = some t[j] := by
  rw [over, List.getElem?_append_right (by simp; omega)]
  simp [h, Nat.min_eq_left (Nat.le_of_lt hj), hj]
theorem fz_self {α : Type} (l : List α) (f : α → List DV) (h : ∀ a, (f a).map some = (f a).map fzD) : Fz (l.map f) (l.map f) := Fz.map l f f h
/-- Values that read as they stand. -/
def plainB (es : List (List DV)) : Bool := es.all fun e => e.all fun d => match d with | .sc _ => true | .sl _ => true | _ => false
theorem fz_pl {es : List (List DV)} (h : plainB es = true) : Fz es es := by
  unfold Fz
  refine List.map_congr_left fun e he => List.map_congr_left fun d hd => ?_
  have := List.all_eq_true.1 (List.all_eq_true.1 h e he) d hd
  cases d <;> simp_all [fzD]
theorem SlF.self {α : Type} (l : List α) (f : α → List DV) {n : Nat} (h : n = l.length) (hf : ∀ a, (f a).map some = (f a).map fzD) : SlF (l.map f) 0 n (l.map f) := SlF.full (by simpa using h) (fz_self l f hf)
theorem SlF.pre {α : Type} (l : List α) (f : α → List DV) {k : Nat} (h : k ≤ l.length) (hf : ∀ a, (f a).map some = (f a).map fzD) : SlF (l.map f) 0 k ((l.take k).map f) :=
  SlF.of ⟨by simp; omega, by simp [List.map_take]⟩ (fz_self _ f hf)
theorem SlF.lit {es : List (List DV)} {n : Nat} (h : n = es.length) (hp : plainB es = true) : SlF es 0 n es := SlF.full h (fz_pl hp)
theorem SlF.same {es : List (List DV)} {n : Nat} (h : n = es.length) (hf : Fz es es) : SlF es 0 n es := SlF.full h hf
theorem SlOf.pre {α : Type} (f : α → List DV) (l : List α) {k : Nat} (h : k ≤ l.length) : SlOf (l.map f) 0 k ((l.take k).map f) := ⟨by simp; omega, by simp [List.map_take]⟩
/-- Texts by their bytes. -/
abbrev tsD (t : List UInt8) : List DV := [.sc (.string (bs t))]
abbrev cTs (l : List (List UInt8)) : CV := .dv (.sl (l.map tsD))
abbrev vTs (l : List (List UInt8)) : SV := .one (cTs l)
theorem flat_ts (l : List (List UInt8)) : flatEs (l.map tsD) := fun e he d hd => by obtain ⟨b, _, rfl⟩ := List.mem_map.1 he; simp at hd; subst hd; rfl
theorem len_ts (l : List (List UInt8)) : ∀ e ∈ l.map tsD, e.length = 1 := all_map _ _ _ fun _ => rfl
theorem set_tsN (l : List (List UInt8)) (n : Nat) (c : DV) (b : List UInt8) : (l.map tsD).set (addN 0 (n : Int).toNat) (splice [c] 0 [.sc (.string (bs b))]) = (l.set n b).map tsD := by
  rw [addN_eq, List.map_set, show 0 + (n : Int).toNat = n by omega]; rfl
theorem set_tsI (l : List (List UInt8)) (n : Int) (c : DV) (b : List UInt8) : (l.map tsD).set (addN 0 n.toNat) (splice [c] 0 [.sc (.string (bs b))]) = (l.set n.toNat b).map tsD := by
  rw [addN_eq, List.map_set, Nat.zero_add]; rfl
theorem rep_ts (m : Nat) : List.replicate m (zerosD [.zs]) = (List.replicate m ([] : List UInt8)).map tsD := by rw [List.map_replicate]; rfl
theorem bs_ne (a b : List UInt8) : (!((ByteArray.mk a.toArray).toList == (ByteArray.mk b.toArray).toList)) = !decide (a = b) := by rw [bs_beq]
end Go.Proofs.Ytpdjehnlejjfmaa.D
