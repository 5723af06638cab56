/- The steps of a run: a function's end; what a state says less. -/
import Derived.Test.YtpdjehnlejjfmaaProg
import Derived.KernelRfl
import Derived.Test.YtpdjehnlejjfmaaJ4
set_option linter.unusedVariables false
set_option linter.unusedSimpArgs false
namespace Go.Proofs.Ytpdjehnlejjfmaa.D
open Go.RowKit
set_option linter.unusedVariables false

section
variable {P : Program} {tb : TypeId → Option TyI} {S : St}

def resE (tb : TypeId → Option TyI) (S : St) : List ResultVar → (List SV → Prop) → Prop
 | [], K => K []
 | .tmp t :: rs, K => resE tb S rs fun vs => K (S.T t :: vs)
 | .cell t ty :: rs, K =>
  match tb ty, S.T t with
  | some i, .one c => ptrE S i c fun v => resE tb S rs fun vs => K (v :: vs)
  | _, _ => False
theorem resE_ok : ∀ {rs : List ResultVar} {K K' : List SV → Prop}, (∀ vs, K vs → K' vs) → resE tb S rs K → resD tb S rs K'
 | [], _, _, hk, h => hk _ h
 | .tmp t :: rs, K, K', hk, h => resE_ok (rs := rs) (fun vs h => hk _ h) h
 |.cell t ty :: rs, K, K', hk, h => by
  simp only [resE] at h; simp only [resD]
  split at h
  ·rename_i e1 e2; simp only [e1, e2]
   obtain ⟨cs, o, h1, h2⟩ := ptrE_ok (K' := fun v => resD tb S rs fun vs => K' (v :: vs)) (fun v h => resE_ok (fun vs h => hk _ h) h) h
   simp only [h1]
   exact h2
  ·exact h.elim
def cvNames (c : CV) : List Nat := match c with | .os p _ _ _ => [p.top] | .ptr p _ => [p] | .ep p _ _ _ => [p.top] | _ => []
def boxesNames (S : St) : Nat → List Nat
 | 0 => []
 | n + 1 => boxesNames S n ++ (boxNames S n).map Nm.top
def addNewN (xs : List Nat) (x : Nat) : List Nat := match xs.any (fun y => Nat.beq x y) with | true => xs | false => xs ++ [x]
def uniqN (xs : List Nat) : List Nat := xs.foldl addNewN []
def upTo : Nat → List Nat | 0 => [] | n + 1 => upTo n ++ [n]
theorem upTo_eq (n : Nat) : upTo n = List.range n := by
 induction n with
 | zero => rfl
 | succ n ih => simp [upTo, ih, List.range_succ]
inductive Out (X : Bool → List Nat → List (Nat × Nat) → Prop) : Prop
 | mk (nl : Bool) (keep : List Nat) (z : List (Nat × Nat)) (h : X nl keep z)
def zlook (z : List (Nat × Nat)) (i : Nat) : Option Nat := match z with | [] => none | (j, k) :: r => match Nat.beq i j with | true => some k | false => zlook r i
def zCs (nl : Bool) (z : List (Nat × Nat)) : Nat → List CV → List CV × List (Nat × Nat)
 | _, [] => ([], [])
 | i, c :: cs =>
  match c with
  |.nil => (match zlook z i with
   | some k => (.os (.v (1000000 + i)) k 0 0 :: (zCs nl z (i + 1) cs).1, (1000000 + i, k) :: (zCs nl z (i + 1) cs).2)
   | none => ((match nl with | true => .dv (.sl []) | false => .nil) :: (zCs nl z (i + 1) cs).1, (zCs nl z (i + 1) cs).2))
  | c => (c :: (zCs nl z (i + 1) cs).1, (zCs nl z (i + 1) cs).2)
theorem zCs_wk {nl : Bool} {z : List (Nat × Nat)} : ∀ (cs : List CV) (i : Nat), wkCs cs (zCs nl z i cs).1
 | [], _ => trivial
 |c :: cs, i => by
  unfold zCs
  split
  ·split
   ·exact ⟨.inr ⟨rfl, .inr ⟨_, _, rfl⟩⟩, zCs_wk cs _⟩
   ·cases nl
    ·exact ⟨.inl rfl, zCs_wk cs _⟩
    ·exact ⟨.inr ⟨rfl, .inl rfl⟩, zCs_wk cs _⟩
  ·exact ⟨.inl rfl, zCs_wk cs _⟩
def zPs (nl : Bool) (z : List (Nat × Nat)) : Nat → List (Bool × List CV) → List (Bool × List CV) × List (Nat × Nat)
 | _, [] => ([], [])
 | i, (b, cs) :: ps => ((b, (zCs nl z i cs).1) :: (zPs nl z (i + cs.length) ps).1, (zCs nl z i cs).2 ++ (zPs nl z (i + cs.length) ps).2)
theorem zPs_wk {nl : Bool} {z : List (Nat × Nat)} : ∀ (ps : List (Bool × List CV)) (i : Nat), wkPs ps (zPs nl z i ps).1
 | [], _ => trivial
 | (b, cs) :: ps, i => ⟨⟨rfl, zCs_wk cs i⟩, zPs_wk ps _⟩
def zS (nl : Bool) (z : List (Nat × Nat)) : SV → SV
 | .one c => (match (zCs nl z 0 [c]).1 with | [c'] => .one c' | _ => .one c)
 | .agg cs => .agg (zCs nl z 0 cs).1
 | .tup ps => .tup (zPs nl z 0 ps).1
 | .arr ds => .arr ds
def zZ (nl : Bool) (z : List (Nat × Nat)) : SV → List (Nat × Nat)
 | .one c => (zCs nl z 0 [c]).2
 | .agg cs => (zCs nl z 0 cs).2
 | .tup ps => (zPs nl z 0 ps).2
 | .arr _ => z
theorem zS_wk {nl : Bool} {z : List (Nat × Nat)} (sv : SV) : wkS sv (zS nl z sv) := by
 cases sv with
 | one c =>
  simp only [zS]
  have := zCs_wk (nl := nl) (z := z) [c] 0
  split
  ·rename_i c' e; rw [e] at this; exact this.1
  ·exact .inl rfl
 | agg cs => exact zCs_wk cs 0
 | tup ps => exact zPs_wk ps 0
 | arr ds => exact rfl
def emptiesE (S : St) : List (Nat × Nat) → (St → Prop) → Prop
 | [], K => K S
 | (p, k) :: zs, K => chk (fresh S p) (fN p fun p => emptiesE { S with L := upd S.L p (some (.own k [])) } zs K)
theorem emptiesE_ok : ∀ {zs : List (Nat × Nat)} {S : St} {K : St → Prop}, emptiesE S zs K → emptiesOk S zs ∧ K (S.empties zs)
 | [], _, _, h => ⟨trivial, h⟩
 |(p, k) :: zs, S, K, h => by
  obtain ⟨h1, h2⟩ := chk_iff.1 h
  obtain ⟨h3, h4⟩ := emptiesE_ok (fN_iff.1 h2)
  exact ⟨⟨fresh_iff h1, h3⟩, h4⟩
def keepNames (keep : List Nat) : SV → List Nat
 | .one c => (match keep.any (Nat.beq 0) with | true => cvNames c | false => [])
 | .agg cs => (match keep.any (Nat.beq 0) with | true => cs.foldr (fun c r => cvNames c ++ r) [] | false => [])
 | .tup ps => (ps.foldl (fun r p => (r.1 + 1, match keep.any (Nat.beq r.1) with | true => r.2 ++ p.2.foldr (fun c r => cvNames c ++ r) [] | false => r.2)) (0, [])).2
 | .arr _ => []
def argPsE (S : St) (out : List Nm) : List (Bool × List CV) → (List (Bool × List CV) → Prop) → Prop
 | [], K => K []
 | (b, cs) :: ps, K => argCsE true S out cs fun cs' => argPsE S out ps fun ps' => K ((b, cs') :: ps')
theorem argPsE_ok {out : List Nm} (hg : goodN out = true) : ∀ {ps : List (Bool × List CV)} {K K' : List (Bool × List CV) → Prop}, (∀ x, K x → K' x) → argPsE S out ps K → argPs S out ps K'
 | [], _, _, hk, h => hk _ h
 | (b, cs) :: ps, K, K', hk, h => argCsE_ok hg (fun _ h => argPsE_ok hg (fun _ h => hk _ h) h) h
def argRE (S : St) (out : List Nm) (v : SV) (K : SV → Prop) : Prop :=
 match v with
 | .one c => argCE true S out c fun c' => K (.one c')
 | .agg cs => argCsE true S out cs fun cs' => K (.agg cs')
 | .tup ps => argPsE S out ps fun ps' => K (.tup ps')
 | .arr ds => K (.arr ds)
theorem argRE_ok {out : List Nm} (hg : goodN out = true) {v : SV} {K K' : SV → Prop} (hk : ∀ x, K x → K' x) (h : argRE S out v K) : argR S out v K' := by
 cases v with
 | one c => exact argCE_ok hg (fun _ h => hk _ h) h
 | agg cs => exact argCsE_ok hg (fun _ h => hk _ h) h
 | tup ps => exact argPsE_ok hg (fun _ h => hk _ h) h
 | arr ds => exact hk _ h
def outB (out : List Nm) (p : Nat) : Bool := match idxV p out with | some _ => true | none => false
theorem outB_ok {out : List Nm} {nm : Nm} (h : outB out nm.top = true) : mapN out nm ≠ none := by
 unfold outB at h
 rw [idxV_eq] at h
 cases e : idxOf (.v nm.top) out with
 | none => rw [e] at h; simp at h
 | some i =>
  unfold mapN
  cases nm with
  | v p => simp only [Nm.top] at e; simp [e]
  | h p a b =>
   simp only [Nm.top] at e
   cases idxOf (.h p a b) out <;> simp [e]
def cleanCE (S : St) (out : List Nm) (c : CV) (X : Prop) : Prop :=
 match c with
 | .dv d => chk (flatD d) X
 | .dp _ _ => False
 | .os p _ _ _ => (match outB out p.top with | true => X | false => ownE S p fun _ es => Need (flatEs es) X)
 | _ => X
theorem cleanCE_ok {out : List Nm} {c : CV} {X : Prop} (h : cleanCE S out c X) : cleanC S out c ∧ X := by
 unfold cleanCE at h; unfold cleanC
 split at h
 ·exact chk_iff.1 h
 ·exact h.elim
 ·split at h
  ·rename_i e
   exact ⟨.inl (outB_ok e), h⟩
  ·obtain ⟨k, es, e, h⟩ := ownE_ok h
   simp only [e]; exact ⟨.inr h.1, h.2⟩
 ·rename_i h1 h2 h3
  refine ⟨?_, h⟩
  split
  ·exact absurd rfl (h1 _)
  ·exact absurd rfl (h2 _ _)
  ·exact absurd rfl (h3 _ _ _ _)
  ·trivial
def cleanCsE (S : St) (out : List Nm) : List CV → Prop → Prop
 | [], X => X
 | c :: cs, X => cleanCE S out c (cleanCsE S out cs X)
theorem cleanCsE_ok {out : List Nm} : ∀ {cs : List CV} {X : Prop}, cleanCsE S out cs X → (∀ c ∈ cs, cleanC S out c) ∧ X
 | [], _, h => ⟨by simp, h⟩
 |c :: cs, X, h => by
  obtain ⟨h1, h2⟩ := cleanCE_ok h
  obtain ⟨h3, h4⟩ := cleanCsE_ok h2
  exact ⟨fun x hx => (List.mem_cons.1 hx).elim (fun e => e ▸ h1) (h3 x), h4⟩
def cleanPsE (S : St) (out : List Nm) : List (Bool × List CV) → Prop → Prop
 | [], X => X
 | p :: ps, X => cleanCsE S out p.2 (cleanPsE S out ps X)
theorem cleanPsE_ok {out : List Nm} : ∀ {ps : List (Bool × List CV)} {X : Prop}, cleanPsE S out ps X → (∀ p ∈ ps, ∀ c ∈ p.2, cleanC S out c) ∧ X
 | [], _, h => ⟨by simp, h⟩
 |p :: ps, X, h => by
  obtain ⟨h1, h2⟩ := cleanCsE_ok h
  obtain ⟨h3, h4⟩ := cleanPsE_ok h2
  exact ⟨fun x hx => (List.mem_cons.1 hx).elim (fun e => e ▸ h1) (h3 x), h4⟩
def cleanSE (S : St) (out : List Nm) (v : SV) (X : Prop) : Prop :=
 match v with
 | .one c => cleanCE S out c X
 | .agg cs => cleanCsE S out cs X
 | .tup ps => cleanPsE S out ps X
 | .arr ds => Need (∀ d ∈ ds, flatD d = true) X
theorem cleanSE_ok {out : List Nm} {v : SV} {X : Prop} (h : cleanSE S out v X) : cleanS S out v ∧ X := by
 cases v with
 | one c => exact cleanCE_ok h
 | agg cs => exact cleanCsE_ok h
 | tup ps => exact cleanPsE_ok h
 | arr ds => exact ⟨fun d hd => h.1 d hd, h.2⟩
def cleanLE (S : St) (out : List Nm) : List Nat → Prop → Prop
 | [], X => X
 |p :: ps, X => match S.L p with
  | some (.own _ es) => Need (flatEs es) (cleanLE S out ps X)
  | some (.box cs) => cleanCsE S out cs (cleanLE S out ps X)
  | none => cleanLE S out ps X
theorem cleanLE_ok {out : List Nm} : ∀ {ps : List Nat} {X : Prop}, cleanLE S out ps X → (∀ p ∈ ps, ∀ r, S.L p = some r → cleanR S out r) ∧ X
 | [], _, h => ⟨by simp, h⟩
 |p :: ps, X, h => by
  unfold cleanLE at h
  split at h
  ·rename_i e
   obtain ⟨h1, h2⟩ := h
   obtain ⟨h3, h4⟩ := cleanLE_ok h2
   exact ⟨fun x hx r hr => (List.mem_cons.1 hx).elim (fun e' => by subst e'; rw [e] at hr; injection hr with hr; subst hr; exact h1) (fun hx => h3 x hx r hr), h4⟩
  ·rename_i e
   obtain ⟨h1, h2⟩ := cleanCsE_ok h
   obtain ⟨h3, h4⟩ := cleanLE_ok h2
   exact ⟨fun x hx r hr => (List.mem_cons.1 hx).elim (fun e' => by subst e'; rw [e] at hr; injection hr with hr; subst hr; exact h1) (fun hx => h3 x hx r hr), h4⟩
  ·rename_i e
   obtain ⟨h3, h4⟩ := cleanLE_ok h
   exact ⟨fun x hx r hr => (List.mem_cons.1 hx).elim (fun e' => by subst e'; rw [e] at hr; simp at hr) (fun hx => h3 x hx r hr), h4⟩
def cleanE (cl : Bool) (S : St) (out : List Nat) (vs : List Nm) (v : SV) (X : Prop) : Prop := match cl with | true => cleanSE S vs v (cleanLE S vs out X) | false => X
def madeB (out : List Nm) (c : CV) : Bool := match c with | .os p _ _ _ => outB out p.top || newB p.top | .ep p _ _ _ => outB out p.top | _ => true
theorem madeB_ok {out : List Nm} {c : CV} (h : madeB out c = true) : borN out c := by
 unfold madeB at h; unfold borN
 split at h
 ·simp only [Bool.or_eq_true] at h
  exact h.imp outB_ok newB_ok
 ·exact outB_ok h
 ·rename_i hne hne2
  split
  ·exact absurd rfl (hne _ _ _ _)
  ·exact absurd rfl (hne2 _ _ _ _)
  ·trivial
def madeS (out : List Nm) : SV → Bool
 | .one c => madeB out c
 | .agg cs => cs.all (madeB out)
 | .tup qs => qs.all fun q => q.2.all (madeB out)
 | .arr _ => true
theorem madeS_ok {out : List Nm} {v : SV} (h : madeS out v = true) : borS out v := by
 cases v with
 | one c => exact madeB_ok h
 | agg cs => exact fun c hc => madeB_ok (List.all_eq_true.1 h c hc)
 | tup qs => exact fun q hq c hc => madeB_ok (List.all_eq_true.1 (List.all_eq_true.1 h q hq) c hc)
 | arr ds => trivial
def madeL (S : St) (vs : List Nm) : List Nat → Bool
 | [] => true
 | p :: ps => (match S.L p with | some (.box cs) => cs.all (madeB vs) | _ => true) && madeL S vs ps
theorem madeL_ok {vs : List Nm} : ∀ {ps : List Nat}, madeL S vs ps = true → ∀ p ∈ ps, ∀ cs, S.L p = some (.box cs) → ∀ c ∈ cs, borN vs c
 | [], _, p, hp => by simp at hp
 |q :: ps, h, p, hp => by
  simp only [madeL, Bool.and_eq_true] at h
  rcases List.mem_cons.1 hp with rfl | hp
  ·intro cs hcs c hc
   rw [hcs] at h
   exact madeB_ok (List.all_eq_true.1 h.1 c hc)
  ·exact madeL_ok h.2 p hp
def finE (S : St) (sv : SV) (n : Nat) (mv : List Nat) (cl : Bool) (Post : SV → List Row → Prop) : Prop :=
 Out fun nl keep z => emptiesE S (zZ nl z sv) fun S => fS (zS nl z sv) fun sv =>
  fNs (upTo n ++ (uniqN (keepNames keep sv ++ boxesNames S n)).filter fun p => Nat.ble n p)
   fun out => fNms (out.map .v) fun vs => chk (nodupB out && (S.mv.all fun p => Nat.ble n p || mv.any (Nat.beq p)) && goodN vs && (out.drop n).all newB && madeS vs sv && madeL S vs out)
    (cleanE cl S out vs sv (argRE S vs sv fun res => rowsE true S vs vs fun Lo => fS res fun res => Done (Post res Lo)))
theorem finE_ok {sv : SV} {n : Nat} {mv : List Nat} {cl : Bool} {Post : SV → List Row → Prop} (h : finE S sv n mv cl Post) : finD S sv n mv cl Post := by
 obtain ⟨nl, keep, z, h⟩ := h
 obtain ⟨hz, h⟩ := emptiesE_ok h
 have h := fNms_iff.1 (fNs_iff.1 (fS_iff.1 h))
 generalize hSe : S.empties (zZ nl z sv) = Se at h
 generalize hout : upTo n ++ (uniqN (keepNames keep (zS nl z sv) ++ boxesNames Se n)).filter (fun p => Nat.ble n p) = out at h
 obtain ⟨h1, h2⟩ := chk_iff.1 h
 simp only [Bool.and_eq_true] at h1
 obtain ⟨⟨⟨⟨⟨h1, hm⟩, hg⟩, hnew⟩, hb1⟩, hb2⟩ := h1
 have hm : ∀ p ∈ Se.mv, p < n → p ∈ mv := fun p hp hlt => by
  have h5 := List.all_eq_true.1 hm p hp
  simp only [Bool.or_eq_true] at h5
  rcases h5 with h5 | h5
  ·have := Nat.le_of_ble_eq_true h5; omega
  ·obtain ⟨x, hx, h6⟩ := List.any_eq_true.1 h5
   rw [Nat.eq_of_beq_eq_true h6]; exact hx
 have h3 : (cl = true → cleanS Se (out.map .v) (zS nl z sv) ∧ ∀ p ∈ out, ∀ r, Se.L p = some r → cleanR Se (out.map .v) r) ∧ argRE Se (out.map .v) (zS nl z sv) fun res => rowsE true Se (out.map .v) (out.map .v) fun Lo => fS res fun res => Done (Post res Lo) := by
  cases cl with
  | false => exact ⟨fun h => by simp at h, h2⟩
  | true =>
   obtain ⟨g1, g2⟩ := cleanSE_ok h2
   obtain ⟨g3, g4⟩ := cleanLE_ok g2
   exact ⟨fun _ => ⟨g1, g3⟩, g4⟩
 refine ⟨zZ nl z sv, zS nl z sv, out, ⟨hz, zS_wk sv, by rw [hSe]; exact hm⟩, ⟨nodupB_ok h1, by rw [← hout, upTo_eq, List.take_append_of_le_length (by simp)]; simp, fun p hp => newB_ok (List.all_eq_true.1 hnew p hp)⟩, ?_⟩
 rw [hSe]
 exact ⟨h3.1, ⟨madeS_ok hb1, madeL_ok hb2⟩, argRE_ok hg (fun _ h => rowsE_ok hg (fun _ h => (fS_iff.1 h).ok) h) h3.2⟩
def joinE (vs : List SV) (K : SV → Prop) : Prop :=
 match vs with
 | [v] => K v
 | [] => K (.tup [])
 | u :: v :: vs => match pairsS (u :: v :: vs) with | some ps => K (.tup ps) | none => False
theorem joinE_ok {vs : List SV} {K K' : SV → Prop} (hk : ∀ v, K v → K' v) (h : joinE vs K) : joinD vs K' := by
 unfold joinE at h; unfold joinD
 split at h
 ·exact hk _ h
 ·simp only [pairsS]; exact hk _ h
 ·split at h
  ·rename_i e; simp only [e]; exact hk _ h
  ·exact h.elim
def retE (tb : TypeId → Option TyI) (rs : List ResultVar) (n : Nat) (mv : List Nat) (cl : Bool) (Post : SV → List Row → Prop) : Exit → St → Prop
 | .normal, S => resE tb S rs fun vs => joinE vs fun sv => finE S sv n mv cl Post
 | .ret, S => resE tb S rs fun vs => joinE vs fun sv => finE S sv n mv cl Post
 | _, _ => False
theorem retE_ok {rs : List ResultVar} {n : Nat} {mv : List Nat} {cl : Bool} {Post : SV → List Row → Prop} : ∀ e S, retE tb rs n mv cl Post e S → retD tb rs n mv cl Post e S := by
 intro e S h
 cases e <;> first
  | exact h.elim
  | exact resE_ok (fun vs h => joinE_ok (fun v h => finE_ok h) h) h

def argT (args : List SV) (t : Nat) : SV := match args[t]? with | some v => v | none => .one .dead
theorem CallM.ofE (T : Tab P) {f : FuncId} {fn : Func} {c : Code} {args : List SV} {Li : List Row} {mv : List Nat} {cl : Bool} {Post : SV → List Row → Prop} (pl : Nat → Option PS) (hf : P.funcs[f]? = some fn) (hname : (fn.name == "runtime.NumGoroutine") = false) (hb : fn.body = some c)
  (hok : slotsOk fn.ntmps c = true) (hp : plansOk T.tb pl c = true) (hN : args.length ≤ fn.ntmps) (h : wpE P T.tb pl c ⟨argT args, Lof Li, []⟩ (retE T.tb fn.results.toList Li.length mv cl Post)) : CallM P f args Li mv cl Post := by
 refine CallM.of_body T hf hname hb hok hN ?_
 have := wpE_ok c _ _ _ hp retE_ok h
 have e : argT args = fun t => (args[t]?).getD (.one .dead) := by
  funext t; unfold argT; cases args[t]? <;> rfl
 rwa [e] at this

/-! What a state says less: shown cell by cell. -/
def eqNm (p' p : Nm) (X : Prop) : Prop :=
 match p', p with
 | .v p', .v p => chk (Nat.beq p' p) X
 | .h p' a' b', .h p a b => chk (Nat.beq p' p) (Need (a' = a ∧ b' = b) X)
 | _, _ => False
theorem eqNm_ok {p' p : Nm} {X : Prop} (h : eqNm p' p X) : p' = p ∧ X := by
 unfold eqNm at h
 split at h
 ·obtain ⟨h1, h2⟩ := chk_iff.1 h
  rw [Nat.eq_of_beq_eq_true h1]; exact ⟨rfl, h2⟩
 ·obtain ⟨h1, ⟨h2, h4⟩, h3⟩ := chk_iff.1 h
  rw [Nat.eq_of_beq_eq_true h1, h2, h4]; exact ⟨rfl, h3⟩
 ·exact h.elim
def eqC (S : St) (ls : List (Nat × Row)) (c c' : CV) (X : Prop) : Prop :=
 match c' with
 | .dead => X
 | .dv (.sc (.int k n)) => (match c with | .dv (.sc (.int k' n')) => chk (decide (k' = k)) (Need (n' = n) X) | _ => False)
 | .dv (.sc v) => (match c with | .dv (.sc v') => Need (v' = v) X | _ => False)
 |.dv (.sl es) => (match c with
  | .dv (.sl es') => Need (es' = es) X
  | .nil => Need ([] = es) X
  | .os p k off len => (match lookL ls p.top with | none => ownE S p fun k' es' => chk (newB p.top && Nat.beq k k') (Need (SlF es' off len es) X) | some _ => False)
  | _ => False)
 | .dv _ => False
 | .os p k off len => (match c with | .os p' k' off' len' => chk (Nat.beq k' k) (eqNm p' p (Need (off' = off ∧ len' = len) X)) | .nil => Need (0 = len) X | _ => False)
 | .nil => (match c with | .nil => X | _ => False)
 | .ptr p o => (match c with | .ptr p' o' => chk (Nat.beq p' p && Nat.beq o' o) X | _ => False)
 | .ep p k i f => Need (c = .ep p k i f) X
 | .dp cs f => Need (c = .dp cs f) X
 | .sb .. => False
theorem eqC_ok {ls : List (Nat × Row)} {c c' : CV} {X : Prop} (h : eqC S ls c c' X) : cle S ls c c' ∧ X := by
 unfold eqC at h
 split at h
 ·exact ⟨trivial, h⟩
 ·split at h
  ·obtain ⟨h1, h2, h3⟩ := chk_iff.1 h
   obtain rfl := of_decide_eq_true h1
   subst h2; exact ⟨rfl, h3⟩
  ·exact h.elim
 ·split at h
  ·obtain ⟨h2, h3⟩ := h; subst h2; exact ⟨rfl, h3⟩
  ·exact h.elim
 ·split at h
  ·obtain ⟨h2, h3⟩ := h; subst h2; exact ⟨.inl rfl, h3⟩
  ·obtain ⟨h2, h3⟩ := h; exact ⟨.inr (.inl ⟨rfl, h2.symm⟩), h3⟩
  ·split at h
   ·rename_i e1
    obtain ⟨k', es', e2, h⟩ := ownE_ok h
    obtain ⟨h1, ⟨h2, h4⟩, h3⟩ := chk_iff.1 h
    simp only [Bool.and_eq_true] at h1
    obtain rfl := Nat.eq_of_beq_eq_true h1.2
    exact ⟨.inr (.inr ⟨_, _, _, _, _, rfl, e1, newB_ok h1.1, e2, h2, h4⟩), h3⟩
   ·exact h.elim
  ·exact h.elim
 ·exact h.elim
 ·split at h
  ·obtain ⟨h1, h⟩ := chk_iff.1 h
   obtain ⟨rfl, ⟨rfl, rfl⟩, h3⟩ := eqNm_ok h
   obtain rfl := Nat.eq_of_beq_eq_true h1
   exact ⟨.inl rfl, h3⟩
  ·obtain ⟨h2, h3⟩ := h; exact ⟨.inr ⟨rfl, h2.symm⟩, h3⟩
  ·exact h.elim
 ·split at h
  ·exact ⟨rfl, h⟩
  ·exact h.elim
 ·split at h
  ·obtain ⟨h1, h3⟩ := chk_iff.1 h
   simp only [Bool.and_eq_true] at h1
   obtain rfl := Nat.eq_of_beq_eq_true h1.1
   obtain rfl := Nat.eq_of_beq_eq_true h1.2
   exact ⟨rfl, h3⟩
  ·exact h.elim
 ·obtain ⟨h2, h3⟩ := h; subst h2; exact ⟨rfl, h3⟩
 ·obtain ⟨h2, h3⟩ := h; subst h2; exact ⟨rfl, h3⟩
 ·exact h.elim
def refB (ls : List (Nat × Row)) (c : CV) : Bool := match c with
 | .os p _ _ _ => (lookL ls p.top).isSome
 | .ptr p _ => (lookL ls p).isSome
 | .ep p _ _ _ => (lookL ls p.top).isSome
 | .sb .. => false
 | _ => true
theorem refB_ok {ls : List (Nat × Row)} {c : CV} (h : refB ls c = true) : refC ls c := by cases c <;> first | exact h | trivial
def eqCs (S : St) (ls : List (Nat × Row)) : List CV → List CV → Prop → Prop
 | [], [], X => X
 | c :: cs, c' :: cs', X => chk (refB ls c') (eqC S ls c c' (eqCs S ls cs cs' X))
 | _, _, _ => False
theorem eqCs_ok {ls : List (Nat × Row)} : ∀ {cs cs' : List CV} {X : Prop}, eqCs S ls cs cs' X → csle S ls cs cs' ∧ refCs ls cs' ∧ X
 | [], [], _, h => ⟨trivial, trivial, h⟩
 |c :: cs, c' :: cs', X, h => by
  obtain ⟨h1, h2⟩ := chk_iff.1 h
  obtain ⟨h3, h4⟩ := eqC_ok h2
  obtain ⟨h5, h6, h7⟩ := eqCs_ok h4
  exact ⟨⟨h3, h5⟩, ⟨refB_ok h1, h6⟩, h7⟩
 | [], _ :: _, _, h => h.elim
 | _ :: _, [], _, h => h.elim
def eqS (S : St) (ls : List (Nat × Row)) (s s' : SV) (X : Prop) : Prop :=
 match s' with
 | .one .dead => X
 | .one c' => (match s with | .one c => chk (refB ls c') (eqC S ls c c' X) | _ => False)
 | .agg cs' => (match s with | .agg cs => eqCs S ls cs cs' X | _ => False)
 | .arr ds' => (match s with | .arr ds => Need (ds = ds') X | _ => False)
 | .tup _ => False
theorem eqS_ok {ls : List (Nat × Row)} {s s' : SV} {X : Prop} (h : eqS S ls s s' X) : (sle S ls s s' ∧ refS ls s') ∧ X := by
 unfold eqS at h
 split at h
 ·exact ⟨⟨trivial, trivial⟩, h⟩
 ·rename_i c' hne
  split at h
  ·obtain ⟨h1, h2⟩ := chk_iff.1 h
   obtain ⟨h3, h4⟩ := eqC_ok h2
   refine ⟨⟨?_, refB_ok h1⟩, h4⟩
   unfold sle
   split
   ·trivial
   ·rename_i e1 e2; injection e1 with e1; injection e2 with e2; subst e1; subst e2; exact h3
   ·rename_i e1 e2; simp at e1
   ·rename_i e1 e2; simp at e1
   ·rename_i h1 h2 h3 h4; exact absurd rfl (h2 _ _ rfl)
  ·exact h.elim
 ·split at h
  ·obtain ⟨h1, h2, h3⟩ := eqCs_ok h
   exact ⟨⟨h1, h2⟩, h3⟩
  ·exact h.elim
 ·split at h
  ·exact ⟨⟨h.1, trivial⟩, h.2⟩
  ·exact h.elim
 ·exact h.elim
def eqT (S : St) (ls : List (Nat × Row)) : List (Nat × SV) → Prop → Prop
 | [], X => X
 | (i, v) :: r, X => eqS S ls (S.T i) v (eqT S ls r X)
theorem eqT_ok {ls : List (Nat × Row)} : ∀ {ts : List (Nat × SV)} {X : Prop}, eqT S ls ts X → leT S ls ts ∧ X
 | [], _, h => ⟨trivial, h⟩
 |(i, v) :: r, X, h => by
  obtain ⟨h1, h2⟩ := eqS_ok h
  obtain ⟨h3, h4⟩ := eqT_ok h2
  exact ⟨⟨h1, h3⟩, h4⟩
def eqL (S : St) (ls : List (Nat × Row)) : List (Nat × Row) → Prop
 | [] => True
 | (p, .box cs') :: rest => (match S.L p with | some (.box cs) => eqCs S ls cs cs' (eqL S ls rest) | _ => False)
 |(p, .own k es) :: rest => (match S.L p with
  | some (.own k' es') => chk (Nat.beq k' k) (Need (es' = es) (eqL S ls rest))
  | none => chk (Nat.ble 1000 p) (Need ([] = es) (eqL S ls rest))
  | _ => False)
theorem eqL_ok {ls : List (Nat × Row)} : ∀ {rest : List (Nat × Row)}, eqL S ls rest → leL S ls rest
 | [], _ => trivial
 |(p, .box cs') :: rest, h => by
  simp only [eqL] at h; simp only [leL]
  split at h
  ·rename_i e; simp only [e]
   obtain ⟨h1, h2, h3⟩ := eqCs_ok h
   exact ⟨⟨h1, h2⟩, eqL_ok h3⟩
  ·exact h.elim
 |(p, .own k es) :: rest, h => by
  simp only [eqL] at h; simp only [leL]
  split at h
  ·rename_i e; simp only [e]
   obtain ⟨h1, h2, h3⟩ := chk_iff.1 h
   obtain rfl := Nat.eq_of_beq_eq_true h1
   subst h2
   exact ⟨rfl, eqL_ok h3⟩
  ·rename_i e; simp only [e]
   obtain ⟨h1, h2, h3⟩ := chk_iff.1 h
   exact ⟨⟨h2.symm, Nat.le_of_ble_eq_true h1⟩, eqL_ok h3⟩
  ·exact h.elim
theorem LeX.of {ts : List (Nat × SV)} {ls : List (Nat × Row)} {mv : List Nat} (h : chk (S.mv.all fun p => Nat.ble 1000 p || mv.any (Nat.beq p)) (eqT S ls ts (eqL S ls ls))) : LeX S (D.mk ts ls mv) := by
 obtain ⟨hm, h⟩ := chk_iff.1 h
 refine ⟨le_mk (eqT_ok h).1 (eqL_ok (eqT_ok h).2) fun p hp => ?_⟩
 have h5 := List.all_eq_true.1 hm p hp
 simp only [Bool.or_eq_true] at h5
 rcases h5 with h5 | h5
 ·exact .inr (Nat.le_of_ble_eq_true h5)
 ·obtain ⟨x, hx, h6⟩ := List.any_eq_true.1 h5
  rw [Nat.eq_of_beq_eq_true h6]; exact .inl hx
end
end Go.Proofs.Ytpdjehnlejjfmaa.D
/- Words: numbers, bytes and lists as the runs show them. -/
namespace Go.Proofs.Ytpdjehnlejjfmaa.D
open Go.RowKit
set_option linter.unusedVariables false
set_option linter.unusedSimpArgs false

abbrev byD (b : UInt8) : List DV := [.sc (.int .u8 b.toNat)]
abbrev inD (x : Int) : List DV := [.sc (.int .i64 x)]
abbrev stD (s : ByteArray) : List DV := [.sc (.string s)]
abbrev boD (b : Bool) : List DV := [.sc (.bool b)]
abbrev vY (l : List UInt8) : SV := .one (.dv (.sl (l.map byD)))
abbrev vN (l : List Int) : SV := .one (.dv (.sl (l.map inD)))
abbrev cI (n : Int) : CV := .dv (.sc (.int .i64 n))
abbrev cS (s : ByteArray) : CV := .dv (.sc (.string s))
abbrev cY (l : List UInt8) : CV := .dv (.sl (l.map byD))
abbrev cN (l : List Int) : CV := .dv (.sl (l.map inD))
theorem Need.ways {P : Program} {tb : TypeId → Option TyI} {base : Nat} {ops : List Oper} {a b : PS} {S : St} {K : St → Prop} (h1 : planE P tb base ops a S K) (h2 : planE P tb base ops b S K) : Need (planE P tb base ops a S K) (planE P tb base ops b S K) := ⟨h1, h2⟩
abbrev CallN (P : Program) (f : FuncId) (args : List SV) (Li : List Row) (mv : List Nat) (res : SV) (Lo : List Row) : Prop := CallM P f args Li mv false fun r l => r = res ∧ l = Lo
theorem CallW.k {P : Program} {f : FuncId} {args : List SV} {Li Lo : List Row} {mv : List Nat} {res : SV} {K : List Nat → SV → List Row → Prop} (h : CallN P f args Li mv res Lo) (k : K mv res Lo) : CallW P f args Li false K :=
 CallW.n h fun _ _ h => by obtain ⟨rfl, rfl⟩ := h; exact k
theorem wdiv {a b : Int} (h0 : 0 ≤ a) (hb : 0 < b) (h : a ≤ 9223372036854775807) : IntKind.i64.wrap (a.tdiv b) = a / b := by
 rw [Int.tdiv_eq_ediv_of_nonneg h0]
 have h1 : 0 ≤ a / b := Int.ediv_nonneg h0 (by omega)
 have h2 : a / b ≤ a := Int.ediv_le_self b h0
 exact wid (by omega) (by omega)
theorem tmodn {a b : Int} (h0 : 0 ≤ a) : a.tmod b = a % b := Int.tmod_eq_emod_of_nonneg h0
theorem shr8 (a : Int) : a.fdiv (2 ^ (min (8 : Int).toNat (IntKind.i64).bits)) = a / 256 := Int.fdiv_eq_ediv_of_nonneg _ (by decide)
theorem shr16 (a : Int) : a.fdiv (2 ^ (min (16 : Int).toNat (IntKind.i64).bits)) = a / 65536 := Int.fdiv_eq_ediv_of_nonneg _ (by decide)
theorem shr24 (a : Int) : a.fdiv (2 ^ (min (24 : Int).toNat (IntKind.i64).bits)) = a / 16777216 := Int.fdiv_eq_ediv_of_nonneg _ (by decide)
theorem shr32 (a : Int) : a.fdiv (2 ^ (min (32 : Int).toNat (IntKind.i64).bits)) = a / 4294967296 := Int.fdiv_eq_ediv_of_nonneg _ (by decide)
theorem wu8 (n : Int) : IntKind.u8.wrap n = n % 256 := by simp [IntKind.wrap, IntKind.bits, IntKind.signed]
theorem wu32 (n : Int) : IntKind.u32.wrap n = n % 4294967296 := by simp [IntKind.wrap, IntKind.bits, IntKind.signed]
theorem wu64 (n : Int) : IntKind.u64.wrap n = n % 18446744073709551616 := by simp [IntKind.wrap, IntKind.bits, IntKind.signed]
theorem byLt (b : UInt8) : (b.toNat : Int) < 256 := by have := b.toNat_lt; omega
theorem wby (b : UInt8) : IntKind.i64.wrap (b.toNat : Int) = b.toNat := wid (by omega) (by have := byLt b; omega)
theorem wby32 (b : UInt8) : IntKind.u32.wrap (b.toNat : Int) = b.toNat := by have := byLt b; rw [wu32]; omega
theorem wby64 (b : UInt8) : IntKind.u64.wrap (b.toNat : Int) = b.toNat := by have := byLt b; rw [wu64]; omega
abbrev bs (t : List UInt8) : ByteArray := ⟨t.toArray⟩
@[simp] theorem size_bs (t : List UInt8) : (ByteArray.mk t.toArray).size = t.length := by simp [ByteArray.size]
theorem bs_all (s : ByteArray) : ∃ t, s = bs t := ⟨s.data.toList, by cases s; simp [bs]⟩
theorem bs_list (t : List UInt8) : (ByteArray.mk t.toArray).toList = t := by rw [ByteArray.toList_eq]
theorem bs_beq (a b : List UInt8) : ((ByteArray.mk a.toArray).toList == (ByteArray.mk b.toArray).toList) = decide (a = b) := by
 rw [bs_list, bs_list]; by_cases h : a = b <;> simp [h]
theorem bs_less (a b : List UInt8) : Op.bytesLess (ByteArray.mk a.toArray).toList (ByteArray.mk b.toArray).toList = Op.bytesLess a b := by rw [bs_list, bs_list]
theorem bs_leq (a b : List UInt8) : (Op.bytesLess (ByteArray.mk a.toArray).toList (ByteArray.mk b.toArray).toList || (ByteArray.mk a.toArray).toList == (ByteArray.mk b.toArray).toList) = (Op.bytesLess a b || decide (a = b)) := by rw [bs_less, bs_beq]
theorem bs_app (a b : List UInt8) : ByteArray.mk a.toArray ++ ByteArray.mk b.toArray = bs (a ++ b) := by
 apply ByteArray.ext; simp [ByteArray.data_append]
theorem bs_get (t : List UInt8) (i : Nat) (h : i < t.length) : 0 ≤ (i : Int) ∧ (ByteArray.mk t.toArray)[(i : Int).toNat]? = some t[i] := by
 refine ⟨by omega, ?_⟩
 have h1 : (i : Int).toNat = i := by omega
 rw [h1, getElem?_pos _ _ (by simpa using h)]
 rfl
theorem bs_int (t : List UInt8) (n : Int) (h0 : 0 ≤ n) (h : n < t.length) : 0 ≤ n ∧ (ByteArray.mk t.toArray)[n.toNat]? = some (t[n.toNat]'(by omega)) := by
 refine ⟨h0, ?_⟩
 rw [getElem?_pos _ _ (by simp; omega)]
 rfl
theorem bs_extract (t : List UInt8) (l h : Nat) : (ByteArray.mk t.toArray).extract l h = bs ((t.take h).drop l) := by
 apply ByteArray.ext
 rw [ByteArray.data_extract]
 show t.toArray.extract l h = _
 rw [List.extract_toArray, List.drop_take]
theorem bs_extract0 (t : List UInt8) (h : Nat) : (ByteArray.mk t.toArray).extract 0 h = bs (t.take h) := by rw [bs_extract]; rfl
theorem bs_extractN (t : List UInt8) (l : Nat) : (ByteArray.mk t.toArray).extract l t.length = bs (t.drop l) := by rw [bs_extract, List.take_length]
theorem sl_map {α : Type} (f : α → List DV) (l : List α) (h m : Nat) : ((l.map f).take h).drop m = ((l.take h).drop m).map f := by simp [List.map_take, List.map_drop]
theorem sl_map0 {α : Type} (f : α → List DV) (l : List α) (h : Nat) : ((l.map f).take h).drop 0 = (l.take h).map f := by simp [List.map_take]
theorem sl_mapN {α : Type} (f : α → List DV) (l : List α) (m : Nat) : ((l.map f).take l.length).drop m = (l.drop m).map f := by simp [List.map_drop, List.take_of_length_le]
theorem bnd_sub {a k y : Nat} (h : (@OfNat.ofNat Int k instOfNat) ≤ (a : Int)) (h2 : a ≤ y) : ((a : Int) - (@OfNat.ofNat Int k instOfNat)) = ((a - k : Nat) : Int) ∧ a - k ≤ y := by
 have h : ((k : Nat) : Int) ≤ a := h
 refine ⟨?_, by omega⟩
 show (a : Int) - ((k : Nat) : Int) = _
 omega
theorem bnd_add {a k y : Nat} (h : a + k ≤ y) : ((a : Int) + (k : Int)) = ((a + k : Nat) : Int) ∧ a + k ≤ y := ⟨by omega, h⟩
theorem bnd_subN {a k y : Nat} (h : k ≤ a) (h2 : a - k ≤ y) : ((a : Int) - (k : Int)) = ((a - k : Nat) : Int) ∧ a - k ≤ y := ⟨by omega, h2⟩
theorem bnd_id {a y : Nat} (h : a ≤ y) : (a : Int) = (a : Int) ∧ a ≤ y := ⟨rfl, h⟩
theorem bnd_int {n : Int} {y : Nat} (h0 : 0 ≤ n) (h : n ≤ y) : n = (n.toNat : Int) ∧ n.toNat ≤ y := ⟨by omega, by omega⟩
def u8 (n : Int) : UInt8 := UInt8.ofNat (n % 256).toNat
theorem u8_val (n : Int) : ((u8 n).toNat : Int) = n % 256 := by
 simp only [u8, UInt8.toNat_ofNat']
 have := Int.emod_nonneg n (show (256 : Int) ≠ 0 by omega)
 have := Int.emod_lt_of_pos n (show (0 : Int) < 256 by omega)
 omega
theorem wbyte (n : Int) : IntKind.u8.wrap n = ((u8 n).toNat : Int) := by rw [wu8, u8_val]

theorem bv_xor (n : Nat) {a b : Nat} (ha : a < 2 ^ n) (hb : b < 2 ^ n) : (BitVec.ofInt n (a : Int) ^^^ BitVec.ofInt n (b : Int)).toNat = a ^^^ b := by
 rw [BitVec.toNat_xor, BitVec.ofInt_natCast, BitVec.ofInt_natCast, BitVec.toNat_ofNat, BitVec.toNat_ofNat, Nat.mod_eq_of_lt ha, Nat.mod_eq_of_lt hb]
theorem xor_i64 {a b : Nat} (ha : a < 9223372036854775808) (hb : b < 9223372036854775808) : bits .xor .i64 (a : Int) (b : Int) = ((a ^^^ b : Nat) : Int) := by
 have hx : a ^^^ b < 2 ^ 63 := Nat.xor_lt_two_pow (by simpa using ha) (by simpa using hb)
 show IntKind.i64.wrap (((BitVec.ofInt 64 (a : Int) ^^^ BitVec.ofInt 64 (b : Int)).toNat : Nat) : Int) = _
 rw [bv_xor 64 (by omega) (by omega)]
 exact wid (by omega) (by omega)
theorem xor_u32 {a b : Nat} (ha : a < 4294967296) (hb : b < 4294967296) : bits .xor .u32 (a : Int) (b : Int) = ((a ^^^ b : Nat) : Int) := by
 have hx : a ^^^ b < 2 ^ 32 := Nat.xor_lt_two_pow (by simpa using ha) (by simpa using hb)
 show IntKind.u32.wrap (((BitVec.ofInt 32 (a : Int) ^^^ BitVec.ofInt 32 (b : Int)).toNat : Nat) : Int) = _
 rw [bv_xor 32 (by omega) (by omega), wu32]
 omega
theorem xor_u8 (a b : UInt8) : bits .xor .u8 (a.toNat : Int) (b.toNat : Int) = ((a ^^^ b).toNat : Int) := by
 have ha := a.toNat_lt
 have hb := b.toNat_lt
 have hx : a.toNat ^^^ b.toNat < 2 ^ 8 := Nat.xor_lt_two_pow (by simpa using ha) (by simpa using hb)
 show IntKind.u8.wrap (((BitVec.ofInt 8 (a.toNat : Int) ^^^ BitVec.ofInt 8 (b.toNat : Int)).toNat : Nat) : Int) = _
 rw [bv_xor 8 (by omega) (by omega), wu8, UInt8.toNat_xor]
 omega

theorem natlit (n : Nat) : (@OfNat.ofNat Int n instOfNat) = (n : Int) := rfl
theorem rep_by (m : Nat) : List.replicate m (zerosD [.zi .u8]) = (List.replicate m (0 : UInt8)).map byD := by rw [List.map_replicate]; rfl
theorem rep_in (m : Nat) : List.replicate m (zerosD [.zi .i64]) = (List.replicate m (0 : Int)).map inD := by rw [List.map_replicate]; rfl
theorem rep_bo (m : Nat) : List.replicate m (zerosD [.zb]) = (List.replicate m false).map boD := by rw [List.map_replicate]; rfl
theorem rep_st (m : Nat) : List.replicate m (zerosD [.zs]) = (List.replicate m (bs [])).map stD := by rw [List.map_replicate]; rfl
theorem flat_by (l : List UInt8) : flatEs (l.map byD) := fun e he d hd => by obtain ⟨b, _, rfl⟩ := List.mem_map.1 he; simp at hd; subst hd; rfl
theorem flat_in (l : List Int) : flatEs (l.map inD) := fun e he d hd => by obtain ⟨b, _, rfl⟩ := List.mem_map.1 he; simp at hd; subst hd; rfl
theorem flat_st (l : List ByteArray) : flatEs (l.map stD) := fun e he d hd => by obtain ⟨b, _, rfl⟩ := List.mem_map.1 he; simp at hd; subst hd; rfl
theorem flat_bo (l : List Bool) : flatEs (l.map boD) := fun e he d hd => by obtain ⟨b, _, rfl⟩ := List.mem_map.1 he; simp at hd; subst hd; rfl
theorem flat_cl {es : List (List DV)} (h : (es.all fun e => e.all flatD) = true) : flatEs es := fun e he d hd => List.all_eq_true.1 (List.all_eq_true.1 h e he) d hd
theorem map_app {α : Type} (f : α → List DV) (a b : List α) : a.map f ++ b.map f = (a ++ b).map f := (List.map_append ..).symm
theorem map_snoc {α : Type} (f : α → List DV) (a : List α) (x : α) : a.map f ++ [f x] = (a ++ [x]).map f := by simp
attribute [simp] chunks
theorem set_byN (l : List UInt8) (n : Nat) (c : DV) (b : UInt8) : (l.map byD).set (addN 0 (n : Int).toNat) (splice [c] 0 [.sc (.int .u8 b.toNat)]) = (l.set n b).map byD := by
 rw [addN_eq, List.map_set, show 0 + (n : Int).toNat = n by omega]; rfl
theorem set_byI (l : List UInt8) (n : Int) (c : DV) (b : UInt8) : (l.map byD).set (addN 0 n.toNat) (splice [c] 0 [.sc (.int .u8 b.toNat)]) = (l.set n.toNat b).map byD := by
 rw [addN_eq, List.map_set, Nat.zero_add]; rfl
theorem set_inN (l : List Int) (n : Nat) (c : DV) (b : Int) : (l.map inD).set (addN 0 (n : Int).toNat) (splice [c] 0 [.sc (.int .i64 b)]) = (l.set n b).map inD := by
 rw [addN_eq, List.map_set, show 0 + (n : Int).toNat = n by omega]; rfl
theorem set_inI (l : List Int) (n : Int) (c : DV) (b : Int) : (l.map inD).set (addN 0 n.toNat) (splice [c] 0 [.sc (.int .i64 b)]) = (l.set n.toNat b).map inD := by
 rw [addN_eq, List.map_set, Nat.zero_add]; rfl
theorem set_stN (l : List ByteArray) (n : Nat) (c : DV) (b : ByteArray) : (l.map stD).set (addN 0 (n : Int).toNat) (splice [c] 0 [.sc (.string b)]) = (l.set n b).map stD := by
 rw [addN_eq, List.map_set, show 0 + (n : Int).toNat = n by omega]; rfl
theorem set_boN (l : List Bool) (n : Nat) (c : DV) (b : Bool) : (l.map boD).set (addN 0 (n : Int).toNat) (splice [c] 0 [.sc (.bool b)]) = (l.set n b).map boD := by
 rw [addN_eq, List.map_set, show 0 + (n : Int).toNat = n by omega]; rfl
theorem set_boI (l : List Bool) (n : Int) (c : DV) (b : Bool) : (l.map boD).set (addN 0 n.toNat) (splice [c] 0 [.sc (.bool b)]) = (l.set n.toNat b).map boD := by
 rw [addN_eq, List.map_set, Nat.zero_add]; rfl
theorem get_mapN {α : Type} (f : α → List DV) (l : List α) (n : Nat) (h : n < l.length) : (l.map f)[addN 0 (n : Int).toNat]? = some (f l[n]) := by
 rw [addN_eq, show 0 + (n : Int).toNat = n by omega, List.getElem?_map, List.getElem?_eq_getElem h]; rfl
theorem get_mapI {α : Type} (f : α → List DV) (l : List α) (n : Int) (h0 : 0 ≤ n) (h : n < l.length) : (l.map f)[addN 0 n.toNat]? = some (f (l[n.toNat]'(by omega))) := by
 rw [addN_eq, Nat.zero_add, List.getElem?_map, List.getElem?_eq_getElem (by omega)]; rfl
def over {α : Type} (m t : List α) (j : Nat) : List α := m.take j ++ t.drop j
theorem over_set {α : Type} {m t : List α} (h : m.length = t.length) {j : Nat} (hj : j < t.length) : (over m t j).set j (m[j]'(by omega)) = over m t (j + 1) := by
 have h1 : (m.take j).length = j := by simp; omega
 rw [over, List.set_append, if_neg (by omega), h1, Nat.sub_self, List.drop_eq_getElem_cons hj]
 simp only [List.set_cons_zero, over]
 rw [List.take_succ_eq_append_getElem (show j < m.length by omega), List.append_assoc]; rfl
theorem over_end {α : Type} {m t : List α} (h : m.length = t.length) {j : Nat} (hj : t.length ≤ j) : over m t j = m := by
 rw [over, List.take_of_length_le (by omega), List.drop_eq_nil_of_le hj]; simp
theorem over_get {α : Type} {m t : List α} (h : m.length = t.length) {j : Nat} (hj : j < t.length) : (over m t j)[j]? = some t[j] := by
 rw [over, List.getElem?_append_right (by simp; omega)]
 simp [h, Nat.min_eq_left (Nat.le_of_lt hj), hj]
theorem fz_self {α : Type} (l : List α) (f : α → List DV) (h : ∀ a, (f a).map some = (f a).map fzD) : Fz (l.map f) (l.map f) := Fz.map l f f h
def plainB (es : List (List DV)) : Bool := es.all fun e => e.all fun d => match d with | .sc _ => true | .sl _ => true | _ => false
theorem fz_pl {es : List (List DV)} (h : plainB es = true) : Fz es es := by
 unfold Fz
 refine List.map_congr_left fun e he => List.map_congr_left fun d hd => ?_
 have := List.all_eq_true.1 (List.all_eq_true.1 h e he) d hd
 cases d <;> simp_all [fzD]
theorem SlF.self {α : Type} (l : List α) (f : α → List DV) {n : Nat} (h : n = l.length) (hf : ∀ a, (f a).map some = (f a).map fzD) : SlF (l.map f) 0 n (l.map f) := SlF.full (by simpa using h) (fz_self l f hf)
theorem SlF.pre {α : Type} (l : List α) (f : α → List DV) {k : Nat} (h : k ≤ l.length) (hf : ∀ a, (f a).map some = (f a).map fzD) : SlF (l.map f) 0 k ((l.take k).map f) :=
 SlF.of ⟨by simp; omega, by simp [List.map_take]⟩ (fz_self _ f hf)
theorem SlF.same {es : List (List DV)} {n : Nat} (h : n = es.length) (hf : Fz es es) : SlF es 0 n es := SlF.full h hf
theorem SlOf.pre {α : Type} (f : α → List DV) (l : List α) {k : Nat} (h : k ≤ l.length) : SlOf (l.map f) 0 k ((l.take k).map f) := ⟨by simp; omega, by simp [List.map_take]⟩
abbrev tsD (t : List UInt8) : List DV := [.sc (.string (bs t))]
theorem flat_ts (l : List (List UInt8)) : flatEs (l.map tsD) := fun e he d hd => by obtain ⟨b, _, rfl⟩ := List.mem_map.1 he; simp at hd; subst hd; rfl
theorem set_tsN (l : List (List UInt8)) (n : Nat) (c : DV) (b : List UInt8) : (l.map tsD).set (addN 0 (n : Int).toNat) (splice [c] 0 [.sc (.string (bs b))]) = (l.set n b).map tsD := by
 rw [addN_eq, List.map_set, show 0 + (n : Int).toNat = n by omega]; rfl
theorem set_tsI (l : List (List UInt8)) (n : Int) (c : DV) (b : List UInt8) : (l.map tsD).set (addN 0 n.toNat) (splice [c] 0 [.sc (.string (bs b))]) = (l.set n.toNat b).map tsD := by
 rw [addN_eq, List.map_set, Nat.zero_add]; rfl
theorem bs_ne (a b : List UInt8) : (!((ByteArray.mk a.toArray).toList == (ByteArray.mk b.toArray).toList)) = !decide (a = b) := by rw [bs_beq]
end Go.Proofs.Ytpdjehnlejjfmaa.D
/- The heads of the functions: the table of types, plans of regions that draw their order, and a contract out of the code. Printed by wip/tools/gen.py. -/
namespace Go.Proofs.Ytpdjehnlejjfmaa.D
open Go.RowKit
set_option maxRecDepth 100000
def tyList : List (TypeId × TyI) := [(3, ⟨.int .i64, 1, 8, [.zi .i64], false⟩),
 (4, ⟨.bool, 1, 1, [.zb], false⟩),
 (5, ⟨.int .u8, 1, 1, [.zi .u8], false⟩),
 (9, ⟨.string, 1, 16, [.zs], false⟩),
 (22, ⟨.slice 92, 1, 24, [.zl], false⟩),
 (24, ⟨.slice 5, 1, 24, [.zl], false⟩),
 (27, ⟨.slice 56, 1, 24, [.zl], false⟩),
 (41, ⟨.slice 3, 1, 24, [.zl], false⟩),
 (43, ⟨.struct [(0, 41)], 1, 24, [.zl], false⟩),
 (54, ⟨.struct [(0, 3), (1, 3)], 2, 16, [.zi .i64, .zi .i64], true⟩),
 (56, ⟨.struct [(0, 3), (1, 3), (2, 3), (3, 43), (4, 3), (5, 3), (6, 3), (7, 3), (8, 54), (10, 9), (11, 9)], 12, 128, [.zi .i64, .zi .i64, .zi .i64, .zl, .zi .i64, .zi .i64, .zi .i64, .zi .i64, .zi .i64, .zi .i64, .zs, .zs], false⟩),
 (66, ⟨.slice 68, 1, 24, [.zl], false⟩),
 (68, ⟨.struct [(0, 3), (1, 3), (2, 3), (3, 9)], 4, 40, [.zi .i64, .zi .i64, .zi .i64, .zs], true⟩),
 (69, ⟨.slice 73, 1, 24, [.zl], false⟩),
 (73, ⟨.struct [(0, 3), (1, 3), (2, 3), (3, 9)], 4, 40, [.zi .i64, .zi .i64, .zi .i64, .zs], true⟩),
 (74, ⟨.slice 175, 1, 24, [.zl], false⟩),
 (76, ⟨.struct [(0, 43), (1, 74)], 2, 48, [.zl, .zl], false⟩),
 (83, ⟨.struct [(0, 43), (1, 74)], 2, 48, [.zl, .zl], false⟩),
 (89, ⟨.struct [(0, 41)], 1, 24, [.zl], false⟩),
 (90, ⟨.struct [(0, 3), (1, 3)], 2, 16, [.zi .i64, .zi .i64], true⟩),
 (92, ⟨.struct [(0, 3), (1, 3), (2, 3), (3, 89), (4, 3), (5, 3), (6, 3), (7, 3), (8, 90), (10, 9), (11, 9)], 12, 128, [.zi .i64, .zi .i64, .zi .i64, .zl, .zi .i64, .zi .i64, .zi .i64, .zi .i64, .zi .i64, .zi .i64, .zs, .zs], false⟩),
 (101, ⟨.ptr 110, 1, 8, [.zp], false⟩),
 (105, ⟨.ptr 193, 1, 8, [.zp], false⟩),
 (107, ⟨.array 16 27, 16, 384, [.zl, .zl, .zl, .zl, .zl, .zl, .zl, .zl, .zl, .zl, .zl, .zl, .zl, .zl, .zl, .zl], false⟩),
 (108, ⟨.array 101 3, 101, 808, [.zi .i64, .zi .i64, .zi .i64, .zi .i64, .zi .i64, .zi .i64, .zi .i64, .zi .i64, .zi .i64, .zi .i64, .zi .i64, .zi .i64, .zi .i64, .zi .i64, .zi .i64, .zi .i64, .zi .i64, .zi .i64, .zi .i64, .zi .i64, .zi .i64, .zi .i64, .zi .i64, .zi .i64, .zi .i64, .zi .i64, .zi .i64, .zi .i64, .zi .i64, .zi .i64, .zi .i64, .zi .i64, .zi .i64, .zi .i64, .zi .i64, .zi .i64, .zi .i64, .zi .i64, .zi .i64, .zi .i64, .zi .i64, .zi .i64, .zi .i64, .zi .i64, .zi .i64, .zi .i64, .zi .i64, .zi .i64, .zi .i64, .zi .i64, .zi .i64, .zi .i64, .zi .i64, .zi .i64, .zi .i64, .zi .i64, .zi .i64, .zi .i64, .zi .i64, .zi .i64, .zi .i64, .zi .i64, .zi .i64, .zi .i64, .zi .i64, .zi .i64, .zi .i64, .zi .i64, .zi .i64, .zi .i64, .zi .i64, .zi .i64, .zi .i64, .zi .i64, .zi .i64, .zi .i64, .zi .i64, .zi .i64, .zi .i64, .zi .i64, .zi .i64, .zi .i64, .zi .i64, .zi .i64, .zi .i64, .zi .i64, .zi .i64, .zi .i64, .zi .i64, .zi .i64, .zi .i64, .zi .i64, .zi .i64, .zi .i64, .zi .i64, .zi .i64, .zi .i64, .zi .i64, .zi .i64, .zi .i64, .zi .i64], false⟩),
 (110, ⟨.struct [(0, 107), (16, 108), (117, 3), (118, 54)], 120, 1216, [.zl, .zl, .zl, .zl, .zl, .zl, .zl, .zl, .zl, .zl, .zl, .zl, .zl, .zl, .zl, .zl, .zi .i64, .zi .i64, .zi .i64, .zi .i64, .zi .i64, .zi .i64, .zi .i64, .zi .i64, .zi .i64, .zi .i64, .zi .i64, .zi .i64, .zi .i64, .zi .i64, .zi .i64, .zi .i64, .zi .i64, .zi .i64, .zi .i64, .zi .i64, .zi .i64, .zi .i64, .zi .i64, .zi .i64, .zi .i64, .zi .i64, .zi .i64, .zi .i64, .zi .i64, .zi .i64, .zi .i64, .zi .i64, .zi .i64, .zi .i64, .zi .i64, .zi .i64, .zi .i64, .zi .i64, .zi .i64, .zi .i64, .zi .i64, .zi .i64, .zi .i64, .zi .i64, .zi .i64, .zi .i64, .zi .i64, .zi .i64, .zi .i64, .zi .i64, .zi .i64, .zi .i64, .zi .i64, .zi .i64, .zi .i64, .zi .i64, .zi .i64, .zi .i64, .zi .i64, .zi .i64, .zi .i64, .zi .i64, .zi .i64, .zi .i64, .zi .i64, .zi .i64, .zi .i64, .zi .i64, .zi .i64, .zi .i64, .zi .i64, .zi .i64, .zi .i64, .zi .i64, .zi .i64, .zi .i64, .zi .i64, .zi .i64, .zi .i64, .zi .i64, .zi .i64, .zi .i64, .zi .i64, .zi .i64, .zi .i64, .zi .i64, .zi .i64, .zi .i64, .zi .i64, .zi .i64, .zi .i64, .zi .i64, .zi .i64, .zi .i64, .zi .i64, .zi .i64, .zi .i64, .zi .i64, .zi .i64, .zi .i64, .zi .i64, .zi .i64, .zi .i64, .zi .i64], false⟩),
 (113, ⟨.ptr 115, 1, 8, [.zp], false⟩),
 (115, ⟨.struct [(0, 24), (1, 3), (2, 4)], 3, 40, [.zl, .zi .i64, .zb], false⟩),
 (116, ⟨.slice 41, 1, 24, [.zl], false⟩),
 (118, ⟨.slice 9, 1, 24, [.zl], false⟩),
 (121, ⟨.int .u32, 1, 4, [.zi .u32], false⟩),
 (124, ⟨.struct [(0, 24), (1, 3), (2, 4)], 3, 40, [.zl, .zi .i64, .zb], false⟩),
 (125, ⟨.array 25 41, 25, 600, [.zl, .zl, .zl, .zl, .zl, .zl, .zl, .zl, .zl, .zl, .zl, .zl, .zl, .zl, .zl, .zl, .zl, .zl, .zl, .zl, .zl, .zl, .zl, .zl, .zl], false⟩),
 (127, ⟨.ptr 198, 1, 8, [.zp], false⟩),
 (149, ⟨.struct [(0, 3), (1, 3)], 2, 16, [.zi .i64, .zi .i64], true⟩),
 (153, ⟨.slice 27, 1, 24, [.zl], false⟩),
 (160, ⟨.ptr 166, 1, 8, [.zp], false⟩),
 (161, ⟨.array 16 4, 16, 16, [.zb, .zb, .zb, .zb, .zb, .zb, .zb, .zb, .zb, .zb, .zb, .zb, .zb, .zb, .zb, .zb], false⟩),
 (162, ⟨.slice 161, 1, 24, [.zl], false⟩),
 (163, ⟨.slice 4, 1, 24, [.zl], false⟩),
 (164, ⟨.slice 210, 1, 24, [.zl], false⟩),
 (166, ⟨.struct [(0, 161), (16, 3), (17, 162), (18, 163), (19, 163), (20, 164)], 21, 120, [.zb, .zb, .zb, .zb, .zb, .zb, .zb, .zb, .zb, .zb, .zb, .zb, .zb, .zb, .zb, .zb, .zi .i64, .zl, .zl, .zl, .zl], false⟩),
 (175, ⟨.struct [(0, 54), (2, 9)], 3, 32, [.zi .i64, .zi .i64, .zs], true⟩),
 (185, ⟨.array 9 3, 9, 72, [.zi .i64, .zi .i64, .zi .i64, .zi .i64, .zi .i64, .zi .i64, .zi .i64, .zi .i64, .zi .i64], false⟩),
 (193, ⟨.array 9 41, 9, 216, [.zl, .zl, .zl, .zl, .zl, .zl, .zl, .zl, .zl], false⟩),
 (195, ⟨.int .u64, 1, 8, [.zi .u64], false⟩),
 (196, ⟨.ptr 124, 1, 8, [.zp], false⟩),
 (198, ⟨.struct [(0, 24), (1, 3), (2, 3)], 3, 40, [.zl, .zi .i64, .zi .i64], false⟩),
 (210, ⟨.struct [(0, 3), (1, 9)], 2, 24, [.zi .i64, .zs], true⟩),
 (212, ⟨.slice 76, 1, 24, [.zl], false⟩),
 (218, ⟨.int .u64, 1, 8, [.zi .u64], false⟩),
 (220, ⟨.slice 54, 1, 24, [.zl], false⟩)]
def lk : List (TypeId × TyI) → TypeId → Option TyI
 | [], _ => none
 | (a, i) :: r, t => match Nat.beq t a with | true => some i | false => lk r t
theorem lk_ok (P : Program) : ∀ (l : List (TypeId × TyI)), l.all (fun x => tyOk P x.1 x.2) = true → ∀ t i, lk l t = some i → TyFacts P t i
 | [], _, _, _, h => by simp [lk] at h
 |(a, j) :: r, hl, t, i, h => by
  simp only [List.all_cons, Bool.and_eq_true] at hl
  simp only [lk] at h
  split at h
  ·rename_i e; have := Nat.eq_of_beq_eq_true e; subst this; simp at h; subst h; exact tyOk_facts hl.1
  ·exact lk_ok P r hl.2 t i h
def T : Tab Try.prog := ⟨lk tyList, by kernel_rfl, lk_ok Try.prog tyList (by kernel_rfl)⟩
def bodyOf (f : Func) : Code := match f.body with | some c => c | none => .skip
def plk (l : List (Nat × PS)) (i : Nat) : Option PS := match l with | [] => none | (j, p) :: r => match Nat.beq i j with | true => some p | false => plk r i
abbrev id_laws_FnValues : FuncId := 13
def pl_laws_FnValues : Nat → Option PS := plk []
theorem F_laws_FnValues {args : List SV} {Li : List Row} {mv : List Nat} {cl : Bool} {Post : SV → List Row → Prop} (h : wpE Try.prog (lk tyList) pl_laws_FnValues (bodyOf Try.f13) ⟨argT args, Lof Li, []⟩ (retE (lk tyList) Try.f13.results.toList Li.length mv cl Post)) (hN : args.length ≤ Try.f13.ntmps := by simp [Try.ntmps13]) :
  CallM Try.prog id_laws_FnValues args Li mv cl Post := CallM.ofE T pl_laws_FnValues Try.func13 (by kernel_rfl) rfl (by kernel_rfl) (by kernel_rfl) hN h
abbrev id_spec_DrawSetJoin : FuncId := 53
def pl_spec_DrawSetJoin : Nat → Option PS := plk [(2, .v 0 (.v 1 (.x 2 [1] (.x 3 [] (.done)))))]
theorem F_spec_DrawSetJoin {args : List SV} {Li : List Row} {mv : List Nat} {cl : Bool} {Post : SV → List Row → Prop} (h : wpE Try.prog (lk tyList) pl_spec_DrawSetJoin (bodyOf Try.f53) ⟨argT args, Lof Li, []⟩ (retE (lk tyList) Try.f53.results.toList Li.length mv cl Post)) (hN : args.length ≤ Try.f53.ntmps := by simp [Try.ntmps53]) :
  CallM Try.prog id_spec_DrawSetJoin args Li mv cl Post := CallM.ofE T pl_spec_DrawSetJoin Try.func53 (by kernel_rfl) rfl (by kernel_rfl) (by kernel_rfl) hN h
abbrev id_spec_SetJoin : FuncId := 54
def pl_spec_SetJoin : Nat → Option PS := plk []
theorem F_spec_SetJoin {args : List SV} {Li : List Row} {mv : List Nat} {cl : Bool} {Post : SV → List Row → Prop} (h : wpE Try.prog (lk tyList) pl_spec_SetJoin (bodyOf Try.f54) ⟨argT args, Lof Li, []⟩ (retE (lk tyList) Try.f54.results.toList Li.length mv cl Post)) (hN : args.length ≤ Try.f54.ntmps := by simp [Try.ntmps54]) :
  CallM Try.prog id_spec_SetJoin args Li mv cl Post := CallM.ofE T pl_spec_SetJoin Try.func54 (by kernel_rfl) rfl (by kernel_rfl) (by kernel_rfl) hN h
abbrev id_impl_SetJoin : FuncId := 55
def pl_impl_SetJoin : Nat → Option PS := plk []
theorem F_impl_SetJoin {args : List SV} {Li : List Row} {mv : List Nat} {cl : Bool} {Post : SV → List Row → Prop} (h : wpE Try.prog (lk tyList) pl_impl_SetJoin (bodyOf Try.f55) ⟨argT args, Lof Li, []⟩ (retE (lk tyList) Try.f55.results.toList Li.length mv cl Post)) (hN : args.length ≤ Try.f55.ntmps := by simp [Try.ntmps55]) :
  CallM Try.prog id_impl_SetJoin args Li mv cl Post := CallM.ofE T pl_impl_SetJoin Try.func55 (by kernel_rfl) rfl (by kernel_rfl) (by kernel_rfl) hN h
abbrev id_laws_sameInts : FuncId := 56
def pl_laws_sameInts : Nat → Option PS := plk [(6, .v 0 (.v 1 (.v 2 (.v 3 (.v 4 (.v 5 (.v 6 (.v 7 (.v 8 (.done))))))))))]
theorem F_laws_sameInts {args : List SV} {Li : List Row} {mv : List Nat} {cl : Bool} {Post : SV → List Row → Prop} (h : wpE Try.prog (lk tyList) pl_laws_sameInts (bodyOf Try.f56) ⟨argT args, Lof Li, []⟩ (retE (lk tyList) Try.f56.results.toList Li.length mv cl Post)) (hN : args.length ≤ Try.f56.ntmps := by simp [Try.ntmps56]) :
  CallM Try.prog id_laws_sameInts args Li mv cl Post := CallM.ofE T pl_laws_sameInts Try.func56 (by kernel_rfl) rfl (by kernel_rfl) (by kernel_rfl) hN h
abbrev id_laws_sameEntries : FuncId := 57
def pl_laws_sameEntries : Nat → Option PS := plk [(6, .v 0 (.v 1 (.v 2 (.v 3 (.v 4 (.v 5 (.v 6 (.v 7 (.v 8 (.done))))))))))]
theorem F_laws_sameEntries {args : List SV} {Li : List Row} {mv : List Nat} {cl : Bool} {Post : SV → List Row → Prop} (h : wpE Try.prog (lk tyList) pl_laws_sameEntries (bodyOf Try.f57) ⟨argT args, Lof Li, []⟩ (retE (lk tyList) Try.f57.results.toList Li.length mv cl Post)) (hN : args.length ≤ Try.f57.ntmps := by simp [Try.ntmps57]) :
  CallM Try.prog id_laws_sameEntries args Li mv cl Post := CallM.ofE T pl_laws_sameEntries Try.func57 (by kernel_rfl) rfl (by kernel_rfl) (by kernel_rfl) hN h
abbrev id_spec_DrawMultiJoin : FuncId := 58
def pl_spec_DrawMultiJoin : Nat → Option PS := plk []
theorem F_spec_DrawMultiJoin {args : List SV} {Li : List Row} {mv : List Nat} {cl : Bool} {Post : SV → List Row → Prop} (h : wpE Try.prog (lk tyList) pl_spec_DrawMultiJoin (bodyOf Try.f58) ⟨argT args, Lof Li, []⟩ (retE (lk tyList) Try.f58.results.toList Li.length mv cl Post)) (hN : args.length ≤ Try.f58.ntmps := by simp [Try.ntmps58]) :
  CallM Try.prog id_spec_DrawMultiJoin args Li mv cl Post := CallM.ofE T pl_spec_DrawMultiJoin Try.func58 (by kernel_rfl) rfl (by kernel_rfl) (by kernel_rfl) hN h
abbrev id_impl_MultiJoin : FuncId := 59
def pl_impl_MultiJoin : Nat → Option PS := plk []
theorem F_impl_MultiJoin {args : List SV} {Li : List Row} {mv : List Nat} {cl : Bool} {Post : SV → List Row → Prop} (h : wpE Try.prog (lk tyList) pl_impl_MultiJoin (bodyOf Try.f59) ⟨argT args, Lof Li, []⟩ (retE (lk tyList) Try.f59.results.toList Li.length mv cl Post)) (hN : args.length ≤ Try.f59.ntmps := by simp [Try.ntmps59]) :
  CallM Try.prog id_impl_MultiJoin args Li mv cl Post := CallM.ofE T pl_impl_MultiJoin Try.func59 (by kernel_rfl) rfl (by kernel_rfl) (by kernel_rfl) hN h
abbrev id_spec_MultiJoin : FuncId := 60
def pl_spec_MultiJoin : Nat → Option PS := plk []
theorem F_spec_MultiJoin {args : List SV} {Li : List Row} {mv : List Nat} {cl : Bool} {Post : SV → List Row → Prop} (h : wpE Try.prog (lk tyList) pl_spec_MultiJoin (bodyOf Try.f60) ⟨argT args, Lof Li, []⟩ (retE (lk tyList) Try.f60.results.toList Li.length mv cl Post)) (hN : args.length ≤ Try.f60.ntmps := by simp [Try.ntmps60]) :
  CallM Try.prog id_spec_MultiJoin args Li mv cl Post := CallM.ofE T pl_spec_MultiJoin Try.func60 (by kernel_rfl) rfl (by kernel_rfl) (by kernel_rfl) hN h
abbrev id_impl_isActor : FuncId := 73
def pl_impl_isActor : Nat → Option PS := plk []
theorem F_impl_isActor {args : List SV} {Li : List Row} {mv : List Nat} {cl : Bool} {Post : SV → List Row → Prop} (h : wpE Try.prog (lk tyList) pl_impl_isActor (bodyOf Try.f73) ⟨argT args, Lof Li, []⟩ (retE (lk tyList) Try.f73.results.toList Li.length mv cl Post)) (hN : args.length ≤ Try.f73.ntmps := by simp [Try.ntmps73]) :
  CallM Try.prog id_impl_isActor args Li mv cl Post := CallM.ofE T pl_impl_isActor Try.func73 (by kernel_rfl) rfl (by kernel_rfl) (by kernel_rfl) hN h
abbrev id_spec_l01Source : FuncId := 85
def pl_spec_l01Source : Nat → Option PS := plk []
theorem F_spec_l01Source {args : List SV} {Li : List Row} {mv : List Nat} {cl : Bool} {Post : SV → List Row → Prop} (h : wpE Try.prog (lk tyList) pl_spec_l01Source (bodyOf Try.f85) ⟨argT args, Lof Li, []⟩ (retE (lk tyList) Try.f85.results.toList Li.length mv cl Post)) (hN : args.length ≤ Try.f85.ntmps := by simp [Try.ntmps85]) :
  CallM Try.prog id_spec_l01Source args Li mv cl Post := CallM.ofE T pl_spec_l01Source Try.func85 (by kernel_rfl) rfl (by kernel_rfl) (by kernel_rfl) hN h
abbrev id_spec_l01Src_oddVector : FuncId := 87
def pl_spec_l01Src_oddVector : Nat → Option PS := plk [(4, .v 0 (.v 1 (.v 2 (.x 3 [1, 0] (.v 4 (.v 5 (.x 6 [] (.done)))))))),
 (6, .v 0 (.v 1 (.v 2 (.v 5 (.or (.x 3 [5, 1, 0] (.or (.x 4 [5, 1, 0] (.x 6 [1, 0] (.v 7 (.v 8 (.v 9 (.x 10 [] (.done))))))) (.x 6 [1, 0] (.x 4 [1, 0] (.v 7 (.v 8 (.v 9 (.x 10 [] (.done))))))))) (.x 4 [5, 2, 1, 0] (.x 3 [5, 1, 0] (.x 6 [1, 0] (.v 7 (.v 8 (.v 9 (.x 10 [] (.done)))))))))))))]
theorem F_spec_l01Src_oddVector {args : List SV} {Li : List Row} {mv : List Nat} {cl : Bool} {Post : SV → List Row → Prop} (h : wpE Try.prog (lk tyList) pl_spec_l01Src_oddVector (bodyOf Try.f87) ⟨argT args, Lof Li, []⟩ (retE (lk tyList) Try.f87.results.toList Li.length mv cl Post)) (hN : args.length ≤ Try.f87.ntmps := by simp [Try.ntmps87]) :
  CallM Try.prog id_spec_l01Src_oddVector args Li mv cl Post := CallM.ofE T pl_spec_l01Src_oddVector Try.func87 (by kernel_rfl) rfl (by kernel_rfl) (by kernel_rfl) hN h
abbrev id_impl_VecOK : FuncId := 88
def pl_impl_VecOK : Nat → Option PS := plk []
theorem F_impl_VecOK {args : List SV} {Li : List Row} {mv : List Nat} {cl : Bool} {Post : SV → List Row → Prop} (h : wpE Try.prog (lk tyList) pl_impl_VecOK (bodyOf Try.f88) ⟨argT args, Lof Li, []⟩ (retE (lk tyList) Try.f88.results.toList Li.length mv cl Post)) (hN : args.length ≤ Try.f88.ntmps := by simp [Try.ntmps88]) :
  CallM Try.prog id_impl_VecOK args Li mv cl Post := CallM.ofE T pl_impl_VecOK Try.func88 (by kernel_rfl) rfl (by kernel_rfl) (by kernel_rfl) hN h
abbrev id_spec_VecOK : FuncId := 90
def pl_spec_VecOK : Nat → Option PS := plk []
theorem F_spec_VecOK {args : List SV} {Li : List Row} {mv : List Nat} {cl : Bool} {Post : SV → List Row → Prop} (h : wpE Try.prog (lk tyList) pl_spec_VecOK (bodyOf Try.f90) ⟨argT args, Lof Li, []⟩ (retE (lk tyList) Try.f90.results.toList Li.length mv cl Post)) (hN : args.length ≤ Try.f90.ntmps := by simp [Try.ntmps90]) :
  CallM Try.prog id_spec_VecOK args Li mv cl Post := CallM.ofE T pl_spec_VecOK Try.func90 (by kernel_rfl) rfl (by kernel_rfl) (by kernel_rfl) hN h
abbrev id_spec_l01Src_next : FuncId := 113
def pl_spec_l01Src_next : Nat → Option PS := plk []
theorem F_spec_l01Src_next {args : List SV} {Li : List Row} {mv : List Nat} {cl : Bool} {Post : SV → List Row → Prop} (h : wpE Try.prog (lk tyList) pl_spec_l01Src_next (bodyOf Try.f113) ⟨argT args, Lof Li, []⟩ (retE (lk tyList) Try.f113.results.toList Li.length mv cl Post)) (hN : args.length ≤ Try.f113.ntmps := by simp [Try.ntmps113]) :
  CallM Try.prog id_spec_l01Src_next args Li mv cl Post := CallM.ofE T pl_spec_l01Src_next Try.func113 (by kernel_rfl) rfl (by kernel_rfl) (by kernel_rfl) hN h
abbrev id_spec_l03DrawSet : FuncId := 128
def pl_spec_l03DrawSet : Nat → Option PS := plk [(3, .v 0 (.v 1 (.v 2 (.v 3 (.v 4 (.v 5 (.v 6 (.v 7 (.v 8 (.v 9 (.v 10 (.x 11 [10, 9, 8, 7, 6, 5] (.x 12 [10] (.v 13 (.done)))))))))))))))]
theorem F_spec_l03DrawSet {args : List SV} {Li : List Row} {mv : List Nat} {cl : Bool} {Post : SV → List Row → Prop} (h : wpE Try.prog (lk tyList) pl_spec_l03DrawSet (bodyOf Try.f128) ⟨argT args, Lof Li, []⟩ (retE (lk tyList) Try.f128.results.toList Li.length mv cl Post)) (hN : args.length ≤ Try.f128.ntmps := by simp [Try.ntmps128]) :
  CallM Try.prog id_spec_l03DrawSet args Li mv cl Post := CallM.ofE T pl_spec_l03DrawSet Try.func128 (by kernel_rfl) rfl (by kernel_rfl) (by kernel_rfl) hN h
abbrev id_impl_stateOK : FuncId := 129
def pl_impl_stateOK : Nat → Option PS := plk [(6, .v 0 (.v 1 (.x 2 [] (.v 3 (.v 4 (.v 5 (.v 6 (.v 7 (.v 8 (.v 9 (.v 10 (.v 11 (.v 12 (.v 13 (.v 14 (.v 15 (.v 16 (.v 17 (.v 18 (.v 19 (.v 20 (.v 21 (.v 22 (.done)))))))))))))))))))))))),
 (8, .v 0 (.v 1 (.v 2 (.v 3 (.v 4 (.v 5 (.v 6 (.v 7 (.v 8 (.v 9 (.v 10 (.x 11 [] (.v 12 (.v 13 (.done)))))))))))))))]
theorem F_impl_stateOK {args : List SV} {Li : List Row} {mv : List Nat} {cl : Bool} {Post : SV → List Row → Prop} (h : wpE Try.prog (lk tyList) pl_impl_stateOK (bodyOf Try.f129) ⟨argT args, Lof Li, []⟩ (retE (lk tyList) Try.f129.results.toList Li.length mv cl Post)) (hN : args.length ≤ Try.f129.ntmps := by simp [Try.ntmps129]) :
  CallM Try.prog id_impl_stateOK args Li mv cl Post := CallM.ofE T pl_impl_stateOK Try.func129 (by kernel_rfl) rfl (by kernel_rfl) (by kernel_rfl) hN h
abbrev id_impl_joinStates : FuncId := 130
def pl_impl_joinStates : Nat → Option PS := plk [(10, .v 0 (.v 1 (.v 2 (.v 3 (.v 4 (.v 5 (.v 6 (.v 7 (.v 8 (.v 9 (.v 10 (.v 11 (.v 12 (.v 13 (.v 14 (.v 15 (.v 16 (.v 17 (.v 18 (.v 19 (.x 20 [] (.v 21 (.v 22 (.v 23 (.done))))))))))))))))))))))))),
 (11, .v 0 (.v 1 (.v 2 (.v 3 (.v 4 (.v 5 (.v 6 (.v 7 (.v 8 (.v 9 (.v 10 (.v 11 (.v 12 (.v 13 (.v 14 (.v 15 (.v 16 (.done)))))))))))))))))),
 (14, .v 0 (.v 1 (.v 2 (.v 3 (.v 4 (.v 5 (.v 6 (.v 7 (.v 8 (.v 9 (.v 10 (.v 11 (.v 12 (.v 13 (.v 14 (.x 15 [] (.v 16 (.v 17 (.done))))))))))))))))))),
 (15, .v 0 (.v 1 (.v 2 (.v 3 (.v 4 (.v 5 (.v 6 (.v 7 (.v 8 (.v 9 (.v 10 (.v 11 (.v 12 (.v 13 (.v 14 (.v 15 (.v 16 (.done)))))))))))))))))),
 (5, .v 0 (.v 1 (.v 2 (.v 3 (.v 4 (.v 5 (.v 6 (.v 7 (.done)))))))))]
theorem F_impl_joinStates {args : List SV} {Li : List Row} {mv : List Nat} {cl : Bool} {Post : SV → List Row → Prop} (h : wpE Try.prog (lk tyList) pl_impl_joinStates (bodyOf Try.f130) ⟨argT args, Lof Li, []⟩ (retE (lk tyList) Try.f130.results.toList Li.length mv cl Post)) (hN : args.length ≤ Try.f130.ntmps := by simp [Try.ntmps130]) :
  CallM Try.prog id_impl_joinStates args Li mv cl Post := CallM.ofE T pl_impl_joinStates Try.func130 (by kernel_rfl) rfl (by kernel_rfl) (by kernel_rfl) hN h
abbrev id_spec_l03Draw : FuncId := 131
def pl_spec_l03Draw : Nat → Option PS := plk [(4, .v 0 (.v 1 (.v 2 (.v 5 (.v 6 (.v 10 (.v 11 (.v 12 (.v 15 (.v 16 (.or (.x 3 [16, 15, 12, 11, 10, 6, 5, 0] (.or (.x 4 [16, 15, 12, 11, 10, 6, 5, 0] (.or (.x 7 [16, 15, 12, 11, 10, 0] (.v 8 (.or (.x 9 [16, 15, 12, 11, 10] (.or (.x 13 [16, 15, 10] (.x 14 [16, 15, 10] (.x 17 [10] (.v 18 (.x 19 [] (.x 20 [] (.x 21 [] (.done)))))))) (.x 14 [16, 15, 12, 11, 10] (.x 13 [16, 15, 10] (.x 17 [10] (.v 18 (.x 19 [] (.x 20 [] (.x 21 [] (.done)))))))))) (.x 14 [8, 16, 15, 12, 11, 10, 0] (.x 9 [16, 15, 12, 11, 10] (.x 13 [16, 15, 10] (.x 17 [10] (.v 18 (.x 19 [] (.x 20 [] (.x 21 [] (.done)))))))))))) (.x 14 [16, 15, 12, 11, 10, 6, 5, 0] (.x 7 [16, 15, 12, 11, 10, 0] (.v 8 (.x 9 [16, 15, 12, 11, 10] (.x 13 [16, 15, 10] (.x 17 [10] (.v 18 (.x 19 [] (.x 20 [] (.x 21 [] (.done))))))))))))) (.x 14 [16, 15, 12, 11, 10, 6, 5, 0] (.x 4 [16, 15, 12, 11, 10, 6, 5, 0] (.x 7 [16, 15, 12, 11, 10, 0] (.v 8 (.x 9 [16, 15, 12, 11, 10] (.x 13 [16, 15, 10] (.x 17 [10] (.v 18 (.x 19 [] (.x 20 [] (.x 21 [] (.done)))))))))))))) (.or (.x 4 [16, 15, 12, 11, 10, 6, 5, 2, 1, 0] (.or (.x 3 [16, 15, 12, 11, 10, 6, 5, 0] (.or (.x 7 [16, 15, 12, 11, 10, 0] (.v 8 (.or (.x 9 [16, 15, 12, 11, 10] (.or (.x 13 [16, 15, 10] (.x 14 [16, 15, 10] (.x 17 [10] (.v 18 (.x 19 [] (.x 20 [] (.x 21 [] (.done)))))))) (.x 14 [16, 15, 12, 11, 10] (.x 13 [16, 15, 10] (.x 17 [10] (.v 18 (.x 19 [] (.x 20 [] (.x 21 [] (.done)))))))))) (.x 14 [8, 16, 15, 12, 11, 10, 0] (.x 9 [16, 15, 12, 11, 10] (.x 13 [16, 15, 10] (.x 17 [10] (.v 18 (.x 19 [] (.x 20 [] (.x 21 [] (.done)))))))))))) (.x 14 [16, 15, 12, 11, 10, 6, 5, 0] (.x 7 [16, 15, 12, 11, 10, 0] (.v 8 (.x 9 [16, 15, 12, 11, 10] (.x 13 [16, 15, 10] (.x 17 [10] (.v 18 (.x 19 [] (.x 20 [] (.x 21 [] (.done))))))))))))) (.x 14 [16, 15, 12, 11, 10, 6, 5, 2, 1, 0] (.x 3 [16, 15, 12, 11, 10, 6, 5, 0] (.x 7 [16, 15, 12, 11, 10, 0] (.v 8 (.x 9 [16, 15, 12, 11, 10] (.x 13 [16, 15, 10] (.x 17 [10] (.v 18 (.x 19 [] (.x 20 [] (.x 21 [] (.done)))))))))))))) (.x 14 [16, 15, 12, 11, 10, 6, 5, 2, 1, 0] (.or (.x 3 [16, 15, 12, 11, 10, 6, 5, 0] (.x 4 [16, 15, 12, 11, 10, 6, 5, 0] (.x 7 [16, 15, 12, 11, 10, 0] (.v 8 (.x 9 [16, 15, 12, 11, 10] (.x 13 [16, 15, 10] (.x 17 [10] (.v 18 (.x 19 [] (.x 20 [] (.x 21 [] (.done)))))))))))) (.x 4 [16, 15, 12, 11, 10, 6, 5, 2, 1, 0] (.x 3 [16, 15, 12, 11, 10, 6, 5, 0] (.x 7 [16, 15, 12, 11, 10, 0] (.v 8 (.x 9 [16, 15, 12, 11, 10] (.x 13 [16, 15, 10] (.x 17 [10] (.v 18 (.x 19 [] (.x 20 [] (.x 21 [] (.done))))))))))))))))))))))))))]
theorem F_spec_l03Draw {args : List SV} {Li : List Row} {mv : List Nat} {cl : Bool} {Post : SV → List Row → Prop} (h : wpE Try.prog (lk tyList) pl_spec_l03Draw (bodyOf Try.f131) ⟨argT args, Lof Li, []⟩ (retE (lk tyList) Try.f131.results.toList Li.length mv cl Post)) (hN : args.length ≤ Try.f131.ntmps := by simp [Try.ntmps131]) :
  CallM Try.prog id_spec_l03Draw args Li mv cl Post := CallM.ofE T pl_spec_l03Draw Try.func131 (by kernel_rfl) rfl (by kernel_rfl) (by kernel_rfl) hN h
abbrev id_spec_l03EntriesOK : FuncId := 132
def pl_spec_l03EntriesOK : Nat → Option PS := plk [(7, .v 0 (.v 1 (.x 2 [] (.v 3 (.v 4 (.v 5 (.v 6 (.v 7 (.v 8 (.v 9 (.v 10 (.v 11 (.v 12 (.v 13 (.v 14 (.v 15 (.v 16 (.v 17 (.v 18 (.v 19 (.v 20 (.v 21 (.v 22 (.v 23 (.v 24 (.v 25 (.v 26 (.v 27 (.v 28 (.v 29 (.v 30 (.v 31 (.v 32 (.v 33 (.v 34 (.x 35 [] (.v 36 (.v 37 (.v 38 (.done))))))))))))))))))))))))))))))))))))))))]
theorem F_spec_l03EntriesOK {args : List SV} {Li : List Row} {mv : List Nat} {cl : Bool} {Post : SV → List Row → Prop} (h : wpE Try.prog (lk tyList) pl_spec_l03EntriesOK (bodyOf Try.f132) ⟨argT args, Lof Li, []⟩ (retE (lk tyList) Try.f132.results.toList Li.length mv cl Post)) (hN : args.length ≤ Try.f132.ntmps := by simp [Try.ntmps132]) :
  CallM Try.prog id_spec_l03EntriesOK args Li mv cl Post := CallM.ofE T pl_spec_l03EntriesOK Try.func132 (by kernel_rfl) rfl (by kernel_rfl) (by kernel_rfl) hN h
abbrev id_spec_l03Join : FuncId := 133
def pl_spec_l03Join : Nat → Option PS := plk [(7, .v 0 (.v 1 (.v 2 (.v 3 (.v 4 (.v 5 (.v 6 (.v 7 (.v 8 (.v 9 (.v 10 (.v 11 (.done))))))))))))),
 (9, .v 0 (.v 1 (.v 2 (.v 3 (.v 4 (.v 5 (.v 6 (.v 7 (.v 8 (.v 9 (.v 10 (.v 11 (.v 12 (.v 13 (.v 14 (.done)))))))))))))))),
 (14, .v 0 (.v 1 (.v 2 (.v 3 (.v 4 (.v 5 (.x 6 [] (.v 7 (.v 8 (.v 9 (.v 10 (.v 11 (.v 12 (.v 13 (.v 14 (.v 15 (.v 16 (.v 17 (.v 18 (.v 19 (.v 20 (.v 21 (.v 22 (.v 23 (.v 24 (.v 25 (.v 26 (.done))))))))))))))))))))))))))))]
theorem F_spec_l03Join {args : List SV} {Li : List Row} {mv : List Nat} {cl : Bool} {Post : SV → List Row → Prop} (h : wpE Try.prog (lk tyList) pl_spec_l03Join (bodyOf Try.f133) ⟨argT args, Lof Li, []⟩ (retE (lk tyList) Try.f133.results.toList Li.length mv cl Post)) (hN : args.length ≤ Try.f133.ntmps := by simp [Try.ntmps133]) :
  CallM Try.prog id_spec_l03Join args Li mv cl Post := CallM.ofE T pl_spec_l03Join Try.func133 (by kernel_rfl) rfl (by kernel_rfl) (by kernel_rfl) hN h
abbrev id_spec_l02Join : FuncId := 134
def pl_spec_l02Join : Nat → Option PS := plk [(5, .v 0 (.v 1 (.v 2 (.v 3 (.v 4 (.v 5 (.v 6 (.v 7 (.v 8 (.v 9 (.v 10 (.v 11 (.v 12 (.x 13 [1, 0] (.x 14 [] (.v 15 (.x 16 [] (.done))))))))))))))))))]
theorem F_spec_l02Join {args : List SV} {Li : List Row} {mv : List Nat} {cl : Bool} {Post : SV → List Row → Prop} (h : wpE Try.prog (lk tyList) pl_spec_l02Join (bodyOf Try.f134) ⟨argT args, Lof Li, []⟩ (retE (lk tyList) Try.f134.results.toList Li.length mv cl Post)) (hN : args.length ≤ Try.f134.ntmps := by simp [Try.ntmps134]) :
  CallM Try.prog id_spec_l02Join args Li mv cl Post := CallM.ofE T pl_spec_l02Join Try.func134 (by kernel_rfl) rfl (by kernel_rfl) (by kernel_rfl) hN h
abbrev id_impl_StampLess : FuncId := 148
def pl_impl_StampLess : Nat → Option PS := plk []
theorem F_impl_StampLess {args : List SV} {Li : List Row} {mv : List Nat} {cl : Bool} {Post : SV → List Row → Prop} (h : wpE Try.prog (lk tyList) pl_impl_StampLess (bodyOf Try.f148) ⟨argT args, Lof Li, []⟩ (retE (lk tyList) Try.f148.results.toList Li.length mv cl Post)) (hN : args.length ≤ Try.f148.ntmps := by simp [Try.ntmps148]) :
  CallM Try.prog id_impl_StampLess args Li mv cl Post := CallM.ofE T pl_impl_StampLess Try.func148 (by kernel_rfl) rfl (by kernel_rfl) (by kernel_rfl) hN h
abbrev id_spec_l01Src_vector : FuncId := 160
def pl_spec_l01Src_vector : Nat → Option PS := plk [(5, .v 0 (.v 1 (.v 2 (.v 3 (.x 4 [2, 1, 0] (.v 5 (.x 6 [] (.done))))))))]
theorem F_spec_l01Src_vector {args : List SV} {Li : List Row} {mv : List Nat} {cl : Bool} {Post : SV → List Row → Prop} (h : wpE Try.prog (lk tyList) pl_spec_l01Src_vector (bodyOf Try.f160) ⟨argT args, Lof Li, []⟩ (retE (lk tyList) Try.f160.results.toList Li.length mv cl Post)) (hN : args.length ≤ Try.f160.ntmps := by simp [Try.ntmps160]) :
  CallM Try.prog id_spec_l01Src_vector args Li mv cl Post := CallM.ofE T pl_spec_l01Src_vector Try.func160 (by kernel_rfl) rfl (by kernel_rfl) (by kernel_rfl) hN h
abbrev id_spec_l02Copy : FuncId := 162
def pl_spec_l02Copy : Nat → Option PS := plk []
theorem F_spec_l02Copy {args : List SV} {Li : List Row} {mv : List Nat} {cl : Bool} {Post : SV → List Row → Prop} (h : wpE Try.prog (lk tyList) pl_spec_l02Copy (bodyOf Try.f162) ⟨argT args, Lof Li, []⟩ (retE (lk tyList) Try.f162.results.toList Li.length mv cl Post)) (hN : args.length ≤ Try.f162.ntmps := by simp [Try.ntmps162]) :
  CallM Try.prog id_spec_l02Copy args Li mv cl Post := CallM.ofE T pl_spec_l02Copy Try.func162 (by kernel_rfl) rfl (by kernel_rfl) (by kernel_rfl) hN h
abbrev id_spec_l02New : FuncId := 164
def pl_spec_l02New : Nat → Option PS := plk []
theorem F_spec_l02New {args : List SV} {Li : List Row} {mv : List Nat} {cl : Bool} {Post : SV → List Row → Prop} (h : wpE Try.prog (lk tyList) pl_spec_l02New (bodyOf Try.f164) ⟨argT args, Lof Li, []⟩ (retE (lk tyList) Try.f164.results.toList Li.length mv cl Post)) (hN : args.length ≤ Try.f164.ntmps := by simp [Try.ntmps164]) :
  CallM Try.prog id_spec_l02New args Li mv cl Post := CallM.ofE T pl_spec_l02New Try.func164 (by kernel_rfl) rfl (by kernel_rfl) (by kernel_rfl) hN h
abbrev id_impl_StampOK : FuncId := 165
def pl_impl_StampOK : Nat → Option PS := plk []
theorem F_impl_StampOK {args : List SV} {Li : List Row} {mv : List Nat} {cl : Bool} {Post : SV → List Row → Prop} (h : wpE Try.prog (lk tyList) pl_impl_StampOK (bodyOf Try.f165) ⟨argT args, Lof Li, []⟩ (retE (lk tyList) Try.f165.results.toList Li.length mv cl Post)) (hN : args.length ≤ Try.f165.ntmps := by simp [Try.ntmps165]) :
  CallM Try.prog id_impl_StampOK args Li mv cl Post := CallM.ofE T pl_impl_StampOK Try.func165 (by kernel_rfl) rfl (by kernel_rfl) (by kernel_rfl) hN h
abbrev id_spec_l01Src_size : FuncId := 169
def pl_spec_l01Src_size : Nat → Option PS := plk []
theorem F_spec_l01Src_size {args : List SV} {Li : List Row} {mv : List Nat} {cl : Bool} {Post : SV → List Row → Prop} (h : wpE Try.prog (lk tyList) pl_spec_l01Src_size (bodyOf Try.f169) ⟨argT args, Lof Li, []⟩ (retE (lk tyList) Try.f169.results.toList Li.length mv cl Post)) (hN : args.length ≤ Try.f169.ntmps := by simp [Try.ntmps169]) :
  CallM Try.prog id_spec_l01Src_size args Li mv cl Post := CallM.ofE T pl_spec_l01Src_size Try.func169 (by kernel_rfl) rfl (by kernel_rfl) (by kernel_rfl) hN h
abbrev id_spec_l01Src_byte : FuncId := 171
def pl_spec_l01Src_byte : Nat → Option PS := plk [(2, .v 0 (.v 1 (.v 2 (.v 3 (.v 4 (.v 5 (.v 6 (.v 7 (.v 8 (.v 9 (.done))))))))))),
 (3, .v 0 (.v 1 (.v 2 (.v 3 (.v 4 (.v 5 (.v 6 (.v 7 (.v 8 (.v 9 (.v 10 (.v 11 (.v 12 (.v 13 (.v 14 (.v 15 (.v 16 (.v 17 (.v 18 (.v 19 (.v 20 (.v 21 (.v 22 (.x 23 [] (.done))))))))))))))))))))))))),
 (4, .v 0 (.v 1 (.v 2 (.v 3 (.v 4 (.v 5 (.v 6 (.v 7 (.v 8 (.v 9 (.v 10 (.v 11 (.v 12 (.done)))))))))))))),
 (5, .v 0 (.v 1 (.v 2 (.v 3 (.v 4 (.v 5 (.v 6 (.v 7 (.v 8 (.v 9 (.v 10 (.v 11 (.done)))))))))))))]
theorem F_spec_l01Src_byte {args : List SV} {Li : List Row} {mv : List Nat} {cl : Bool} {Post : SV → List Row → Prop} (h : wpE Try.prog (lk tyList) pl_spec_l01Src_byte (bodyOf Try.f171) ⟨argT args, Lof Li, []⟩ (retE (lk tyList) Try.f171.results.toList Li.length mv cl Post)) (hN : args.length ≤ Try.f171.ntmps := by simp [Try.ntmps171]) :
  CallM Try.prog id_spec_l01Src_byte args Li mv cl Post := CallM.ofE T pl_spec_l01Src_byte Try.func171 (by kernel_rfl) rfl (by kernel_rfl) (by kernel_rfl) hN h
abbrev id_spec_l01Src_oddStamp : FuncId := 172
def pl_spec_l01Src_oddStamp : Nat → Option PS := plk [(3, .v 1 (.v 5 (.or (.x 0 [5, 1] (.x 2 [5] (.v 3 (.v 4 (.x 6 [4, 3] (.v 7 (.x 8 [] (.done)))))))) (.x 2 [5] (.or (.x 0 [5] (.v 3 (.v 4 (.x 6 [4, 3] (.v 7 (.x 8 [] (.done))))))) (.x 6 [] (.x 0 [] (.v 3 (.v 4 (.v 7 (.x 8 [] (.done))))))))))))]
theorem F_spec_l01Src_oddStamp {args : List SV} {Li : List Row} {mv : List Nat} {cl : Bool} {Post : SV → List Row → Prop} (h : wpE Try.prog (lk tyList) pl_spec_l01Src_oddStamp (bodyOf Try.f172) ⟨argT args, Lof Li, []⟩ (retE (lk tyList) Try.f172.results.toList Li.length mv cl Post)) (hN : args.length ≤ Try.f172.ntmps := by simp [Try.ntmps172]) :
  CallM Try.prog id_spec_l01Src_oddStamp args Li mv cl Post := CallM.ofE T pl_spec_l01Src_oddStamp Try.func172 (by kernel_rfl) rfl (by kernel_rfl) (by kernel_rfl) hN h
abbrev id_spec_StampOK : FuncId := 174
def pl_spec_StampOK : Nat → Option PS := plk []
theorem F_spec_StampOK {args : List SV} {Li : List Row} {mv : List Nat} {cl : Bool} {Post : SV → List Row → Prop} (h : wpE Try.prog (lk tyList) pl_spec_StampOK (bodyOf Try.f174) ⟨argT args, Lof Li, []⟩ (retE (lk tyList) Try.f174.results.toList Li.length mv cl Post)) (hN : args.length ≤ Try.f174.ntmps := by simp [Try.ntmps174]) :
  CallM Try.prog id_spec_StampOK args Li mv cl Post := CallM.ofE T pl_spec_StampOK Try.func174 (by kernel_rfl) rfl (by kernel_rfl) (by kernel_rfl) hN h
abbrev id_spec_StampLess : FuncId := 176
def pl_spec_StampLess : Nat → Option PS := plk []
theorem F_spec_StampLess {args : List SV} {Li : List Row} {mv : List Nat} {cl : Bool} {Post : SV → List Row → Prop} (h : wpE Try.prog (lk tyList) pl_spec_StampLess (bodyOf Try.f176) ⟨argT args, Lof Li, []⟩ (retE (lk tyList) Try.f176.results.toList Li.length mv cl Post)) (hN : args.length ≤ Try.f176.ntmps := by simp [Try.ntmps176]) :
  CallM Try.prog id_spec_StampLess args Li mv cl Post := CallM.ofE T pl_spec_StampLess Try.func176 (by kernel_rfl) rfl (by kernel_rfl) (by kernel_rfl) hN h
abbrev id_impl_vecJoin : FuncId := 185
def pl_impl_vecJoin : Nat → Option PS := plk [(5, .v 0 (.v 1 (.v 2 (.v 3 (.v 4 (.v 5 (.v 6 (.v 7 (.v 8 (.v 9 (.v 10 (.v 11 (.v 12 (.v 13 (.x 14 [] (.done))))))))))))))))]
theorem F_impl_vecJoin {args : List SV} {Li : List Row} {mv : List Nat} {cl : Bool} {Post : SV → List Row → Prop} (h : wpE Try.prog (lk tyList) pl_impl_vecJoin (bodyOf Try.f185) ⟨argT args, Lof Li, []⟩ (retE (lk tyList) Try.f185.results.toList Li.length mv cl Post)) (hN : args.length ≤ Try.f185.ntmps := by simp [Try.ntmps185]) :
  CallM Try.prog id_impl_vecJoin args Li mv cl Post := CallM.ofE T pl_impl_vecJoin Try.func185 (by kernel_rfl) rfl (by kernel_rfl) (by kernel_rfl) hN h
abbrev id_spec_l03Replicas : FuncId := 186
def pl_spec_l03Replicas : Nat → Option PS := plk [(13, .v 0 (.v 1 (.v 2 (.v 3 (.v 4 (.v 5 (.x 6 [4, 3, 2, 1, 0] (.x 7 [] (.v 8 (.v 9 (.v 10 (.x 11 [10] (.v 12 (.done)))))))))))))),
 (14, .v 0 (.v 1 (.v 2 (.v 3 (.v 4 (.v 5 (.v 6 (.v 7 (.v 8 (.v 9 (.v 10 (.v 11 (.v 12 (.or (.x 13 [11, 10, 9, 8, 7, 6, 5, 4, 3, 2, 1, 0] (.or (.x 14 [] (.v 15 (.v 16 (.v 17 (.x 18 [17, 16, 15] (.x 19 [17] (.v 20 (.done)))))))) (.x 18 [11, 10, 9, 8, 7, 6, 5, 4, 3, 2, 1, 0] (.x 14 [] (.v 15 (.v 16 (.v 17 (.x 19 [17] (.v 20 (.done)))))))))) (.x 18 [12, 11, 10, 9, 8, 7, 6, 5, 4, 3, 2, 1, 0] (.x 13 [11, 10, 9, 8, 7, 6, 5, 4, 3, 2, 1, 0] (.x 14 [] (.v 15 (.v 16 (.v 17 (.x 19 [17] (.v 20 (.done))))))))))))))))))))))),
 (19, .v 0 (.v 1 (.v 2 (.v 3 (.v 4 (.x 5 [3, 2, 1, 0] (.x 6 [] (.v 7 (.v 8 (.v 9 (.x 10 [9] (.v 11 (.done))))))))))))),
 (9, .v 0 (.v 1 (.v 2 (.v 3 (.v 4 (.v 5 (.x 6 [4, 3, 2, 1, 0] (.v 7 (.v 8 (.x 9 [] (.v 10 (.v 11 (.v 12 (.x 13 [12] (.v 14 (.done))))))))))))))))]
theorem F_spec_l03Replicas {args : List SV} {Li : List Row} {mv : List Nat} {cl : Bool} {Post : SV → List Row → Prop} (h : wpE Try.prog (lk tyList) pl_spec_l03Replicas (bodyOf Try.f186) ⟨argT args, Lof Li, []⟩ (retE (lk tyList) Try.f186.results.toList Li.length mv cl Post)) (hN : args.length ≤ Try.f186.ntmps := by simp [Try.ntmps186]) :
  CallM Try.prog id_spec_l03Replicas args Li mv cl Post := CallM.ofE T pl_spec_l03Replicas Try.func186 (by kernel_rfl) rfl (by kernel_rfl) (by kernel_rfl) hN h
abbrev id_spec_l03Bent : FuncId := 187
def pl_spec_l03Bent : Nat → Option PS := plk [(5, .v 0 (.v 1 (.v 2 (.v 4 (.x 3 [4, 1, 0] (.x 5 [1, 0] (.v 6 (.x 7 [1, 0] (.x 8 [] (.v 9 (.x 10 [] (.done)))))))))))),
 (8, .v 0 (.v 1 (.v 2 (.x 3 [1, 0] (.v 4 (.x 5 [1, 0] (.v 6 (.v 7 (.v 8 (.x 9 [] (.done))))))))))),
 (10, .v 0 (.v 1 (.v 2 (.v 3 (.x 4 [2, 1, 0] (.v 5 (.x 6 [] (.done))))))))]
theorem F_spec_l03Bent {args : List SV} {Li : List Row} {mv : List Nat} {cl : Bool} {Post : SV → List Row → Prop} (h : wpE Try.prog (lk tyList) pl_spec_l03Bent (bodyOf Try.f187) ⟨argT args, Lof Li, []⟩ (retE (lk tyList) Try.f187.results.toList Li.length mv cl Post)) (hN : args.length ≤ Try.f187.ntmps := by simp [Try.ntmps187]) :
  CallM Try.prog id_spec_l03Bent args Li mv cl Post := CallM.ofE T pl_spec_l03Bent Try.func187 (by kernel_rfl) rfl (by kernel_rfl) (by kernel_rfl) hN h
abbrev id_spec_l03Find : FuncId := 188
def pl_spec_l03Find : Nat → Option PS := plk [(4, .v 0 (.v 1 (.v 2 (.v 3 (.v 4 (.v 5 (.v 6 (.done))))))))]
theorem F_spec_l03Find {args : List SV} {Li : List Row} {mv : List Nat} {cl : Bool} {Post : SV → List Row → Prop} (h : wpE Try.prog (lk tyList) pl_spec_l03Find (bodyOf Try.f188) ⟨argT args, Lof Li, []⟩ (retE (lk tyList) Try.f188.results.toList Li.length mv cl Post)) (hN : args.length ≤ Try.f188.ntmps := by simp [Try.ntmps188]) :
  CallM Try.prog id_spec_l03Find args Li mv cl Post := CallM.ofE T pl_spec_l03Find Try.func188 (by kernel_rfl) rfl (by kernel_rfl) (by kernel_rfl) hN h
abbrev id_spec_l03Insert : FuncId := 189
def pl_spec_l03Insert : Nat → Option PS := plk [(2, .v 0 (.v 1 (.v 2 (.v 3 (.v 4 (.v 5 (.v 6 (.v 7 (.v 8 (.v 9 (.v 10 (.v 11 (.x 12 [] (.v 13 (.done)))))))))))))))]
theorem F_spec_l03Insert {args : List SV} {Li : List Row} {mv : List Nat} {cl : Bool} {Post : SV → List Row → Prop} (h : wpE Try.prog (lk tyList) pl_spec_l03Insert (bodyOf Try.f189) ⟨argT args, Lof Li, []⟩ (retE (lk tyList) Try.f189.results.toList Li.length mv cl Post)) (hN : args.length ≤ Try.f189.ntmps := by simp [Try.ntmps189]) :
  CallM Try.prog id_spec_l03Insert args Li mv cl Post := CallM.ofE T pl_spec_l03Insert Try.func189 (by kernel_rfl) rfl (by kernel_rfl) (by kernel_rfl) hN h
abbrev id_spec_l01Src_word : FuncId := 197
def pl_spec_l01Src_word : Nat → Option PS := plk []
theorem F_spec_l01Src_word {args : List SV} {Li : List Row} {mv : List Nat} {cl : Bool} {Post : SV → List Row → Prop} (h : wpE Try.prog (lk tyList) pl_spec_l01Src_word (bodyOf Try.f197) ⟨argT args, Lof Li, []⟩ (retE (lk tyList) Try.f197.results.toList Li.length mv cl Post)) (hN : args.length ≤ Try.f197.ntmps := by simp [Try.ntmps197]) :
  CallM Try.prog id_spec_l01Src_word args Li mv cl Post := CallM.ofE T pl_spec_l01Src_word Try.func197 (by kernel_rfl) rfl (by kernel_rfl) (by kernel_rfl) hN h
abbrev id_spec_l01Src_stamp : FuncId := 198
def pl_spec_l01Src_stamp : Nat → Option PS := plk []
theorem F_spec_l01Src_stamp {args : List SV} {Li : List Row} {mv : List Nat} {cl : Bool} {Post : SV → List Row → Prop} (h : wpE Try.prog (lk tyList) pl_spec_l01Src_stamp (bodyOf Try.f198) ⟨argT args, Lof Li, []⟩ (retE (lk tyList) Try.f198.results.toList Li.length mv cl Post)) (hN : args.length ≤ Try.f198.ntmps := by simp [Try.ntmps198]) :
  CallM Try.prog id_spec_l01Src_stamp args Li mv cl Post := CallM.ofE T pl_spec_l01Src_stamp Try.func198 (by kernel_rfl) rfl (by kernel_rfl) (by kernel_rfl) hN h
abbrev id_spec_SetAdd : FuncId := 199
def pl_spec_SetAdd : Nat → Option PS := plk [(6, .v 0 (.v 1 (.v 2 (.v 4 (.x 3 [4] (.x 5 [] (.v 6 (.done))))))))]
theorem F_spec_SetAdd {args : List SV} {Li : List Row} {mv : List Nat} {cl : Bool} {Post : SV → List Row → Prop} (h : wpE Try.prog (lk tyList) pl_spec_SetAdd (bodyOf Try.f199) ⟨argT args, Lof Li, []⟩ (retE (lk tyList) Try.f199.results.toList Li.length mv cl Post)) (hN : args.length ≤ Try.f199.ntmps := by simp [Try.ntmps199]) :
  CallM Try.prog id_spec_SetAdd args Li mv cl Post := CallM.ofE T pl_spec_SetAdd Try.func199 (by kernel_rfl) rfl (by kernel_rfl) (by kernel_rfl) hN h
abbrev id_spec_MultiWrite : FuncId := 200
def pl_spec_MultiWrite : Nat → Option PS := plk []
theorem F_spec_MultiWrite {args : List SV} {Li : List Row} {mv : List Nat} {cl : Bool} {Post : SV → List Row → Prop} (h : wpE Try.prog (lk tyList) pl_spec_MultiWrite (bodyOf Try.f200) ⟨argT args, Lof Li, []⟩ (retE (lk tyList) Try.f200.results.toList Li.length mv cl Post)) (hN : args.length ≤ Try.f200.ntmps := by simp [Try.ntmps200]) :
  CallM Try.prog id_spec_MultiWrite args Li mv cl Post := CallM.ofE T pl_spec_MultiWrite Try.func200 (by kernel_rfl) rfl (by kernel_rfl) (by kernel_rfl) hN h
abbrev id_spec_SetRemove : FuncId := 201
def pl_spec_SetRemove : Nat → Option PS := plk [(5, .v 0 (.v 1 (.v 3 (.v 4 (.v 5 (.x 2 [5, 4, 3] (.x 6 [] (.v 7 (.x 8 [] (.v 9 (.done)))))))))))]
theorem F_spec_SetRemove {args : List SV} {Li : List Row} {mv : List Nat} {cl : Bool} {Post : SV → List Row → Prop} (h : wpE Try.prog (lk tyList) pl_spec_SetRemove (bodyOf Try.f201) ⟨argT args, Lof Li, []⟩ (retE (lk tyList) Try.f201.results.toList Li.length mv cl Post)) (hN : args.length ≤ Try.f201.ntmps := by simp [Try.ntmps201]) :
  CallM Try.prog id_spec_SetRemove args Li mv cl Post := CallM.ofE T pl_spec_SetRemove Try.func201 (by kernel_rfl) rfl (by kernel_rfl) (by kernel_rfl) hN h
abbrev id_spec_l03Write : FuncId := 202
def pl_spec_l03Write : Nat → Option PS := plk [(7, .v 0 (.v 1 (.v 2 (.v 3 (.v 4 (.v 5 (.v 6 (.v 7 (.v 8 (.v 9 (.x 10 [9, 8, 7, 6, 5, 4, 3, 2, 1] (.x 11 [] (.v 12 (.done))))))))))))))]
theorem F_spec_l03Write {args : List SV} {Li : List Row} {mv : List Nat} {cl : Bool} {Post : SV → List Row → Prop} (h : wpE Try.prog (lk tyList) pl_spec_l03Write (bodyOf Try.f202) ⟨argT args, Lof Li, []⟩ (retE (lk tyList) Try.f202.results.toList Li.length mv cl Post)) (hN : args.length ≤ Try.f202.ntmps := by simp [Try.ntmps202]) :
  CallM Try.prog id_spec_l03Write args Li mv cl Post := CallM.ofE T pl_spec_l03Write Try.func202 (by kernel_rfl) rfl (by kernel_rfl) (by kernel_rfl) hN h
abbrev id_spec_l03Without : FuncId := 203
def pl_spec_l03Without : Nat → Option PS := plk []
theorem F_spec_l03Without {args : List SV} {Li : List Row} {mv : List Nat} {cl : Bool} {Post : SV → List Row → Prop} (h : wpE Try.prog (lk tyList) pl_spec_l03Without (bodyOf Try.f203) ⟨argT args, Lof Li, []⟩ (retE (lk tyList) Try.f203.results.toList Li.length mv cl Post)) (hN : args.length ≤ Try.f203.ntmps := by simp [Try.ntmps203]) :
  CallM Try.prog id_spec_l03Without args Li mv cl Post := CallM.ofE T pl_spec_l03Without Try.func203 (by kernel_rfl) rfl (by kernel_rfl) (by kernel_rfl) hN h
end Go.Proofs.Ytpdjehnlejjfmaa.D
/- Vectors of counts: told to be in order, joined, copied. -/
namespace Go.Proofs.Ytpdjehnlejjfmaa.D
open Go.RowKit
set_option maxRecDepth 100000
set_option linter.unusedVariables false
set_option linter.unusedSimpArgs false
theorem all_next {α : Type} {p : α → Prop} {l : List α} {i : Nat} (h : i < l.length) (ha : ∀ c ∈ l.take i, p c) (hp : p l[i]) : ∀ c ∈ l.take (i + 1), p c := by
 rw [List.take_succ_eq_append_getElem h]
 intro c hc
 rcases List.mem_append.1 hc with h1 | h1
 ·exact ha c h1
 ·simp at h1; subst h1; exact hp
theorem all_end {α : Type} {p : α → Prop} {l : List α} {i : Nat} (ha : ∀ c ∈ l.take i, p c) (h : l.length ≤ i) : ∀ c ∈ l, p c := by
 rwa [List.take_of_length_le h] at ha
theorem not_all {α : Type} {p : α → Prop} {l : List α} {i : Nat} (h : i < l.length) (hp : ¬ p l[i]) : ¬ ∀ c ∈ l, p c := fun ha => hp (ha _ (List.getElem_mem h))
theorem all_nil {α : Type} {p : α → Prop} {l : List α} : ∀ c ∈ l.take 0, p c := by simp
abbrev cntOk (c : Int) : Prop := 0 ≤ c ∧ c ≤ 1000000000000
def VecOk (v : List Int) : Prop := v.length = 16 ∧ ∀ c ∈ v, cntOk c
instance (v : List Int) : Decidable (VecOk v) := by unfold VecOk; infer_instance
abbrev vV (v : List Int) : SV := .agg [cN v]
theorem vecNot {v : List Int} {i : Nat} (h : i < v.length) (h2 : ¬ cntOk v[i]) : decide (VecOk v) = false := by
 have : ¬ VecOk v := fun h3 => not_all h h2 h3.2
 simp [this]
theorem vecNo {v : List Int} (h : v.length ≠ 16) : decide (VecOk v) = false := by
 have : ¬ VecOk v := fun h3 => h h3.1
 simp [this]
theorem vecYes {v : List Int} {i : Nat} (h : v.length = 16) (h2 : ∀ c ∈ v.take i, cntOk c) (hi : 16 ≤ i) : decide (VecOk v) = true := by
 have : VecOk v := ⟨h, all_end h2 (by omega)⟩
 simp [this]
theorem s_VecOK (v : List Int) : CallD Try.prog id_spec_VecOK [vV v] [] (vB (decide (VecOk v))) [] := by
 refine F_spec_VecOK ?_
 try (conv => whnf)
 repeat' (first
  | (refine Pick.mk ?_ ?_ ?_; rotate_left; (focus (exact List.length_map _)); conv => whnf)
  | (refine SeqJ.thru ?_; conv => whnf)
  | (refine br_dec (fun _ => ?_) (fun _ => ?_) <;> first | (exfalso; omega) | contradiction | conv => whnf)
  | (refine br_not ?_; conv => whnf)
  | (refine br_bne (fun _ => ?_) (fun _ => ?_) <;> first | (exfalso; omega) | contradiction | conv => whnf)
  | (refine br_beq (fun _ => ?_) (fun _ => ?_) <;> first | (exfalso; omega) | contradiction | conv => whnf))
 ·refine LoopE.mk (fun i : Nat => mk [(3, vI .i64 i), (1, .one (.ptr 4096 0))] [(4096, .box [cN v])]) (fun i => i ≤ 16 ∧ ∀ c ∈ v.take i, cntOk c) (fun i => 16 - i) 0 ⟨by omega, all_nil⟩ (LeX.of ?_) ?_
  ·try (conv => whnf)
   repeat (refine Need.mk ?_ ?_; (focus (first | omega | (simp; done))); conv => whnf)
   trivial
  ·rintro i ⟨hi, ha⟩
   try (conv => whnf)
   repeat' (first
    | (refine Pick.mk ?_ ?_ ?_; rotate_left; (focus (first | (refine wid ?_ ?_ <;> omega) | (refine pick_nat _ _ _ ?_; omega))); conv => whnf)
    | (refine SeqJ.thru ?_; conv => whnf)
    | (refine br_dec (fun _ => ?_) (fun _ => ?_) <;> first | (exfalso; omega) | contradiction | conv => whnf)
    | (refine br_not ?_; conv => whnf)
    | (refine br_bne (fun _ => ?_) (fun _ => ?_) <;> first | (exfalso; omega) | contradiction | conv => whnf)
    | (refine br_beq (fun _ => ?_) (fun _ => ?_) <;> first | (exfalso; omega) | contradiction | conv => whnf))
   ·refine Out.mk true [] [] ?_
    try (conv => whnf)
    exact ⟨by rw [vecNot (i := i) (by omega) (by simp only [cntOk]; omega)], rfl⟩
   ·refine Out.mk true [] [] ?_
    try (conv => whnf)
    exact ⟨by rw [vecNot (i := i) (by omega) (by simp only [cntOk]; omega)], rfl⟩
   ·refine Pick.mk (i + 1) ⟨⟨by omega, all_next (by omega) ha (by simp only [cntOk]; omega)⟩, by omega⟩ (LeX.of ?_)
    try (conv => whnf)
    repeat (refine Need.mk ?_ ?_; (focus (first | omega | (simp; done))); conv => whnf)
    trivial
   ·refine Out.mk true [] [] ?_
    try (conv => whnf)
    exact ⟨by rw [vecYes (by omega) ha (by omega)], rfl⟩
 ·refine Out.mk true [] [] ?_
  try (conv => whnf)
  exact ⟨by rw [vecNo (by omega)], rfl⟩
theorem i_VecOK (v : List Int) : CallD Try.prog id_impl_VecOK [vV v] [] (vB (decide (VecOk v))) [] := by
 refine F_impl_VecOK ?_
 try (conv => whnf)
 repeat' (first
  | (refine Pick.mk ?_ ?_ ?_; rotate_left; (focus (exact List.length_map _)); conv => whnf)
  | (refine SeqJ.thru ?_; conv => whnf)
  | (refine br_dec (fun _ => ?_) (fun _ => ?_) <;> first | (exfalso; omega) | contradiction | conv => whnf)
  | (refine br_not ?_; conv => whnf)
  | (refine br_bne (fun _ => ?_) (fun _ => ?_) <;> first | (exfalso; omega) | contradiction | conv => whnf)
  | (refine br_beq (fun _ => ?_) (fun _ => ?_) <;> first | (exfalso; omega) | contradiction | conv => whnf))
 ·refine LoopE.mk (fun i : Nat => mk [(12, vI .i64 i), (11, vI .i64 v.length), (10, vN v), (1, .one (.ptr 4096 0))] [(4096, .box [cN v])]) (fun i => i ≤ 16 ∧ ∀ c ∈ v.take i, cntOk c) (fun i => 16 - i) 0 ⟨by omega, all_nil⟩ (LeX.of ?_) ?_
  ·try (conv => whnf)
   repeat (refine Need.mk ?_ ?_; (focus (first | omega | (simp; done))); conv => whnf)
   trivial
  ·rintro i ⟨hi, ha⟩
   try (conv => whnf)
   repeat' (first
    | (refine Pick.mk ?_ ?_ ?_; rotate_left; (focus (first | (refine wid ?_ ?_ <;> omega) | (refine pick_nat _ _ _ ?_; omega))); conv => whnf)
    | (refine SeqJ.thru ?_; conv => whnf)
    | (refine br_dec (fun _ => ?_) (fun _ => ?_) <;> first | (exfalso; omega) | contradiction | conv => whnf)
    | (refine br_not ?_; conv => whnf)
    | (refine br_bne (fun _ => ?_) (fun _ => ?_) <;> first | (exfalso; omega) | contradiction | conv => whnf)
    | (refine br_beq (fun _ => ?_) (fun _ => ?_) <;> first | (exfalso; omega) | contradiction | conv => whnf))
   ·refine Out.mk true [] [] ?_
    try (conv => whnf)
    exact ⟨by rw [vecNot (i := i) (by omega) (by simp only [cntOk]; omega)], rfl⟩
   ·refine Out.mk true [] [] ?_
    try (conv => whnf)
    exact ⟨by rw [vecNot (i := i) (by omega) (by simp only [cntOk]; omega)], rfl⟩
   ·refine Pick.mk (i + 1) ⟨⟨by omega, all_next (by omega) ha (by simp only [cntOk]; omega)⟩, by omega⟩ (LeX.of ?_)
    try (conv => whnf)
    repeat (refine Need.mk ?_ ?_; (focus (first | omega | (simp; done))); conv => whnf)
    trivial
   ·refine Out.mk true [] [] ?_
    try (conv => whnf)
    exact ⟨by rw [vecYes (by omega) ha (by omega)], rfl⟩
 ·refine Out.mk true [] [] ?_
  try (conv => whnf)
  exact ⟨by rw [vecNo (by omega)], rfl⟩
def vmax (a b : List Int) : List Int := List.zipWith (fun x y => if y > x then y else x) a b
theorem vmax_take {a b : List Int} {i : Nat} (ha : i < a.length) (hb : i < b.length) : (vmax a b).take (i + 1) = (vmax a b).take i ++ [if b[i] > a[i] then b[i] else a[i]] := by
 rw [List.take_succ_eq_append_getElem (by simp [vmax]; omega)]
 simp [vmax]
theorem s_l02Join (a b : List Int) (ha : a.length = 16) (hb : b.length = 16) : CallD Try.prog id_spec_l02Join [vV a, vV b] [] (.agg [.os (.v 0) 1 0 16]) [.own 1 ((vmax a b).map inD)] := by
 refine F_spec_l02Join ?_
 try (conv => whnf)
 refine LoopE.mk (fun i : Nat => mk [(2, .one (.ptr 4096 0)), (3, .one (.ptr 4112 0)), (4, .one (.ptr 4128 0)), (5, .one (.ptr 8208 0)), (6, vI .i64 i)] [(4096, .box [cN a]), (4112, .box [cN b]), (4128, .box [.nil]), (8208, .box [.os (.v 24800) 1 0 i]), (24800, .own 1 (((vmax a b).take i).map inD))])
  (fun i => i ≤ 16) (fun i => 16 - i) 0 (by omega) (LeX.of ?_) ?_
 ·try (conv => whnf)
  repeat (refine Need.mk ?_ ?_; (focus (first | omega | (simp; done))); conv => whnf)
  trivial
 ·intro i hi
  have hm : (vmax a b).length = 16 := by simp [vmax]; omega
  try (conv => whnf)
  repeat' (first
   | (refine Need.mk ?_ ?_; (focus (first | omega | rfl | ((conv => whnf); (repeat (first | (refine Need.mk (by first | rfl | omega | (simp; done)) ?_; conv => whnf) | (refine Pick.mk ?_ ?_ ?_; rotate_left; (focus (first | with_reducible exact xor_u8 _ _ | (with_reducible refine xor_i64 ?_ ?_; all_goals omega) | (with_reducible refine xor_u32 ?_ ?_; all_goals omega) | assumption | with_reducible exact set_byN _ _ _ _ | with_reducible exact set_byI _ _ _ _ | with_reducible exact set_inN _ _ _ _ | with_reducible exact set_inI _ _ _ _ | with_reducible exact set_stN _ _ _ _ | with_reducible exact set_tsN _ _ _ _ | with_reducible exact set_tsI _ _ _ _ | with_reducible exact set_boN _ _ _ _ | with_reducible exact set_boI _ _ _ _ | (with_reducible refine get_mapN _ _ _ ?_; first | omega | (simp; omega)) | (with_reducible refine get_mapI _ _ _ ?_ ?_ <;> first | omega | (simp; omega)) | exact bs_beq _ _ | exact bs_less _ _ | exact bs_leq _ _ | with_reducible exact bs_app _ _ | (refine bs_get _ _ ?_; omega) | (refine bs_int _ _ ?_ ?_ <;> omega) | with_reducible exact sl_map0 _ _ _ | with_reducible exact sl_mapN _ _ _ | with_reducible exact sl_map _ _ _ _ | exact bs_extract0 _ _ | exact bs_extractN _ _ | exact bs_extract _ _ _ | (refine bnd_id ?_; omega) | (refine bnd_sub ?_ ?_ <;> omega) | (refine bnd_add ?_; omega) | (refine bnd_subN ?_ ?_ <;> omega) | (refine bnd_int ?_ ?_ <;> omega) | ((show @Eq Nat (_ + Int.toNat _ * _) _); simp only [Int.toNat_natCast, Nat.zero_add, Nat.mul_one]; rfl) | ((show @Eq (List _) (List.set [_] _ _) _); simp only [List.set_cons_zero]; rfl) | exact List.length_map _ | exact size_bs _ | (simp only [List.length_map, List.length_append, List.length_cons, List.length_nil, List.length_replicate, Nat.zero_add]; rfl) | with_reducible exact List.nil_append _ | with_reducible exact map_app _ _ _ | exact map_snoc byD _ _ | exact map_snoc inD _ _ | exact map_snoc stD _ _ | exact map_snoc tsD _ _ | (simp only [chunks]; rfl) | (refine wid ?_ ?_ <;> omega) | exact wby _ | with_reducible exact wby32 _ | with_reducible exact wu32 _ | exact wby64 _ | exact shr8 _ | exact shr16 _ | exact shr24 _ | exact shr32 _ | (refine tmodn ?_; omega) | (refine wdiv ?_ ?_ ?_ <;> omega) | exact wbyte _ | exact natlit _ | exact rep_by _ | exact rep_in _ | exact rep_bo _ | exact rep_st _ | (refine pick_nat _ _ _ ?_; omega) | (refine pick_int _ _ _ ?_ ?_ <;> omega) | (refine SlOf.full ?_; first | (simp; done) | (simp; omega)) | (with_reducible refine SlOf.pre _ _ ?_; first | omega | (simp; omega)) | (refine SlF.self _ _ ?_ ?_; (first | rfl | omega | (simp; done) | (simp; omega)); (exact fun _ => rfl)) | (refine SlF.pre _ _ ?_ ?_; (first | omega | (simp; omega)); (exact fun _ => rfl)) | (refine SlF.same ?_ ?_; (first | rfl | omega | (simp; done) | (simp; omega)); (first | exact fz_self _ _ (fun _ => rfl) | exact fz_pl rfl | (refine Fz.append ?_ ?_ <;> first | exact fz_self _ _ (fun _ => rfl) | exact fz_pl rfl) | (refine Fz.append (Fz.append ?_ ?_) ?_ <;> first | exact fz_self _ _ (fun _ => rfl) | exact fz_pl rfl))) | (simp only [Int.toNat_natCast, Nat.zero_add, Nat.mul_one]; rfl) | ((show @Eq (Option CV) _ _); rfl) | ((fail_if_success (show @Eq (Option _) _ _)); rfl) | ((show @Eq (Option _) _ _); simp only [List.getElem?_cons_zero, List.getElem?_cons_succ]; done) | ((show @Eq (Option _) _ _); simp only [List.getElem?_cons_zero, List.getElem?_cons_succ]; rfl) | with_reducible rfl)); conv => whnf))); exact Done.mk trivial))); conv => whnf)
   | (refine Pick.mk ?_ ?_ ?_; rotate_left; (focus (first | (simp only [List.length_map, List.length_append, List.length_cons, List.length_nil, List.length_replicate, Nat.zero_add]; rfl) | exact map_snoc inD _ _ | (simp only [chunks]; rfl) | (refine wid ?_ ?_ <;> omega) | (refine pick_nat _ _ _ ?_; omega) | (refine SlOf.full ?_; first | (simp; done) | (simp; omega)))); conv => whnf)
   | (refine SeqJ.thru ?_; conv => whnf)
   | (refine br_dec (fun _ => ?_) (fun _ => ?_) <;> first | (exfalso; omega) | contradiction | conv => whnf)
   | (refine br_not ?_; conv => whnf)
   | (refine br_bne (fun _ => ?_) (fun _ => ?_) <;> first | (exfalso; omega) | contradiction | conv => whnf)
   | (refine br_beq (fun _ => ?_) (fun _ => ?_) <;> first | (exfalso; omega) | contradiction | conv => whnf))
  ·refine Pick.mk (i + 1) (by constructor <;> first | omega | (simp only []; omega)) (LeX.of ?_)
   try (conv => whnf)
   repeat (refine Need.mk ?_ ?_; (focus (first | omega | (simp; done))); conv => whnf)
   refine Need.mk (by rw [vmax_take (by omega) (by omega)]) ?_
   try (conv => whnf)
   trivial
  ·refine Out.mk false [0, 1, 2, 3, 4] [] ?_
   try (conv => whnf)
   repeat (refine Need.mk ?_ ?_; (focus ((first | exact flat_by _ | exact flat_in _ | exact flat_st _ | exact flat_ts _ | exact flat_bo _ | exact flat_cl rfl))); conv => whnf)
   obtain rfl : i = 16 := by omega
   exact ⟨rfl, by rw [List.take_of_length_le (by omega)]⟩
theorem i_vecJoin (a b : List Int) (ha : a.length = 16) (hb : b.length = 16) : CallD Try.prog id_impl_vecJoin [vV a, vV b] [] (.agg [.os (.v 0) 1 0 16]) [.own 1 ((vmax a b).map inD)] := by
 refine F_impl_vecJoin ?_
 try (conv => whnf)
 repeat (first
  | (refine Need.mk ?_ ?_; (focus (omega)); conv => whnf)
  | (refine Pick.mk ?_ ?_ ?_; rotate_left; (focus (first | (simp only [List.length_map, List.length_append, List.length_cons, List.length_nil, List.length_replicate, Nat.zero_add]; rfl) | exact natlit _)); conv => whnf))
 refine LoopE.mk (fun i : Nat => mk [(2, .one (.ptr 4096 0)), (3, .one (.ptr 4112 0)), (4, .one (.ptr 4128 0)), (5, .one (.os (.v 8192) 1 0 16)), (9, vI .i64 16), (10, vI .i64 i)] [(4096, .box [cN a]), (4112, .box [cN b]), (4128, .box [.nil]), (8192, .own 1 ((over (vmax a b) (List.replicate 16 0) i).map inD))])
  (fun i => i ≤ 16) (fun i => 16 - i) 0 (by omega) (LeX.of ?_) ?_
 ·try (conv => whnf)
  repeat (refine Need.mk ?_ ?_; (focus (first | omega | (simp only [List.length_map, List.length_append, List.length_cons, List.length_nil, List.length_replicate]; omega) | (simp; done) | rfl)); conv => whnf)
  trivial
 ·intro i hi
  have hm : (vmax a b).length = 16 := by simp [vmax]; omega
  try (conv => whnf)
  repeat' (first
   | (refine Need.mk ?_ ?_; (focus (omega)); conv => whnf)
   | (refine Pick.mk ?_ ?_ ?_; rotate_left; (focus ((refine pick_nat _ _ _ ?_; omega))); conv => whnf)
   | (refine SeqJ.thru ?_; conv => whnf)
   | (refine br_dec (fun _ => ?_) (fun _ => ?_) <;> first | (exfalso; omega) | contradiction | conv => whnf)
   | (refine br_not ?_; conv => whnf)
   | (refine br_bne (fun _ => ?_) (fun _ => ?_) <;> first | (exfalso; omega) | contradiction | conv => whnf)
   | (refine br_beq (fun _ => ?_) (fun _ => ?_) <;> first | (exfalso; omega) | contradiction | conv => whnf))
  ·refine Pick.mk (inD 0) (by rw [addN_eq, List.getElem?_map, show 0 + (i : Int).toNat = i by omega, over_get (by simp [hm]) (by simp; omega), List.getElem_replicate]; rfl) ?_
   try (conv => whnf)
   repeat (first
    | (refine Need.mk ?_ ?_; (focus ((simp only [List.length_map, List.length_append, List.length_cons, List.length_nil, List.length_replicate]; omega))); conv => whnf)
    | (refine Pick.mk ?_ ?_ ?_; rotate_left; (focus (first | with_reducible exact set_inN _ _ _ _ | (refine wid ?_ ?_ <;> omega))); conv => whnf))
   refine Pick.mk (i + 1) (by constructor <;> first | omega | (simp only []; omega)) (LeX.of ?_)
   try (conv => whnf)
   repeat (refine Need.mk ?_ ?_; (focus (first | omega | (simp; done))); conv => whnf)
   refine Need.mk (by rw [← over_set (by simp [hm]) (by simp; omega)]; simp [vmax, -List.reduceReplicate]) ?_
   try (conv => whnf)
   trivial
  ·refine Out.mk false [0, 1, 2, 3, 4] [] ?_
   try (conv => whnf)
   repeat (refine Need.mk ?_ ?_; (focus ((first | exact flat_by _ | exact flat_in _ | exact flat_st _ | exact flat_ts _ | exact flat_bo _ | exact flat_cl rfl))); conv => whnf)
   exact ⟨rfl, by rw [over_end (by simp [hm]) (by simp; omega)]⟩
theorem s_l02Copy (a : List Int) (ha : a.length ≤ 2 ^ 40) : CallD Try.prog id_spec_l02Copy [vV a] [] (.agg [.os (.v 0) 1 0 a.length]) [.own 1 (a.map inD)] := by
 refine F_spec_l02Copy ?_
 try (conv => whnf)
 repeat (first
  | (refine Need.mk ?_ ?_; (focus (first | omega | (simp; done))); conv => whnf)
  | (refine Pick.mk ?_ ?_ ?_; rotate_left; (focus (first | (simp only [List.length_map, List.length_append, List.length_cons, List.length_nil, List.length_replicate, Nat.zero_add]; rfl) | with_reducible exact List.nil_append _ | (simp only [chunks]; rfl) | (refine SlOf.full ?_; first | (simp; done) | (simp; omega)))); conv => whnf))
 refine Out.mk false [0, 1, 2, 3, 4] [] ?_
 try (conv => whnf)
 repeat (refine Need.mk ?_ ?_; (focus ((first | exact flat_by _ | exact flat_in _ | exact flat_st _ | exact flat_ts _ | exact flat_bo _ | exact flat_cl rfl))); conv => whnf)
 exact ⟨rfl, rfl⟩
end Go.Proofs.Ytpdjehnlejjfmaa.D
/- Numbers, texts and runs as bytes: what is written and what is read. -/
namespace Go.Proofs.Ytpdjehnlejjfmaa.D
open Go.RowKit
set_option linter.unusedVariables false
set_option linter.unusedSimpArgs false

def put (n : Nat) : List UInt8 := if n < 128 then [u8 n] else u8 ((128 + n % 128 : Nat) : Int) :: put (n / 128)
termination_by n
def gs : Nat → List UInt8 → Option (Nat × Nat)
 | _, [] => none
 |n, c :: s => if n = 8 ∧ 63 < c.toNat then none else if c.toNat < 128 then (if n = 0 ∨ 0 < c.toNat then some (c.toNat, 1) else none)
  else (gs (n + 1) s).map fun r => (c.toNat % 128 + 128 * r.1, r.2 + 1)
def get (l : List UInt8) (a : Nat) : Option (Nat × Nat) := (gs 0 (l.drop a)).map fun r => (r.1, a + r.2)
end Go.Proofs.Ytpdjehnlejjfmaa.D
/- Runs of numbers as bytes: what is written and what is read. -/
namespace Go.Proofs.Ytpdjehnlejjfmaa.D
open Go.RowKit
set_option linter.unusedVariables false
set_option linter.unusedSimpArgs false

def M4 : Int := 1152921504606846975
def more (d : Int) : Int → List Int → Nat
 | _, [] => 0
 | y, z :: s => if z - y = d then more d z s + 1 else 0
def seq (v d : Int) : Nat → List Int
 | 0 => []
 | n + 1 => v :: seq (v + d) d n
@[simp] theorem seq_length (v d : Int) (n : Nat) : (seq v d n).length = n := by
 induction n generalizing v with
 | zero => rfl
 | succ n ih => simp [seq, ih]
def inM (x : Int) : Prop := 0 ≤ x ∧ x ≤ M4
instance (x : Int) : Decidable (inM x) := by unfold inM; infer_instance
end Go.Proofs.Ytpdjehnlejjfmaa.D
/- Operations: as values, and in order. -/
namespace Go.Proofs.Ytpdjehnlejjfmaa.D
open Go.RowKit
set_option maxRecDepth 100000
set_option maxHeartbeats 4000000
set_option linter.unusedVariables false
set_option linter.unusedSimpArgs false

structure OpV where
 actor : Int
 seq : Int
 time : Int
 deps : List Int
 kind : Int
 obj : Int
 n : Int
 undo : Int
 atT : Int
 atA : Int
 key : List UInt8
 text : List UInt8
def oD (o : OpV) : List DV := [.sc (.int .i64 o.actor), .sc (.int .i64 o.seq), .sc (.int .i64 o.time), .sl (o.deps.map inD), .sc (.int .i64 o.kind), .sc (.int .i64 o.obj), .sc (.int .i64 o.n), .sc (.int .i64 o.undo), .sc (.int .i64 o.atT), .sc (.int .i64 o.atA), .sc (.string (bs o.key)), .sc (.string (bs o.text))]
abbrev timeOk (t : Int) : Prop := 1 ≤ t ∧ t ≤ 1000000000000
abbrev actOk (a : Int) : Prop := 0 ≤ a ∧ a < 16
def stOk (t a : Int) : Prop := timeOk t ∧ actOk a
instance (t a : Int) : Decidable (stOk t a) := by unfold stOk; infer_instance
def stLt (t a u b : Int) : Prop := t < u ∨ t = u ∧ a < b
instance (t a u b : Int) : Decidable (stLt t a u b) := by unfold stLt; infer_instance
abbrev noSt (t a : Int) : Prop := t = 0 ∧ a = 0
def chOk (n : Int) : Prop := 0 ≤ n ∧ n ≤ 1114111 ∧ (n < 55296 ∨ n > 57343)
instance (n : Int) : Decidable (chOk n) := by unfold chOk; infer_instance
def kindOk (o : OpV) : Prop := (o.kind = 1 ∧ o.n = 0 ∧ noSt o.atT o.atA) ∨ (o.kind = 2 ∧ (o.key = [] ∧ o.text = []) ∧ chOk o.n) ∨ (o.kind = 3 ∧ (o.key = [] ∧ o.text = []) ∧ o.n = 0 ∧ ¬ noSt o.atT o.atA) ∨ (o.kind = 4 ∧ (o.key = [] ∧ o.text = []) ∧ noSt o.atT o.atA)
instance (o : OpV) : Decidable (kindOk o) := by unfold kindOk; infer_instance
structure OpOk (o : OpV) : Prop where
 st : stOk o.time o.actor
 seq : 1 ≤ o.seq ∧ o.seq ≤ 1000000000000
 vec : VecOk o.deps
 own : o.deps.getD o.actor.toNat 0 = o.seq - 1
 obj : 1 ≤ o.obj ∧ o.obj ≤ 100
 num : -1000000000000 ≤ o.n ∧ o.n ≤ 1000000000000
 undo : 0 ≤ o.undo ∧ o.undo < o.seq
 words : o.key.length ≤ 200 ∧ o.text.length ≤ 200
 at_ : noSt o.atT o.atA ∨ stOk o.atT o.atA ∧ stLt o.atT o.atA o.time o.actor
 kind : kindOk o
theorem opOk_iff (o : OpV) : OpOk o ↔ (stOk o.time o.actor ∧ (1 ≤ o.seq ∧ o.seq ≤ 1000000000000) ∧ VecOk o.deps ∧ o.deps.getD o.actor.toNat 0 = o.seq - 1 ∧ (1 ≤ o.obj ∧ o.obj ≤ 100) ∧ (-1000000000000 ≤ o.n ∧ o.n ≤ 1000000000000) ∧ (0 ≤ o.undo ∧ o.undo < o.seq) ∧ (o.key.length ≤ 200 ∧ o.text.length ≤ 200) ∧ (noSt o.atT o.atA ∨ stOk o.atT o.atA ∧ stLt o.atT o.atA o.time o.actor) ∧ kindOk o) :=
 ⟨fun h => ⟨h.st, h.seq, h.vec, h.own, h.obj, h.num, h.undo, h.words, h.at_, h.kind⟩, fun ⟨a, b, c, d, e, f, g, i, j, k⟩ => ⟨a, b, c, d, e, f, g, i, j, k⟩⟩
instance (o : OpV) : Decidable (OpOk o) := decidable_of_iff _ (opOk_iff o).symm
abbrev vSt (t a : Int) : SV := .agg [cI t, cI a]
theorem dec_t {p : Prop} [Decidable p] (h : p) : vB true = vB (decide p) := by rw [decide_eq_true h]
theorem dec_f {p : Prop} [Decidable p] (h : ¬ p) : vB false = vB (decide p) := by rw [decide_eq_false h]
theorem dec_b {p q : Prop} [Decidable p] [Decidable q] (h : p ↔ q) : vB (decide p) = vB (decide q) := by rw [show decide p = decide q from by simp [h]]
theorem i_isActor' (a : Int) : CallD Try.prog id_impl_isActor [vI .i64 a] [] (vB (decide (actOk a))) [] := by
 refine F_impl_isActor ?_
 try (conv => whnf)
 repeat' (first
  | (refine br_dec (fun _ => ?_) (fun _ => ?_) <;> first | (exfalso; omega) | contradiction | conv => whnf)
  | (refine br_not ?_; conv => whnf)
  | (refine br_bne (fun _ => ?_) (fun _ => ?_) <;> first | (exfalso; omega) | contradiction | conv => whnf)
  | (refine br_beq (fun _ => ?_) (fun _ => ?_) <;> first | (exfalso; omega) | contradiction | conv => whnf))
 all_goals
  refine Out.mk true [] [] ?_
  try (conv => whnf)
 all_goals first
  | exact ⟨dec_t (by omega), rfl⟩
  | exact ⟨dec_f (by omega), rfl⟩
  | exact ⟨dec_b (by omega), rfl⟩
theorem i_StampOK (t a : Int) : CallD Try.prog id_impl_StampOK [vSt t a] [] (vB (decide (stOk t a))) [] := by
 refine F_impl_StampOK ?_
 try (conv => whnf)
 repeat' (first
  | (refine br_dec (fun _ => ?_) (fun _ => ?_) <;> first | (exfalso; omega) | contradiction | conv => whnf)
  | (refine br_not ?_; conv => whnf)
  | (refine br_bne (fun _ => ?_) (fun _ => ?_) <;> first | (exfalso; omega) | contradiction | conv => whnf)
  | (refine br_beq (fun _ => ?_) (fun _ => ?_) <;> first | (exfalso; omega) | contradiction | conv => whnf))
 ·refine Hand.mk [] ?_
  try (conv => whnf)
  refine CallW.d (i_isActor' a) ?_
  try (conv => whnf)
  refine Out.mk true [] [] ?_
  try (conv => whnf)
  exact ⟨dec_b (by simp only [stOk]; omega), rfl⟩
 all_goals
  refine Out.mk true [] [] ?_
  try (conv => whnf)
 all_goals exact ⟨dec_f (by simp only [stOk]; omega), rfl⟩
theorem s_StampOK (t a : Int) : CallD Try.prog id_spec_StampOK [vSt t a] [] (vB (decide (stOk t a))) [] := by
 refine F_spec_StampOK ?_
 try (conv => whnf)
 repeat' (first
  | (refine br_dec (fun _ => ?_) (fun _ => ?_) <;> first | (exfalso; omega) | contradiction | conv => whnf)
  | (refine br_not ?_; conv => whnf)
  | (refine br_bne (fun _ => ?_) (fun _ => ?_) <;> first | (exfalso; omega) | contradiction | conv => whnf)
  | (refine br_beq (fun _ => ?_) (fun _ => ?_) <;> first | (exfalso; omega) | contradiction | conv => whnf))
 all_goals
  refine Out.mk true [] [] ?_
  try (conv => whnf)
 all_goals first
  | exact ⟨dec_t (by simp only [stOk]; omega), rfl⟩
  | exact ⟨dec_f (by simp only [stOk]; omega), rfl⟩
  | exact ⟨dec_b (by simp only [stOk]; omega), rfl⟩
theorem i_StampLess (t a u b : Int) : CallD Try.prog id_impl_StampLess [vSt t a, vSt u b] [] (vB (decide (stLt t a u b))) [] := by
 refine F_impl_StampLess ?_
 try (conv => whnf)
 repeat' (first
  | (refine SeqJ.thru ?_; conv => whnf)
  | (refine br_dec (fun _ => ?_) (fun _ => ?_) <;> first | (exfalso; omega) | contradiction | conv => whnf)
  | (refine br_not ?_; conv => whnf)
  | (refine br_bne (fun _ => ?_) (fun _ => ?_) <;> first | (exfalso; omega) | contradiction | conv => whnf)
  | (refine br_beq (fun _ => ?_) (fun _ => ?_) <;> first | (exfalso; omega) | contradiction | conv => whnf))
 all_goals
  refine Out.mk true [] [] ?_
  try (conv => whnf)
 all_goals first
  | exact ⟨dec_t (by simp only [stLt]; omega), rfl⟩
  | exact ⟨dec_f (by simp only [stLt]; omega), rfl⟩
  | exact ⟨dec_b (by simp only [stLt]; omega), rfl⟩
theorem s_StampLess (t a u b : Int) : CallD Try.prog id_spec_StampLess [vSt t a, vSt u b] [] (vB (decide (stLt t a u b))) [] := by
 refine F_spec_StampLess ?_
 try (conv => whnf)
 repeat' (first
  | (refine br_dec (fun _ => ?_) (fun _ => ?_) <;> first | (exfalso; omega) | contradiction | conv => whnf)
  | (refine br_not ?_; conv => whnf)
  | (refine br_bne (fun _ => ?_) (fun _ => ?_) <;> first | (exfalso; omega) | contradiction | conv => whnf)
  | (refine br_beq (fun _ => ?_) (fun _ => ?_) <;> first | (exfalso; omega) | contradiction | conv => whnf))
 all_goals
  refine Out.mk true [] [] ?_
  try (conv => whnf)
 all_goals first
  | exact ⟨dec_t (by simp only [stLt]; omega), rfl⟩
  | exact ⟨dec_f (by simp only [stLt]; omega), rfl⟩
  | exact ⟨dec_b (by simp only [stLt]; omega), rfl⟩
end Go.Proofs.Ytpdjehnlejjfmaa.D
/- States of several entries: in order, or not. -/
namespace Go.Proofs.Ytpdjehnlejjfmaa.D
open Go.RowKit
set_option maxRecDepth 100000
set_option maxHeartbeats 4000000
set_option linter.unusedVariables false
set_option linter.unusedSimpArgs false

structure EntV where
 t : Int
 a : Int
 x : List UInt8
abbrev entD (e : EntV) : List DV := [.sc (.int .i64 e.t), .sc (.int .i64 e.a), .sc (.string (bs e.x))]
abbrev cE (l : List EntV) : CV := .dv (.sl (l.map entD))
abbrev vEs (l : List EntV) : SV := .one (cE l)
abbrev vM (s : List Int) (l : List EntV) : SV := .agg [cN s, cE l]
theorem flat_en (l : List EntV) : flatEs (l.map entD) := fun e he d hd => by
 obtain ⟨b, _, rfl⟩ := List.mem_map.1 he
 simp at hd
 rcases hd with rfl | rfl | rfl <;> rfl
theorem len_en (l : List EntV) : ∀ e ∈ l.map entD, e.length = 3 := all_map _ _ _ fun _ => rfl
def gd (s : List Int) (l : List EntV) (j : Nat) (h : j < l.length) : Prop :=
 stOk l[j].t l[j].a ∧ l[j].x.length ≤ 200 ∧ l[j].t ≤ s.getD l[j].a.toNat 0 ∧ (0 < j → stLt (l[j - 1]'(by omega)).t (l[j - 1]'(by omega)).a l[j].t l[j].a)
def StOk (s : List Int) (l : List EntV) : Prop := VecOk s ∧ l.length ≤ 256 ∧ ∀ j (h : j < l.length), gd s l j h
noncomputable instance (s : List Int) (l : List EntV) : Decidable (StOk s l) := Classical.propDecidable _
theorem seen_at {s : List Int} {a : Int} (h : VecOk s) (ha : actOk a) : ∃ hlt : a.toNat < s.length, s.getD a.toNat 0 = s[a.toNat] := by
 have := h.1
 have hlt : a.toNat < s.length := by omega
 exact ⟨hlt, by rw [List.getD_eq_getElem?_getD, List.getElem?_eq_getElem hlt]; rfl⟩
theorem st_no {s : List Int} {l : List EntV} {i : Nat} (h : i < l.length) (hn : ¬ gd s l i h) : ¬ StOk s l := fun hs => hn (hs.2.2 i h)
theorem at_e (l : List EntV) (n : Int) (m : Nat) (h : n = m) (hm : m < l.length) : 0 ≤ n ∧ (l.map entD)[n.toNat]? = some (entD l[m]) := by
 subst h
 exact ⟨by omega, by simp [hm]⟩
theorem at_i (l : List Int) (n : Int) (m : Nat) (h : n = m) (hm : m < l.length) : 0 ≤ n ∧ (l.map inD)[n.toNat]? = some (inD l[m]) := by
 subst h
 exact ⟨by omega, by simp [hm]⟩
theorem i_stateOK (s : List Int) (l : List EntV) (hl : l.length ≤ 2 ^ 62) (hx : ∀ e ∈ l, e.x.length ≤ 2 ^ 62) : CallD Try.prog id_impl_stateOK [vV s, vEs l] [] (vB (decide (StOk s l))) [] := by
 refine F_impl_stateOK ?_
 try (conv => whnf)
 repeat (refine SeqJ.thru ?_; conv => whnf)
 by_cases hv : VecOk s
 rotate_left
 ·refine Hand.mk [] ?_
  try (conv => whnf)
  refine CallW.d (i_VecOK s) ?_
  try (conv => whnf)
  try (conv => whnf)
  repeat' (first
   | (refine br_dec (fun _ => ?_) (fun _ => ?_) <;> first | (exfalso; omega) | contradiction | conv => whnf)
   | (refine br_not ?_; conv => whnf)
   | (refine br_bne (fun _ => ?_) (fun _ => ?_) <;> first | (exfalso; omega) | contradiction | conv => whnf)
   | (refine br_beq (fun _ => ?_) (fun _ => ?_) <;> first | (exfalso; omega) | contradiction | conv => whnf))
  refine Out.mk true [] [] ?_
  try (conv => whnf)
  exact ⟨dec_f fun h => hv h.1, rfl⟩
 have hv1 := hv.1
 refine Hand.mk [] ?_
 try (conv => whnf)
 refine CallW.d (i_VecOK s) ?_
 try (conv => whnf)
 try (conv => whnf)
 repeat' (first
  | (refine Pick.mk ?_ ?_ ?_; rotate_left; (focus (exact List.length_map _)); conv => whnf)
  | (refine br_dec (fun _ => ?_) (fun _ => ?_) <;> first | (exfalso; omega) | contradiction | conv => whnf)
  | (refine br_not ?_; conv => whnf)
  | (refine br_bne (fun _ => ?_) (fun _ => ?_) <;> first | (exfalso; omega) | contradiction | conv => whnf)
  | (refine br_beq (fun _ => ?_) (fun _ => ?_) <;> first | (exfalso; omega) | contradiction | conv => whnf))
 ·refine Out.mk true [] [] ?_
  try (conv => whnf)
  exact ⟨dec_f fun h => by have := h.2.1; omega, rfl⟩
 refine LoopE.mk (fun i : Nat => mk [(1, vEs l), (2, .one (.ptr 4096 0)), (15, vEs l), (16, vI .i64 l.length), (17, vI .i64 i)] [(4096, .box [cN s])]) (fun i => i ≤ l.length ∧ ∀ j (h : j < l.length), j < i → gd s l j h) (fun i => l.length - i) 0 ⟨by omega, by omega⟩ (LeX.of ?_) ?_
 ·try (conv => whnf)
  repeat (refine Need.mk ?_ ?_; (focus (first | omega | (simp; done))); conv => whnf)
  trivial
 ·intro i ⟨hi, hg⟩
  rcases Nat.lt_or_ge i l.length with hlt | hge
  ·have hxi := hx _ (List.getElem_mem hlt)
   have p0 := at_e l (i : Int) i rfl hlt
   by_cases h1 : stOk l[i].t l[i].a
   ·obtain ⟨⟨t1, t2⟩, a1, a2⟩ := id h1
    obtain ⟨hs1, hs2⟩ := seen_at hv ⟨a1, a2⟩
    have p1 := at_i s l[i].a l[i].a.toNat (by omega) hs1
    try (conv => whnf)
    repeat' (first
     | (refine Pick.mk ?_ ?_ ?_; rotate_left; (focus (assumption)); conv => whnf)
     | (refine SeqJ.thru ?_; conv => whnf)
     | (refine br_dec (fun _ => ?_) (fun _ => ?_) <;> first | (exfalso; omega) | contradiction | conv => whnf)
     | (refine br_not ?_; conv => whnf)
     | (refine br_bne (fun _ => ?_) (fun _ => ?_) <;> first | (exfalso; omega) | contradiction | conv => whnf)
     | (refine br_beq (fun _ => ?_) (fun _ => ?_) <;> first | (exfalso; omega) | contradiction | conv => whnf))
    refine Hand.mk [] ?_
    try (conv => whnf)
    refine CallW.d (i_StampOK l[i].t l[i].a) ?_
    try (conv => whnf)
    rcases Nat.eq_zero_or_pos i with h0 | h0
    ·try (conv => whnf)
     repeat' (first
      | (refine Pick.mk ?_ ?_ ?_; rotate_left; (focus (first | assumption | exact size_bs _ | (refine wid ?_ ?_ <;> omega))); conv => whnf)
      | (refine br_dec (fun _ => ?_) (fun _ => ?_) <;> first | (exfalso; omega) | contradiction | conv => whnf)
      | (refine br_not ?_; conv => whnf)
      | (refine br_bne (fun _ => ?_) (fun _ => ?_) <;> first | (exfalso; omega) | contradiction | conv => whnf)
      | (refine br_beq (fun _ => ?_) (fun _ => ?_) <;> first | (exfalso; omega) | contradiction | conv => whnf))
     all_goals first
      |skip
       refine Out.mk true [] [] ?_
       try (conv => whnf)
       exact ⟨dec_f (st_no hlt fun g => by have g1 := g.2.1; have g2 := g.2.2.1; rw [hs2] at g2; omega), rfl⟩
      |skip
       have G : gd s l i hlt := ⟨h1, by omega, by rw [hs2]; omega, (fun h => absurd h (by omega))⟩
       refine Pick.mk (i + 1) ⟨⟨by omega, fun j h hj => ?_⟩, by omega⟩ (LeX.of ?_)
       ·rcases Nat.lt_or_ge j i with h9 | h9
        ·exact hg j h h9
        ·obtain rfl : j = i := by omega
         exact G
       ·try (conv => whnf)
        repeat (refine Need.mk ?_ ?_; (focus (first | omega | (simp; done))); conv => whnf)
        trivial
    ·have p2 := at_e l ((i : Int) - 1) (i - 1) (by omega) (by omega)
     by_cases h2 : stLt (l[i - 1]'(by omega)).t (l[i - 1]'(by omega)).a l[i].t l[i].a
     ·try (conv => whnf)
      repeat' (first
       | (refine Pick.mk ?_ ?_ ?_; rotate_left; (focus (first | assumption | exact size_bs _ | (refine wid ?_ ?_ <;> omega))); conv => whnf)
       | (refine br_dec (fun _ => ?_) (fun _ => ?_) <;> first | (exfalso; omega) | contradiction | conv => whnf)
       | (refine br_not ?_; conv => whnf)
       | (refine br_bne (fun _ => ?_) (fun _ => ?_) <;> first | (exfalso; omega) | contradiction | conv => whnf)
       | (refine br_beq (fun _ => ?_) (fun _ => ?_) <;> first | (exfalso; omega) | contradiction | conv => whnf))
      all_goals first
       |skip
        refine Out.mk true [] [] ?_
        try (conv => whnf)
        exact ⟨dec_f (st_no hlt fun g => by have g1 := g.2.1; have g2 := g.2.2.1; rw [hs2] at g2; omega), rfl⟩
       |skip
        refine Hand.mk [] ?_
        try (conv => whnf)
        refine CallW.d (i_StampLess (l[i - 1]'(by omega)).t (l[i - 1]'(by omega)).a l[i].t l[i].a) ?_
        try (conv => whnf)
        try (conv => whnf)
        repeat' (first
         | (refine Pick.mk ?_ ?_ ?_; rotate_left; (focus ((refine wid ?_ ?_ <;> omega))); conv => whnf)
         | (refine br_dec (fun _ => ?_) (fun _ => ?_) <;> first | (exfalso; omega) | contradiction | conv => whnf)
         | (refine br_not ?_; conv => whnf)
         | (refine br_bne (fun _ => ?_) (fun _ => ?_) <;> first | (exfalso; omega) | contradiction | conv => whnf)
         | (refine br_beq (fun _ => ?_) (fun _ => ?_) <;> first | (exfalso; omega) | contradiction | conv => whnf))
        have G : gd s l i hlt := ⟨h1, by omega, by rw [hs2]; omega, (fun _ => h2)⟩
        refine Pick.mk (i + 1) ⟨⟨by omega, fun j h hj => ?_⟩, by omega⟩ (LeX.of ?_)
        ·rcases Nat.lt_or_ge j i with h9 | h9
         ·exact hg j h h9
         ·obtain rfl : j = i := by omega
          exact G
        ·try (conv => whnf)
         repeat (refine Need.mk ?_ ?_; (focus (first | omega | (simp; done))); conv => whnf)
         trivial
     ·try (conv => whnf)
      repeat' (first
       | (refine Pick.mk ?_ ?_ ?_; rotate_left; (focus (first | assumption | exact size_bs _ | (refine wid ?_ ?_ <;> omega))); conv => whnf)
       | (refine br_dec (fun _ => ?_) (fun _ => ?_) <;> first | (exfalso; omega) | contradiction | conv => whnf)
       | (refine br_not ?_; conv => whnf)
       | (refine br_bne (fun _ => ?_) (fun _ => ?_) <;> first | (exfalso; omega) | contradiction | conv => whnf)
       | (refine br_beq (fun _ => ?_) (fun _ => ?_) <;> first | (exfalso; omega) | contradiction | conv => whnf))
      all_goals first
       |skip
        refine Out.mk true [] [] ?_
        try (conv => whnf)
        exact ⟨dec_f (st_no hlt fun g => by have g1 := g.2.1; have g2 := g.2.2.1; rw [hs2] at g2; omega), rfl⟩
       |skip
        refine Hand.mk [] ?_
        try (conv => whnf)
        refine CallW.d (i_StampLess (l[i - 1]'(by omega)).t (l[i - 1]'(by omega)).a l[i].t l[i].a) ?_
        try (conv => whnf)
        try (conv => whnf)
        repeat' (first
         | (refine br_dec (fun _ => ?_) (fun _ => ?_) <;> first | (exfalso; omega) | contradiction | conv => whnf)
         | (refine br_not ?_; conv => whnf)
         | (refine br_bne (fun _ => ?_) (fun _ => ?_) <;> first | (exfalso; omega) | contradiction | conv => whnf)
         | (refine br_beq (fun _ => ?_) (fun _ => ?_) <;> first | (exfalso; omega) | contradiction | conv => whnf))
        refine Out.mk true [] [] ?_
        try (conv => whnf)
        exact ⟨dec_f (st_no hlt fun g => h2 (g.2.2.2 h0)), rfl⟩
   ·try (conv => whnf)
    repeat' (first
     | (refine Pick.mk ?_ ?_ ?_; rotate_left; (focus (assumption)); conv => whnf)
     | (refine SeqJ.thru ?_; conv => whnf)
     | (refine br_dec (fun _ => ?_) (fun _ => ?_) <;> first | (exfalso; omega) | contradiction | conv => whnf)
     | (refine br_not ?_; conv => whnf)
     | (refine br_bne (fun _ => ?_) (fun _ => ?_) <;> first | (exfalso; omega) | contradiction | conv => whnf)
     | (refine br_beq (fun _ => ?_) (fun _ => ?_) <;> first | (exfalso; omega) | contradiction | conv => whnf))
    refine Hand.mk [] ?_
    try (conv => whnf)
    refine CallW.d (i_StampOK l[i].t l[i].a) ?_
    try (conv => whnf)
    try (conv => whnf)
    repeat' (first
     | (refine br_dec (fun _ => ?_) (fun _ => ?_) <;> first | (exfalso; omega) | contradiction | conv => whnf)
     | (refine br_not ?_; conv => whnf)
     | (refine br_bne (fun _ => ?_) (fun _ => ?_) <;> first | (exfalso; omega) | contradiction | conv => whnf)
     | (refine br_beq (fun _ => ?_) (fun _ => ?_) <;> first | (exfalso; omega) | contradiction | conv => whnf))
    refine Out.mk true [] [] ?_
    try (conv => whnf)
    exact ⟨dec_f (st_no hlt fun g => h1 g.1), rfl⟩
  ·try (conv => whnf)
   repeat' (first
    | (refine SeqJ.thru ?_; conv => whnf)
    | (refine br_dec (fun _ => ?_) (fun _ => ?_) <;> first | (exfalso; omega) | contradiction | conv => whnf)
    | (refine br_not ?_; conv => whnf)
    | (refine br_bne (fun _ => ?_) (fun _ => ?_) <;> first | (exfalso; omega) | contradiction | conv => whnf)
    | (refine br_beq (fun _ => ?_) (fun _ => ?_) <;> first | (exfalso; omega) | contradiction | conv => whnf))
   refine Out.mk true [] [] ?_
   try (conv => whnf)
   exact ⟨dec_t ⟨hv, by omega, fun j h => hg j h (by omega)⟩, rfl⟩
theorem s_l03EntriesOK (s : List Int) (l : List EntV) (hl : l.length ≤ 2 ^ 62) (hx : ∀ e ∈ l, e.x.length ≤ 2 ^ 62) : CallD Try.prog id_spec_l03EntriesOK [vV s, vEs l] [] (vB (decide (StOk s l))) [] := by
 refine F_spec_l03EntriesOK ?_
 try (conv => whnf)
 repeat (refine SeqJ.thru ?_; conv => whnf)
 by_cases hv : VecOk s
 rotate_left
 ·refine Hand.mk [] ?_
  try (conv => whnf)
  refine CallW.d (s_VecOK s) ?_
  try (conv => whnf)
  try (conv => whnf)
  repeat' (first
   | (refine br_dec (fun _ => ?_) (fun _ => ?_) <;> first | (exfalso; omega) | contradiction | conv => whnf)
   | (refine br_not ?_; conv => whnf)
   | (refine br_bne (fun _ => ?_) (fun _ => ?_) <;> first | (exfalso; omega) | contradiction | conv => whnf)
   | (refine br_beq (fun _ => ?_) (fun _ => ?_) <;> first | (exfalso; omega) | contradiction | conv => whnf))
  refine Out.mk true [] [] ?_
  try (conv => whnf)
  exact ⟨dec_f fun h => hv h.1, rfl⟩
 have hv1 := hv.1
 refine Hand.mk [] ?_
 try (conv => whnf)
 refine CallW.d (s_VecOK s) ?_
 try (conv => whnf)
 try (conv => whnf)
 repeat' (first
  | (refine Pick.mk ?_ ?_ ?_; rotate_left; (focus (exact List.length_map _)); conv => whnf)
  | (refine br_dec (fun _ => ?_) (fun _ => ?_) <;> first | (exfalso; omega) | contradiction | conv => whnf)
  | (refine br_not ?_; conv => whnf)
  | (refine br_bne (fun _ => ?_) (fun _ => ?_) <;> first | (exfalso; omega) | contradiction | conv => whnf)
  | (refine br_beq (fun _ => ?_) (fun _ => ?_) <;> first | (exfalso; omega) | contradiction | conv => whnf))
 ·refine Out.mk true [] [] ?_
  try (conv => whnf)
  exact ⟨dec_f fun h => by have := h.2.1; omega, rfl⟩
 refine LoopE.mk (fun i : Nat => mk [(1, vEs l), (2, .one (.ptr 4096 0)), (5, vI .i64 i)] [(4096, .box [cN s])]) (fun i => i ≤ l.length ∧ ∀ j (h : j < l.length), j < i → gd s l j h) (fun i => l.length - i) 0 ⟨by omega, by omega⟩ (LeX.of ?_) ?_
 ·try (conv => whnf)
  repeat (refine Need.mk ?_ ?_; (focus (first | omega | (simp; done))); conv => whnf)
  trivial
 ·intro i ⟨hi, hg⟩
  rcases Nat.lt_or_ge i l.length with hlt | hge
  ·have hxi := hx _ (List.getElem_mem hlt)
   have p0 := at_e l (i : Int) i rfl hlt
   by_cases h1 : stOk l[i].t l[i].a
   ·obtain ⟨⟨t1, t2⟩, a1, a2⟩ := id h1
    obtain ⟨hs1, hs2⟩ := seen_at hv ⟨a1, a2⟩
    have p1 := at_i s l[i].a l[i].a.toNat (by omega) hs1
    try (conv => whnf)
    repeat' (first
     | (refine Pick.mk ?_ ?_ ?_; rotate_left; (focus (first | assumption | exact List.length_map _)); conv => whnf)
     | (refine SeqJ.thru ?_; conv => whnf)
     | (refine br_dec (fun _ => ?_) (fun _ => ?_) <;> first | (exfalso; omega) | contradiction | conv => whnf)
     | (refine br_not ?_; conv => whnf)
     | (refine br_bne (fun _ => ?_) (fun _ => ?_) <;> first | (exfalso; omega) | contradiction | conv => whnf)
     | (refine br_beq (fun _ => ?_) (fun _ => ?_) <;> first | (exfalso; omega) | contradiction | conv => whnf))
    refine Hand.mk [] ?_
    try (conv => whnf)
    refine CallW.d (s_StampOK l[i].t l[i].a) ?_
    try (conv => whnf)
    rcases Nat.eq_zero_or_pos i with h0 | h0
    ·try (conv => whnf)
     repeat' (first
      | (refine Pick.mk ?_ ?_ ?_; rotate_left; (focus (first | assumption | exact size_bs _ | (refine wid ?_ ?_ <;> omega))); conv => whnf)
      | (refine br_dec (fun _ => ?_) (fun _ => ?_) <;> first | (exfalso; omega) | contradiction | conv => whnf)
      | (refine br_not ?_; conv => whnf)
      | (refine br_bne (fun _ => ?_) (fun _ => ?_) <;> first | (exfalso; omega) | contradiction | conv => whnf)
      | (refine br_beq (fun _ => ?_) (fun _ => ?_) <;> first | (exfalso; omega) | contradiction | conv => whnf))
     all_goals first
      |skip
       refine Out.mk true [] [] ?_
       try (conv => whnf)
       exact ⟨dec_f (st_no hlt fun g => by have g1 := g.2.1; have g2 := g.2.2.1; rw [hs2] at g2; omega), rfl⟩
      |skip
       have G : gd s l i hlt := ⟨h1, by omega, by rw [hs2]; omega, (fun h => absurd h (by omega))⟩
       refine Pick.mk (i + 1) ⟨⟨by omega, fun j h hj => ?_⟩, by omega⟩ (LeX.of ?_)
       ·rcases Nat.lt_or_ge j i with h9 | h9
        ·exact hg j h h9
        ·obtain rfl : j = i := by omega
         exact G
       ·try (conv => whnf)
        repeat (refine Need.mk ?_ ?_; (focus (first | omega | (simp; done))); conv => whnf)
        trivial
    ·have p2 := at_e l ((i : Int) - 1) (i - 1) (by omega) (by omega)
     by_cases h2 : stLt (l[i - 1]'(by omega)).t (l[i - 1]'(by omega)).a l[i].t l[i].a
     ·try (conv => whnf)
      repeat' (first
       | (refine Pick.mk ?_ ?_ ?_; rotate_left; (focus (first | assumption | exact size_bs _ | (refine wid ?_ ?_ <;> omega))); conv => whnf)
       | (refine br_dec (fun _ => ?_) (fun _ => ?_) <;> first | (exfalso; omega) | contradiction | conv => whnf)
       | (refine br_not ?_; conv => whnf)
       | (refine br_bne (fun _ => ?_) (fun _ => ?_) <;> first | (exfalso; omega) | contradiction | conv => whnf)
       | (refine br_beq (fun _ => ?_) (fun _ => ?_) <;> first | (exfalso; omega) | contradiction | conv => whnf))
      all_goals first
       |skip
        refine Out.mk true [] [] ?_
        try (conv => whnf)
        exact ⟨dec_f (st_no hlt fun g => by have g1 := g.2.1; have g2 := g.2.2.1; rw [hs2] at g2; omega), rfl⟩
       |skip
        refine Hand.mk [] ?_
        try (conv => whnf)
        refine CallW.d (s_StampLess (l[i - 1]'(by omega)).t (l[i - 1]'(by omega)).a l[i].t l[i].a) ?_
        try (conv => whnf)
        try (conv => whnf)
        repeat' (first
         | (refine Pick.mk ?_ ?_ ?_; rotate_left; (focus ((refine wid ?_ ?_ <;> omega))); conv => whnf)
         | (refine br_dec (fun _ => ?_) (fun _ => ?_) <;> first | (exfalso; omega) | contradiction | conv => whnf)
         | (refine br_not ?_; conv => whnf)
         | (refine br_bne (fun _ => ?_) (fun _ => ?_) <;> first | (exfalso; omega) | contradiction | conv => whnf)
         | (refine br_beq (fun _ => ?_) (fun _ => ?_) <;> first | (exfalso; omega) | contradiction | conv => whnf))
        have G : gd s l i hlt := ⟨h1, by omega, by rw [hs2]; omega, (fun _ => h2)⟩
        refine Pick.mk (i + 1) ⟨⟨by omega, fun j h hj => ?_⟩, by omega⟩ (LeX.of ?_)
        ·rcases Nat.lt_or_ge j i with h9 | h9
         ·exact hg j h h9
         ·obtain rfl : j = i := by omega
          exact G
        ·try (conv => whnf)
         repeat (refine Need.mk ?_ ?_; (focus (first | omega | (simp; done))); conv => whnf)
         trivial
     ·try (conv => whnf)
      repeat' (first
       | (refine Pick.mk ?_ ?_ ?_; rotate_left; (focus (first | assumption | exact size_bs _ | (refine wid ?_ ?_ <;> omega))); conv => whnf)
       | (refine br_dec (fun _ => ?_) (fun _ => ?_) <;> first | (exfalso; omega) | contradiction | conv => whnf)
       | (refine br_not ?_; conv => whnf)
       | (refine br_bne (fun _ => ?_) (fun _ => ?_) <;> first | (exfalso; omega) | contradiction | conv => whnf)
       | (refine br_beq (fun _ => ?_) (fun _ => ?_) <;> first | (exfalso; omega) | contradiction | conv => whnf))
      all_goals first
       |skip
        refine Out.mk true [] [] ?_
        try (conv => whnf)
        exact ⟨dec_f (st_no hlt fun g => by have g1 := g.2.1; have g2 := g.2.2.1; rw [hs2] at g2; omega), rfl⟩
       |skip
        refine Hand.mk [] ?_
        try (conv => whnf)
        refine CallW.d (s_StampLess (l[i - 1]'(by omega)).t (l[i - 1]'(by omega)).a l[i].t l[i].a) ?_
        try (conv => whnf)
        try (conv => whnf)
        repeat' (first
         | (refine br_dec (fun _ => ?_) (fun _ => ?_) <;> first | (exfalso; omega) | contradiction | conv => whnf)
         | (refine br_not ?_; conv => whnf)
         | (refine br_bne (fun _ => ?_) (fun _ => ?_) <;> first | (exfalso; omega) | contradiction | conv => whnf)
         | (refine br_beq (fun _ => ?_) (fun _ => ?_) <;> first | (exfalso; omega) | contradiction | conv => whnf))
        refine Out.mk true [] [] ?_
        try (conv => whnf)
        exact ⟨dec_f (st_no hlt fun g => h2 (g.2.2.2 h0)), rfl⟩
   ·try (conv => whnf)
    repeat' (first
     | (refine Pick.mk ?_ ?_ ?_; rotate_left; (focus (first | assumption | exact List.length_map _)); conv => whnf)
     | (refine SeqJ.thru ?_; conv => whnf)
     | (refine br_dec (fun _ => ?_) (fun _ => ?_) <;> first | (exfalso; omega) | contradiction | conv => whnf)
     | (refine br_not ?_; conv => whnf)
     | (refine br_bne (fun _ => ?_) (fun _ => ?_) <;> first | (exfalso; omega) | contradiction | conv => whnf)
     | (refine br_beq (fun _ => ?_) (fun _ => ?_) <;> first | (exfalso; omega) | contradiction | conv => whnf))
    refine Hand.mk [] ?_
    try (conv => whnf)
    refine CallW.d (s_StampOK l[i].t l[i].a) ?_
    try (conv => whnf)
    try (conv => whnf)
    repeat' (first
     | (refine br_dec (fun _ => ?_) (fun _ => ?_) <;> first | (exfalso; omega) | contradiction | conv => whnf)
     | (refine br_not ?_; conv => whnf)
     | (refine br_bne (fun _ => ?_) (fun _ => ?_) <;> first | (exfalso; omega) | contradiction | conv => whnf)
     | (refine br_beq (fun _ => ?_) (fun _ => ?_) <;> first | (exfalso; omega) | contradiction | conv => whnf))
    refine Out.mk true [] [] ?_
    try (conv => whnf)
    exact ⟨dec_f (st_no hlt fun g => h1 g.1), rfl⟩
  ·try (conv => whnf)
   repeat' (first
    | (refine Pick.mk ?_ ?_ ?_; rotate_left; (focus (exact List.length_map _)); conv => whnf)
    | (refine SeqJ.thru ?_; conv => whnf)
    | (refine br_dec (fun _ => ?_) (fun _ => ?_) <;> first | (exfalso; omega) | contradiction | conv => whnf)
    | (refine br_not ?_; conv => whnf)
    | (refine br_bne (fun _ => ?_) (fun _ => ?_) <;> first | (exfalso; omega) | contradiction | conv => whnf)
    | (refine br_beq (fun _ => ?_) (fun _ => ?_) <;> first | (exfalso; omega) | contradiction | conv => whnf))
   refine Out.mk true [] [] ?_
   try (conv => whnf)
   exact ⟨dec_t ⟨hv, by omega, fun j h => hg j h (by omega)⟩, rfl⟩
end Go.Proofs.Ytpdjehnlejjfmaa.D
/- Writing to a register of several: by both. -/
namespace Go.Proofs.Ytpdjehnlejjfmaa.D
open Go.RowKit
set_option maxRecDepth 100000
set_option maxHeartbeats 4000000
set_option linter.unusedVariables false
set_option linter.unusedSimpArgs false

def wC (s : List Int) (a : Int) (x : List UInt8) : Int := if ¬ actOk a ∨ 200 < x.length then 4 else if s.getD a.toNat 0 = 1000000000000 then 11 else 0
def wS (s : List Int) (a : Int) (x : List UInt8) : List Int := if wC s a x = 0 then s.set a.toNat (s.getD a.toNat 0 + 1) else []
def wE (s : List Int) (a : Int) (x : List UInt8) : EntV := if wC s a x = 0 then ⟨s.getD a.toNat 0 + 1, a, x⟩ else ⟨0, 0, []⟩
abbrev wR (s : List Int) (a : Int) (x : List UInt8) : SV := .tup [(true, [.os (.v 0) 1 0 (wS s a x).length]), (true, [cI (wE s a x).t, cI (wE s a x).a, cS (bs (wE s a x).x)]), (false, [cI (wC s a x)])]
theorem wErr {s : List Int} {a : Int} {x : List UInt8} {c : Int} (hc : wC s a x = c) (h0 : c ≠ 0) : SV.tup [(true, [.os (.v 0) 1 0 0]), (true, [cI 0, cI 0, cS (bs [])]), (false, [cI c])] = wR s a x ∧ [Row.own 1 []] = [Row.own 1 ((wS s a x).map inD)] := by
 subst hc
 rw [wR, wS, wE, if_neg h0, if_neg h0]
 exact ⟨rfl, rfl⟩
theorem wGood {s : List Int} {a : Int} {x : List UInt8} {v : Int} (hc : wC s a x = 0) (hl : s.length = 16) (hv : s.getD a.toNat 0 = v) : SV.tup [(true, [.os (.v 0) 1 0 s.length]), (true, [cI (v + 1), cI a, cS (bs x)]), (false, [cI 0])] = wR s a x ∧ [Row.own 1 ((s.set a.toNat (v + 1)).map inD)] = [Row.own 1 ((wS s a x).map inD)] := by
 rw [wR, wS, wE, if_pos hc, if_pos hc, hc, hv]
 simp
theorem vecAt {v : List Int} (h : VecOk v) {i : Nat} (hi : i < v.length) : 0 ≤ v[i] ∧ v[i] ≤ 1000000000000 := by
 have := h.2 _ (List.getElem_mem hi)
 simpa [cntOk] using this
theorem s_l03Write (s : List Int) (a : Int) (x : List UInt8) (hv : VecOk s) (hx : x.length ≤ 2 ^ 62) : CallD Try.prog id_spec_l03Write [vV s, vI .i64 a, vS (bs x)] [] (wR s a x) [.own 1 ((wS s a x).map inD)] := by
 refine F_spec_l03Write ?_
 have hvl := hv.1
 by_cases ha : actOk a
 ·obtain ⟨hs1, hs2⟩ := seen_at hv ha
  have p1 := at_i s a a.toNat (by omega) hs1
  have hc := vecAt hv hs1
  ·try (conv => whnf)
   repeat' (first
    | (refine Pick.mk ?_ ?_ ?_; rotate_left; (focus (first | assumption | exact size_bs _)); conv => whnf)
    | (refine SeqJ.thru ?_; conv => whnf)
    | (refine br_dec (fun _ => ?_) (fun _ => ?_) <;> first | (exfalso; omega) | contradiction | conv => whnf)
    | (refine br_not ?_; conv => whnf)
    | (refine br_bne (fun _ => ?_) (fun _ => ?_) <;> first | (exfalso; omega) | contradiction | conv => whnf)
    | (refine br_beq (fun _ => ?_) (fun _ => ?_) <;> first | (exfalso; omega) | contradiction | conv => whnf))
   ·refine Out.mk false [0, 1, 2, 3, 4] [(0, 1)] ?_
    try (conv => whnf)
    repeat (refine Need.mk ?_ ?_; (focus ((first | exact flat_by _ | exact flat_in _ | exact flat_st _ | exact flat_ts _ | exact flat_bo _ | exact flat_cl rfl))); conv => whnf)
    exact ⟨wErr (by rw [wC, if_pos (.inr (by omega))]) (by omega)⟩
   ·refine Out.mk false [0, 1, 2, 3, 4] [(0, 1)] ?_
    try (conv => whnf)
    repeat (refine Need.mk ?_ ?_; (focus ((first | exact flat_by _ | exact flat_in _ | exact flat_st _ | exact flat_ts _ | exact flat_bo _ | exact flat_cl rfl))); conv => whnf)
    exact ⟨wErr (by rw [wC, if_neg (by omega), hs2, if_pos (by omega)]) (by omega)⟩
   ·refine Hand.mk [] ?_
    try (conv => whnf)
    refine CallW.d (s_l02Copy s (by omega)) ?_
    try (conv => whnf)
    repeat (first
     | (refine Need.mk ?_ ?_; (focus (first | omega | (simp only [List.length_map, List.length_append, List.length_cons, List.length_nil, List.length_replicate]; omega) | ((conv => whnf); (repeat (first | (refine Need.mk (by first | rfl | omega | (simp; done)) ?_; conv => whnf) | (refine Pick.mk ?_ ?_ ?_; rotate_left; (focus (first | with_reducible exact xor_u8 _ _ | (with_reducible refine xor_i64 ?_ ?_; all_goals omega) | (with_reducible refine xor_u32 ?_ ?_; all_goals omega) | assumption | with_reducible exact set_byN _ _ _ _ | with_reducible exact set_byI _ _ _ _ | with_reducible exact set_inN _ _ _ _ | with_reducible exact set_inI _ _ _ _ | with_reducible exact set_stN _ _ _ _ | with_reducible exact set_tsN _ _ _ _ | with_reducible exact set_tsI _ _ _ _ | with_reducible exact set_boN _ _ _ _ | with_reducible exact set_boI _ _ _ _ | (with_reducible refine get_mapN _ _ _ ?_; first | omega | (simp; omega)) | (with_reducible refine get_mapI _ _ _ ?_ ?_ <;> first | omega | (simp; omega)) | exact bs_beq _ _ | exact bs_less _ _ | exact bs_leq _ _ | with_reducible exact bs_app _ _ | (refine bs_get _ _ ?_; omega) | (refine bs_int _ _ ?_ ?_ <;> omega) | with_reducible exact sl_map0 _ _ _ | with_reducible exact sl_mapN _ _ _ | with_reducible exact sl_map _ _ _ _ | exact bs_extract0 _ _ | exact bs_extractN _ _ | exact bs_extract _ _ _ | (refine bnd_id ?_; omega) | (refine bnd_sub ?_ ?_ <;> omega) | (refine bnd_add ?_; omega) | (refine bnd_subN ?_ ?_ <;> omega) | (refine bnd_int ?_ ?_ <;> omega) | ((show @Eq Nat (_ + Int.toNat _ * _) _); simp only [Int.toNat_natCast, Nat.zero_add, Nat.mul_one]; rfl) | ((show @Eq (List _) (List.set [_] _ _) _); simp only [List.set_cons_zero]; rfl) | exact List.length_map _ | exact size_bs _ | (simp only [List.length_map, List.length_append, List.length_cons, List.length_nil, List.length_replicate, Nat.zero_add]; rfl) | with_reducible exact List.nil_append _ | with_reducible exact map_app _ _ _ | exact map_snoc byD _ _ | exact map_snoc inD _ _ | exact map_snoc stD _ _ | exact map_snoc tsD _ _ | (simp only [chunks]; rfl) | (refine wid ?_ ?_ <;> omega) | exact wby _ | with_reducible exact wby32 _ | with_reducible exact wu32 _ | exact wby64 _ | exact shr8 _ | exact shr16 _ | exact shr24 _ | exact shr32 _ | (refine tmodn ?_; omega) | (refine wdiv ?_ ?_ ?_ <;> omega) | exact wbyte _ | exact natlit _ | exact rep_by _ | exact rep_in _ | exact rep_bo _ | exact rep_st _ | (refine pick_nat _ _ _ ?_; omega) | (refine pick_int _ _ _ ?_ ?_ <;> omega) | (refine SlOf.full ?_; first | (simp; done) | (simp; omega)) | (with_reducible refine SlOf.pre _ _ ?_; first | omega | (simp; omega)) | (refine SlF.self _ _ ?_ ?_; (first | rfl | omega | (simp; done) | (simp; omega)); (exact fun _ => rfl)) | (refine SlF.pre _ _ ?_ ?_; (first | omega | (simp; omega)); (exact fun _ => rfl)) | (refine SlF.same ?_ ?_; (first | rfl | omega | (simp; done) | (simp; omega)); (first | exact fz_self _ _ (fun _ => rfl) | exact fz_pl rfl | (refine Fz.append ?_ ?_ <;> first | exact fz_self _ _ (fun _ => rfl) | exact fz_pl rfl) | (refine Fz.append (Fz.append ?_ ?_) ?_ <;> first | exact fz_self _ _ (fun _ => rfl) | exact fz_pl rfl))) | (simp only [Int.toNat_natCast, Nat.zero_add, Nat.mul_one]; rfl) | ((show @Eq (Option CV) _ _); rfl) | ((fail_if_success (show @Eq (Option _) _ _)); rfl) | ((show @Eq (Option _) _ _); simp only [List.getElem?_cons_zero, List.getElem?_cons_succ]; done) | ((show @Eq (Option _) _ _); simp only [List.getElem?_cons_zero, List.getElem?_cons_succ]; rfl) | with_reducible rfl)); conv => whnf))); exact Done.mk trivial))); conv => whnf)
     | (refine Pick.mk ?_ ?_ ?_; rotate_left; (focus (first | with_reducible exact set_inI _ _ _ _ | (with_reducible refine get_mapI _ _ _ ?_ ?_ <;> first | omega | (simp; omega)) | (refine wid ?_ ?_ <;> omega))); conv => whnf))
    refine Out.mk false [0, 1, 2, 3, 4] [] ?_
    try (conv => whnf)
    repeat (refine Need.mk ?_ ?_; (focus ((first | exact flat_by _ | exact flat_in _ | exact flat_st _ | exact flat_ts _ | exact flat_bo _ | exact flat_cl rfl))); conv => whnf)
    simp only [List.getElem_set_self, List.length_set]
    exact ⟨wGood (by rw [wC, if_neg (by omega), hs2, if_neg (by omega)]) hvl hs2⟩
 ·try (conv => whnf)
  repeat' (first
   | (refine SeqJ.thru ?_; conv => whnf)
   | (refine br_dec (fun _ => ?_) (fun _ => ?_) <;> first | (exfalso; omega) | contradiction | conv => whnf)
   | (refine br_not ?_; conv => whnf)
   | (refine br_bne (fun _ => ?_) (fun _ => ?_) <;> first | (exfalso; omega) | contradiction | conv => whnf)
   | (refine br_beq (fun _ => ?_) (fun _ => ?_) <;> first | (exfalso; omega) | contradiction | conv => whnf))
  all_goals
   refine Out.mk false [0, 1, 2, 3, 4] [(0, 1)] ?_
   try (conv => whnf)
   repeat (refine Need.mk ?_ ?_; (focus ((first | exact flat_by _ | exact flat_in _ | exact flat_st _ | exact flat_ts _ | exact flat_bo _ | exact flat_cl rfl))); conv => whnf)
  all_goals exact ⟨wErr (by rw [wC, if_pos (.inl ha)]) (by omega)⟩
noncomputable def mC (s : List Int) (l : List EntV) (a : Int) (x : List UInt8) : Int := if StOk s l then wC s a x else 1
noncomputable def mS (s : List Int) (l : List EntV) (a : Int) (x : List UInt8) : List Int := if mC s l a x = 0 then wS s a x else []
noncomputable def mE (s : List Int) (l : List EntV) (a : Int) (x : List UInt8) : List EntV := if mC s l a x = 0 then [wE s a x] else []
noncomputable abbrev mR (s : List Int) (l : List EntV) (a : Int) (x : List UInt8) : SV := .tup [(true, [.os (.v 0) 1 0 (mS s l a x).length, .os (.v 1) 3 0 (mE s l a x).length]), (false, [cI (mC s l a x)])]
noncomputable abbrev mRows (s : List Int) (l : List EntV) (a : Int) (x : List UInt8) : List Row := [.own 1 ((mS s l a x).map inD), .own 3 ((mE s l a x).map entD)]
theorem mErr {s : List Int} {l : List EntV} {a : Int} {x : List UInt8} {c : Int} (hc : mC s l a x = c) (h0 : c ≠ 0) : SV.tup [(true, [.os (.v 0) 1 0 0, .os (.v 1) 3 0 0]), (false, [cI c])] = mR s l a x ∧ [Row.own 1 [], Row.own 3 []] = mRows s l a x := by
 subst hc
 rw [mR, mRows, mS, mE, if_neg h0, if_neg h0]
 exact ⟨rfl, rfl⟩
theorem mGood {s : List Int} {l : List EntV} {a : Int} {x : List UInt8} (hs : StOk s l) (hc : wC s a x = 0) : SV.tup [(true, [.os (.v 0) 1 0 (wS s a x).length, .os (.v 1) 3 0 1]), (false, [cI 0])] = mR s l a x ∧ [Row.own 1 ((wS s a x).map inD), Row.own 3 [entD (wE s a x)]] = mRows s l a x := by
 have h : mC s l a x = 0 := by rw [mC, if_pos hs, hc]
 rw [mR, mRows, mS, mE, if_pos h, if_pos h, h]
 exact ⟨rfl, rfl⟩
theorem s_MultiWrite (s : List Int) (l : List EntV) (a : Int) (x : List UInt8) (hl : l.length ≤ 2 ^ 62) (hm : ∀ e ∈ l, e.x.length ≤ 2 ^ 62) (hx : x.length ≤ 1048576) :
  CallD Try.prog id_spec_MultiWrite [vM s l, vI .i64 a, vS (bs x)] [] (mR s l a x) (mRows s l a x) := by
 refine F_spec_MultiWrite ?_
 try (conv => whnf)
 repeat (refine SeqJ.thru ?_; conv => whnf)
 refine Hand.mk [] ?_
 try (conv => whnf)
 refine CallW.d (s_l03EntriesOK s l hl hm) ?_
 try (conv => whnf)
 by_cases h : StOk s l
 ·try (conv => whnf)
  repeat' (first
   | (refine br_dec (fun _ => ?_) (fun _ => ?_) <;> first | (exfalso; omega) | contradiction | conv => whnf)
   | (refine br_not ?_; conv => whnf)
   | (refine br_bne (fun _ => ?_) (fun _ => ?_) <;> first | (exfalso; omega) | contradiction | conv => whnf)
   | (refine br_beq (fun _ => ?_) (fun _ => ?_) <;> first | (exfalso; omega) | contradiction | conv => whnf))
  refine Hand.mk [] ?_
  try (conv => whnf)
  refine CallW.d (s_l03Write s a x h.1 (by omega)) ?_
  try (conv => whnf)
  repeat (refine SeqJ.thru ?_; conv => whnf)
  by_cases hc : wC s a x = 0
  ·rw [hc]
   try (conv => whnf)
   repeat' (first
    | (refine Pick.mk ?_ ?_ ?_; rotate_left; (focus ((simp only [chunks]; rfl))); conv => whnf)
    | (refine br_dec (fun _ => ?_) (fun _ => ?_) <;> first | (exfalso; omega) | contradiction | conv => whnf)
    | (refine br_not ?_; conv => whnf)
    | (refine br_bne (fun _ => ?_) (fun _ => ?_) <;> first | (exfalso; omega) | contradiction | conv => whnf)
    | (refine br_beq (fun _ => ?_) (fun _ => ?_) <;> first | (exfalso; omega) | contradiction | conv => whnf))
   refine Out.mk false [0, 1, 2, 3, 4] [] ?_
   try (conv => whnf)
   repeat (refine Need.mk ?_ ?_; (focus ((first | exact flat_by _ | exact flat_in _ | exact flat_st _ | exact flat_ts _ | exact flat_bo _ | exact flat_cl rfl))); conv => whnf)
   exact ⟨mGood h hc⟩
  ·try (conv => whnf)
   repeat' (first
    | (refine br_dec (fun _ => ?_) (fun _ => ?_) <;> first | (exfalso; omega) | contradiction | conv => whnf)
    | (refine br_not ?_; conv => whnf)
    | (refine br_bne (fun _ => ?_) (fun _ => ?_) <;> first | (exfalso; omega) | contradiction | conv => whnf)
    | (refine br_beq (fun _ => ?_) (fun _ => ?_) <;> first | (exfalso; omega) | contradiction | conv => whnf))
   refine Out.mk false [0, 1, 2, 3, 4] [(0, 1), (1, 3)] ?_
   try (conv => whnf)
   repeat (refine Need.mk ?_ ?_; (focus ((first | exact flat_by _ | exact flat_in _ | exact flat_st _ | exact flat_ts _ | exact flat_bo _ | exact flat_cl rfl))); conv => whnf)
   exact ⟨mErr (by rw [mC, if_pos h]) hc⟩
 ·try (conv => whnf)
  repeat' (first
   | (refine br_dec (fun _ => ?_) (fun _ => ?_) <;> first | (exfalso; omega) | contradiction | conv => whnf)
   | (refine br_not ?_; conv => whnf)
   | (refine br_bne (fun _ => ?_) (fun _ => ?_) <;> first | (exfalso; omega) | contradiction | conv => whnf)
   | (refine br_beq (fun _ => ?_) (fun _ => ?_) <;> first | (exfalso; omega) | contradiction | conv => whnf))
  refine Out.mk false [0, 1, 2, 3, 4] [(0, 1), (1, 3)] ?_
  try (conv => whnf)
  repeat (refine Need.mk ?_ ?_; (focus ((first | exact flat_by _ | exact flat_in _ | exact flat_st _ | exact flat_ts _ | exact flat_bo _ | exact flat_cl rfl))); conv => whnf)
  exact ⟨mErr (by rw [mC, if_neg h]) (by omega)⟩
end Go.Proofs.Ytpdjehnlejjfmaa.D
