/- Regions that draw their order: what makes no difference is taken first. -/
import Derived.Test.YtoklfidamhigcaaDV
namespace Go.Proofs.Ytoklfidamhigcaa.D
open Go.RowKit

section
variable {P : Program} {tb : TypeId → Option TyI} {S S' : St}

theorem mapInt_const {x : Operand} {p : Prop} (h : mapInt S x fun _ _ => p) : p := by
  unfold mapInt at h; split at h
  · exact h
  · exact h.elim
theorem boundD_const {x : Option Operand} {d y : Nat} {p : Prop} (h : boundD S x d y fun _ => p) : p := by
  unfold boundD at h; split at h
  · exact h
  · exact mapInt_const (mapInt_mono (K' := fun _ _ => p) (fun _ _ h => h.2) h)
theorem selD_const {i : TyI} {cs : List CV} {o : Nat} {p : Prop} (h : selD i cs o fun _ => p) : p := by
  unfold selD at h; split at h
  · exact h.2
  · split at h
    · exact h
    · exact h.elim
theorem binD_const {op : BinOp} {t : TypeId} {u v : Value} {p : Prop} (h : binD tb op t u v fun _ => p) : p := by
  unfold binD at h
  split at h <;> first
    | exact h
    | exact h.2
    | exact h.2.2
    | (split at h
       · exact h
       · exact h.elim)
    | exact h.elim
theorem eqFs_const {rec : TypeId → SV → SV → (Bool → Prop) → Prop} (hm : ∀ t u v (K K' : Bool → Prop), (∀ b, K b → K' b) → rec t u v K → rec t u v K') (hrec : ∀ t u v (p : Prop), rec t u v (fun _ => p) → p) :
    ∀ (fs : List (Nat × TypeId)) (cs ds : List CV) {p : Prop}, eqFs tb rec fs cs ds (fun _ => p) → p
  | [], _, _, _, h => h
  | (off, ft) :: rest, cs, ds, p, h => by
    simp only [eqFs] at h
    split at h
    · refine selD_const (selD_mono (K' := fun _ => p) (fun a h => selD_const (selD_mono (K' := fun _ => p) (fun b h => ?_) h)) h)
      exact hrec _ _ _ p (hm _ _ _ _ _ (fun _ h => eqFs_const hm hrec rest cs ds h) h)
    · exact h.elim
theorem eqK_const : ∀ (n : Nat) (t : TypeId) (u v : SV) {p : Prop}, eqK tb n t u v (fun _ => p) → p
  | 0, _, _, _, _, h => h.elim
  | n + 1, t, u, v, p, h => by
    unfold eqK at h
    split at h
    · exact h.2
    · exact h
    · exact h
    · exact eqFs_const (fun t u v K K' => eqK_mono n t u v) (fun t u v p h => eqK_const n t u v h) _ _ _ h
    · exact h.elim
theorem lenD_const {t : TypeId} {v : SV} {p : Prop} (h : lenD tb t v fun _ => p) : p := by
  unfold lenD at h
  split at h <;> first
    | exact h
    | exact h.elim
theorem callValD_const {c : Callee} {args : List Operand} {types : List TypeId} {p : Prop} (h : callValD tb S c args types fun _ => p) : p := by
  unfold callValD at h
  split at h
  · split at h
    · exact lenD_const h
    · exact h.elim
  · split at h
    · exact mapInt_const (mapInt_mono (K' := fun _ _ => p) (fun _ _ h => mapInt_const h) h)
    · exact h.elim
  · split at h
    · exact mapInt_const (mapInt_mono (K' := fun _ _ => p) (fun _ _ h => mapInt_const h) h)
    · exact h.elim
  · exact h.elim
theorem valD_const {op : Op} {p : Prop} (h : valD tb S op fun _ => p) : p := by
  cases op <;> simp only [valD] at h <;> first
    | exact h
    | exact h.elim
    | exact callValD_const h
    | skip
  case binOp =>
    split at h
    · exact binD_const h
    · split at h
      · exact eqK_const _ _ _ _ h
      · exact eqK_const _ _ _ _ h
      · exact h.elim
    · exact h.elim
  case field =>
    split at h
    · split at h
      · split at h
        · exact selD_const h
        · exact h.elim
      · exact h.elim
    · exact h.elim
  case indexAddr =>
    refine mapInt_const (mapInt_mono (K' := fun _ _ => p) (fun k n h => ?_) h)
    split at h
    · split at h
      · exact h.2
      · exact h.elim
    · split at h
      · exact h.2.2
      · exact h.elim
    · split at h
      · replace h := h.2
        split at h
        · exact h
        · exact h.elim
      · exact h.elim
    · exact h.elim
  case index =>
    refine mapInt_const (mapInt_mono (K' := fun _ _ => p) (fun k n h => ?_) h)
    split at h
    · split at h
      · exact selD_const h.2
      · exact h.elim
    · replace h := h.2
      split at h
      · exact h
      · exact h.elim
    · exact h.elim
  case slice =>
    split at h
    · exact boundD_const (boundD_mono (K' := fun _ => p) (fun _ h => boundD_const h) h.2)
    · split at h
      · exact boundD_const (boundD_mono (K' := fun _ => p) (fun _ h => boundD_const h) h.2.2)
      · exact h.elim
    · split at h
      · exact boundD_const (boundD_mono (K' := fun _ => p) (fun _ h => boundD_const h) h.2.2)
      · exact h.elim
    · split at h
      · exact h.2
      · exact h.elim
    · exact h.elim
  case build =>
    split at h
    · replace h := h.2
      split at h
      · exact h
      · exact h.elim
    · split at h
      · replace h := h.2
        split at h
        · exact h
        · exact h.elim
      · exact h.elim
    · exact h.elim
  case load =>
    split at h
    · split at h
      · exact selD_const h
      · exact h.elim
    · exact h.elim
  all_goals
    split at h <;> first
      | exact h
      | exact h.elim
      | (split at h <;> first
          | exact h
          | exact h.elim
          | (split at h <;> first
              | exact h
              | exact h.elim))

theorem mapInt_det {x : Operand} {K : IntKind → Int → Prop} (h : mapInt S x K) : ∃ k n, K k n ∧ ∀ K' : IntKind → Int → Prop, K' k n → mapInt S x K' := by
  unfold mapInt at h; split at h
  · rename_i k n e; exact ⟨k, n, h, fun K' h' => by simp only [mapInt, e]; exact h'⟩
  · exact h.elim
theorem boundD_det {x : Option Operand} {d y : Nat} {K : Nat → Prop} (h : boundD S x d y K) : ∃ n, K n ∧ ∀ K' : Nat → Prop, K' n → boundD S x d y K' := by
  unfold boundD at h; split at h
  · exact ⟨_, h, fun K' h' => h'⟩
  · obtain ⟨k, n, ⟨h1, h2⟩, g⟩ := mapInt_det h
    exact ⟨_, h2, fun K' h' => g _ ⟨h1, h'⟩⟩
theorem selD_det {i : TyI} {cs : List CV} {o : Nat} {K : SV → Prop} (h : selD i cs o K) : ∃ v, K v ∧ ∀ K' : SV → Prop, K' v → selD i cs o K' := by
  unfold selD at h; split at h
  · rename_i e; exact ⟨_, h.2, fun K' h' => by unfold selD; rw [e]; exact ⟨h.1, h'⟩⟩
  · rename_i e
    split at h
    · rename_i c hc; exact ⟨_, h, fun K' h' => by unfold selD; rw [e]; simp only [hc]; exact h'⟩
    · exact h.elim
theorem binD_det {op : BinOp} {t : TypeId} {u v : Value} {K : Value → Prop} (h : binD tb op t u v K) : ∃ r, K r ∧ ∀ K' : Value → Prop, K' r → binD tb op t u v K' := by
  unfold binD at h
  split at h <;> first
    | exact ⟨_, h, fun K' h' => h'⟩
    | exact ⟨_, h.2, fun K' h' => ⟨h.1, h'⟩⟩
    | exact ⟨_, h.2.2, fun K' h' => ⟨h.1, h.2.1, h'⟩⟩
    | (split at h
       · rename_i e; exact ⟨_, h, fun K' h' => by simp only [binD, e]; exact h'⟩
       · exact h.elim)
    | exact h.elim
theorem eqFs_det {rec : TypeId → SV → SV → (Bool → Prop) → Prop} (hrec : ∀ t u v (K : Bool → Prop), rec t u v K → ∃ b, K b ∧ ∀ K' : Bool → Prop, K' b → rec t u v K') :
    ∀ (fs : List (Nat × TypeId)) (cs ds : List CV) {K : Bool → Prop}, eqFs tb rec fs cs ds K → ∃ b, K b ∧ ∀ K' : Bool → Prop, K' b → eqFs tb rec fs cs ds K'
  | [], _, _, _, h => ⟨_, h, fun _ h => h⟩
  | (off, ft) :: rest, cs, ds, K, h => by
    simp only [eqFs] at h ⊢
    split at h
    · rename_i i hi
      obtain ⟨a, h, g1⟩ := selD_det h
      obtain ⟨b, h, g2⟩ := selD_det h
      obtain ⟨r, h, g3⟩ := hrec _ _ _ _ h
      obtain ⟨r', h, g4⟩ := eqFs_det hrec rest cs ds h
      exact ⟨_, h, fun K' h' => g1 _ (g2 _ (g3 _ (g4 _ h')))⟩
    · exact h.elim
theorem eqK_det : ∀ (n : Nat) (t : TypeId) (u v : SV) {K : Bool → Prop}, eqK tb n t u v K → ∃ b, K b ∧ ∀ K' : Bool → Prop, K' b → eqK tb n t u v K'
  | 0, _, _, _, _, h => h.elim
  | n + 1, t, u, v, K, h => by
    unfold eqK at h
    split at h
    · rename_i e; exact ⟨_, h.2, fun K' h' => by simp only [eqK, e]; exact ⟨h.1, h'⟩⟩
    · rename_i e; exact ⟨_, h, fun K' h' => by simp only [eqK, e]; exact h'⟩
    · rename_i e; exact ⟨_, h, fun K' h' => by simp only [eqK, e]; exact h'⟩
    · rename_i e
      obtain ⟨b, h, g⟩ := eqFs_det (fun t u v K => eqK_det n t u v) _ _ _ h
      exact ⟨b, h, fun K' h' => by simp only [eqK, e]; exact g _ h'⟩
    · exact h.elim
theorem lenD_det {t : TypeId} {v : SV} {K : SV → Prop} (h : lenD tb t v K) : ∃ r, K r ∧ ∀ K' : SV → Prop, K' r → lenD tb t v K' := by
  unfold lenD at h
  split at h <;> first
    | (rename_i e; exact ⟨_, h, fun K' h' => by simp only [lenD, e]; exact h'⟩)
    | exact h.elim
theorem callValD_det {c : Callee} {args : List Operand} {types : List TypeId} {K : SV → Prop} (h : callValD tb S c args types K) : ∃ r, K r ∧ ∀ K' : SV → Prop, K' r → callValD tb S c args types K' := by
  unfold callValD at h
  split at h
  · split at h
    · exact lenD_det h
    · exact h.elim
  · split at h
    · obtain ⟨k, m, h, g1⟩ := mapInt_det h
      obtain ⟨k', n, h, g2⟩ := mapInt_det h
      exact ⟨_, h, fun K' h' => g1 _ (g2 _ h')⟩
    · exact h.elim
  · split at h
    · obtain ⟨k, m, h, g1⟩ := mapInt_det h
      obtain ⟨k', n, h, g2⟩ := mapInt_det h
      exact ⟨_, h, fun K' h' => g1 _ (g2 _ h')⟩
    · exact h.elim
  · exact h.elim
theorem valD_det {op : Op} {K : SV → Prop} (h : valD tb S op K) : ∃ v, K v ∧ ∀ K' : SV → Prop, K' v → valD tb S op K' := by
  cases op <;> simp only [valD] at h ⊢ <;> first
    | exact ⟨_, h, fun _ h => h⟩
    | exact h.elim
    | exact callValD_det h
    | skip
  case binOp =>
    split at h
    · exact (binD_det h).elim fun r hr => ⟨_, hr.1, fun K' h' => hr.2 _ h'⟩
    · split at h
      · exact (eqK_det _ _ _ _ h).elim fun r hr => ⟨_, hr.1, fun K' h' => hr.2 _ h'⟩
      · exact (eqK_det _ _ _ _ h).elim fun r hr => ⟨_, hr.1, fun K' h' => hr.2 _ h'⟩
      · exact h.elim
    · exact h.elim
  case field =>
    split at h
    · split at h
      · split at h
        · exact selD_det h
        · exact h.elim
      · exact h.elim
    · exact h.elim
  case indexAddr =>
    obtain ⟨k, n, h, g⟩ := mapInt_det h
    split at h
    · split at h
      · exact ⟨_, h.2, fun K' h' => g _ ⟨h.1, h'⟩⟩
      · exact h.elim
    · split at h
      · exact ⟨_, h.2.2, fun K' h' => g _ ⟨h.1, h.2.1, h'⟩⟩
      · exact h.elim
    · split at h
      · obtain ⟨h0, h⟩ := h
        split at h
        · rename_i e; exact ⟨_, h, fun K' h' => g _ ⟨h0, by simp only [e]; exact h'⟩⟩
        · exact h.elim
      · exact h.elim
    · exact h.elim
  case index =>
    obtain ⟨k, n, h, g⟩ := mapInt_det h
    split at h
    · split at h
      · obtain ⟨v, h1, h2⟩ := selD_det h.2
        exact ⟨v, h1, fun K' h' => g _ ⟨h.1, h2 _ h'⟩⟩
      · exact h.elim
    · obtain ⟨h0, h⟩ := h
      split at h
      · rename_i e; exact ⟨_, h, fun K' h' => g _ ⟨h0, by simp only [e]; exact h'⟩⟩
      · exact h.elim
    · exact h.elim
  case slice =>
    split at h
    · obtain ⟨a, h1, g1⟩ := boundD_det h.2
      obtain ⟨b, h2, g2⟩ := boundD_det h1
      exact ⟨_, h2, fun K' h' => ⟨h.1, g1 _ (g2 _ h')⟩⟩
    · split at h
      · obtain ⟨a, h1, g1⟩ := boundD_det h.2.2
        obtain ⟨b, h2, g2⟩ := boundD_det h1
        exact ⟨_, h2, fun K' h' => ⟨h.1, h.2.1, g1 _ (g2 _ h')⟩⟩
      · exact h.elim
    · split at h
      · obtain ⟨a, h1, g1⟩ := boundD_det h.2.2
        obtain ⟨b, h2, g2⟩ := boundD_det h1
        exact ⟨_, h2, fun K' h' => ⟨h.1, h.2.1, g1 _ (g2 _ h')⟩⟩
      · exact h.elim
    · split at h
      · exact ⟨_, h.2, fun K' h' => ⟨h.1, h'⟩⟩
      · exact h.elim
    · exact h.elim
  case build =>
    split at h
    · obtain ⟨h0, h⟩ := h
      split at h
      · exact ⟨_, h, fun K' h' => ⟨h0, h'⟩⟩
      · exact h.elim
    · split at h
      · obtain ⟨h0, h⟩ := h
        split at h
        · exact ⟨_, h, fun K' h' => ⟨h0, h'⟩⟩
        · exact h.elim
      · exact h.elim
    · exact h.elim
  case load =>
    split at h
    · split at h
      · exact selD_det h
      · exact h.elim
    · exact h.elim
  all_goals
    split at h <;> first
      | exact ⟨_, h, fun _ h => h⟩
      | exact h.elim
      | (split at h <;> first
          | exact ⟨_, h, fun _ h => h⟩
          | exact h.elim
          | (split at h <;> first
              | exact ⟨_, h, fun _ h => h⟩
              | exact h.elim))
theorem srcD_det {size : Nat} {v : SV} {K : List (List DV) → Prop} (h : srcD S size v K) : ∃ es, K es ∧ ∀ K' : List (List DV) → Prop, K' es → srcD S size v K' := by
  unfold srcD at h ⊢
  split at h
  · exact ⟨_, h, fun _ h => h⟩
  · exact ⟨_, h.2, fun _ h' => ⟨h.1, h'⟩⟩
  · split at h
    · exact ⟨_, h.2, fun _ h' => ⟨h.1, h'⟩⟩
    · exact h.elim
  · exact ⟨_, h.2, fun _ h' => ⟨h.1, h'⟩⟩
  · exact h.elim

/-- An operation that gives a value and touches nothing. -/
def isV (tb : TypeId → Option TyI) : Op → Bool
  | .move _ | .assign _ | .pick _ _ _ | .binOp _ _ _ _ _ | .unOp _ _ _ | .fieldAddr _ _ _ | .field _ _ _ | .indexAddr _ _ _ | .index _ _ _ | .slice _ _ _ _ _ | .extract _ _ | .nilCheck _ | .build _ _ | .load _ _ => true
  | .convert s t _ => (match tb s, tb t with | some { kind := .string, .. }, some { kind := .slice _, .. } => false | some _, some _ => true | _, _ => false)
  | .call c => (match c.callee with | .builtin .len => true | .builtin .max => true | .builtin .min => true | _ => false)
  | _ => false
def valX (tb : TypeId → Option TyI) (S : St) (op : Op) (K : SV → Prop) : Prop :=
  match op with
  | .convert s t x =>
    (match tb s, tb t, S.ev x with
    | some { kind := .slice _, .. }, some { kind := .string, .. }, .one (.dv (.sc _)) => False
    | some { kind := .slice e, .. }, some { kind := .string, .. }, v =>
      (match tb e with
      | some { kind := .int .u8, .. } => srcD S 1 v fun es => ∃ bs : List UInt8, es = bs.map (fun b => [.sc (.int .u8 b.toNat)]) ∧ K (vS ⟨bs.toArray⟩)
      | _ => False)
    | _, _, _ => valD tb S op K)
  | op => valD tb S op K
theorem valX_const {op : Op} {p : Prop} (h : valX tb S op fun _ => p) : p := by
  unfold valX at h
  split at h
  · split at h
    · exact h.elim
    · split at h
      · unfold srcD at h
        split at h <;> first
          | (obtain ⟨_, _, h⟩ := h; exact h)
          | (obtain ⟨_, _, _, h⟩ := h; exact h)
          | (split at h
             · obtain ⟨_, _, _, h⟩ := h; exact h
             · exact h.elim)
          | exact h.elim
      · exact h.elim
    · exact valD_const h
  · exact valD_const h
theorem valX_off {d : Tmp} {op : Op} (h : OffD d S S') (hd : ∀ x ∈ op.operands, x ≠ .tmp d) {K K' : SV → Prop} (hk : ∀ v, K v → K' v) (hv : valX tb S op K) : valX tb S' op K' := by
  unfold valX at hv ⊢
  split at hv
  · rename_i s t x
    have e : S.ev x = S'.ev x := h.ev (hd x (by simp [Op.operands]))
    rw [← e]
    split at hv
    · exact hv.elim
    · split at hv
      · rw [← srcD_L h.2]
        refine srcD_mono (fun es h => ?_) hv
        obtain ⟨bs, h1, h2⟩ := h
        exact ⟨bs, h1, hk _ h2⟩
      · exact hv.elim
    · exact valD_off h hd hk hv
  · exact valD_off h hd hk hv
theorem valX_mono {op : Op} {K K' : SV → Prop} (hk : ∀ v, K v → K' v) (hv : valX tb S op K) : valX tb S op K' := by
  unfold valX at hv ⊢
  split at hv
  · split at hv
    · exact hv.elim
    · split at hv
      · refine srcD_mono (fun es h => ?_) hv
        obtain ⟨bs, h1, h2⟩ := h
        exact ⟨bs, h1, hk _ h2⟩
      · exact hv.elim
    · exact valD_mono hk hv
  · exact valD_mono hk hv
theorem valX_det {op : Op} {K : SV → Prop} (h : valX tb S op K) : ∃ v, K v ∧ ∀ K' : SV → Prop, K' v → valX tb S op K' := by
  unfold valX at h ⊢
  split at h
  · split at h
    · exact h.elim
    · split at h
      · obtain ⟨es, ⟨bs, h1, h2⟩, g⟩ := srcD_det h
        exact ⟨_, h2, fun K' h' => g _ ⟨bs, h1, h'⟩⟩
      · exact h.elim
    · exact valD_det h
  · exact valD_det h
theorem opD_valX {nm : Nat} {op : Op} {dst : Option Tmp} {K : St → Prop} (hv : isV tb op = true) : opD P tb nm S op dst K ↔ valX tb S op fun v => K (S.put dst v) := by
  cases op with
  | convert s t x =>
    simp only [opD, memD, valX]
    simp only [isV] at hv
    cases hs : tb s with
    | none => simp [hs] at hv
    | some i =>
      cases ht : tb t with
      | none => simp [hs, ht] at hv
      | some j =>
        obtain ⟨ki, _, _, _, _⟩ := i
        obtain ⟨kj, _, _, _, _⟩ := j
        generalize hx : S.ev x = v
        have hx' : ∀ K, valD tb S (.convert s t x) K = valD tb S (.convert s t x) K := fun _ => rfl
        cases ki <;> cases kj <;> first
          | rfl
          | (simp [hs, ht] at hv; done)
          | (cases v with
            | one c => cases c with
              | dv d => cases d <;> rfl
              | _ => rfl
            | _ => rfl)
  | call c =>
    simp only [isV] at hv
    simp only [opD, valX, valD]
    split at hv <;> rename_i hc <;> simp only [hc, memD, callValD] <;> first
      | rfl
      | simp at hv
  | _ => first
    | rfl
    | simp [isV] at hv
end
end Go.Proofs.Ytoklfidamhigcaa.D
