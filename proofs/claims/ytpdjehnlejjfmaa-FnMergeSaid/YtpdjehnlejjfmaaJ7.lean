/- Adding a log to another, as the reference does. -/
import Derived.Test.YtpdjehnlejjfmaaJ6
set_option linter.unusedVariables false
set_option linter.unusedSimpArgs false
namespace Go.Proofs.Ytpdjehnlejjfmaa.D
open Go.RowKit
set_option maxRecDepth 100000
set_option maxHeartbeats 4000000
set_option linter.unusedVariables false
set_option linter.unusedSimpArgs false

def fitsL (l : List OpV) (o : OpV) : Prop := o.seq = (own l o.actor).length + 1 ∧ Cause l o
def kfL (l : List OpV) (o : OpV) : Prop := ∀ a ∈ l, a.obj = o.obj → thS a.kind = thS o.kind
noncomputable instance (l : List OpV) (o : OpV) : Decidable (fitsL l o) := Classical.propDecidable _
noncomputable instance (l : List OpV) (o : OpV) : Decidable (kfL l o) := Classical.propDecidable _
theorem Good1.seq_le {l : List OpV} (h : Good1 l l.length) {x : OpV} (hx : x ∈ l) : 1 ≤ x.seq ∧ x.seq ≤ (own l x.actor).length := by
 have hm : x ∈ own l x.actor := by simp [own, hx]
 obtain ⟨i, hi, e⟩ := List.mem_iff_getElem.1 hm
 have h1 := (h.own_at x.actor i hi).1
 rw [e] at h1; omega
theorem Cause.mono {l m : List OpV} {x : OpV} (h : Cause l x) (hm : ∀ a, ∃ t, own m a = own l a ++ t) : Cause m x := by
 intro a ha
 obtain ⟨t, ht⟩ := hm a
 obtain ⟨h1, h2⟩ := h a ha
 refine ⟨by rw [ht, List.length_append]; omega, fun h0 p hp => h2 h0 p ?_⟩
 rw [ht, List.getElem?_append_left (by omega)] at hp; exact hp
theorem LogOk.insG {l : List OpV} {o : OpV} (h : LogOk l) (ho : OpOk o) (hs : o.seq = (own l o.actor).length + 1) : Good1 (insL l o) (insL l o).length ∧ ∀ a, own (insL l o) a = own l a ++ if o.actor = a then [o] else [] := by
 have hlt : ∀ x ∈ l, x.actor = o.actor → x.seq < o.seq := fun x hx e => by have := (h.good.seq_le hx).2; rw [e] at this; omega
 have how := insL_own (o := o) h.good.rise hlt
 refine ⟨Good1.of (fun x hx => ?_) (insL_rise h.good.rise fun x hx e => by have := hlt x hx e.1; omega) (fun a i hi => ?_), how⟩
 ·rcases insL_mem.1 hx with rfl | hx
  ·exact ho
  ·exact h.good.all x hx
 ·have e := how a
  by_cases g : i < (own l a).length
  ·have : (own (insL l o) a)[i] = (own l a)[i] := by
    have : (own (insL l o) a)[i]? = some (own l a)[i] := by rw [e, List.getElem?_append_left g, List.getElem?_eq_getElem g]
    rw [List.getElem?_eq_getElem hi] at this; injection this
   rw [this]; exact (h.good.own_at a i g).1
  ·rw [e, List.length_append] at hi
   by_cases ha : o.actor = a
   ·rw [if_pos ha] at hi e
    have hi' : i = (own l a).length := by simp at hi; omega
    have : (own (insL l o) a)[i]'(by rw [e]; simp; omega) = o := by
     have : (own (insL l o) a)[i]? = some o := by rw [e, hi']; simp
     rw [List.getElem?_eq_getElem (by rw [e]; simp; omega)] at this; injection this
    rw [this, hs, ha]; omega
   ·rw [if_neg ha] at hi; simp at hi; omega
theorem LogOk.ins {l : List OpV} {o : OpV} (h : LogOk l) (ho : OpOk o) (hf : fitsL l o) (hk : kfL l o) (hn : l.length < 1024) : LogOk (insL l o) := by
 obtain ⟨g1, g2⟩ := h.insG ho hf.1
 refine ⟨by rw [insL_length]; omega, g1, ?_, fun x hx => ?_⟩
 ·have hall : ∀ x ∈ insL l o, OpOk x := g1.all
  rw [SameTh.iff hall]
  refine (SameTh.snoc ((SameTh.iff h.good.all).1 h.same) hk).sub fun x hx => ?_
  rcases insL_mem.1 hx with rfl | hx <;> simp [*]
 ·refine Cause.mono (l := l) ?_ fun a => ⟨_, g2 a⟩
  rcases insL_mem.1 hx with rfl | hx
  ·exact hf.2
  ·exact h.cause x hx
abbrev sameN (x o : OpV) : Prop := x.actor = o.actor ∧ x.seq = o.seq
def twin (w : List OpV) (o : OpV) : Prop := ∃ x ∈ w, sameN x o
noncomputable instance (w : List OpV) (o : OpV) : Decidable (twin w o) := Classical.propDecidable _
theorem twin_next {w : List OpV} {j : Nat} {o : OpV} (h : j < w.length) : twin (w.take (j + 1)) o ↔ twin (w.take j) o ∨ sameN w[j] o := by
 unfold twin
 rw [List.take_succ_eq_append_getElem h]
 simp only [List.mem_append, List.mem_singleton]
 constructor
 ·rintro ⟨x, hx | rfl, hp⟩
  ·exact .inl ⟨x, hx, hp⟩
  ·exact .inr hp
 ·rintro (⟨x, hx, hp⟩ | hp)
  ·exact ⟨x, .inl hx, hp⟩
  ·exact ⟨_, .inr rfl, hp⟩
theorem twin_nil {o : OpV} {w : List OpV} : decide (twin (w.take 0) o) = false := by simp [twin]
noncomputable def waitGo (log : List OpV) : List OpV → List OpV → Option (List OpV)
 | [], w => some w
 | o :: r, w =>
  match (own log o.actor)[(o.seq - 1).toNat]? with
  | some p => if p = o then waitGo log r w else none
  | none => if ∃ x ∈ w, sameN x o ∧ x ≠ o then none else waitGo log r (if twin w o then w else w ++ [o])
noncomputable def addGo (out wait : List OpV) (i : Nat) : List OpV × List OpV × Int :=
 if h : i < wait.length then
  if fitsL out wait[i] then
   if kfL out wait[i] then
    if out.length = 1024 then ([], [], 11) else addGo (insL out wait[i]) (wait.take i ++ wait.drop (i + 1)) 0
   else ([], [], 8)
  else addGo out wait (i + 1)
 else (out, wait, 0)
termination_by (wait.length, wait.length - i)
decreasing_by
 ·apply Prod.Lex.left; simp; omega
 ·apply Prod.Lex.right; omega
noncomputable def addL (log more : List OpV) : List OpV × List OpV × Int :=
 if more.length > 1024 then ([], [], 2)
 else if ¬ LogOk log then ([], [], 1)
 else if ¬ ∀ o ∈ more, OpOk o then ([], [], 1)
 else match waitGo log more [] with
  | none => ([], [], 16)
  | some w => addGo log w 0
abbrev vE : SV := .one (.dv (.sl []))
abbrev cL (l : List OpV) : CV := .dv (.sl (l.map oD))
abbrev vAdd (r : List OpV × List OpV × Int) : SV := .tup [(false, [cL r.1]), (false, [cL r.2.1]), (false, [cI r.2.2])]
theorem addGo_next {out w : List OpV} {i : Nat} (h : i < w.length) (hf : ¬ fitsL out w[i]) : addGo out w i = addGo out w (i + 1) := by
 conv => lhs; rw [addGo]
 rw [dif_pos h, if_neg hf]
theorem addGo_kind {out w : List OpV} {i : Nat} (h : i < w.length) (hf : fitsL out w[i]) (hk : ¬ kfL out w[i]) : addGo out w i = ([], [], 8) := by
 rw [addGo, dif_pos h, if_pos hf, if_neg hk]
theorem addGo_many {out w : List OpV} {i : Nat} (h : i < w.length) (hf : fitsL out w[i]) (hk : kfL out w[i]) (hn : out.length = 1024) : addGo out w i = ([], [], 11) := by
 rw [addGo, dif_pos h, if_pos hf, if_pos hk, if_pos hn]
theorem addGo_put {out w : List OpV} {i : Nat} (h : i < w.length) (hf : fitsL out w[i]) (hk : kfL out w[i]) (hn : out.length ≠ 1024) : addGo out w i = addGo (insL out w[i]) (w.take i ++ w.drop (i + 1)) 0 := by
 conv => lhs; rw [addGo]
 rw [dif_pos h, if_pos hf, if_pos hk, if_neg hn]
theorem addGo_end {out w : List OpV} {i : Nat} (h : ¬ i < w.length) : addGo out w i = (out, w, 0) := by rw [addGo, dif_neg h]
theorem s_LogAdd (log more : List OpV) (hl : ∀ o ∈ log, o.key.length ≤ 2 ^ 40 ∧ o.text.length ≤ 2 ^ 40) (hm : ∀ o ∈ more, o.key.length ≤ 2 ^ 40 ∧ o.text.length ≤ 2 ^ 40) :
  CallN Try.prog id_spec_LogAdd [vL log, vL more] [] [] (vAdd (addL log more)) [] := by
 refine F_spec_LogAdd ?_
 try (conv => whnf)
 repeat' (first
  | (refine Pick.mk ?_ ?_ ?_; rotate_left; (focus (first | exact List.length_map _ | (simp only [chunks]; rfl))); conv => whnf)
  | (refine SeqJ.thru ?_; conv => whnf)
  | (refine br_dec (fun _ => ?_) (fun _ => ?_) <;> first | (exfalso; omega) | contradiction | conv => whnf)
  | (refine br_not ?_; conv => whnf)
  | (refine br_bne (fun _ => ?_) (fun _ => ?_) <;> first | (exfalso; omega) | contradiction | conv => whnf)
  | (refine br_beq (fun _ => ?_) (fun _ => ?_) <;> first | (exfalso; omega) | contradiction | conv => whnf))
 ·rename_i hlen
  refine Out.mk true [] [] ?_
  try (conv => whnf)
  repeat (refine Pick.mk ?_ ?_ ?_; rotate_left; (focus ((refine SlF.same ?_ ?_; (first | rfl | omega | (simp; done) | (simp; omega)); (first | exact fz_self _ _ (fun _ => rfl) | exact fz_pl rfl | (refine Fz.append ?_ ?_ <;> first | exact fz_self _ _ (fun _ => rfl) | exact fz_pl rfl) | (refine Fz.append (Fz.append ?_ ?_) ?_ <;> first | exact fz_self _ _ (fun _ => rfl) | exact fz_pl rfl))))); conv => whnf)
  exact ⟨by rw [addL, if_pos (by omega)]; rfl, rfl⟩
 ·rename_i hlen
  refine Hand.mk [] ?_
  try (conv => whnf)
  refine CallW.d (s_LogOK log hl) ?_
  try (conv => whnf)
  by_cases hok : LogOk log
  rotate_left
  ·try (conv => whnf)
   repeat' (first
    | (refine br_dec (fun _ => ?_) (fun _ => ?_) <;> first | (exfalso; omega) | contradiction | conv => whnf)
    | (refine br_not ?_; conv => whnf)
    | (refine br_bne (fun _ => ?_) (fun _ => ?_) <;> first | (exfalso; omega) | contradiction | conv => whnf)
    | (refine br_beq (fun _ => ?_) (fun _ => ?_) <;> first | (exfalso; omega) | contradiction | conv => whnf))
   refine Out.mk true [] [] ?_
   try (conv => whnf)
   repeat (refine Pick.mk ?_ ?_ ?_; rotate_left; (focus ((refine SlF.same ?_ ?_; (first | rfl | omega | (simp; done) | (simp; omega)); (first | exact fz_self _ _ (fun _ => rfl) | exact fz_pl rfl | (refine Fz.append ?_ ?_ <;> first | exact fz_self _ _ (fun _ => rfl) | exact fz_pl rfl) | (refine Fz.append (Fz.append ?_ ?_) ?_ <;> first | exact fz_self _ _ (fun _ => rfl) | exact fz_pl rfl))))); conv => whnf)
   exact ⟨by rw [addL, if_neg (by omega), if_pos hok]; rfl, rfl⟩
  try (conv => whnf)
  repeat' (first
   | (refine br_dec (fun _ => ?_) (fun _ => ?_) <;> first | (exfalso; omega) | contradiction | conv => whnf)
   | (refine br_not ?_; conv => whnf)
   | (refine br_bne (fun _ => ?_) (fun _ => ?_) <;> first | (exfalso; omega) | contradiction | conv => whnf)
   | (refine br_beq (fun _ => ?_) (fun _ => ?_) <;> first | (exfalso; omega) | contradiction | conv => whnf))
  refine LoopE.mk (fun i : Nat => mk [(0, vL log), (1, vL more), (7, vE), (8, vI .i64 i)] []) (fun i => i ≤ more.length ∧ ∀ o ∈ more.take i, OpOk o) (fun i => more.length - i) 0 ⟨by omega, by simp⟩ (LeX.of ?_) ?_
  ·try (conv => whnf)
   repeat (refine Need.mk ?_ ?_; (focus (first | exact SlF.lit rfl rfl | omega | (simp; done))); conv => whnf)
   trivial
  ·rintro i ⟨hi, hall⟩
   by_cases hlt : i < more.length
   ·obtain ⟨hk, ht⟩ := hm _ (List.getElem_mem hlt)
    by_cases hoo : OpOk more[i]
    ·try (conv => whnf)
     repeat' (first
      | (refine Pick.mk ?_ ?_ ?_; rotate_left; (focus (first | exact List.length_map _ | (refine pick_nat _ _ _ ?_; omega))); conv => whnf)
      | (refine SeqJ.thru ?_; conv => whnf)
      | (refine br_dec (fun _ => ?_) (fun _ => ?_) <;> first | (exfalso; omega) | contradiction | conv => whnf)
      | (refine br_not ?_; conv => whnf)
      | (refine br_bne (fun _ => ?_) (fun _ => ?_) <;> first | (exfalso; omega) | contradiction | conv => whnf)
      | (refine br_beq (fun _ => ?_) (fun _ => ?_) <;> first | (exfalso; omega) | contradiction | conv => whnf))
     refine Hand.mk [] ?_
     try (conv => whnf)
     refine CallW.d (s_l08OpOK more[i] hk ht) ?_
     try (conv => whnf)
     try (conv => whnf)
     repeat' (first
      | (refine Pick.mk ?_ ?_ ?_; rotate_left; (focus ((refine wid ?_ ?_ <;> omega))); conv => whnf)
      | (refine br_dec (fun _ => ?_) (fun _ => ?_) <;> first | (exfalso; omega) | contradiction | conv => whnf)
      | (refine br_not ?_; conv => whnf)
      | (refine br_bne (fun _ => ?_) (fun _ => ?_) <;> first | (exfalso; omega) | contradiction | conv => whnf)
      | (refine br_beq (fun _ => ?_) (fun _ => ?_) <;> first | (exfalso; omega) | contradiction | conv => whnf))
     refine Pick.mk (i + 1) ⟨⟨by omega, all_next hlt hall hoo⟩, by omega⟩ (LeX.of ?_)
     try (conv => whnf)
     repeat (refine Need.mk ?_ ?_; (focus (first | omega | (simp; done))); conv => whnf)
     trivial
    ·try (conv => whnf)
     repeat' (first
      | (refine Pick.mk ?_ ?_ ?_; rotate_left; (focus (first | exact List.length_map _ | (refine pick_nat _ _ _ ?_; omega))); conv => whnf)
      | (refine SeqJ.thru ?_; conv => whnf)
      | (refine br_dec (fun _ => ?_) (fun _ => ?_) <;> first | (exfalso; omega) | contradiction | conv => whnf)
      | (refine br_not ?_; conv => whnf)
      | (refine br_bne (fun _ => ?_) (fun _ => ?_) <;> first | (exfalso; omega) | contradiction | conv => whnf)
      | (refine br_beq (fun _ => ?_) (fun _ => ?_) <;> first | (exfalso; omega) | contradiction | conv => whnf))
     refine Hand.mk [] ?_
     try (conv => whnf)
     refine CallW.d (s_l08OpOK more[i] hk ht) ?_
     try (conv => whnf)
     try (conv => whnf)
     repeat' (first
      | (refine br_dec (fun _ => ?_) (fun _ => ?_) <;> first | (exfalso; omega) | contradiction | conv => whnf)
      | (refine br_not ?_; conv => whnf)
      | (refine br_bne (fun _ => ?_) (fun _ => ?_) <;> first | (exfalso; omega) | contradiction | conv => whnf)
      | (refine br_beq (fun _ => ?_) (fun _ => ?_) <;> first | (exfalso; omega) | contradiction | conv => whnf))
     refine Out.mk true [] [] ?_
     try (conv => whnf)
     exact ⟨by rw [addL, if_neg (by omega), if_neg (by simpa using hok), if_pos (fun h => hoo (h _ (List.getElem_mem hlt)))]; try rfl, rfl⟩
   ·have hall := all_end hall (by omega)
    have hadd : addL log more = match waitGo log more [] with | none => ([], [], 16) | some w => addGo log w 0 := by
     rw [addL, if_neg (by omega), if_neg (by simpa using hok), if_neg (by simpa using hall)]
    have hdl : ∀ o : OpV, OpOk o → o.deps.length ≤ 2 ^ 39 := fun o h => by have := h.vec.1; omega
    try (conv => whnf)
    repeat' (first
     | (refine Pick.mk ?_ ?_ ?_; rotate_left; (focus (first | exact List.length_map _ | (simp only [chunks]; rfl))); conv => whnf)
     | (refine SeqJ.thru ?_; conv => whnf)
     | (refine br_dec (fun _ => ?_) (fun _ => ?_) <;> first | (exfalso; omega) | contradiction | conv => whnf)
     | (refine br_not ?_; conv => whnf)
     | (refine br_bne (fun _ => ?_) (fun _ => ?_) <;> first | (exfalso; omega) | contradiction | conv => whnf)
     | (refine br_beq (fun _ => ?_) (fun _ => ?_) <;> first | (exfalso; omega) | contradiction | conv => whnf))
    refine LoopE.mk (fun x : Nat × List OpV => mk [(0, vL log), (1, vL more), (7, vE), (9, .one (.os (.v 49152) 12 0 x.2.length)), (10, vI .i64 x.1)] [(49152, .own 12 (x.2.map oD))])
     (fun x => x.1 ≤ more.length ∧ x.2.length ≤ x.1 ∧ (∀ y ∈ x.2, OpOk y) ∧ waitGo log more [] = waitGo log (more.drop x.1) x.2) (fun x => more.length - x.1) (0, []) ⟨by omega, by simp, by simp, by simp⟩ (LeX.of ?_) ?_
    ·try (conv => whnf)
     repeat (refine Need.mk ?_ ?_; (focus (first | omega | (simp; done))); conv => whnf)
     trivial
    ·rintro ⟨i, w⟩ ⟨hi, hw, hwo, hg⟩
     simp only at hi hw hwo hg ⊢
     by_cases hlt : i < more.length
     ·have hoo := hall _ (List.getElem_mem hlt)
      obtain ⟨q0, q1⟩ := hoo.seq
      rw [List.drop_eq_getElem_cons hlt, waitGo] at hg
      by_cases hf : more[i].seq ≤ (own log more[i].actor).length
      ·obtain ⟨f1, f2, f3, f4⟩ := findL_some hok.good.sorted q0 hf
       have f4 := f4 f3
       rw [List.getElem?_eq_getElem (by omega)] at hg
       simp only [← f4] at hg
       have hpo := hok.good.all _ (List.getElem_mem f3)
       have c1 := s_l08FindN log more[i].actor more[i].seq hok.good.sorted (by have := hok.len; omega) (by omega)
       generalize hk : findL log more[i].actor more[i].seq = k at c1 f2 f3 f4 hg
       have c2 := s_l08SameOp (log[k.toNat]'(by omega)) more[i] (by have := hdl _ hpo; omega) (by have := hdl _ hoo; omega)
       by_cases he : (log[k.toNat]'(by omega)) = more[i]
       ·rw [if_pos he] at hg
        try (conv => whnf)
        repeat' (first
         | (refine Pick.mk ?_ ?_ ?_; rotate_left; (focus (first | exact List.length_map _ | (refine pick_nat _ _ _ ?_; omega))); conv => whnf)
         | (refine SeqJ.thru ?_; conv => whnf)
         | (refine br_dec (fun _ => ?_) (fun _ => ?_) <;> first | (exfalso; omega) | contradiction | conv => whnf)
         | (refine br_not ?_; conv => whnf)
         | (refine br_bne (fun _ => ?_) (fun _ => ?_) <;> first | (exfalso; omega) | contradiction | conv => whnf)
         | (refine br_beq (fun _ => ?_) (fun _ => ?_) <;> first | (exfalso; omega) | contradiction | conv => whnf))
        refine Hand.mk [] ?_
        try (conv => whnf)
        refine CallW.d (c1) ?_
        try (conv => whnf)
        repeat (refine SeqJ.thru ?_; conv => whnf)
        try (conv => whnf)
        repeat' (first
         | (refine Pick.mk ?_ ?_ ?_; rotate_left; (focus (first | (refine pick_nat _ _ _ ?_; omega) | (refine pick_int _ _ _ ?_ ?_ <;> omega))); conv => whnf)
         | (refine SeqJ.thru ?_; conv => whnf)
         | (refine br_dec (fun _ => ?_) (fun _ => ?_) <;> first | (exfalso; omega) | contradiction | conv => whnf)
         | (refine br_not ?_; conv => whnf)
         | (refine br_bne (fun _ => ?_) (fun _ => ?_) <;> first | (exfalso; omega) | contradiction | conv => whnf)
         | (refine br_beq (fun _ => ?_) (fun _ => ?_) <;> first | (exfalso; omega) | contradiction | conv => whnf))
        refine Hand.mk [] ?_
        try (conv => whnf)
        refine CallW.d (c2) ?_
        try (conv => whnf)
        try (conv => whnf)
        repeat' (first
         | (refine Pick.mk ?_ ?_ ?_; rotate_left; (focus ((refine wid ?_ ?_ <;> omega))); conv => whnf)
         | (refine br_dec (fun _ => ?_) (fun _ => ?_) <;> first | (exfalso; omega) | contradiction | conv => whnf)
         | (refine br_not ?_; conv => whnf)
         | (refine br_bne (fun _ => ?_) (fun _ => ?_) <;> first | (exfalso; omega) | contradiction | conv => whnf)
         | (refine br_beq (fun _ => ?_) (fun _ => ?_) <;> first | (exfalso; omega) | contradiction | conv => whnf))
        refine Pick.mk (i + 1, w) ⟨⟨by simp only; omega, by simp only; omega, hwo, hg⟩, by simp only; omega⟩ (LeX.of ?_)
        try (conv => whnf)
        repeat (refine Need.mk ?_ ?_; (focus (first | omega | (simp; done))); conv => whnf)
        trivial
       ·rw [if_neg he] at hg
        try (conv => whnf)
        repeat' (first
         | (refine Pick.mk ?_ ?_ ?_; rotate_left; (focus (first | exact List.length_map _ | (refine pick_nat _ _ _ ?_; omega))); conv => whnf)
         | (refine SeqJ.thru ?_; conv => whnf)
         | (refine br_dec (fun _ => ?_) (fun _ => ?_) <;> first | (exfalso; omega) | contradiction | conv => whnf)
         | (refine br_not ?_; conv => whnf)
         | (refine br_bne (fun _ => ?_) (fun _ => ?_) <;> first | (exfalso; omega) | contradiction | conv => whnf)
         | (refine br_beq (fun _ => ?_) (fun _ => ?_) <;> first | (exfalso; omega) | contradiction | conv => whnf))
        refine Hand.mk [] ?_
        try (conv => whnf)
        refine CallW.d (c1) ?_
        try (conv => whnf)
        repeat (refine SeqJ.thru ?_; conv => whnf)
        try (conv => whnf)
        repeat' (first
         | (refine Pick.mk ?_ ?_ ?_; rotate_left; (focus (first | (refine pick_nat _ _ _ ?_; omega) | (refine pick_int _ _ _ ?_ ?_ <;> omega))); conv => whnf)
         | (refine SeqJ.thru ?_; conv => whnf)
         | (refine br_dec (fun _ => ?_) (fun _ => ?_) <;> first | (exfalso; omega) | contradiction | conv => whnf)
         | (refine br_not ?_; conv => whnf)
         | (refine br_bne (fun _ => ?_) (fun _ => ?_) <;> first | (exfalso; omega) | contradiction | conv => whnf)
         | (refine br_beq (fun _ => ?_) (fun _ => ?_) <;> first | (exfalso; omega) | contradiction | conv => whnf))
        refine Hand.mk [] ?_
        try (conv => whnf)
        refine CallW.d (c2) ?_
        try (conv => whnf)
        try (conv => whnf)
        repeat' (first
         | (refine br_dec (fun _ => ?_) (fun _ => ?_) <;> first | (exfalso; omega) | contradiction | conv => whnf)
         | (refine br_not ?_; conv => whnf)
         | (refine br_bne (fun _ => ?_) (fun _ => ?_) <;> first | (exfalso; omega) | contradiction | conv => whnf)
         | (refine br_beq (fun _ => ?_) (fun _ => ?_) <;> first | (exfalso; omega) | contradiction | conv => whnf))
        refine Out.mk true [] [] ?_
        try (conv => whnf)
        exact ⟨by rw [hadd, hg]; try rfl, rfl⟩
      ·rw [List.getElem?_eq_none (by omega)] at hg
       have c1 := s_l08FindN log more[i].actor more[i].seq hok.good.sorted (by have := hok.len; omega) (by omega)
       rw [show findL log more[i].actor more[i].seq = -1 by rw [findL, if_neg (by omega)]] at c1
       try (conv => whnf)
       repeat' (first
        | (refine Pick.mk ?_ ?_ ?_; rotate_left; (focus (first | exact List.length_map _ | (refine pick_nat _ _ _ ?_; omega))); conv => whnf)
        | (refine SeqJ.thru ?_; conv => whnf)
        | (refine br_dec (fun _ => ?_) (fun _ => ?_) <;> first | (exfalso; omega) | contradiction | conv => whnf)
        | (refine br_not ?_; conv => whnf)
        | (refine br_bne (fun _ => ?_) (fun _ => ?_) <;> first | (exfalso; omega) | contradiction | conv => whnf)
        | (refine br_beq (fun _ => ?_) (fun _ => ?_) <;> first | (exfalso; omega) | contradiction | conv => whnf))
       refine Hand.mk [] ?_
       try (conv => whnf)
       refine CallW.d (c1) ?_
       try (conv => whnf)
       repeat (refine SeqJ.thru ?_; conv => whnf)
       try (conv => whnf)
       repeat' (first
        | (refine br_dec (fun _ => ?_) (fun _ => ?_) <;> first | (exfalso; omega) | contradiction | conv => whnf)
        | (refine br_not ?_; conv => whnf)
        | (refine br_bne (fun _ => ?_) (fun _ => ?_) <;> first | (exfalso; omega) | contradiction | conv => whnf)
        | (refine br_beq (fun _ => ?_) (fun _ => ?_) <;> first | (exfalso; omega) | contradiction | conv => whnf))
       refine LoopE.mk (fun j : Nat => mk [(0, vL log), (1, vL more), (7, vE), (9, .one (.os (.v 49152) 12 0 w.length)), (10, vI .i64 i), (12, vB (decide (twin (w.take j) more[i]))), (13, vI .i64 j)] [(49152, .own 12 (w.map oD))])
        (fun j => j ≤ w.length ∧ ∀ x ∈ w.take j, sameN x more[i] → x = more[i]) (fun j => w.length - j) 0 ⟨by omega, by simp⟩ (LeX.of ?_) ?_
       ·try (conv => whnf)
        repeat (refine Need.mk ?_ ?_; (focus (first | omega | (simp; done))); conv => whnf)
        refine Need.mk (by rw [twin_nil]) ?_
        try (conv => whnf)
        repeat (refine Need.mk ?_ ?_; (focus (first | omega | (simp; done))); conv => whnf)
        trivial
       ·rintro j ⟨hj, htw⟩
        by_cases hjl : j < w.length
        ·have hwj := hwo _ (List.getElem_mem hjl)
         have c2 := s_l08SameOp w[j] more[i] (by have := hdl _ hwj; omega) (by have := hdl _ hoo; omega)
         by_cases hs : sameN w[j] more[i]
         ·by_cases he : w[j] = more[i]
          ·obtain ⟨hs1, hs2⟩ := hs
           try (conv => whnf)
           repeat' (first
            | (refine Need.mk ?_ ?_; (focus (omega)); conv => whnf)
            | (refine Pick.mk ?_ ?_ ?_; rotate_left; (focus (first | (with_reducible refine get_mapN _ _ _ ?_; first | omega | (simp; omega)) | (refine pick_nat _ _ _ ?_; omega))); conv => whnf)
            | (refine SeqJ.thru ?_; conv => whnf)
            | (refine br_dec (fun _ => ?_) (fun _ => ?_) <;> first | (exfalso; omega) | contradiction | conv => whnf)
            | (refine br_not ?_; conv => whnf)
            | (refine br_bne (fun _ => ?_) (fun _ => ?_) <;> first | (exfalso; omega) | contradiction | conv => whnf)
            | (refine br_beq (fun _ => ?_) (fun _ => ?_) <;> first | (exfalso; omega) | contradiction | conv => whnf))
           refine Hand.mk [] ?_
           try (conv => whnf)
           refine CallW.d (c2) ?_
           try (conv => whnf)
           try (conv => whnf)
           repeat' (first
            | (refine Pick.mk ?_ ?_ ?_; rotate_left; (focus ((refine wid ?_ ?_ <;> omega))); conv => whnf)
            | (refine br_dec (fun _ => ?_) (fun _ => ?_) <;> first | (exfalso; omega) | contradiction | conv => whnf)
            | (refine br_not ?_; conv => whnf)
            | (refine br_bne (fun _ => ?_) (fun _ => ?_) <;> first | (exfalso; omega) | contradiction | conv => whnf)
            | (refine br_beq (fun _ => ?_) (fun _ => ?_) <;> first | (exfalso; omega) | contradiction | conv => whnf))
           refine Pick.mk (j + 1) ⟨⟨by omega, all_next hjl htw fun _ => he⟩, by omega⟩ (LeX.of ?_)
           try (conv => whnf)
           repeat (refine Need.mk ?_ ?_; (focus (first | omega | (simp; done))); conv => whnf)
           refine Need.mk (by rw [decide_eq_true ((twin_next hjl).2 (.inr ⟨hs1, hs2⟩))]) ?_
           try (conv => whnf)
           repeat (refine Need.mk ?_ ?_; (focus (first | omega | (simp; done))); conv => whnf)
           trivial
          ·rw [if_pos ⟨_, List.getElem_mem hjl, hs, he⟩] at hg
           obtain ⟨hs1, hs2⟩ := hs
           try (conv => whnf)
           repeat' (first
            | (refine Need.mk ?_ ?_; (focus (omega)); conv => whnf)
            | (refine Pick.mk ?_ ?_ ?_; rotate_left; (focus (first | (with_reducible refine get_mapN _ _ _ ?_; first | omega | (simp; omega)) | (refine pick_nat _ _ _ ?_; omega))); conv => whnf)
            | (refine SeqJ.thru ?_; conv => whnf)
            | (refine br_dec (fun _ => ?_) (fun _ => ?_) <;> first | (exfalso; omega) | contradiction | conv => whnf)
            | (refine br_not ?_; conv => whnf)
            | (refine br_bne (fun _ => ?_) (fun _ => ?_) <;> first | (exfalso; omega) | contradiction | conv => whnf)
            | (refine br_beq (fun _ => ?_) (fun _ => ?_) <;> first | (exfalso; omega) | contradiction | conv => whnf))
           refine Hand.mk [] ?_
           try (conv => whnf)
           refine CallW.d (c2) ?_
           try (conv => whnf)
           try (conv => whnf)
           repeat' (first
            | (refine br_dec (fun _ => ?_) (fun _ => ?_) <;> first | (exfalso; omega) | contradiction | conv => whnf)
            | (refine br_not ?_; conv => whnf)
            | (refine br_bne (fun _ => ?_) (fun _ => ?_) <;> first | (exfalso; omega) | contradiction | conv => whnf)
            | (refine br_beq (fun _ => ?_) (fun _ => ?_) <;> first | (exfalso; omega) | contradiction | conv => whnf))
           refine Out.mk true [] [] ?_
           try (conv => whnf)
           exact ⟨by rw [hadd, hg]; try rfl, rfl⟩
         ·have e1 : decide (twin (w.take (j + 1)) more[i]) = decide (twin (w.take j) more[i]) := decide_eq_decide.2 ⟨fun h => ((twin_next hjl).1 h).resolve_right hs, fun h => (twin_next hjl).2 (.inl h)⟩
          try (conv => whnf)
          repeat' (first
           | (refine Need.mk ?_ ?_; (focus (omega)); conv => whnf)
           | (refine Pick.mk ?_ ?_ ?_; rotate_left; (focus (first | (with_reducible refine get_mapN _ _ _ ?_; first | omega | (simp; omega)) | (refine wid ?_ ?_ <;> omega) | (refine pick_nat _ _ _ ?_; omega))); conv => whnf)
           | (refine SeqJ.thru ?_; conv => whnf)
           | (refine br_dec (fun _ => ?_) (fun _ => ?_) <;> first | (exfalso; omega) | contradiction | conv => whnf)
           | (refine br_not ?_; conv => whnf)
           | (refine br_bne (fun _ => ?_) (fun _ => ?_) <;> first | (exfalso; omega) | contradiction | conv => whnf)
           | (refine br_beq (fun _ => ?_) (fun _ => ?_) <;> first | (exfalso; omega) | contradiction | conv => whnf))
          all_goals
           first
            | (exfalso; exact hs ⟨by assumption, by assumption⟩)
            |skip
             refine Pick.mk (j + 1) ⟨⟨by omega, all_next hjl htw fun h => absurd h hs⟩, by omega⟩ (LeX.of ?_)
             try (conv => whnf)
             repeat (refine Need.mk ?_ ?_; (focus (first | omega | (simp; done))); conv => whnf)
             refine Need.mk (by rw [e1]) ?_
             try (conv => whnf)
             repeat (refine Need.mk ?_ ?_; (focus (first | omega | (simp; done))); conv => whnf)
             trivial
        ·have hw1 : w.take j = w := List.take_of_length_le (by omega)
         rw [hw1] at htw
         simp only [hw1]
         rw [if_neg (by rintro ⟨x, h1, h2, h3⟩; exact h3 (htw x h1 h2))] at hg
         by_cases htwin : twin w more[i]
         ·rw [if_pos htwin] at hg
          try (conv => whnf)
          repeat' (first
           | (refine Pick.mk ?_ ?_ ?_; rotate_left; (focus ((refine wid ?_ ?_ <;> omega))); conv => whnf)
           | (refine SeqJ.thru ?_; conv => whnf)
           | (refine br_dec (fun _ => ?_) (fun _ => ?_) <;> first | (exfalso; omega) | contradiction | conv => whnf)
           | (refine br_not ?_; conv => whnf)
           | (refine br_bne (fun _ => ?_) (fun _ => ?_) <;> first | (exfalso; omega) | contradiction | conv => whnf)
           | (refine br_beq (fun _ => ?_) (fun _ => ?_) <;> first | (exfalso; omega) | contradiction | conv => whnf))
          refine Pick.mk (i + 1, w) ⟨⟨by simp only; omega, by simp only; omega, hwo, hg⟩, by simp only; omega⟩ (LeX.of ?_)
          try (conv => whnf)
          repeat (refine Need.mk ?_ ?_; (focus (first | omega | (simp; done))); conv => whnf)
          trivial
         ·rw [if_neg htwin] at hg
          try (conv => whnf)
          repeat' (first
           | (refine Pick.mk ?_ ?_ ?_; rotate_left; (focus ((refine pick_nat _ _ _ ?_; omega))); conv => whnf)
           | (refine SeqJ.thru ?_; conv => whnf)
           | (refine br_dec (fun _ => ?_) (fun _ => ?_) <;> first | (exfalso; omega) | contradiction | conv => whnf)
           | (refine br_not ?_; conv => whnf)
           | (refine br_bne (fun _ => ?_) (fun _ => ?_) <;> first | (exfalso; omega) | contradiction | conv => whnf)
           | (refine br_beq (fun _ => ?_) (fun _ => ?_) <;> first | (exfalso; omega) | contradiction | conv => whnf))
          refine Hand.mk [] ?_
          try (conv => whnf)
          refine CallW.d (s_l08CopyOp more[i] (hdl _ hoo)) ?_
          try (conv => whnf)
          repeat (first
           | (refine Need.mk ?_ ?_; (focus ((simp only [List.length_map, List.length_append, List.length_cons, List.length_nil, List.length_replicate]; omega))); conv => whnf)
           | (refine Pick.mk ?_ ?_ ?_; rotate_left; (focus (first | (simp only [List.length_map, List.length_append, List.length_cons, List.length_nil, List.length_replicate, Nat.zero_add]; rfl) | (simp only [chunks]; rfl) | (refine wid ?_ ?_ <;> omega) | (refine SlOf.full ?_; first | (simp; done) | (simp; omega)) | (refine SlF.self _ _ ?_ ?_; (first | rfl | omega | (simp; done) | (simp; omega)); (exact fun _ => rfl)) | ((fail_if_success (show @Eq (Option _) _ _)); rfl))); conv => whnf)
           | (refine OwnQ.mk false ?_; conv => whnf))
          refine Pick.mk (i + 1, w ++ [more[i]]) ⟨⟨by simp only; omega, by simp only [List.length_append, List.length_singleton]; omega, fun y hy => (List.mem_append.1 hy).elim (hwo y) fun h => by rw [List.mem_singleton.1 h]; exact hoo, hg⟩, by simp only; omega⟩ (LeX.of ?_)
          try (conv => whnf)
          repeat (refine Need.mk ?_ ?_; (focus (first | omega | (simp; done))); conv => whnf)
          refine Need.mk (by simp only [List.map_append]; rfl) ?_
          try (conv => whnf)
          trivial
     ·rw [List.drop_eq_nil_of_le (by omega), waitGo] at hg
      rw [hg] at hadd
      simp only at hadd
      try (conv => whnf)
      repeat' (first
       | (refine Pick.mk ?_ ?_ ?_; rotate_left; (focus (exact List.length_map _)); conv => whnf)
       | (refine SeqJ.thru ?_; conv => whnf)
       | (refine br_dec (fun _ => ?_) (fun _ => ?_) <;> first | (exfalso; omega) | contradiction | conv => whnf)
       | (refine br_not ?_; conv => whnf)
       | (refine br_bne (fun _ => ?_) (fun _ => ?_) <;> first | (exfalso; omega) | contradiction | conv => whnf)
       | (refine br_beq (fun _ => ?_) (fun _ => ?_) <;> first | (exfalso; omega) | contradiction | conv => whnf))
      refine Hand.mk [] ?_
      try (conv => whnf)
      refine CallW.k (s_l08CopyF log (by have := hok.len; omega) (fun o ho => hdl o (hok.good.all o ho))) ?_
      try (conv => whnf)
      refine LoopE.mk (fun x : List OpV × List OpV × Nat => mk [(7, vE), (9, vL x.2.1), (14, vL x.1), (15, vI .i64 x.2.2)] [])
       (fun x => LogOk x.1 ∧ (∀ y ∈ x.2.1, OpOk y) ∧ x.2.2 ≤ x.2.1.length ∧ x.2.1.length ≤ 1024 ∧ addL log more = addGo x.1 x.2.1 x.2.2) (fun x => x.2.1.length * 2000 + (x.2.1.length - x.2.2)) (log, w, 0) ⟨hok, hwo, by simp, by simp only; omega, hadd⟩ (LeX.of ?_) ?_
      ·try (conv => whnf)
       repeat (refine Need.mk ?_ ?_; (focus (first | exact SlF.self _ _ rfl (fun _ => rfl) | (simp only [List.length_map, List.length_append, List.length_cons, List.length_nil, List.length_replicate]; omega) | (simp; done))); conv => whnf)
       trivial
      ·rintro ⟨out, w, i⟩ ⟨ho, hwo, hi, hwl, hg⟩
       simp only at ho hwo hi hwl hg ⊢
       by_cases hlt : i < w.length
       ·have hoo := hwo _ (List.getElem_mem hlt)
        obtain ⟨a0, a1⟩ := hoo.st.2
        obtain ⟨q0, q1⟩ := hoo.seq
        have hle := ho.len
        have c1 := s_l08Counts out (fun o h => (ho.good.all o h).st.2) (by omega)
        have c2 := s_l08Causes out w[i] ho.good hoo (by omega)
        have hcn := cnts_get out (a := w[i].actor.toNat) (by omega)
        rw [show ((w[i].actor.toNat : Nat) : Int) = w[i].actor by omega] at hcn
        have hcl := cnts_length out
        have hol := own_le out w[i].actor
        by_cases hsq : w[i].seq = (own out w[i].actor).length + 1
        ·by_cases hca : Cause out w[i]
         ·have c3 := s_l08KindFits out w[i] (by omega)
          by_cases hkf : kfL out w[i]
          ·by_cases hn : out.length = 1024
           ·rw [addGo_many hlt ⟨hsq, hca⟩ hkf hn] at hg
            simp only [kfL] at hkf
            try (conv => whnf)
            repeat' (first
             | (refine Pick.mk ?_ ?_ ?_; rotate_left; (focus (first | exact List.length_map _ | (refine pick_nat _ _ _ ?_; omega))); conv => whnf)
             | (refine SeqJ.thru ?_; conv => whnf)
             | (refine br_dec (fun _ => ?_) (fun _ => ?_) <;> first | (exfalso; omega) | contradiction | conv => whnf)
             | (refine br_not ?_; conv => whnf)
             | (refine br_bne (fun _ => ?_) (fun _ => ?_) <;> first | (exfalso; omega) | contradiction | conv => whnf)
             | (refine br_beq (fun _ => ?_) (fun _ => ?_) <;> first | (exfalso; omega) | contradiction | conv => whnf))
            refine Hand.mk [] ?_
            try (conv => whnf)
            refine CallW.d (c1) ?_
            try (conv => whnf)
            repeat (first
             | (refine Need.mk ?_ ?_; (focus (omega)); conv => whnf)
             | (refine Pick.mk ?_ ?_ ?_; rotate_left; (focus (first | (with_reducible refine get_mapI _ _ _ ?_ ?_ <;> first | omega | (simp; omega)) | (refine wid ?_ ?_ <;> omega))); conv => whnf)
             | (refine SeqJ.thru ?_; conv => whnf))
            try (conv => whnf)
            repeat' (first
             | (refine br_dec (fun _ => ?_) (fun _ => ?_) <;> first | (exfalso; omega) | contradiction | conv => whnf)
             | (refine br_not ?_; conv => whnf)
             | (refine br_bne (fun _ => ?_) (fun _ => ?_) <;> first | (exfalso; omega) | contradiction | conv => whnf)
             | (refine br_beq (fun _ => ?_) (fun _ => ?_) <;> first | (exfalso; omega) | contradiction | conv => whnf))
            refine Hand.mk [] ?_
            try (conv => whnf)
            repeat (refine Pick.mk ?_ ?_ ?_; rotate_left; (focus ((refine SlF.self _ _ ?_ ?_; (first | rfl | omega | (simp; done) | (simp; omega)); (exact fun _ => rfl)))); conv => whnf)
            refine CallW.d (c2) ?_
            try (conv => whnf)
            try (conv => whnf)
            repeat' (first
             | (refine SeqJ.thru ?_; conv => whnf)
             | (refine br_dec (fun _ => ?_) (fun _ => ?_) <;> first | (exfalso; omega) | contradiction | conv => whnf)
             | (refine br_not ?_; conv => whnf)
             | (refine br_bne (fun _ => ?_) (fun _ => ?_) <;> first | (exfalso; omega) | contradiction | conv => whnf)
             | (refine br_beq (fun _ => ?_) (fun _ => ?_) <;> first | (exfalso; omega) | contradiction | conv => whnf))
            refine Hand.mk [] ?_
            try (conv => whnf)
            refine CallW.d (c3) ?_
            try (conv => whnf)
            try (conv => whnf)
            repeat' (first
             | (refine Pick.mk ?_ ?_ ?_; rotate_left; (focus (exact List.length_map _)); conv => whnf)
             | (refine SeqJ.thru ?_; conv => whnf)
             | (refine br_dec (fun _ => ?_) (fun _ => ?_) <;> first | (exfalso; omega) | contradiction | conv => whnf)
             | (refine br_not ?_; conv => whnf)
             | (refine br_bne (fun _ => ?_) (fun _ => ?_) <;> first | (exfalso; omega) | contradiction | conv => whnf)
             | (refine br_beq (fun _ => ?_) (fun _ => ?_) <;> first | (exfalso; omega) | contradiction | conv => whnf))
            refine Out.mk true [] [] ?_
            try (conv => whnf)
            exact ⟨by rw [hg]; try rfl, rfl⟩
           ·rw [addGo_put hlt ⟨hsq, hca⟩ hkf hn] at hg
            have hnew := ho.ins hoo ⟨hsq, hca⟩ hkf (by omega)
            simp only [kfL] at hkf
            try (conv => whnf)
            repeat' (first
             | (refine Pick.mk ?_ ?_ ?_; rotate_left; (focus (first | exact List.length_map _ | (refine pick_nat _ _ _ ?_; omega))); conv => whnf)
             | (refine SeqJ.thru ?_; conv => whnf)
             | (refine br_dec (fun _ => ?_) (fun _ => ?_) <;> first | (exfalso; omega) | contradiction | conv => whnf)
             | (refine br_not ?_; conv => whnf)
             | (refine br_bne (fun _ => ?_) (fun _ => ?_) <;> first | (exfalso; omega) | contradiction | conv => whnf)
             | (refine br_beq (fun _ => ?_) (fun _ => ?_) <;> first | (exfalso; omega) | contradiction | conv => whnf))
            refine Hand.mk [] ?_
            try (conv => whnf)
            refine CallW.d (c1) ?_
            try (conv => whnf)
            repeat (first
             | (refine Need.mk ?_ ?_; (focus (omega)); conv => whnf)
             | (refine Pick.mk ?_ ?_ ?_; rotate_left; (focus (first | (with_reducible refine get_mapI _ _ _ ?_ ?_ <;> first | omega | (simp; omega)) | (refine wid ?_ ?_ <;> omega))); conv => whnf)
             | (refine SeqJ.thru ?_; conv => whnf))
            try (conv => whnf)
            repeat' (first
             | (refine br_dec (fun _ => ?_) (fun _ => ?_) <;> first | (exfalso; omega) | contradiction | conv => whnf)
             | (refine br_not ?_; conv => whnf)
             | (refine br_bne (fun _ => ?_) (fun _ => ?_) <;> first | (exfalso; omega) | contradiction | conv => whnf)
             | (refine br_beq (fun _ => ?_) (fun _ => ?_) <;> first | (exfalso; omega) | contradiction | conv => whnf))
            refine Hand.mk [] ?_
            try (conv => whnf)
            repeat (refine Pick.mk ?_ ?_ ?_; rotate_left; (focus ((refine SlF.self _ _ ?_ ?_; (first | rfl | omega | (simp; done) | (simp; omega)); (exact fun _ => rfl)))); conv => whnf)
            refine CallW.d (c2) ?_
            try (conv => whnf)
            try (conv => whnf)
            repeat' (first
             | (refine SeqJ.thru ?_; conv => whnf)
             | (refine br_dec (fun _ => ?_) (fun _ => ?_) <;> first | (exfalso; omega) | contradiction | conv => whnf)
             | (refine br_not ?_; conv => whnf)
             | (refine br_bne (fun _ => ?_) (fun _ => ?_) <;> first | (exfalso; omega) | contradiction | conv => whnf)
             | (refine br_beq (fun _ => ?_) (fun _ => ?_) <;> first | (exfalso; omega) | contradiction | conv => whnf))
            refine Hand.mk [] ?_
            try (conv => whnf)
            refine CallW.d (c3) ?_
            try (conv => whnf)
            try (conv => whnf)
            repeat' (first
             | (refine Pick.mk ?_ ?_ ?_; rotate_left; (focus (exact List.length_map _)); conv => whnf)
             | (refine SeqJ.thru ?_; conv => whnf)
             | (refine br_dec (fun _ => ?_) (fun _ => ?_) <;> first | (exfalso; omega) | contradiction | conv => whnf)
             | (refine br_not ?_; conv => whnf)
             | (refine br_bne (fun _ => ?_) (fun _ => ?_) <;> first | (exfalso; omega) | contradiction | conv => whnf)
             | (refine br_beq (fun _ => ?_) (fun _ => ?_) <;> first | (exfalso; omega) | contradiction | conv => whnf))
            refine Hand.mk [] ?_
            try (conv => whnf)
            refine CallW.k (s_l08Insert out w[i] (by omega)) ?_
            try (conv => whnf)
            repeat (first
             | (refine Need.mk ?_ ?_; (focus (first | exact len_oD _ | (simp; omega))); conv => whnf)
             | (refine Pick.mk ?_ ?_ ?_; rotate_left; (focus (first | with_reducible exact sl_map0 _ _ _ | with_reducible exact sl_mapN _ _ _ | (refine bnd_id ?_; omega) | (refine bnd_int ?_ ?_ <;> omega) | exact List.length_map _ | (simp only [List.length_map, List.length_append, List.length_cons, List.length_nil, List.length_replicate, Nat.zero_add]; rfl) | with_reducible exact List.nil_append _ | with_reducible exact map_app _ _ _ | (simp only [chunks]; rfl) | (refine wid ?_ ?_ <;> omega) | (refine SlOf.full ?_; first | (simp; done) | (simp; omega)))); conv => whnf))
            refine Pick.mk (insL out w[i], w.take i ++ w.drop (i + 1), 0) ⟨⟨hnew, fun y hy => (List.mem_append.1 hy).elim (fun h => hwo y (List.mem_of_mem_take h)) fun h => hwo y (List.mem_of_mem_drop h), by simp, by simp; omega, hg⟩, by simp; omega⟩ (LeX.of ?_)
            try (conv => whnf)
            repeat (refine Need.mk ?_ ?_; (focus ((simp; done))); conv => whnf)
            refine Need.mk (by rw [show ((i : Int) + 1).toNat = i + 1 by omega]; exact SlF.self _ _ (by simp only [List.length_append]) (fun _ => rfl)) ?_
            try (conv => whnf)
            repeat (refine Need.mk ?_ ?_; (focus (first | (simp only [List.length_map, List.length_append, List.length_cons, List.length_nil, List.length_replicate]; omega) | (simp; done))); conv => whnf)
            trivial
          ·rw [addGo_kind hlt ⟨hsq, hca⟩ hkf] at hg
           simp only [kfL] at hkf
           try (conv => whnf)
           repeat' (first
            | (refine Pick.mk ?_ ?_ ?_; rotate_left; (focus (first | exact List.length_map _ | (refine pick_nat _ _ _ ?_; omega))); conv => whnf)
            | (refine SeqJ.thru ?_; conv => whnf)
            | (refine br_dec (fun _ => ?_) (fun _ => ?_) <;> first | (exfalso; omega) | contradiction | conv => whnf)
            | (refine br_not ?_; conv => whnf)
            | (refine br_bne (fun _ => ?_) (fun _ => ?_) <;> first | (exfalso; omega) | contradiction | conv => whnf)
            | (refine br_beq (fun _ => ?_) (fun _ => ?_) <;> first | (exfalso; omega) | contradiction | conv => whnf))
           refine Hand.mk [] ?_
           try (conv => whnf)
           refine CallW.d (c1) ?_
           try (conv => whnf)
           repeat (first
            | (refine Need.mk ?_ ?_; (focus (omega)); conv => whnf)
            | (refine Pick.mk ?_ ?_ ?_; rotate_left; (focus (first | (with_reducible refine get_mapI _ _ _ ?_ ?_ <;> first | omega | (simp; omega)) | (refine wid ?_ ?_ <;> omega))); conv => whnf)
            | (refine SeqJ.thru ?_; conv => whnf))
           try (conv => whnf)
           repeat' (first
            | (refine br_dec (fun _ => ?_) (fun _ => ?_) <;> first | (exfalso; omega) | contradiction | conv => whnf)
            | (refine br_not ?_; conv => whnf)
            | (refine br_bne (fun _ => ?_) (fun _ => ?_) <;> first | (exfalso; omega) | contradiction | conv => whnf)
            | (refine br_beq (fun _ => ?_) (fun _ => ?_) <;> first | (exfalso; omega) | contradiction | conv => whnf))
           refine Hand.mk [] ?_
           try (conv => whnf)
           repeat (refine Pick.mk ?_ ?_ ?_; rotate_left; (focus ((refine SlF.self _ _ ?_ ?_; (first | rfl | omega | (simp; done) | (simp; omega)); (exact fun _ => rfl)))); conv => whnf)
           refine CallW.d (c2) ?_
           try (conv => whnf)
           try (conv => whnf)
           repeat' (first
            | (refine SeqJ.thru ?_; conv => whnf)
            | (refine br_dec (fun _ => ?_) (fun _ => ?_) <;> first | (exfalso; omega) | contradiction | conv => whnf)
            | (refine br_not ?_; conv => whnf)
            | (refine br_bne (fun _ => ?_) (fun _ => ?_) <;> first | (exfalso; omega) | contradiction | conv => whnf)
            | (refine br_beq (fun _ => ?_) (fun _ => ?_) <;> first | (exfalso; omega) | contradiction | conv => whnf))
           refine Hand.mk [] ?_
           try (conv => whnf)
           refine CallW.d (c3) ?_
           try (conv => whnf)
           try (conv => whnf)
           repeat' (first
            | (refine br_dec (fun _ => ?_) (fun _ => ?_) <;> first | (exfalso; omega) | contradiction | conv => whnf)
            | (refine br_not ?_; conv => whnf)
            | (refine br_bne (fun _ => ?_) (fun _ => ?_) <;> first | (exfalso; omega) | contradiction | conv => whnf)
            | (refine br_beq (fun _ => ?_) (fun _ => ?_) <;> first | (exfalso; omega) | contradiction | conv => whnf))
           refine Out.mk true [] [] ?_
           try (conv => whnf)
           exact ⟨by rw [hg]; try rfl, rfl⟩
         ·rw [addGo_next hlt fun h => hca h.2] at hg
          try (conv => whnf)
          repeat' (first
           | (refine Pick.mk ?_ ?_ ?_; rotate_left; (focus (first | exact List.length_map _ | (refine pick_nat _ _ _ ?_; omega))); conv => whnf)
           | (refine SeqJ.thru ?_; conv => whnf)
           | (refine br_dec (fun _ => ?_) (fun _ => ?_) <;> first | (exfalso; omega) | contradiction | conv => whnf)
           | (refine br_not ?_; conv => whnf)
           | (refine br_bne (fun _ => ?_) (fun _ => ?_) <;> first | (exfalso; omega) | contradiction | conv => whnf)
           | (refine br_beq (fun _ => ?_) (fun _ => ?_) <;> first | (exfalso; omega) | contradiction | conv => whnf))
          refine Hand.mk [] ?_
          try (conv => whnf)
          refine CallW.d (c1) ?_
          try (conv => whnf)
          repeat (first
           | (refine Need.mk ?_ ?_; (focus (omega)); conv => whnf)
           | (refine Pick.mk ?_ ?_ ?_; rotate_left; (focus (first | (with_reducible refine get_mapI _ _ _ ?_ ?_ <;> first | omega | (simp; omega)) | (refine wid ?_ ?_ <;> omega))); conv => whnf)
           | (refine SeqJ.thru ?_; conv => whnf))
          try (conv => whnf)
          repeat' (first
           | (refine br_dec (fun _ => ?_) (fun _ => ?_) <;> first | (exfalso; omega) | contradiction | conv => whnf)
           | (refine br_not ?_; conv => whnf)
           | (refine br_bne (fun _ => ?_) (fun _ => ?_) <;> first | (exfalso; omega) | contradiction | conv => whnf)
           | (refine br_beq (fun _ => ?_) (fun _ => ?_) <;> first | (exfalso; omega) | contradiction | conv => whnf))
          refine Hand.mk [] ?_
          try (conv => whnf)
          repeat (refine Pick.mk ?_ ?_ ?_; rotate_left; (focus ((refine SlF.self _ _ ?_ ?_; (first | rfl | omega | (simp; done) | (simp; omega)); (exact fun _ => rfl)))); conv => whnf)
          refine CallW.d (c2) ?_
          try (conv => whnf)
          try (conv => whnf)
          repeat' (first
           | (refine Pick.mk ?_ ?_ ?_; rotate_left; (focus ((refine wid ?_ ?_ <;> omega))); conv => whnf)
           | (refine br_dec (fun _ => ?_) (fun _ => ?_) <;> first | (exfalso; omega) | contradiction | conv => whnf)
           | (refine br_not ?_; conv => whnf)
           | (refine br_bne (fun _ => ?_) (fun _ => ?_) <;> first | (exfalso; omega) | contradiction | conv => whnf)
           | (refine br_beq (fun _ => ?_) (fun _ => ?_) <;> first | (exfalso; omega) | contradiction | conv => whnf))
          refine Pick.mk (out, w, i + 1) ⟨⟨ho, hwo, by simp only; omega, hwl, hg⟩, by simp only; omega⟩ (LeX.of ?_)
          try (conv => whnf)
          repeat (refine Need.mk ?_ ?_; (focus (first | (simp only [List.length_map, List.length_append, List.length_cons, List.length_nil, List.length_replicate]; omega) | (simp; done))); conv => whnf)
          trivial
        ·rw [addGo_next hlt fun h => hsq h.1] at hg
         try (conv => whnf)
         repeat' (first
          | (refine Pick.mk ?_ ?_ ?_; rotate_left; (focus (first | exact List.length_map _ | (refine pick_nat _ _ _ ?_; omega))); conv => whnf)
          | (refine SeqJ.thru ?_; conv => whnf)
          | (refine br_dec (fun _ => ?_) (fun _ => ?_) <;> first | (exfalso; omega) | contradiction | conv => whnf)
          | (refine br_not ?_; conv => whnf)
          | (refine br_bne (fun _ => ?_) (fun _ => ?_) <;> first | (exfalso; omega) | contradiction | conv => whnf)
          | (refine br_beq (fun _ => ?_) (fun _ => ?_) <;> first | (exfalso; omega) | contradiction | conv => whnf))
         refine Hand.mk [] ?_
         try (conv => whnf)
         refine CallW.d (c1) ?_
         try (conv => whnf)
         repeat (first
          | (refine Need.mk ?_ ?_; (focus (omega)); conv => whnf)
          | (refine Pick.mk ?_ ?_ ?_; rotate_left; (focus (first | (with_reducible refine get_mapI _ _ _ ?_ ?_ <;> first | omega | (simp; omega)) | (refine wid ?_ ?_ <;> omega))); conv => whnf)
          | (refine SeqJ.thru ?_; conv => whnf))
         try (conv => whnf)
         repeat' (first
          | (refine Pick.mk ?_ ?_ ?_; rotate_left; (focus ((refine wid ?_ ?_ <;> omega))); conv => whnf)
          | (refine br_dec (fun _ => ?_) (fun _ => ?_) <;> first | (exfalso; omega) | contradiction | conv => whnf)
          | (refine br_not ?_; conv => whnf)
          | (refine br_bne (fun _ => ?_) (fun _ => ?_) <;> first | (exfalso; omega) | contradiction | conv => whnf)
          | (refine br_beq (fun _ => ?_) (fun _ => ?_) <;> first | (exfalso; omega) | contradiction | conv => whnf))
         refine Pick.mk (out, w, i + 1) ⟨⟨ho, hwo, by simp only; omega, hwl, hg⟩, by simp only; omega⟩ (LeX.of ?_)
         try (conv => whnf)
         repeat (refine Need.mk ?_ ?_; (focus (first | (simp only [List.length_map, List.length_append, List.length_cons, List.length_nil, List.length_replicate]; omega) | (simp; done))); conv => whnf)
         trivial
       ·rw [addGo_end hlt] at hg
        try (conv => whnf)
        repeat' (first
         | (refine Pick.mk ?_ ?_ ?_; rotate_left; (focus (exact List.length_map _)); conv => whnf)
         | (refine SeqJ.thru ?_; conv => whnf)
         | (refine br_dec (fun _ => ?_) (fun _ => ?_) <;> first | (exfalso; omega) | contradiction | conv => whnf)
         | (refine br_not ?_; conv => whnf)
         | (refine br_bne (fun _ => ?_) (fun _ => ?_) <;> first | (exfalso; omega) | contradiction | conv => whnf)
         | (refine br_beq (fun _ => ?_) (fun _ => ?_) <;> first | (exfalso; omega) | contradiction | conv => whnf))
        refine Out.mk true [] [] ?_
        try (conv => whnf)
        exact ⟨by rw [hg]; try rfl, rfl⟩
end Go.Proofs.Ytpdjehnlejjfmaa.D
/- The program's book of a log: its cells, an operation put into it. -/
namespace Go.Proofs.Ytpdjehnlejjfmaa.D
open Go.RowKit
set_option maxRecDepth 100000
set_option maxHeartbeats 4000000
set_option linter.unusedVariables false
set_option linter.unusedSimpArgs false

abbrev dI (n : Int) : DV := .sc (.int .i64 n)
def bookD (b : BookV) : List DV := (b.of.map fun l => DV.ow 12 0 l.length (l.map oD)) ++ ((b.kd.map dI) ++ [dI b.size, dI b.tT, dI b.tA])
structure BookV.Wf (b : BookV) : Prop where
 of : b.of.length = 16
 kd : b.kd.length = 101
theorem bookOf_wf (l : List OpV) : (bookOf l).Wf := ⟨by simp, by rw [book_kd]; simp⟩
theorem BookV.Wf.len {b : BookV} (h : b.Wf) : (bookD b).length = 120 := by simp [bookD, h.of, h.kd]
theorem bk_of {b : BookV} (h : b.Wf) {a : Nat} (ha : a < 16) : (bookD b)[a]? = some (.ow 12 0 (b.of.getD a []).length ((b.of.getD a []).map oD)) := by
 have := h.of
 simp only [bookD]
 rw [List.getElem?_append_left (by simp; omega), List.getElem?_map, List.getElem?_eq_getElem (by omega)]
 simp [List.getD, show a < b.of.length by omega]
theorem bk_kd {b : BookV} (h : b.Wf) {j : Nat} (hj : j < 101) : (bookD b)[16 + j]? = some (dI (b.kd.getD j 0)) := by
 have h1 := h.of; have h2 := h.kd
 simp only [bookD]
 rw [List.getElem?_append_right (by simp; omega), List.getElem?_append_left (by simp; omega)]
 simp [List.getD, h1, show j < b.kd.length by omega]
theorem bk_tail {b : BookV} (h : b.Wf) (n : Nat) : (bookD b)[117 + n]? = [dI b.size, dI b.tT, dI b.tA][n]? := by
 have h1 := h.of; have h2 := h.kd
 simp only [bookD]
 rw [List.getElem?_append_right (by simp; omega), List.getElem?_append_right (by simp; omega)]
 congr 1; simp [h1, h2]; omega
theorem bk_size {b : BookV} (h : b.Wf) : (bookD b)[117]? = some (dI b.size) := bk_tail h 0
theorem bk_top {b : BookV} (h : b.Wf) : 118 + 2 ≤ (bookD b).length ∧ ((bookD b).drop 118).take 2 = [dI b.tT, dI b.tA] := by
 refine ⟨by rw [h.len]; omega, ?_⟩
 apply List.ext_getElem?
 intro i
 rw [List.getElem?_take]
 split
 ·rename_i hi
  rw [List.getElem?_drop, show 118 + i = 117 + (1 + i) by omega, bk_tail h]
  match i, hi with
  | 0, _ => rfl
  | 1, _ => rfl
 ·rw [List.getElem?_eq_none]; simp; omega
theorem splice_one {old : List DV} {f : Nat} (d : DV) (h : f < old.length) : splice old f [d] = old.set f d := by
 unfold splice
 rw [List.set_eq_take_append_cons_drop, if_pos h]
 simp
theorem splice_two {old : List DV} {f : Nat} (d e : DV) (h : f + 1 < old.length) : splice old f [d, e] = (old.set f d).set (f + 1) e := by
 unfold splice
 apply List.ext_getElem?
 intro i
 rw [List.getElem?_set, List.getElem?_set]
 simp only [List.length_set]
 rcases Nat.lt_trichotomy i f with g | g | g
 ·rw [if_neg (by omega), if_neg (by omega), List.append_assoc, List.getElem?_append_left (by simp; omega), List.getElem?_take, if_pos g]
 ·subst g
  rw [if_neg (by omega), if_pos rfl, if_pos (by omega), List.append_assoc, List.getElem?_append_right (by simp; omega)]
  simp [show min i old.length = i by omega]
 ·by_cases g2 : i = f + 1
  ·subst g2
   rw [if_pos rfl, if_pos h, List.append_assoc, List.getElem?_append_right (by simp; omega)]
   simp [show min f old.length = f by omega]
  ·rw [if_neg (by omega), if_neg (by omega), List.getElem?_append_right (by simp; omega), List.getElem?_drop]
   congr 1; simp; omega
theorem bk_setOf {b : BookV} (h : b.Wf) {a : Nat} (ha : a < 16) (l : List OpV) (n : Nat) (hn : n = l.length) : splice ((bookD b).set a .no) a [.ow 12 0 n (l.map oD)] = bookD { b with of := b.of.set a l } := by
 subst hn
 have h1 := h.of
 rw [splice_one _ (by simp [h.len]; omega), List.set_set]
 simp only [bookD]
 rw [List.set_append_left _ _ (by simp; omega), List.map_set]
theorem bk_setKd {b : BookV} (h : b.Wf) {j : Nat} (hj : j < 101) (x : Int) : splice (bookD b) (16 + j) [dI x] = bookD { b with kd := b.kd.set j x } := by
 have h1 := h.of; have h2 := h.kd
 rw [splice_one _ (by simp [h.len]; omega)]
 simp only [bookD]
 rw [List.set_append_right _ _ (by simp; omega), List.set_append_left _ _ (by simp; omega), List.map_set]
 congr 3; simp; omega
theorem bk_setSize {b : BookV} (h : b.Wf) (x : Int) : splice (bookD b) 117 [dI x] = bookD { b with size := x } := by
 have h1 := h.of; have h2 := h.kd
 rw [splice_one _ (by simp [h.len])]
 simp only [bookD]
 rw [List.set_append_right _ _ (by simp; omega), List.set_append_right _ _ (by simp; omega)]
 simp [h1, h2]
theorem bk_setTop {b : BookV} (h : b.Wf) (t a : Int) : splice (bookD b) 118 [dI t, dI a] = bookD { b with tT := t, tA := a } := by
 have h1 := h.of; have h2 := h.kd
 rw [splice_two _ _ (by simp [h.len])]
 simp only [bookD]
 rw [List.set_append_right _ _ (by simp; omega), List.set_append_right _ _ (by simp; omega), List.set_append_right _ _ (by simp; omega), List.set_append_right _ _ (by simp; omega)]
 simp [h1, h2]
theorem bkl_setOf {b : BookV} (h : b.Wf) {a : Nat} (ha : a < 16) (l : List OpV) (n : Nat) (hn : n = l.length) : [(bookD b).set a .no].set 0 (splice ((bookD b).set a .no) a [.ow 12 0 n (l.map oD)]) = [bookD { b with of := b.of.set a l }] := by
 rw [List.set_cons_zero, bk_setOf h ha l n hn]
theorem bkl_setKd {b : BookV} (h : b.Wf) {j : Nat} (hj : j < 101) (x : Int) : [bookD b].set 0 (splice (bookD b) (16 + j) [dI x]) = [bookD { b with kd := b.kd.set j x }] := by
 rw [List.set_cons_zero, bk_setKd h hj x]
theorem bkl_setSize {b : BookV} (h : b.Wf) (x : Int) : [bookD b].set 0 (splice (bookD b) 117 [dI x]) = [bookD { b with size := x }] := by
 rw [List.set_cons_zero, bk_setSize h x]
theorem bkl_setTop {b : BookV} (h : b.Wf) (t a : Int) : [bookD b].set 0 (splice (bookD b) 118 [dI t, dI a]) = [bookD { b with tT := t, tA := a }] := by
 rw [List.set_cons_zero, bk_setTop h t a]
theorem i_thing (o : OpV) : CallD Try.prog id_impl_Op_thing [vO o] [] (vI .i64 (thI o.kind)) [] := by
 refine F_impl_Op_thing ?_
 try (conv => whnf)
 repeat' (first
  | (refine SeqJ.thru ?_; conv => whnf)
  | (refine br_dec (fun _ => ?_) (fun _ => ?_) <;> first | (exfalso; omega) | contradiction | conv => whnf)
  | (refine br_not ?_; conv => whnf)
  | (refine br_bne (fun _ => ?_) (fun _ => ?_) <;> first | (exfalso; omega) | contradiction | conv => whnf)
  | (refine br_beq (fun _ => ?_) (fun _ => ?_) <;> first | (exfalso; omega) | contradiction | conv => whnf))
 all_goals
  refine Out.mk true [] [] ?_
  try (conv => whnf)
 ·exact ⟨by rw [thI, if_pos (by omega)], rfl⟩
 ·exact ⟨by rw [thI, if_neg (by omega)], rfl⟩
theorem BookV.Wf.put {b : BookV} (h : b.Wf) (o : OpV) : (b.put o).Wf := ⟨by simp [BookV.put, h.of], by simp [BookV.put, h.kd]⟩
theorem i_put (b : BookV) (hb : b.Wf) (o : OpV) (ha : actOk o.actor) (ho : 1 ≤ o.obj ∧ o.obj ≤ 100) (hn : (b.of.getD o.actor.toNat []).length ≤ 2 ^ 20) (hs : 0 ≤ b.size ∧ b.size ≤ 2 ^ 40) :
  CallN Try.prog id_impl_book_put [.one (.ep (.v 0) 120 0 0), vO o] [.own 120 [bookD b]] [] (.tup []) [.own 120 [bookD (b.put o)]] := by
 refine F_impl_book_put ?_
 obtain ⟨a0, a1⟩ := ha
 have w1 : ({ b with of := b.of.set o.actor.toNat (b.of.getD o.actor.toNat [] ++ [o]) } : BookV).Wf := ⟨by simp [hb.of], hb.kd⟩
 have w2 : ({ b with of := b.of.set o.actor.toNat (b.of.getD o.actor.toNat [] ++ [o]), kd := b.kd.set o.obj.toNat (thI o.kind) } : BookV).Wf := ⟨by simp [hb.of], by simp [hb.kd]⟩
 have w3 : ({ b with of := b.of.set o.actor.toNat (b.of.getD o.actor.toNat [] ++ [o]), kd := b.kd.set o.obj.toNat (thI o.kind), size := b.size + 1 } : BookV).Wf := ⟨by simp [hb.of], by simp [hb.kd]⟩
 try (conv => whnf)
 repeat (first
  | (refine Need.mk ?_ ?_; (focus (first | omega | (simp only [List.length_map, List.length_append, List.length_cons, List.length_nil, List.length_replicate]; omega) | rfl | (first | exact fz_self _ _ (fun _ => rfl) | exact fz_pl rfl | (refine Fz.append ?_ ?_ <;> first | exact fz_self _ _ (fun _ => rfl) | exact fz_pl rfl) | (refine Fz.append (Fz.append ?_ ?_) ?_ <;> first | exact fz_self _ _ (fun _ => rfl) | exact fz_pl rfl)) | ((conv => whnf); (repeat (first | (refine Need.mk (by first | rfl | omega | (simp; done)) ?_; conv => whnf) | (refine Pick.mk ?_ ?_ ?_; rotate_left; (focus (first | with_reducible exact xor_u8 _ _ | (with_reducible refine xor_i64 ?_ ?_; all_goals omega) | (with_reducible refine xor_u32 ?_ ?_; all_goals omega) | exact map_snoc oD _ _ | (dsimp only; refine wid ?_ ?_ <;> omega) | (refine bkl_setTop ?_ _ _; assumption) | (refine bkl_setSize ?_ _; assumption) | (refine bkl_setKd ?_ ?_ _ <;> first | assumption | omega) | (refine bkl_setOf ?_ ?_ _ _ ?_ <;> first | assumption | omega | (simp; done)) | (refine bk_top ?_; assumption) | (with_reducible refine bk_size ?_; assumption) | (with_reducible refine bk_kd ?_ ?_ <;> first | assumption | omega) | (with_reducible refine bk_of ?_ ?_ <;> first | assumption | omega) | assumption | with_reducible exact set_byN _ _ _ _ | with_reducible exact set_byI _ _ _ _ | with_reducible exact set_inN _ _ _ _ | with_reducible exact set_inI _ _ _ _ | with_reducible exact set_stN _ _ _ _ | with_reducible exact set_tsN _ _ _ _ | with_reducible exact set_tsI _ _ _ _ | with_reducible exact set_boN _ _ _ _ | with_reducible exact set_boI _ _ _ _ | (with_reducible refine get_mapN _ _ _ ?_; first | omega | (simp; omega)) | (with_reducible refine get_mapI _ _ _ ?_ ?_ <;> first | omega | (simp; omega)) | exact bs_beq _ _ | exact bs_less _ _ | exact bs_leq _ _ | with_reducible exact bs_app _ _ | (refine bs_get _ _ ?_; omega) | (refine bs_int _ _ ?_ ?_ <;> omega) | with_reducible exact sl_map0 _ _ _ | with_reducible exact sl_mapN _ _ _ | with_reducible exact sl_map _ _ _ _ | exact bs_extract0 _ _ | exact bs_extractN _ _ | exact bs_extract _ _ _ | (refine bnd_id ?_; omega) | (refine bnd_sub ?_ ?_ <;> omega) | (refine bnd_add ?_; omega) | (refine bnd_subN ?_ ?_ <;> omega) | (refine bnd_int ?_ ?_ <;> omega) | ((show @Eq Nat (_ + Int.toNat _ * _) _); simp only [Int.toNat_natCast, Nat.zero_add, Nat.mul_one]; rfl) | ((show @Eq (List _) (List.set [_] _ _) _); simp only [List.set_cons_zero]; rfl) | exact List.length_map _ | exact size_bs _ | (simp only [List.length_map, List.length_append, List.length_cons, List.length_nil, List.length_replicate, Nat.zero_add]; rfl) | with_reducible exact List.nil_append _ | with_reducible exact map_app _ _ _ | exact map_snoc byD _ _ | exact map_snoc inD _ _ | exact map_snoc stD _ _ | exact map_snoc tsD _ _ | (simp only [chunks]; rfl) | (refine wid ?_ ?_ <;> omega) | exact wby _ | with_reducible exact wby32 _ | with_reducible exact wu32 _ | exact wby64 _ | exact shr8 _ | exact shr16 _ | exact shr24 _ | exact shr32 _ | (refine tmodn ?_; omega) | (refine wdiv ?_ ?_ ?_ <;> omega) | exact wbyte _ | exact natlit _ | exact rep_by _ | exact rep_in _ | exact rep_bo _ | exact rep_st _ | (refine pick_nat _ _ _ ?_; omega) | (refine pick_int _ _ _ ?_ ?_ <;> omega) | (refine SlOf.full ?_; first | (simp; done) | (simp; omega)) | (with_reducible refine SlOf.pre _ _ ?_; first | omega | (simp; omega)) | (refine SlF.self _ _ ?_ ?_; (first | rfl | omega | (simp; done) | (simp; omega)); (exact fun _ => rfl)) | (refine SlF.pre _ _ ?_ ?_; (first | omega | (simp; omega)); (exact fun _ => rfl)) | (refine SlF.same ?_ ?_; (first | rfl | omega | (simp; done) | (simp; omega)); (first | exact fz_self _ _ (fun _ => rfl) | exact fz_pl rfl | (refine Fz.append ?_ ?_ <;> first | exact fz_self _ _ (fun _ => rfl) | exact fz_pl rfl) | (refine Fz.append (Fz.append ?_ ?_) ?_ <;> first | exact fz_self _ _ (fun _ => rfl) | exact fz_pl rfl))) | (simp only [Int.toNat_natCast, Nat.zero_add, Nat.mul_one]; rfl) | ((show @Eq (Option CV) _ _); rfl) | ((fail_if_success (show @Eq (Option _) _ _)); rfl) | ((show @Eq (Option _) _ _); simp only [List.getElem?_cons_zero, List.getElem?_cons_succ]; done) | ((show @Eq (Option _) _ _); simp only [List.getElem?_cons_zero, List.getElem?_cons_succ]; rfl) | with_reducible rfl)); conv => whnf))); exact Done.mk trivial))); conv => whnf)
  | (refine Pick.mk ?_ ?_ ?_; rotate_left; (focus (first | exact map_snoc oD _ _ | (refine bkl_setOf ?_ ?_ _ _ ?_ <;> first | assumption | omega | (simp; done)) | (with_reducible refine bk_of ?_ ?_ <;> first | assumption | omega) | ((show @Eq Nat (_ + Int.toNat _ * _) _); simp only [Int.toNat_natCast, Nat.zero_add, Nat.mul_one]; rfl) | ((show @Eq (List _) (List.set [_] _ _) _); simp only [List.set_cons_zero]; rfl) | (simp only [List.length_map, List.length_append, List.length_cons, List.length_nil, List.length_replicate, Nat.zero_add]; rfl) | (simp only [chunks]; rfl) | (refine SlOf.full ?_; first | (simp; done) | (simp; omega)) | ((show @Eq (Option _) _ _); simp only [List.getElem?_cons_zero, List.getElem?_cons_succ]; rfl))); conv => whnf)
  | (refine OwnQ.mk true ?_; conv => whnf))
 refine Hand.mk [] ?_
 try (conv => whnf)
 refine CallW.d (i_thing o) ?_
 try (conv => whnf)
 repeat (first
  | (refine Need.mk ?_ ?_; (focus (first | omega | (simp only [List.length_map, List.length_append, List.length_cons, List.length_nil, List.length_replicate]; omega) | ((conv => whnf); (repeat (first | (refine Need.mk (by first | rfl | omega | (simp; done)) ?_; conv => whnf) | (refine Pick.mk ?_ ?_ ?_; rotate_left; (focus (first | with_reducible exact xor_u8 _ _ | (with_reducible refine xor_i64 ?_ ?_; all_goals omega) | (with_reducible refine xor_u32 ?_ ?_; all_goals omega) | exact map_snoc oD _ _ | (dsimp only; refine wid ?_ ?_ <;> omega) | (refine bkl_setTop ?_ _ _; assumption) | (refine bkl_setSize ?_ _; assumption) | (refine bkl_setKd ?_ ?_ _ <;> first | assumption | omega) | (refine bkl_setOf ?_ ?_ _ _ ?_ <;> first | assumption | omega | (simp; done)) | (refine bk_top ?_; assumption) | (with_reducible refine bk_size ?_; assumption) | (with_reducible refine bk_kd ?_ ?_ <;> first | assumption | omega) | (with_reducible refine bk_of ?_ ?_ <;> first | assumption | omega) | assumption | with_reducible exact set_byN _ _ _ _ | with_reducible exact set_byI _ _ _ _ | with_reducible exact set_inN _ _ _ _ | with_reducible exact set_inI _ _ _ _ | with_reducible exact set_stN _ _ _ _ | with_reducible exact set_tsN _ _ _ _ | with_reducible exact set_tsI _ _ _ _ | with_reducible exact set_boN _ _ _ _ | with_reducible exact set_boI _ _ _ _ | (with_reducible refine get_mapN _ _ _ ?_; first | omega | (simp; omega)) | (with_reducible refine get_mapI _ _ _ ?_ ?_ <;> first | omega | (simp; omega)) | exact bs_beq _ _ | exact bs_less _ _ | exact bs_leq _ _ | with_reducible exact bs_app _ _ | (refine bs_get _ _ ?_; omega) | (refine bs_int _ _ ?_ ?_ <;> omega) | with_reducible exact sl_map0 _ _ _ | with_reducible exact sl_mapN _ _ _ | with_reducible exact sl_map _ _ _ _ | exact bs_extract0 _ _ | exact bs_extractN _ _ | exact bs_extract _ _ _ | (refine bnd_id ?_; omega) | (refine bnd_sub ?_ ?_ <;> omega) | (refine bnd_add ?_; omega) | (refine bnd_subN ?_ ?_ <;> omega) | (refine bnd_int ?_ ?_ <;> omega) | ((show @Eq Nat (_ + Int.toNat _ * _) _); simp only [Int.toNat_natCast, Nat.zero_add, Nat.mul_one]; rfl) | ((show @Eq (List _) (List.set [_] _ _) _); simp only [List.set_cons_zero]; rfl) | exact List.length_map _ | exact size_bs _ | (simp only [List.length_map, List.length_append, List.length_cons, List.length_nil, List.length_replicate, Nat.zero_add]; rfl) | with_reducible exact List.nil_append _ | with_reducible exact map_app _ _ _ | exact map_snoc byD _ _ | exact map_snoc inD _ _ | exact map_snoc stD _ _ | exact map_snoc tsD _ _ | (simp only [chunks]; rfl) | (refine wid ?_ ?_ <;> omega) | exact wby _ | with_reducible exact wby32 _ | with_reducible exact wu32 _ | exact wby64 _ | exact shr8 _ | exact shr16 _ | exact shr24 _ | exact shr32 _ | (refine tmodn ?_; omega) | (refine wdiv ?_ ?_ ?_ <;> omega) | exact wbyte _ | exact natlit _ | exact rep_by _ | exact rep_in _ | exact rep_bo _ | exact rep_st _ | (refine pick_nat _ _ _ ?_; omega) | (refine pick_int _ _ _ ?_ ?_ <;> omega) | (refine SlOf.full ?_; first | (simp; done) | (simp; omega)) | (with_reducible refine SlOf.pre _ _ ?_; first | omega | (simp; omega)) | (refine SlF.self _ _ ?_ ?_; (first | rfl | omega | (simp; done) | (simp; omega)); (exact fun _ => rfl)) | (refine SlF.pre _ _ ?_ ?_; (first | omega | (simp; omega)); (exact fun _ => rfl)) | (refine SlF.same ?_ ?_; (first | rfl | omega | (simp; done) | (simp; omega)); (first | exact fz_self _ _ (fun _ => rfl) | exact fz_pl rfl | (refine Fz.append ?_ ?_ <;> first | exact fz_self _ _ (fun _ => rfl) | exact fz_pl rfl) | (refine Fz.append (Fz.append ?_ ?_) ?_ <;> first | exact fz_self _ _ (fun _ => rfl) | exact fz_pl rfl))) | (simp only [Int.toNat_natCast, Nat.zero_add, Nat.mul_one]; rfl) | ((show @Eq (Option CV) _ _); rfl) | ((fail_if_success (show @Eq (Option _) _ _)); rfl) | ((show @Eq (Option _) _ _); simp only [List.getElem?_cons_zero, List.getElem?_cons_succ]; done) | ((show @Eq (Option _) _ _); simp only [List.getElem?_cons_zero, List.getElem?_cons_succ]; rfl) | with_reducible rfl)); conv => whnf))); exact Done.mk trivial))); conv => whnf)
  | (refine Pick.mk ?_ ?_ ?_; rotate_left; (focus (first | (dsimp only; refine wid ?_ ?_ <;> omega) | (refine bkl_setSize ?_ _; assumption) | (refine bkl_setKd ?_ ?_ _ <;> first | assumption | omega) | (refine bk_top ?_; assumption) | (with_reducible refine bk_size ?_; assumption) | ((show @Eq Nat (_ + Int.toNat _ * _) _); simp only [Int.toNat_natCast, Nat.zero_add, Nat.mul_one]; rfl) | (simp only [List.length_map, List.length_append, List.length_cons, List.length_nil, List.length_replicate, Nat.zero_add]; rfl) | ((show @Eq (Option _) _ _); simp only [List.getElem?_cons_zero, List.getElem?_cons_succ]; rfl))); conv => whnf))
 refine Hand.mk [] ?_
 try (conv => whnf)
 refine CallW.d (i_stamp o) ?_
 try (conv => whnf)
 repeat (refine Need.mk ?_ ?_; (focus (((conv => whnf); (repeat (first | (refine Need.mk (by first | rfl | omega | (simp; done)) ?_; conv => whnf) | (refine Pick.mk ?_ ?_ ?_; rotate_left; (focus (first | with_reducible exact xor_u8 _ _ | (with_reducible refine xor_i64 ?_ ?_; all_goals omega) | (with_reducible refine xor_u32 ?_ ?_; all_goals omega) | exact map_snoc oD _ _ | (dsimp only; refine wid ?_ ?_ <;> omega) | (refine bkl_setTop ?_ _ _; assumption) | (refine bkl_setSize ?_ _; assumption) | (refine bkl_setKd ?_ ?_ _ <;> first | assumption | omega) | (refine bkl_setOf ?_ ?_ _ _ ?_ <;> first | assumption | omega | (simp; done)) | (refine bk_top ?_; assumption) | (with_reducible refine bk_size ?_; assumption) | (with_reducible refine bk_kd ?_ ?_ <;> first | assumption | omega) | (with_reducible refine bk_of ?_ ?_ <;> first | assumption | omega) | assumption | with_reducible exact set_byN _ _ _ _ | with_reducible exact set_byI _ _ _ _ | with_reducible exact set_inN _ _ _ _ | with_reducible exact set_inI _ _ _ _ | with_reducible exact set_stN _ _ _ _ | with_reducible exact set_tsN _ _ _ _ | with_reducible exact set_tsI _ _ _ _ | with_reducible exact set_boN _ _ _ _ | with_reducible exact set_boI _ _ _ _ | (with_reducible refine get_mapN _ _ _ ?_; first | omega | (simp; omega)) | (with_reducible refine get_mapI _ _ _ ?_ ?_ <;> first | omega | (simp; omega)) | exact bs_beq _ _ | exact bs_less _ _ | exact bs_leq _ _ | with_reducible exact bs_app _ _ | (refine bs_get _ _ ?_; omega) | (refine bs_int _ _ ?_ ?_ <;> omega) | with_reducible exact sl_map0 _ _ _ | with_reducible exact sl_mapN _ _ _ | with_reducible exact sl_map _ _ _ _ | exact bs_extract0 _ _ | exact bs_extractN _ _ | exact bs_extract _ _ _ | (refine bnd_id ?_; omega) | (refine bnd_sub ?_ ?_ <;> omega) | (refine bnd_add ?_; omega) | (refine bnd_subN ?_ ?_ <;> omega) | (refine bnd_int ?_ ?_ <;> omega) | ((show @Eq Nat (_ + Int.toNat _ * _) _); simp only [Int.toNat_natCast, Nat.zero_add, Nat.mul_one]; rfl) | ((show @Eq (List _) (List.set [_] _ _) _); simp only [List.set_cons_zero]; rfl) | exact List.length_map _ | exact size_bs _ | (simp only [List.length_map, List.length_append, List.length_cons, List.length_nil, List.length_replicate, Nat.zero_add]; rfl) | with_reducible exact List.nil_append _ | with_reducible exact map_app _ _ _ | exact map_snoc byD _ _ | exact map_snoc inD _ _ | exact map_snoc stD _ _ | exact map_snoc tsD _ _ | (simp only [chunks]; rfl) | (refine wid ?_ ?_ <;> omega) | exact wby _ | with_reducible exact wby32 _ | with_reducible exact wu32 _ | exact wby64 _ | exact shr8 _ | exact shr16 _ | exact shr24 _ | exact shr32 _ | (refine tmodn ?_; omega) | (refine wdiv ?_ ?_ ?_ <;> omega) | exact wbyte _ | exact natlit _ | exact rep_by _ | exact rep_in _ | exact rep_bo _ | exact rep_st _ | (refine pick_nat _ _ _ ?_; omega) | (refine pick_int _ _ _ ?_ ?_ <;> omega) | (refine SlOf.full ?_; first | (simp; done) | (simp; omega)) | (with_reducible refine SlOf.pre _ _ ?_; first | omega | (simp; omega)) | (refine SlF.self _ _ ?_ ?_; (first | rfl | omega | (simp; done) | (simp; omega)); (exact fun _ => rfl)) | (refine SlF.pre _ _ ?_ ?_; (first | omega | (simp; omega)); (exact fun _ => rfl)) | (refine SlF.same ?_ ?_; (first | rfl | omega | (simp; done) | (simp; omega)); (first | exact fz_self _ _ (fun _ => rfl) | exact fz_pl rfl | (refine Fz.append ?_ ?_ <;> first | exact fz_self _ _ (fun _ => rfl) | exact fz_pl rfl) | (refine Fz.append (Fz.append ?_ ?_) ?_ <;> first | exact fz_self _ _ (fun _ => rfl) | exact fz_pl rfl))) | (simp only [Int.toNat_natCast, Nat.zero_add, Nat.mul_one]; rfl) | ((show @Eq (Option CV) _ _); rfl) | ((fail_if_success (show @Eq (Option _) _ _)); rfl) | ((show @Eq (Option _) _ _); simp only [List.getElem?_cons_zero, List.getElem?_cons_succ]; done) | ((show @Eq (Option _) _ _); simp only [List.getElem?_cons_zero, List.getElem?_cons_succ]; rfl) | with_reducible rfl)); conv => whnf))); exact Done.mk trivial))); conv => whnf)
 refine Hand.mk [] ?_
 try (conv => whnf)
 refine CallW.d (i_StampLess b.tT b.tA o.time o.actor) ?_
 try (conv => whnf)
 try (conv => whnf)
 repeat' (first
  | (refine br_dec (fun _ => ?_) (fun _ => ?_) <;> first | (exfalso; omega) | contradiction | conv => whnf)
  | (refine br_not ?_; conv => whnf)
  | (refine br_bne (fun _ => ?_) (fun _ => ?_) <;> first | (exfalso; omega) | contradiction | conv => whnf)
  | (refine br_beq (fun _ => ?_) (fun _ => ?_) <;> first | (exfalso; omega) | contradiction | conv => whnf))
 ·rename_i hlt
  refine Hand.mk [] ?_
  try (conv => whnf)
  refine CallW.d (i_stamp o) ?_
  try (conv => whnf)
  repeat (first
   | (refine Need.mk ?_ ?_; (focus ((simp only [List.length_map, List.length_append, List.length_cons, List.length_nil, List.length_replicate]; omega))); conv => whnf)
   | (refine Pick.mk ?_ ?_ ?_; rotate_left; (focus (first | (refine bkl_setTop ?_ _ _; assumption) | (simp only [List.length_map, List.length_append, List.length_cons, List.length_nil, List.length_replicate, Nat.zero_add]; rfl))); conv => whnf))
  refine Out.mk false [0, 1, 2, 3, 4] [] ?_
  try (conv => whnf)
  exact ⟨rfl, by simp only [BookV.put, if_pos hlt]⟩
 ·rename_i hlt
  refine Out.mk false [0, 1, 2, 3, 4] [] ?_
  try (conv => whnf)
  exact ⟨rfl, by simp only [BookV.put, if_neg hlt]⟩
end Go.Proofs.Ytpdjehnlejjfmaa.D
/- A log taken apart by the program. -/
namespace Go.Proofs.Ytpdjehnlejjfmaa.D
open Go.RowKit
set_option maxRecDepth 100000
set_option maxHeartbeats 4000000
set_option linter.unusedVariables false
set_option linter.unusedSimpArgs false

abbrev vBook : SV := .tup [(false, [.ep (.v 0) 120 0 0]), (false, [cB true])]
abbrev vNoBook : SV := .tup [(false, [.dv (.sc (.pointer none))]), (false, [cB false])]
def ReadPost (l : List OpV) (res : SV) (Lo : List Row) : Prop := (LogOk l ∧ res = vBook ∧ Lo = [.own 120 [bookD (bookOf l)]]) ∨ (¬ LogOk l ∧ res = vNoBook ∧ Lo = [])
theorem bookOf_own {l : List OpV} (h : ∀ o ∈ l, OpOk o) {a : Int} (ha : actOk a) : (bookOf l).of.getD a.toNat [] = own l a := by
 obtain ⟨a0, a1⟩ := ha
 rw [book_of (by omega) l h, show ((a.toNat : Nat) : Int) = a by omega]
theorem i_readBook (l : List OpV) (hw : ∀ o ∈ l, o.key.length ≤ 2 ^ 40 ∧ o.text.length ≤ 2 ^ 40) : CallM Try.prog id_impl_readBook [vL l] [] [] false (ReadPost l) := by
 refine F_impl_readBook ?_
 try (conv => whnf)
 repeat' (first
  | (refine Pick.mk ?_ ?_ ?_; rotate_left; (focus (exact List.length_map _)); conv => whnf)
  | (refine SeqJ.thru ?_; conv => whnf)
  | (refine br_dec (fun _ => ?_) (fun _ => ?_) <;> first | (exfalso; omega) | contradiction | conv => whnf)
  | (refine br_not ?_; conv => whnf)
  | (refine br_bne (fun _ => ?_) (fun _ => ?_) <;> first | (exfalso; omega) | contradiction | conv => whnf)
  | (refine br_beq (fun _ => ?_) (fun _ => ?_) <;> first | (exfalso; omega) | contradiction | conv => whnf))
 ·rename_i hlen
  refine Out.mk false [0, 1, 2, 3, 4] [] ?_
  try (conv => whnf)
  exact ⟨.inr ⟨fun h => by have := h.len; omega, rfl, rfl⟩⟩
 ·rename_i hlen
  refine LoopE.mk (fun i : Nat => mk [(0, vL l), (16, vL l), (17, vI .i64 l.length), (18, vI .i64 i), (4, .one (.ep (.v 16400) 120 0 0))] [(16400, .own 120 [bookD (bookOf (l.take i))])])
   (fun i => i ≤ l.length ∧ Good1 l i ∧ SameTh thI (l.take i)) (fun i => l.length - i) 0 ⟨by omega, Good1.zero l, fun a ha => by simp at ha⟩ (LeX.of ?_) ?_
  ·try (conv => whnf)
   repeat (refine Need.mk ?_ ?_; (focus (first | omega | (simp; done) | rfl)); conv => whnf)
   trivial
  ·rintro i ⟨hi, hg, hs⟩
   try (conv => whnf)
   repeat' (first
    | (refine Pick.mk ?_ ?_ ?_; rotate_left; (focus (first | exact List.length_map _ | (refine pick_nat _ _ _ ?_; omega))); conv => whnf)
    | (refine SeqJ.thru ?_; conv => whnf)
    | (refine br_dec (fun _ => ?_) (fun _ => ?_) <;> first | (exfalso; omega) | contradiction | conv => whnf)
    | (refine br_not ?_; conv => whnf)
    | (refine br_bne (fun _ => ?_) (fun _ => ?_) <;> first | (exfalso; omega) | contradiction | conv => whnf)
    | (refine br_beq (fun _ => ?_) (fun _ => ?_) <;> first | (exfalso; omega) | contradiction | conv => whnf))
   ·have hlt : i < l.length := by omega
    obtain ⟨hk, ht⟩ := hw _ (List.getElem_mem hlt)
    by_cases hok : OpOk l[i]
    ·obtain ⟨a0, a1⟩ := hok.st.2
     have hob := hok.obj
     have e1 := bookOf_own hg.ok ⟨a0, a1⟩
     have e2 : ((bookOf (l.take i)).of.getD l[i].actor.toNat []).length ≤ 1024 := by
      rw [e1]; exact Nat.le_trans (own_le _ _) (by simp; omega)
     have wf := bookOf_wf (l.take i)
     have ep : ((i : Int) - 1).toNat = i - 1 := by omega
     refine Hand.mk [] ?_
     try (conv => whnf)
     refine CallW.d (i_opOK l[i] hk ht) ?_
     try (conv => whnf)
     try (conv => whnf)
     repeat' (first
      | (refine Need.mk ?_ ?_; (focus (first | omega | ((conv => whnf); (repeat (first | (refine Need.mk (by first | rfl | omega | (simp; done)) ?_; conv => whnf) | (refine Pick.mk ?_ ?_ ?_; rotate_left; (focus (first | with_reducible exact xor_u8 _ _ | (with_reducible refine xor_i64 ?_ ?_; all_goals omega) | (with_reducible refine xor_u32 ?_ ?_; all_goals omega) | (refine bk_top ?_; assumption) | (with_reducible refine bk_size ?_; assumption) | (with_reducible refine bk_kd ?_ ?_ <;> first | assumption | omega) | (with_reducible refine bk_of ?_ ?_ <;> first | assumption | omega) | assumption | with_reducible exact set_byN _ _ _ _ | with_reducible exact set_byI _ _ _ _ | with_reducible exact set_inN _ _ _ _ | with_reducible exact set_inI _ _ _ _ | with_reducible exact set_stN _ _ _ _ | with_reducible exact set_tsN _ _ _ _ | with_reducible exact set_tsI _ _ _ _ | with_reducible exact set_boN _ _ _ _ | with_reducible exact set_boI _ _ _ _ | (with_reducible refine get_mapN _ _ _ ?_; first | omega | (simp; omega)) | (with_reducible refine get_mapI _ _ _ ?_ ?_ <;> first | omega | (simp; omega)) | exact bs_beq _ _ | exact bs_less _ _ | exact bs_leq _ _ | with_reducible exact bs_app _ _ | (refine bs_get _ _ ?_; omega) | (refine bs_int _ _ ?_ ?_ <;> omega) | with_reducible exact sl_map0 _ _ _ | with_reducible exact sl_mapN _ _ _ | with_reducible exact sl_map _ _ _ _ | exact bs_extract0 _ _ | exact bs_extractN _ _ | exact bs_extract _ _ _ | (refine bnd_id ?_; omega) | (refine bnd_sub ?_ ?_ <;> omega) | (refine bnd_add ?_; omega) | (refine bnd_subN ?_ ?_ <;> omega) | (refine bnd_int ?_ ?_ <;> omega) | ((show @Eq Nat (_ + Int.toNat _ * _) _); simp only [Int.toNat_natCast, Nat.zero_add, Nat.mul_one]; rfl) | ((show @Eq (List _) (List.set [_] _ _) _); simp only [List.set_cons_zero]; rfl) | exact List.length_map _ | exact size_bs _ | (simp only [List.length_map, List.length_append, List.length_cons, List.length_nil, List.length_replicate, Nat.zero_add]; rfl) | with_reducible exact List.nil_append _ | with_reducible exact map_app _ _ _ | exact map_snoc byD _ _ | exact map_snoc inD _ _ | exact map_snoc stD _ _ | exact map_snoc tsD _ _ | (simp only [chunks]; rfl) | (refine wid ?_ ?_ <;> omega) | exact wby _ | with_reducible exact wby32 _ | with_reducible exact wu32 _ | exact wby64 _ | exact shr8 _ | exact shr16 _ | exact shr24 _ | exact shr32 _ | (refine tmodn ?_; omega) | (refine wdiv ?_ ?_ ?_ <;> omega) | exact wbyte _ | exact natlit _ | exact rep_by _ | exact rep_in _ | exact rep_bo _ | exact rep_st _ | (refine pick_nat _ _ _ ?_; omega) | (refine pick_int _ _ _ ?_ ?_ <;> omega) | (refine SlOf.full ?_; first | (simp; done) | (simp; omega)) | (with_reducible refine SlOf.pre _ _ ?_; first | omega | (simp; omega)) | (refine SlF.self _ _ ?_ ?_; (first | rfl | omega | (simp; done) | (simp; omega)); (exact fun _ => rfl)) | (refine SlF.pre _ _ ?_ ?_; (first | omega | (simp; omega)); (exact fun _ => rfl)) | (refine SlF.same ?_ ?_; (first | rfl | omega | (simp; done) | (simp; omega)); (first | exact fz_self _ _ (fun _ => rfl) | exact fz_pl rfl | (refine Fz.append ?_ ?_ <;> first | exact fz_self _ _ (fun _ => rfl) | exact fz_pl rfl) | (refine Fz.append (Fz.append ?_ ?_) ?_ <;> first | exact fz_self _ _ (fun _ => rfl) | exact fz_pl rfl))) | (simp only [Int.toNat_natCast, Nat.zero_add, Nat.mul_one]; rfl) | ((show @Eq (Option CV) _ _); rfl) | ((fail_if_success (show @Eq (Option _) _ _)); rfl) | ((show @Eq (Option _) _ _); simp only [List.getElem?_cons_zero, List.getElem?_cons_succ]; done) | ((show @Eq (Option _) _ _); simp only [List.getElem?_cons_zero, List.getElem?_cons_succ]; rfl) | with_reducible rfl)); conv => whnf))); exact Done.mk trivial))); conv => whnf)
      | (refine Pick.mk ?_ ?_ ?_; rotate_left; (focus (first | (with_reducible refine bk_kd ?_ ?_ <;> first | assumption | omega) | (with_reducible refine bk_of ?_ ?_ <;> first | assumption | omega) | ((show @Eq Nat (_ + Int.toNat _ * _) _); simp only [Int.toNat_natCast, Nat.zero_add, Nat.mul_one]; rfl) | (refine wid ?_ ?_ <;> omega) | (refine pick_int _ _ _ ?_ ?_ <;> omega) | ((show @Eq (Option _) _ _); simp only [List.getElem?_cons_zero, List.getElem?_cons_succ]; rfl))); conv => whnf)
      | (refine SeqJ.thru ?_; conv => whnf)
      | (refine br_dec (fun _ => ?_) (fun _ => ?_) <;> first | (exfalso; omega) | contradiction | conv => whnf)
      | (refine br_not ?_; conv => whnf)
      | (refine br_bne (fun _ => ?_) (fun _ => ?_) <;> first | (exfalso; omega) | contradiction | conv => whnf)
      | (refine br_beq (fun _ => ?_) (fun _ => ?_) <;> first | (exfalso; omega) | contradiction | conv => whnf))
     ·refine Out.mk false [0, 1, 2, 3, 4] [] ?_
      try (conv => whnf)
      exact ⟨.inr ⟨fun h => by have := (h.good.at hlt).2.1 (by omega); simp only [ep] at *; omega, rfl, rfl⟩⟩
     ·have hsame : ∀ a ∈ l.take i, a.obj = l[i].obj → thI a.kind = thI l[i].kind := (kd_iff (fun k => thI_ne) hg.ok hs hok).1 (by rw [← book_kd]; first | exact .inl (by assumption) | exact .inr (by omega))
      refine Hand.mk [] ?_
      try (conv => whnf)
      refine CallW.k (i_put (bookOf (l.take i)) wf l[i] ⟨a0, a1⟩ hob (by omega) (by rw [book_size]; simp; omega)) ?_
      try (conv => whnf)
      repeat (refine Pick.mk ?_ ?_ ?_; rotate_left; (focus ((refine wid ?_ ?_ <;> omega))); conv => whnf)
      refine Pick.mk (i + 1) ⟨⟨by omega, Good1.step hlt hg hok (fun _ => by simp only [ep] at *; omega) (by rw [← e1]; omega), by rw [List.take_succ_eq_append_getElem hlt]; exact hs.snoc hsame⟩, by omega⟩ (LeX.of ?_)
      try (conv => whnf)
      repeat (refine Need.mk ?_ ?_; (focus (first | omega | (simp; done) | rfl)); conv => whnf)
      refine Need.mk (by rw [bookOf_take hlt]) ?_
      try (conv => whnf)
      trivial
     ·refine Hand.mk [] ?_
      try (conv => whnf)
      refine CallW.d (i_thing l[i]) ?_
      try (conv => whnf)
      repeat (refine Need.mk ?_ ?_; (focus (((conv => whnf); (repeat (first | (refine Need.mk (by first | rfl | omega | (simp; done)) ?_; conv => whnf) | (refine Pick.mk ?_ ?_ ?_; rotate_left; (focus (first | with_reducible exact xor_u8 _ _ | (with_reducible refine xor_i64 ?_ ?_; all_goals omega) | (with_reducible refine xor_u32 ?_ ?_; all_goals omega) | (refine bk_top ?_; assumption) | (with_reducible refine bk_size ?_; assumption) | (with_reducible refine bk_kd ?_ ?_ <;> first | assumption | omega) | (with_reducible refine bk_of ?_ ?_ <;> first | assumption | omega) | assumption | with_reducible exact set_byN _ _ _ _ | with_reducible exact set_byI _ _ _ _ | with_reducible exact set_inN _ _ _ _ | with_reducible exact set_inI _ _ _ _ | with_reducible exact set_stN _ _ _ _ | with_reducible exact set_tsN _ _ _ _ | with_reducible exact set_tsI _ _ _ _ | with_reducible exact set_boN _ _ _ _ | with_reducible exact set_boI _ _ _ _ | (with_reducible refine get_mapN _ _ _ ?_; first | omega | (simp; omega)) | (with_reducible refine get_mapI _ _ _ ?_ ?_ <;> first | omega | (simp; omega)) | exact bs_beq _ _ | exact bs_less _ _ | exact bs_leq _ _ | with_reducible exact bs_app _ _ | (refine bs_get _ _ ?_; omega) | (refine bs_int _ _ ?_ ?_ <;> omega) | with_reducible exact sl_map0 _ _ _ | with_reducible exact sl_mapN _ _ _ | with_reducible exact sl_map _ _ _ _ | exact bs_extract0 _ _ | exact bs_extractN _ _ | exact bs_extract _ _ _ | (refine bnd_id ?_; omega) | (refine bnd_sub ?_ ?_ <;> omega) | (refine bnd_add ?_; omega) | (refine bnd_subN ?_ ?_ <;> omega) | (refine bnd_int ?_ ?_ <;> omega) | ((show @Eq Nat (_ + Int.toNat _ * _) _); simp only [Int.toNat_natCast, Nat.zero_add, Nat.mul_one]; rfl) | ((show @Eq (List _) (List.set [_] _ _) _); simp only [List.set_cons_zero]; rfl) | exact List.length_map _ | exact size_bs _ | (simp only [List.length_map, List.length_append, List.length_cons, List.length_nil, List.length_replicate, Nat.zero_add]; rfl) | with_reducible exact List.nil_append _ | with_reducible exact map_app _ _ _ | exact map_snoc byD _ _ | exact map_snoc inD _ _ | exact map_snoc stD _ _ | exact map_snoc tsD _ _ | (simp only [chunks]; rfl) | (refine wid ?_ ?_ <;> omega) | exact wby _ | with_reducible exact wby32 _ | with_reducible exact wu32 _ | exact wby64 _ | exact shr8 _ | exact shr16 _ | exact shr24 _ | exact shr32 _ | (refine tmodn ?_; omega) | (refine wdiv ?_ ?_ ?_ <;> omega) | exact wbyte _ | exact natlit _ | exact rep_by _ | exact rep_in _ | exact rep_bo _ | exact rep_st _ | (refine pick_nat _ _ _ ?_; omega) | (refine pick_int _ _ _ ?_ ?_ <;> omega) | (refine SlOf.full ?_; first | (simp; done) | (simp; omega)) | (with_reducible refine SlOf.pre _ _ ?_; first | omega | (simp; omega)) | (refine SlF.self _ _ ?_ ?_; (first | rfl | omega | (simp; done) | (simp; omega)); (exact fun _ => rfl)) | (refine SlF.pre _ _ ?_ ?_; (first | omega | (simp; omega)); (exact fun _ => rfl)) | (refine SlF.same ?_ ?_; (first | rfl | omega | (simp; done) | (simp; omega)); (first | exact fz_self _ _ (fun _ => rfl) | exact fz_pl rfl | (refine Fz.append ?_ ?_ <;> first | exact fz_self _ _ (fun _ => rfl) | exact fz_pl rfl) | (refine Fz.append (Fz.append ?_ ?_) ?_ <;> first | exact fz_self _ _ (fun _ => rfl) | exact fz_pl rfl))) | (simp only [Int.toNat_natCast, Nat.zero_add, Nat.mul_one]; rfl) | ((show @Eq (Option CV) _ _); rfl) | ((fail_if_success (show @Eq (Option _) _ _)); rfl) | ((show @Eq (Option _) _ _); simp only [List.getElem?_cons_zero, List.getElem?_cons_succ]; done) | ((show @Eq (Option _) _ _); simp only [List.getElem?_cons_zero, List.getElem?_cons_succ]; rfl) | with_reducible rfl)); conv => whnf))); exact Done.mk trivial))); conv => whnf)
      try (conv => whnf)
      repeat' (first
       | (refine br_dec (fun _ => ?_) (fun _ => ?_) <;> first | (exfalso; omega) | contradiction | conv => whnf)
       | (refine br_not ?_; conv => whnf)
       | (refine br_bne (fun _ => ?_) (fun _ => ?_) <;> first | (exfalso; omega) | contradiction | conv => whnf)
       | (refine br_beq (fun _ => ?_) (fun _ => ?_) <;> first | (exfalso; omega) | contradiction | conv => whnf))
      rotate_left
      ·refine Out.mk false [0, 1, 2, 3, 4] [] ?_
       try (conv => whnf)
       exact ⟨.inr ⟨fun h => by
        have := (kd_iff (fun k => thI_ne) hg.ok hs hok).2 (SameTh.of_snoc (h.same.sub (m := l.take i ++ [l[i]]) (fun o ho => by rw [← List.take_succ_eq_append_getElem hlt] at ho; exact List.mem_of_mem_take ho)))
        rw [← book_kd] at this; omega, rfl, rfl⟩⟩
      ·have hsame : ∀ a ∈ l.take i, a.obj = l[i].obj → thI a.kind = thI l[i].kind := (kd_iff (fun k => thI_ne) hg.ok hs hok).1 (by rw [← book_kd]; first | exact .inl (by assumption) | exact .inr (by omega))
       refine Hand.mk [] ?_
       try (conv => whnf)
       refine CallW.k (i_put (bookOf (l.take i)) wf l[i] ⟨a0, a1⟩ hob (by omega) (by rw [book_size]; simp; omega)) ?_
       try (conv => whnf)
       repeat (refine Pick.mk ?_ ?_ ?_; rotate_left; (focus ((refine wid ?_ ?_ <;> omega))); conv => whnf)
       refine Pick.mk (i + 1) ⟨⟨by omega, Good1.step hlt hg hok (fun _ => by simp only [ep] at *; omega) (by rw [← e1]; omega), by rw [List.take_succ_eq_append_getElem hlt]; exact hs.snoc hsame⟩, by omega⟩ (LeX.of ?_)
       try (conv => whnf)
       repeat (refine Need.mk ?_ ?_; (focus (first | omega | (simp; done) | rfl)); conv => whnf)
       refine Need.mk (by rw [bookOf_take hlt]) ?_
       try (conv => whnf)
       trivial
     ·refine Out.mk false [0, 1, 2, 3, 4] [] ?_
      try (conv => whnf)
      exact ⟨.inr ⟨fun h => by have := (h.good.at hlt).2.2; rw [← e1] at this; omega, rfl, rfl⟩⟩
     ·have hsame : ∀ a ∈ l.take i, a.obj = l[i].obj → thI a.kind = thI l[i].kind := (kd_iff (fun k => thI_ne) hg.ok hs hok).1 (by rw [← book_kd]; first | exact .inl (by assumption) | exact .inr (by omega))
      refine Hand.mk [] ?_
      try (conv => whnf)
      refine CallW.k (i_put (bookOf (l.take i)) wf l[i] ⟨a0, a1⟩ hob (by omega) (by rw [book_size]; simp; omega)) ?_
      try (conv => whnf)
      repeat (refine Pick.mk ?_ ?_ ?_; rotate_left; (focus ((refine wid ?_ ?_ <;> omega))); conv => whnf)
      refine Pick.mk (i + 1) ⟨⟨by omega, Good1.step hlt hg hok (fun _ => by simp only [ep] at *; omega) (by rw [← e1]; omega), by rw [List.take_succ_eq_append_getElem hlt]; exact hs.snoc hsame⟩, by omega⟩ (LeX.of ?_)
      try (conv => whnf)
      repeat (refine Need.mk ?_ ?_; (focus (first | omega | (simp; done) | rfl)); conv => whnf)
      refine Need.mk (by rw [bookOf_take hlt]) ?_
      try (conv => whnf)
      trivial
     ·refine Hand.mk [] ?_
      try (conv => whnf)
      refine CallW.d (i_thing l[i]) ?_
      try (conv => whnf)
      repeat (refine Need.mk ?_ ?_; (focus (((conv => whnf); (repeat (first | (refine Need.mk (by first | rfl | omega | (simp; done)) ?_; conv => whnf) | (refine Pick.mk ?_ ?_ ?_; rotate_left; (focus (first | with_reducible exact xor_u8 _ _ | (with_reducible refine xor_i64 ?_ ?_; all_goals omega) | (with_reducible refine xor_u32 ?_ ?_; all_goals omega) | (refine bk_top ?_; assumption) | (with_reducible refine bk_size ?_; assumption) | (with_reducible refine bk_kd ?_ ?_ <;> first | assumption | omega) | (with_reducible refine bk_of ?_ ?_ <;> first | assumption | omega) | assumption | with_reducible exact set_byN _ _ _ _ | with_reducible exact set_byI _ _ _ _ | with_reducible exact set_inN _ _ _ _ | with_reducible exact set_inI _ _ _ _ | with_reducible exact set_stN _ _ _ _ | with_reducible exact set_tsN _ _ _ _ | with_reducible exact set_tsI _ _ _ _ | with_reducible exact set_boN _ _ _ _ | with_reducible exact set_boI _ _ _ _ | (with_reducible refine get_mapN _ _ _ ?_; first | omega | (simp; omega)) | (with_reducible refine get_mapI _ _ _ ?_ ?_ <;> first | omega | (simp; omega)) | exact bs_beq _ _ | exact bs_less _ _ | exact bs_leq _ _ | with_reducible exact bs_app _ _ | (refine bs_get _ _ ?_; omega) | (refine bs_int _ _ ?_ ?_ <;> omega) | with_reducible exact sl_map0 _ _ _ | with_reducible exact sl_mapN _ _ _ | with_reducible exact sl_map _ _ _ _ | exact bs_extract0 _ _ | exact bs_extractN _ _ | exact bs_extract _ _ _ | (refine bnd_id ?_; omega) | (refine bnd_sub ?_ ?_ <;> omega) | (refine bnd_add ?_; omega) | (refine bnd_subN ?_ ?_ <;> omega) | (refine bnd_int ?_ ?_ <;> omega) | ((show @Eq Nat (_ + Int.toNat _ * _) _); simp only [Int.toNat_natCast, Nat.zero_add, Nat.mul_one]; rfl) | ((show @Eq (List _) (List.set [_] _ _) _); simp only [List.set_cons_zero]; rfl) | exact List.length_map _ | exact size_bs _ | (simp only [List.length_map, List.length_append, List.length_cons, List.length_nil, List.length_replicate, Nat.zero_add]; rfl) | with_reducible exact List.nil_append _ | with_reducible exact map_app _ _ _ | exact map_snoc byD _ _ | exact map_snoc inD _ _ | exact map_snoc stD _ _ | exact map_snoc tsD _ _ | (simp only [chunks]; rfl) | (refine wid ?_ ?_ <;> omega) | exact wby _ | with_reducible exact wby32 _ | with_reducible exact wu32 _ | exact wby64 _ | exact shr8 _ | exact shr16 _ | exact shr24 _ | exact shr32 _ | (refine tmodn ?_; omega) | (refine wdiv ?_ ?_ ?_ <;> omega) | exact wbyte _ | exact natlit _ | exact rep_by _ | exact rep_in _ | exact rep_bo _ | exact rep_st _ | (refine pick_nat _ _ _ ?_; omega) | (refine pick_int _ _ _ ?_ ?_ <;> omega) | (refine SlOf.full ?_; first | (simp; done) | (simp; omega)) | (with_reducible refine SlOf.pre _ _ ?_; first | omega | (simp; omega)) | (refine SlF.self _ _ ?_ ?_; (first | rfl | omega | (simp; done) | (simp; omega)); (exact fun _ => rfl)) | (refine SlF.pre _ _ ?_ ?_; (first | omega | (simp; omega)); (exact fun _ => rfl)) | (refine SlF.same ?_ ?_; (first | rfl | omega | (simp; done) | (simp; omega)); (first | exact fz_self _ _ (fun _ => rfl) | exact fz_pl rfl | (refine Fz.append ?_ ?_ <;> first | exact fz_self _ _ (fun _ => rfl) | exact fz_pl rfl) | (refine Fz.append (Fz.append ?_ ?_) ?_ <;> first | exact fz_self _ _ (fun _ => rfl) | exact fz_pl rfl))) | (simp only [Int.toNat_natCast, Nat.zero_add, Nat.mul_one]; rfl) | ((show @Eq (Option CV) _ _); rfl) | ((fail_if_success (show @Eq (Option _) _ _)); rfl) | ((show @Eq (Option _) _ _); simp only [List.getElem?_cons_zero, List.getElem?_cons_succ]; done) | ((show @Eq (Option _) _ _); simp only [List.getElem?_cons_zero, List.getElem?_cons_succ]; rfl) | with_reducible rfl)); conv => whnf))); exact Done.mk trivial))); conv => whnf)
      try (conv => whnf)
      repeat' (first
       | (refine br_dec (fun _ => ?_) (fun _ => ?_) <;> first | (exfalso; omega) | contradiction | conv => whnf)
       | (refine br_not ?_; conv => whnf)
       | (refine br_bne (fun _ => ?_) (fun _ => ?_) <;> first | (exfalso; omega) | contradiction | conv => whnf)
       | (refine br_beq (fun _ => ?_) (fun _ => ?_) <;> first | (exfalso; omega) | contradiction | conv => whnf))
      rotate_left
      ·refine Out.mk false [0, 1, 2, 3, 4] [] ?_
       try (conv => whnf)
       exact ⟨.inr ⟨fun h => by
        have := (kd_iff (fun k => thI_ne) hg.ok hs hok).2 (SameTh.of_snoc (h.same.sub (m := l.take i ++ [l[i]]) (fun o ho => by rw [← List.take_succ_eq_append_getElem hlt] at ho; exact List.mem_of_mem_take ho)))
        rw [← book_kd] at this; omega, rfl, rfl⟩⟩
      ·have hsame : ∀ a ∈ l.take i, a.obj = l[i].obj → thI a.kind = thI l[i].kind := (kd_iff (fun k => thI_ne) hg.ok hs hok).1 (by rw [← book_kd]; first | exact .inl (by assumption) | exact .inr (by omega))
       refine Hand.mk [] ?_
       try (conv => whnf)
       refine CallW.k (i_put (bookOf (l.take i)) wf l[i] ⟨a0, a1⟩ hob (by omega) (by rw [book_size]; simp; omega)) ?_
       try (conv => whnf)
       repeat (refine Pick.mk ?_ ?_ ?_; rotate_left; (focus ((refine wid ?_ ?_ <;> omega))); conv => whnf)
       refine Pick.mk (i + 1) ⟨⟨by omega, Good1.step hlt hg hok (fun _ => by simp only [ep] at *; omega) (by rw [← e1]; omega), by rw [List.take_succ_eq_append_getElem hlt]; exact hs.snoc hsame⟩, by omega⟩ (LeX.of ?_)
       try (conv => whnf)
       repeat (refine Need.mk ?_ ?_; (focus (first | omega | (simp; done) | rfl)); conv => whnf)
       refine Need.mk (by rw [bookOf_take hlt]) ?_
       try (conv => whnf)
       trivial
     ·refine Out.mk false [0, 1, 2, 3, 4] [] ?_
      try (conv => whnf)
      exact ⟨.inr ⟨fun h => by have := (h.good.at hlt).2.2; rw [← e1] at this; omega, rfl, rfl⟩⟩
    ·refine Hand.mk [] ?_
     try (conv => whnf)
     refine CallW.d (i_opOK l[i] hk ht) ?_
     try (conv => whnf)
     try (conv => whnf)
     repeat' (first
      | (refine br_dec (fun _ => ?_) (fun _ => ?_) <;> first | (exfalso; omega) | contradiction | conv => whnf)
      | (refine br_not ?_; conv => whnf)
      | (refine br_bne (fun _ => ?_) (fun _ => ?_) <;> first | (exfalso; omega) | contradiction | conv => whnf)
      | (refine br_beq (fun _ => ?_) (fun _ => ?_) <;> first | (exfalso; omega) | contradiction | conv => whnf))
     refine Out.mk false [0, 1, 2, 3, 4] [] ?_
     try (conv => whnf)
     exact ⟨.inr ⟨fun h => hok (h.good.at hlt).1, rfl, rfl⟩⟩
   ·have e : l.take i = l := List.take_of_length_le (by omega)
    have hgl : Good1 l l.length := by
     have e9 : i = l.length := by omega
     rwa [e9] at hg
    have hsl : SameTh thI l := by rwa [e] at hs
    have wf := bookOf_wf l
    refine LoopE.mk (fun i : Nat => mk [(0, vL l), (79, vL l), (80, vI .i64 l.length), (81, vI .i64 i), (4, .one (.ep (.v 16400) 120 0 0))] [(16400, .own 120 [bookD (bookOf l)])])
     (fun i => i ≤ l.length ∧ ∀ o ∈ l.take i, Cause l o) (fun i => l.length - i) 0 ⟨by omega, by simp⟩ (LeX.of ?_) ?_
    ·try (conv => whnf)
     repeat (refine Need.mk ?_ ?_; (focus (first | omega | (simp; done))); conv => whnf)
     refine Need.mk (by rw [e]) ?_
     try (conv => whnf)
     trivial
    ·rintro i ⟨hi, hc⟩
     try (conv => whnf)
     repeat' (first
      | (refine Pick.mk ?_ ?_ ?_; rotate_left; (focus (first | exact List.length_map _ | (refine pick_nat _ _ _ ?_; omega))); conv => whnf)
      | (refine SeqJ.thru ?_; conv => whnf)
      | (refine br_dec (fun _ => ?_) (fun _ => ?_) <;> first | (exfalso; omega) | contradiction | conv => whnf)
      | (refine br_not ?_; conv => whnf)
      | (refine br_bne (fun _ => ?_) (fun _ => ?_) <;> first | (exfalso; omega) | contradiction | conv => whnf)
      | (refine br_beq (fun _ => ?_) (fun _ => ?_) <;> first | (exfalso; omega) | contradiction | conv => whnf))
     ·have hlt : i < l.length := by omega
      have hok := (hgl.at hlt).1
      have hvl := hok.vec.1
      refine LoopE.mk (fun j : Nat => mk [(0, vL l), (87, vN l[i].deps), (88, vI .i64 l[i].deps.length), (89, vI .i64 j), (8, .one (.ptr 65568 0)), (79, vL l), (80, vI .i64 l.length), (81, vI .i64 i), (4, .one (.ep (.v 16400) 120 0 0))] [(16400, .own 120 [bookD (bookOf l)]), (65568, .box (opC l[i]))])
       (fun j => j ≤ l[i].deps.length ∧ ∀ a : Nat, a < j → CauseAt l l[i] a) (fun j => l[i].deps.length - j) 0 ⟨by omega, fun a h => by omega⟩ (LeX.of ?_) ?_
      ·try (conv => whnf)
       repeat (refine Need.mk ?_ ?_; (focus (first | omega | (simp; done))); conv => whnf)
       trivial
      ·rintro j ⟨hj, hca⟩
       by_cases hjl : j < l[i].deps.length
       ·have e1 := book_of (a := j) (by omega) l hgl.all
        have e3 : l[i].deps.getD j 0 = l[i].deps[j] := by simp [List.getD, hjl]
        obtain ⟨c0, c1⟩ := hok.vec.2 _ (List.getElem_mem hjl)
        have step : CauseAt l l[i] j → ∀ a : Nat, a < j + 1 → CauseAt l l[i] a := fun h a ha => by
         rcases Nat.lt_or_ge a j with g | g
         ·exact hca a g
         ·obtain rfl : a = j := by omega
          exact h
        try (conv => whnf)
        repeat' (first
         | (refine Need.mk ?_ ?_; (focus (first | omega | ((conv => whnf); (repeat (first | (refine Need.mk (by first | rfl | omega | (simp; done)) ?_; conv => whnf) | (refine Pick.mk ?_ ?_ ?_; rotate_left; (focus (first | with_reducible exact xor_u8 _ _ | (with_reducible refine xor_i64 ?_ ?_; all_goals omega) | (with_reducible refine xor_u32 ?_ ?_; all_goals omega) | (refine bk_top ?_; assumption) | (with_reducible refine bk_size ?_; assumption) | (with_reducible refine bk_kd ?_ ?_ <;> first | assumption | omega) | (with_reducible refine bk_of ?_ ?_ <;> first | assumption | omega) | assumption | with_reducible exact set_byN _ _ _ _ | with_reducible exact set_byI _ _ _ _ | with_reducible exact set_inN _ _ _ _ | with_reducible exact set_inI _ _ _ _ | with_reducible exact set_stN _ _ _ _ | with_reducible exact set_tsN _ _ _ _ | with_reducible exact set_tsI _ _ _ _ | with_reducible exact set_boN _ _ _ _ | with_reducible exact set_boI _ _ _ _ | (with_reducible refine get_mapN _ _ _ ?_; first | omega | (simp; omega)) | (with_reducible refine get_mapI _ _ _ ?_ ?_ <;> first | omega | (simp; omega)) | exact bs_beq _ _ | exact bs_less _ _ | exact bs_leq _ _ | with_reducible exact bs_app _ _ | (refine bs_get _ _ ?_; omega) | (refine bs_int _ _ ?_ ?_ <;> omega) | with_reducible exact sl_map0 _ _ _ | with_reducible exact sl_mapN _ _ _ | with_reducible exact sl_map _ _ _ _ | exact bs_extract0 _ _ | exact bs_extractN _ _ | exact bs_extract _ _ _ | (refine bnd_id ?_; omega) | (refine bnd_sub ?_ ?_ <;> omega) | (refine bnd_add ?_; omega) | (refine bnd_subN ?_ ?_ <;> omega) | (refine bnd_int ?_ ?_ <;> omega) | ((show @Eq Nat (_ + Int.toNat _ * _) _); simp only [Int.toNat_natCast, Nat.zero_add, Nat.mul_one]; rfl) | ((show @Eq (List _) (List.set [_] _ _) _); simp only [List.set_cons_zero]; rfl) | exact List.length_map _ | exact size_bs _ | (simp only [List.length_map, List.length_append, List.length_cons, List.length_nil, List.length_replicate, Nat.zero_add]; rfl) | with_reducible exact List.nil_append _ | with_reducible exact map_app _ _ _ | exact map_snoc byD _ _ | exact map_snoc inD _ _ | exact map_snoc stD _ _ | exact map_snoc tsD _ _ | (simp only [chunks]; rfl) | (refine wid ?_ ?_ <;> omega) | exact wby _ | with_reducible exact wby32 _ | with_reducible exact wu32 _ | exact wby64 _ | exact shr8 _ | exact shr16 _ | exact shr24 _ | exact shr32 _ | (refine tmodn ?_; omega) | (refine wdiv ?_ ?_ ?_ <;> omega) | exact wbyte _ | exact natlit _ | exact rep_by _ | exact rep_in _ | exact rep_bo _ | exact rep_st _ | (refine pick_nat _ _ _ ?_; omega) | (refine pick_int _ _ _ ?_ ?_ <;> omega) | (refine SlOf.full ?_; first | (simp; done) | (simp; omega)) | (with_reducible refine SlOf.pre _ _ ?_; first | omega | (simp; omega)) | (refine SlF.self _ _ ?_ ?_; (first | rfl | omega | (simp; done) | (simp; omega)); (exact fun _ => rfl)) | (refine SlF.pre _ _ ?_ ?_; (first | omega | (simp; omega)); (exact fun _ => rfl)) | (refine SlF.same ?_ ?_; (first | rfl | omega | (simp; done) | (simp; omega)); (first | exact fz_self _ _ (fun _ => rfl) | exact fz_pl rfl | (refine Fz.append ?_ ?_ <;> first | exact fz_self _ _ (fun _ => rfl) | exact fz_pl rfl) | (refine Fz.append (Fz.append ?_ ?_) ?_ <;> first | exact fz_self _ _ (fun _ => rfl) | exact fz_pl rfl))) | (simp only [Int.toNat_natCast, Nat.zero_add, Nat.mul_one]; rfl) | ((show @Eq (Option CV) _ _); rfl) | ((fail_if_success (show @Eq (Option _) _ _)); rfl) | ((show @Eq (Option _) _ _); simp only [List.getElem?_cons_zero, List.getElem?_cons_succ]; done) | ((show @Eq (Option _) _ _); simp only [List.getElem?_cons_zero, List.getElem?_cons_succ]; rfl) | with_reducible rfl)); conv => whnf))); exact Done.mk trivial))); conv => whnf)
         | (refine Pick.mk ?_ ?_ ?_; rotate_left; (focus (first | (with_reducible refine bk_of ?_ ?_ <;> first | assumption | omega) | (with_reducible refine get_mapI _ _ _ ?_ ?_ <;> first | omega | (simp; omega)) | ((show @Eq Nat (_ + Int.toNat _ * _) _); simp only [Int.toNat_natCast, Nat.zero_add, Nat.mul_one]; rfl) | (refine wid ?_ ?_ <;> omega) | (refine pick_nat _ _ _ ?_; omega) | ((show @Eq (Option _) _ _); simp only [List.getElem?_cons_zero, List.getElem?_cons_succ]; rfl))); conv => whnf)
         | (refine SeqJ.thru ?_; conv => whnf)
         | (refine br_dec (fun _ => ?_) (fun _ => ?_) <;> first | (exfalso; omega) | contradiction | conv => whnf)
         | (refine br_not ?_; conv => whnf)
         | (refine br_bne (fun _ => ?_) (fun _ => ?_) <;> first | (exfalso; omega) | contradiction | conv => whnf)
         | (refine br_beq (fun _ => ?_) (fun _ => ?_) <;> first | (exfalso; omega) | contradiction | conv => whnf))
        ·refine Out.mk false [0, 1, 2, 3, 4] [] ?_
         try (conv => whnf)
         exact ⟨.inr ⟨fun h => by have := (h.cause _ (List.getElem_mem hlt) j (by omega)).1; rw [e3, ← e1] at this; omega, rfl, rfl⟩⟩
        ·have e4 : (own l j)[(l[i].deps.getD j 0 - 1).toNat]? = some (((bookOf l).of.getD j [])[(l[i].deps[j] - 1).toNat]'(by omega)) := by rw [e3, ← e1]; exact List.getElem?_eq_getElem _
         refine Hand.mk [] ?_
         try (conv => whnf)
         refine CallW.d (i_stamp (((bookOf l).of.getD j [])[(l[i].deps[j] - 1).toNat]'(by omega))) ?_
         try (conv => whnf)
         repeat (refine Need.mk ?_ ?_; (focus (((conv => whnf); (repeat (first | (refine Need.mk (by first | rfl | omega | (simp; done)) ?_; conv => whnf) | (refine Pick.mk ?_ ?_ ?_; rotate_left; (focus (first | with_reducible exact xor_u8 _ _ | (with_reducible refine xor_i64 ?_ ?_; all_goals omega) | (with_reducible refine xor_u32 ?_ ?_; all_goals omega) | (refine bk_top ?_; assumption) | (with_reducible refine bk_size ?_; assumption) | (with_reducible refine bk_kd ?_ ?_ <;> first | assumption | omega) | (with_reducible refine bk_of ?_ ?_ <;> first | assumption | omega) | assumption | with_reducible exact set_byN _ _ _ _ | with_reducible exact set_byI _ _ _ _ | with_reducible exact set_inN _ _ _ _ | with_reducible exact set_inI _ _ _ _ | with_reducible exact set_stN _ _ _ _ | with_reducible exact set_tsN _ _ _ _ | with_reducible exact set_tsI _ _ _ _ | with_reducible exact set_boN _ _ _ _ | with_reducible exact set_boI _ _ _ _ | (with_reducible refine get_mapN _ _ _ ?_; first | omega | (simp; omega)) | (with_reducible refine get_mapI _ _ _ ?_ ?_ <;> first | omega | (simp; omega)) | exact bs_beq _ _ | exact bs_less _ _ | exact bs_leq _ _ | with_reducible exact bs_app _ _ | (refine bs_get _ _ ?_; omega) | (refine bs_int _ _ ?_ ?_ <;> omega) | with_reducible exact sl_map0 _ _ _ | with_reducible exact sl_mapN _ _ _ | with_reducible exact sl_map _ _ _ _ | exact bs_extract0 _ _ | exact bs_extractN _ _ | exact bs_extract _ _ _ | (refine bnd_id ?_; omega) | (refine bnd_sub ?_ ?_ <;> omega) | (refine bnd_add ?_; omega) | (refine bnd_subN ?_ ?_ <;> omega) | (refine bnd_int ?_ ?_ <;> omega) | ((show @Eq Nat (_ + Int.toNat _ * _) _); simp only [Int.toNat_natCast, Nat.zero_add, Nat.mul_one]; rfl) | ((show @Eq (List _) (List.set [_] _ _) _); simp only [List.set_cons_zero]; rfl) | exact List.length_map _ | exact size_bs _ | (simp only [List.length_map, List.length_append, List.length_cons, List.length_nil, List.length_replicate, Nat.zero_add]; rfl) | with_reducible exact List.nil_append _ | with_reducible exact map_app _ _ _ | exact map_snoc byD _ _ | exact map_snoc inD _ _ | exact map_snoc stD _ _ | exact map_snoc tsD _ _ | (simp only [chunks]; rfl) | (refine wid ?_ ?_ <;> omega) | exact wby _ | with_reducible exact wby32 _ | with_reducible exact wu32 _ | exact wby64 _ | exact shr8 _ | exact shr16 _ | exact shr24 _ | exact shr32 _ | (refine tmodn ?_; omega) | (refine wdiv ?_ ?_ ?_ <;> omega) | exact wbyte _ | exact natlit _ | exact rep_by _ | exact rep_in _ | exact rep_bo _ | exact rep_st _ | (refine pick_nat _ _ _ ?_; omega) | (refine pick_int _ _ _ ?_ ?_ <;> omega) | (refine SlOf.full ?_; first | (simp; done) | (simp; omega)) | (with_reducible refine SlOf.pre _ _ ?_; first | omega | (simp; omega)) | (refine SlF.self _ _ ?_ ?_; (first | rfl | omega | (simp; done) | (simp; omega)); (exact fun _ => rfl)) | (refine SlF.pre _ _ ?_ ?_; (first | omega | (simp; omega)); (exact fun _ => rfl)) | (refine SlF.same ?_ ?_; (first | rfl | omega | (simp; done) | (simp; omega)); (first | exact fz_self _ _ (fun _ => rfl) | exact fz_pl rfl | (refine Fz.append ?_ ?_ <;> first | exact fz_self _ _ (fun _ => rfl) | exact fz_pl rfl) | (refine Fz.append (Fz.append ?_ ?_) ?_ <;> first | exact fz_self _ _ (fun _ => rfl) | exact fz_pl rfl))) | (simp only [Int.toNat_natCast, Nat.zero_add, Nat.mul_one]; rfl) | ((show @Eq (Option CV) _ _); rfl) | ((fail_if_success (show @Eq (Option _) _ _)); rfl) | ((show @Eq (Option _) _ _); simp only [List.getElem?_cons_zero, List.getElem?_cons_succ]; done) | ((show @Eq (Option _) _ _); simp only [List.getElem?_cons_zero, List.getElem?_cons_succ]; rfl) | with_reducible rfl)); conv => whnf))); exact Done.mk trivial))); conv => whnf)
         refine Hand.mk [] ?_
         try (conv => whnf)
         refine CallW.d (i_stamp l[i]) ?_
         try (conv => whnf)
         refine Hand.mk [] ?_
         try (conv => whnf)
         refine CallW.d (i_StampLess _ _ l[i].time l[i].actor) ?_
         try (conv => whnf)
         try (conv => whnf)
         repeat' (first
          | (refine Pick.mk ?_ ?_ ?_; rotate_left; (focus ((refine wid ?_ ?_ <;> omega))); conv => whnf)
          | (refine br_dec (fun _ => ?_) (fun _ => ?_) <;> first | (exfalso; omega) | contradiction | conv => whnf)
          | (refine br_not ?_; conv => whnf)
          | (refine br_bne (fun _ => ?_) (fun _ => ?_) <;> first | (exfalso; omega) | contradiction | conv => whnf)
          | (refine br_beq (fun _ => ?_) (fun _ => ?_) <;> first | (exfalso; omega) | contradiction | conv => whnf))
         ·rename_i hst
          refine Pick.mk (j + 1) ⟨⟨by omega, step ⟨by rw [e3, ← e1]; omega, fun _ p hp => by rw [e4] at hp; injection hp with hp; subst hp; exact hst⟩⟩, by omega⟩ (LeX.of ?_)
          try (conv => whnf)
          repeat (refine Need.mk ?_ ?_; (focus (first | omega | (simp; done))); conv => whnf)
          trivial
         ·rename_i hst
          refine Out.mk false [0, 1, 2, 3, 4] [] ?_
          try (conv => whnf)
          exact ⟨.inr ⟨fun h => hst ((h.cause _ (List.getElem_mem hlt) j (by omega)).2 (by rw [e3]; omega) _ e4), rfl, rfl⟩⟩
        ·refine Pick.mk (j + 1) ⟨⟨by omega, step ⟨by rw [e3, ← e1]; omega, fun h => by rw [e3] at h; omega⟩⟩, by omega⟩ (LeX.of ?_)
         try (conv => whnf)
         repeat (refine Need.mk ?_ ?_; (focus (first | omega | (simp; done))); conv => whnf)
         trivial
       ·try (conv => whnf)
        repeat' (first
         | (refine Pick.mk ?_ ?_ ?_; rotate_left; (focus ((refine wid ?_ ?_ <;> omega))); conv => whnf)
         | (refine SeqJ.thru ?_; conv => whnf)
         | (refine br_dec (fun _ => ?_) (fun _ => ?_) <;> first | (exfalso; omega) | contradiction | conv => whnf)
         | (refine br_not ?_; conv => whnf)
         | (refine br_bne (fun _ => ?_) (fun _ => ?_) <;> first | (exfalso; omega) | contradiction | conv => whnf)
         | (refine br_beq (fun _ => ?_) (fun _ => ?_) <;> first | (exfalso; omega) | contradiction | conv => whnf))
        refine Pick.mk (i + 1) ⟨⟨by omega, all_next hlt hc fun a ha => hca a (by omega)⟩, by omega⟩ (LeX.of ?_)
        try (conv => whnf)
        repeat (refine Need.mk ?_ ?_; (focus (first | omega | (simp; done))); conv => whnf)
        trivial
     ·refine Out.mk false [0, 1, 2, 3, 4] [] ?_
      try (conv => whnf)
      exact ⟨.inl ⟨⟨by omega, hgl, hsl, by rwa [List.take_of_length_le (by omega)] at hc⟩, rfl, rfl⟩⟩
end Go.Proofs.Ytpdjehnlejjfmaa.D
/- What a log has that a vector lacks. -/
namespace Go.Proofs.Ytpdjehnlejjfmaa.D
open Go.RowKit
set_option maxRecDepth 100000
set_option maxHeartbeats 4000000
set_option linter.unusedVariables false
set_option linter.unusedSimpArgs false

def actsL (l : List OpV) (a : Nat) : List OpV := (List.range a).flatMap fun i : Nat => own l i
theorem actsL_succ (l : List OpV) (a : Nat) : actsL l (a + 1) = actsL l a ++ own l a := by simp [actsL, List.range_succ, List.flatMap_append]
theorem acts_all : ∀ (n : Nat) (l : List OpV), l.Pairwise (fun x y => x.actor ≤ y.actor) → (∀ o ∈ l, 0 ≤ o.actor ∧ o.actor < n) → actsL l n = l
 |0, l, _, h => by
  cases l with
  | nil => rfl
  | cons o l => have := h o (by simp); omega
 |n + 1, l, hs, h => by
  obtain ⟨p, q, e, hp, hq⟩ := split_own l n hs
  have hq0 : q = [] := by
   cases q with
   | nil => rfl
   | cons x q =>
    have h1 := hq x (by simp)
    have h2 := h x (by rw [e]; simp)
    omega
  subst hq0
  rw [List.append_nil] at e
  have hm : ∀ o ∈ own l n, o.actor = n := fun o ho => by simpa using (List.mem_filter.1 ho).2
  have hpl : ∀ o ∈ p, o ∈ l := fun o ho => by rw [e]; simp [ho]
  have ih := acts_all n p (by rw [e] at hs; exact (List.pairwise_append.1 hs).1) fun o ho => ⟨(h o (hpl o ho)).1, hp o ho⟩
  have hpre : ∀ k, k ≤ n → actsL l k = actsL p k := by
   intro k
   induction k with
   | zero => intro _; rfl
   | succ k ih2 =>
    intro hk
    rw [actsL_succ, actsL_succ, ih2 (by omega)]
    congr 1
    conv => lhs; rw [e, own_append]
    have : own (own l n) k = [] := by
     rw [own, List.filter_eq_nil_iff]
     intro o ho
     have := hm o ho
     simp; omega
    rw [this, List.append_nil]
  rw [actsL_succ, hpre n (Nat.le_refl _), ih]; exact e.symm
theorem LogOk.acts {l : List OpV} (h : LogOk l) : actsL l 16 = l := acts_all 16 l h.good.sorted fun o ho => (h.good.all o ho).st.2
theorem i_opCopy (o : OpV) (hl : o.deps.length ≤ 2 ^ 39) : CallD Try.prog id_impl_opCopy [vO o] [] (vOw o) [.own 1 (o.deps.map inD)] := by
 refine F_impl_opCopy ?_
 try (conv => whnf)
 refine Hand.mk [] ?_
 try (conv => whnf)
 refine CallW.d (i_vecCopy o.deps (by omega)) ?_
 try (conv => whnf)
 refine Out.mk false [0, 1, 2, 3, 4] [] ?_
 try (conv => whnf)
 repeat (refine Need.mk ?_ ?_; (focus ((first | exact flat_by _ | exact flat_in _ | exact flat_st _ | exact flat_ts _ | exact flat_bo _ | exact flat_cl rfl))); conv => whnf)
 exact ⟨rfl, rfl⟩
theorem over_pick {α : Type} (f : α → List DV) (m : List α) (n i : Nat) (z : α) (h : m.length = n) (hi : i < n) : ((over m (List.replicate n z) i).map f)[addN 0 (i : Int).toNat]? = some (f z) := by
 rw [addN_eq, List.getElem?_map, show 0 + (i : Int).toNat = i by omega, over_get (by simpa using h) (by simpa using hi), List.getElem_replicate]; rfl
theorem i_vector (l : List OpV) (h : LogOk l) : CallN Try.prog id_impl_book_vector [.one (.ep (.v 0) 120 0 0)] [.own 120 [bookD (bookOf l)]] [] (.agg [.os (.v 1) 1 0 16]) [.own 120 [bookD (bookOf l)], .own 1 ((cnts l).map inD)] := by
 refine F_impl_book_vector ?_
 have wf := bookOf_wf l
 try (conv => whnf)
 repeat (first
  | (refine Need.mk ?_ ?_; (focus (omega)); conv => whnf)
  | (refine Pick.mk ?_ ?_ ?_; rotate_left; (focus (first | (simp only [List.length_map, List.length_append, List.length_cons, List.length_nil, List.length_replicate, Nat.zero_add]; rfl) | exact natlit _)); conv => whnf))
 refine LoopE.mk (fun a : Nat => mk [(0, .one (.ep (.v 0) 120 0 0)), (2, .one (.ptr 4096 0)), (3, .one (.os (.v 8192) 1 0 16)), (6, vI .i64 a)] [(0, .own 120 [bookD (bookOf l)]), (4096, .box [.nil]), (8192, .own 1 ((over (cnts l) (List.replicate 16 0) a).map inD))]) (fun a => a ≤ 16) (fun a => 16 - a) 0 (by omega) (LeX.of ?_) ?_
 ·try (conv => whnf)
  repeat (refine Need.mk ?_ ?_; (focus (first | omega | (simp; done) | rfl)); conv => whnf)
  trivial
 ·intro a ha
  by_cases hlt : a < 16
  ·have e1 := book_of hlt l h.good.all
   have hcn := cnts_get l hlt
   have hle := own_le l a
   have hll := h.len
   try (conv => whnf)
   repeat' (first
    | (refine Need.mk ?_ ?_; (focus (first | omega | (simp only [List.length_map, List.length_append, List.length_cons, List.length_nil, List.length_replicate]; omega))); conv => whnf)
    | (refine Pick.mk ?_ ?_ ?_; rotate_left; (focus (first | (refine over_pick _ _ _ _ _ ?_ ?_ <;> first | (simp; done) | omega) | (with_reducible refine bk_of ?_ ?_ <;> first | assumption | omega) | with_reducible exact set_inN _ _ _ _ | ((show @Eq Nat (_ + Int.toNat _ * _) _); simp only [Int.toNat_natCast, Nat.zero_add, Nat.mul_one]; rfl) | (refine wid ?_ ?_ <;> omega) | ((show @Eq (Option _) _ _); simp only [List.getElem?_cons_zero, List.getElem?_cons_succ]; rfl))); conv => whnf)
    | (refine SeqJ.thru ?_; conv => whnf)
    | (refine br_dec (fun _ => ?_) (fun _ => ?_) <;> first | (exfalso; omega) | contradiction | conv => whnf)
    | (refine br_not ?_; conv => whnf)
    | (refine br_bne (fun _ => ?_) (fun _ => ?_) <;> first | (exfalso; omega) | contradiction | conv => whnf)
    | (refine br_beq (fun _ => ?_) (fun _ => ?_) <;> first | (exfalso; omega) | contradiction | conv => whnf))
   refine Pick.mk (a + 1) (by constructor <;> first | omega | (simp only []; omega)) (LeX.of ?_)
   try (conv => whnf)
   repeat (refine Need.mk ?_ ?_; (focus (first | omega | (simp; done))); conv => whnf)
   refine Need.mk (by rw [e1, ← over_set (m := cnts l) (by simp) (by simpa using hlt), hcn]) ?_
   try (conv => whnf)
   trivial
  ·try (conv => whnf)
   repeat' (first
    | (refine SeqJ.thru ?_; conv => whnf)
    | (refine br_dec (fun _ => ?_) (fun _ => ?_) <;> first | (exfalso; omega) | contradiction | conv => whnf)
    | (refine br_not ?_; conv => whnf)
    | (refine br_bne (fun _ => ?_) (fun _ => ?_) <;> first | (exfalso; omega) | contradiction | conv => whnf)
    | (refine br_beq (fun _ => ?_) (fun _ => ?_) <;> first | (exfalso; omega) | contradiction | conv => whnf))
   refine Out.mk false [0, 1, 2, 3, 4] [] ?_
   try (conv => whnf)
   exact ⟨rfl, by rw [over_end (by simp) (by simp; omega)]⟩
end Go.Proofs.Ytpdjehnlejjfmaa.D
/- Two logs merged, in plain. -/
namespace Go.Proofs.Ytpdjehnlejjfmaa.D
open Go.RowKit
set_option maxRecDepth 100000
set_option maxHeartbeats 4000000
set_option linter.unusedVariables false
set_option linter.unusedSimpArgs false

def noFork (a b : List OpV) : Prop := ∀ n : Nat, n < 16 → ∀ i (h1 : i < (own a n).length) (h2 : i < (own b n).length), (own a n)[i] = (own b n)[i]
def kindsOk (a b : List OpV) : Prop := ∀ x ∈ a, ∀ y ∈ b, x.obj = y.obj → thS x.kind = thS y.kind
def longer (a b : List OpV) (n : Nat) : List OpV := if (own b n).length > (own a n).length then own b n else own a n
def mergeF (a b : List OpV) : List OpV := (List.range 16).flatMap (longer a b)
noncomputable instance (a b : List OpV) : Decidable (noFork a b) := Classical.propDecidable _
noncomputable instance (a b : List OpV) : Decidable (kindsOk a b) := Classical.propDecidable _
noncomputable def mcode (a b : List OpV) : Int := if ¬ (LogOk a ∧ LogOk b) then 1 else if ¬ noFork a b then 16 else 0
noncomputable def mergeC (a b : List OpV) : Int := if mcode a b ≠ 0 then mcode a b else if ¬ kindsOk a b then 8 else if (mergeF a b).length > 1024 then 11 else 0
noncomputable def mergeR (a b : List OpV) : List OpV := if mergeC a b = 0 then mergeF a b else []
theorem mcode_ok {a b : List OpV} : mcode a b = 0 ↔ LogOk a ∧ LogOk b ∧ noFork a b := by
 unfold mcode
 by_cases h : LogOk a ∧ LogOk b
 ·rw [if_neg (by simpa using h)]
  by_cases h2 : noFork a b
  ·rw [if_neg (by simpa using h2)]; simp [h, h2]
  ·rw [if_pos h2]; simp [h2]
 ·rw [if_pos h]; constructor; (intro h0; simp at h0); rintro ⟨h1, h2, _⟩; exact absurd ⟨h1, h2⟩ h
theorem mem_own {l : List OpV} {o : OpV} {a : Int} : o ∈ own l a ↔ o ∈ l ∧ o.actor = a := by simp [own]
theorem own_flat {f : Nat → List OpV} (hf : ∀ n, n < 16 → ∀ o ∈ f n, o.actor = n) : ∀ (k : Nat), k ≤ 16 → ∀ n : Nat, own ((List.range k).flatMap f) n = if n < k then f n else [] := by
 intro k
 induction k with
 | zero => intro _ n; simp [own]
 | succ k ih =>
  intro hk n
  rw [List.range_succ, List.flatMap_append, own_append, ih (by omega) n]
  simp only [List.flatMap_cons, List.flatMap_nil, List.append_nil]
  have h1 : ∀ o ∈ f k, o.actor = k := hf k (by omega)
  by_cases e : n = k
  ·subst e
   rw [if_neg (by omega), if_pos (by omega), List.nil_append, own, List.filter_eq_self]
   intro o ho; simpa using h1 o ho
  ·have : own (f k) n = [] := by
    rw [own, List.filter_eq_nil_iff]
    intro o ho
    have := h1 o ho
    simp; omega
   rw [this, List.append_nil]
   by_cases g : n < k
   ·rw [if_pos g, if_pos (by omega)]
   ·rw [if_neg g, if_neg (by omega)]
theorem flat_rise {f : Nat → List OpV} (hf : ∀ n, n < 16 → (∀ o ∈ f n, o.actor = n) ∧ ∀ i (h : i < (f n).length), (f n)[i].seq = i + 1) : ∀ (k : Nat), k ≤ 16 → ((List.range k).flatMap f).Pairwise opLt ∧ ∀ o ∈ (List.range k).flatMap f, o.actor < k ∧ 0 ≤ o.actor := by
 intro k
 induction k with
 | zero => intro _; simp
 | succ k ih =>
  intro hk
  obtain ⟨h1, h2⟩ := ih (by omega)
  obtain ⟨f1, f2⟩ := hf k (by omega)
  rw [List.range_succ, List.flatMap_append]
  simp only [List.flatMap_cons, List.flatMap_nil, List.append_nil]
  constructor
  ·rw [List.pairwise_append]
   refine ⟨h1, ?_, fun x hx y hy => ?_⟩
   ·rw [List.pairwise_iff_getElem]
    intro i j hi hj hij
    have := f2 i hi; have := f2 j hj
    have := f1 _ (List.getElem_mem hi); have := f1 _ (List.getElem_mem hj)
    exact .inr ⟨by omega, by omega⟩
   ·have := (h2 x hx).1; have := f1 y hy
    exact .inl (by omega)
  ·intro o ho
   rcases List.mem_append.1 ho with ho | ho
   ·have := h2 o ho; omega
   ·have := f1 o ho; omega
theorem longer_mem {a b : List OpV} {n : Nat} {o : OpV} (h : o ∈ longer a b n) : (o ∈ a ∨ o ∈ b) ∧ o.actor = n := by
 unfold longer at h
 split at h
 ·have := mem_own.1 h; exact ⟨.inr this.1, this.2⟩
 ·have := mem_own.1 h; exact ⟨.inl this.1, this.2⟩
theorem longer_seq {a b : List OpV} (ha : LogOk a) (hb : LogOk b) (n : Nat) : ∀ i (h : i < (longer a b n).length), (longer a b n)[i].seq = i + 1 := by
 intro i h
 unfold longer at h ⊢
 split
 ·exact (hb.good.own_at n i (by rename_i g; rw [if_pos g] at h; exact h)).1
 ·exact (ha.good.own_at n i (by rename_i g; rw [if_neg g] at h; exact h)).1
theorem merge_own {a b : List OpV} (n : Nat) (hn : n < 16) : own (mergeF a b) n = longer a b n := by
 rw [mergeF, own_flat (fun n _ o ho => (longer_mem ho).2) 16 (Nat.le_refl _) n, if_pos hn]
theorem merge_mem {a b : List OpV} {o : OpV} (h : o ∈ mergeF a b) : o ∈ a ∨ o ∈ b := by
 obtain ⟨n, _, h⟩ := List.mem_flatMap.1 h
 exact (longer_mem h).1
theorem longer_a {a b : List OpV} (hf : noFork a b) {n : Nat} (hn : n < 16) : ∃ t, longer a b n = own a n ++ t := by
 unfold longer
 split
 ·rename_i g
  refine ⟨(own b n).drop (own a n).length, ?_⟩
  have e : own a n = (own b n).take (own a n).length := by
   apply List.ext_getElem
   ·simp; omega
   ·intro i h1 h2
    rw [List.getElem_take]
    exact hf n hn i h1 (by omega)
  conv => rhs; arg 1; rw [e]
  rw [List.take_append_drop]
 ·exact ⟨[], by simp⟩
theorem noFork.symm {a b : List OpV} (h : noFork a b) : noFork b a := fun n hn i h1 h2 => (h n hn i h2 h1).symm
theorem longer_comm {a b : List OpV} (hf : noFork a b) {n : Nat} (hn : n < 16) : longer a b n = longer b a n := by
 unfold longer
 rcases Nat.lt_trichotomy (own a n).length (own b n).length with g | g | g
 ·rw [if_pos g, if_neg (by omega)]
 ·rw [if_neg (by omega), if_neg (by omega)]
  exact List.ext_getElem g fun i h1 h2 => hf n hn i h1 h2
 ·rw [if_neg (by omega), if_pos g]
theorem longer_b {a b : List OpV} (hf : noFork a b) {n : Nat} (hn : n < 16) : ∃ t, longer a b n = own b n ++ t := by
 rw [longer_comm hf hn]; exact longer_a hf.symm hn
theorem mergeF_comm {a b : List OpV} (hf : noFork a b) : mergeF a b = mergeF b a := by
 have : ∀ k, k ≤ 16 → (List.range k).flatMap (longer a b) = (List.range k).flatMap (longer b a) := by
  intro k
  induction k with
  | zero => intro _; rfl
  | succ k ih => intro hk; rw [List.range_succ, List.flatMap_append, List.flatMap_append, ih (by omega)]; simp only [List.flatMap_cons, List.flatMap_nil, longer_comm hf (show k < 16 by omega)]
 exact this 16 (Nat.le_refl _)
theorem merge_log {a b : List OpV} (ha : LogOk a) (hb : LogOk b) (hf : noFork a b) (hk : kindsOk a b) (hn : (mergeF a b).length ≤ 1024) : LogOk (mergeF a b) := by
 have hall : ∀ o ∈ mergeF a b, OpOk o := fun o ho => (merge_mem ho).elim (ha.good.all o) (hb.good.all o)
 have hs := longer_seq ha hb
 have hr := flat_rise (f := longer a b) (fun n _ => ⟨fun o ho => (longer_mem ho).2, hs n⟩) 16 (Nat.le_refl _)
 have hg : Good1 (mergeF a b) (mergeF a b).length := Good1.of hall hr.1 fun x i hi => by
  have hx : 0 ≤ x ∧ x < 16 := by
   have := mem_own.1 (List.getElem_mem hi)
   have h2 := hr.2 _ this.1
   omega
  have e : x = ((x.toNat : Nat) : Int) := by omega
  have e2 : own (mergeF a b) x = longer a b x.toNat := by have := merge_own (a := a) (b := b) x.toNat (by omega); rwa [← e] at this
  have hi2 : i < (longer a b x.toNat).length := by rw [← e2]; exact hi
  have : (own (mergeF a b) x)[i] = (longer a b x.toNat)[i] := by simp only [e2]
  rw [this]; exact hs _ _ hi2
 refine ⟨hn, hg, ?_, fun o ho => ?_⟩
 ·rw [SameTh.iff hall]
  have sa := (SameTh.iff ha.good.all).1 ha.same
  have sb := (SameTh.iff hb.good.all).1 hb.same
  intro x hx y hy e
  rcases merge_mem hx with hx | hx <;> rcases merge_mem hy with hy | hy
  ·exact sa x hx y hy e
  ·exact hk x hx y hy e
  ·exact (hk y hy x hx e.symm).symm
  ·exact sb x hx y hy e
 ·intro n hn
  have e := merge_own (a := a) (b := b) n hn
  have key : ∀ l, (∃ t, own (mergeF a b) n = own l n ++ t) → CauseAt l o n → CauseAt (mergeF a b) o n := by
   rintro l ⟨t, ht⟩ ⟨h1, h2⟩
   refine ⟨by rw [ht, List.length_append]; omega, fun h0 p hp => h2 h0 p ?_⟩
   rwa [ht, List.getElem?_append_left (by omega)] at hp
  rcases merge_mem ho with h | h
  ·exact key a (by rw [e]; exact longer_a hf hn) (ha.cause o h n hn)
  ·exact key b (by rw [e]; exact longer_b hf hn) (hb.cause o h n hn)
structure Put (a b : List OpV) (i : Nat) (r : List OpV) : Prop where
 rise : r.Pairwise opLt
 mem : ∀ o ∈ r, o ∈ a ∨ o ∈ b.take i
 own : ∀ n : Nat, n < 16 → own r n = own a n ++ (own (b.take i) n).drop (own a n).length
theorem Put.zero {a b : List OpV} (ha : LogOk a) : Put a b 0 a := ⟨ha.good.rise, fun o h => .inl h, fun n _ => by simp [D.own]⟩
theorem Put.skip {a b r : List OpV} {i : Nat} (hb : LogOk b) (h : Put a b i r) (hi : i < b.length) (hs : b[i].seq ≤ (D.own a b[i].actor).length) : Put a b (i + 1) r := by
 refine ⟨h.rise, fun o ho => (h.mem o ho).imp id fun g => by rw [List.take_succ_eq_append_getElem hi]; exact List.mem_append.2 (.inl g), fun n hn => ?_⟩
 rw [h.own n hn, own_take hi]
 by_cases e : b[i].actor = n
 ·have h3 := (hb.good.at hi).2.2
  rw [e] at hs h3
  rw [if_pos e, List.drop_eq_nil_of_le (by omega), List.drop_eq_nil_of_le (by simp; omega)]
 ·rw [if_neg e, List.append_nil]
theorem Put.put {a b r : List OpV} {i : Nat} (ha : LogOk a) (hb : LogOk b) (h : Put a b i r) (hi : i < b.length) (hs : b[i].seq > (D.own a b[i].actor).length) : Put a b (i + 1) (insL r b[i]) := by
 have h3 := (hb.good.at hi).2.2
 have hact := (hb.good.at hi).1.st.2
 have hlt : ∀ x ∈ r, x.actor = b[i].actor → x.seq < b[i].seq := by
  intro x hx e
  rcases h.mem x hx with g | g
  ·have := (ha.good.seq_le g).2; rw [e] at this; omega
  ·have hg : Good1 (b.take i) (b.take i).length := (hb.good.le (Nat.le_of_lt hi)).take (Nat.le_of_lt hi)
   have := (hg.seq_le g).2; rw [e] at this; omega
 refine ⟨insL_rise h.rise fun x hx e => by have := hlt x hx e.1; omega, fun o ho => ?_, fun n hn => ?_⟩
 ·rw [List.take_succ_eq_append_getElem hi]
  rcases insL_mem.1 ho with rfl | ho
  ·exact .inr (List.mem_append.2 (.inr (List.mem_singleton.2 rfl)))
  ·exact (h.mem o ho).imp id fun g => List.mem_append.2 (.inl g)
 ·rw [insL_own h.rise hlt, h.own n hn, own_take hi]
  by_cases e : b[i].actor = n
  ·rw [e] at hs h3
   rw [if_pos e, List.append_assoc, List.drop_append_of_le_length (by omega)]
  ·rw [if_neg e, List.append_nil, List.append_nil]
theorem Put.done {a b r : List OpV} (ha : LogOk a) (hb : LogOk b) (hf : noFork a b) (h : Put a b b.length r) : r = mergeF a b := by
 have hall : ∀ o ∈ r, 0 ≤ o.actor ∧ o.actor < 16 := fun o ho => (h.mem o ho).elim (fun g => (ha.good.all o g).st.2) fun g => (hb.good.all o (List.mem_of_mem_take g)).st.2
 have hs : r.Pairwise (fun x y => x.actor ≤ y.actor) := h.rise.imp fun {x y} g => by unfold opLt at g; omega
 have e := acts_all 16 r hs hall
 rw [← e]
 have : ∀ k, k ≤ 16 → actsL r k = (List.range k).flatMap (longer a b) := by
  intro k
  induction k with
  | zero => intro _; rfl
  | succ k ih =>
   intro hk
   rw [actsL_succ, ih (by omega), List.range_succ, List.flatMap_append]
   simp only [List.flatMap_cons, List.flatMap_nil, List.append_nil]
   congr 1
   have hk' : k < 16 := by omega
   rw [h.own k hk', List.take_length]
   unfold longer
   split
   ·rename_i g
    have e : D.own a k = (D.own b k).take (D.own a k).length := by
     apply List.ext_getElem
     ·simp; omega
     ·intro i h1 h2
      rw [List.getElem_take]
      exact hf k hk' i h1 (by omega)
    conv => lhs; arg 1; rw [e]
    rw [List.take_append_drop]
   ·rw [List.drop_eq_nil_of_le (by omega), List.append_nil]
 exact this 16 (Nat.le_refl _)
end Go.Proofs.Ytpdjehnlejjfmaa.D
