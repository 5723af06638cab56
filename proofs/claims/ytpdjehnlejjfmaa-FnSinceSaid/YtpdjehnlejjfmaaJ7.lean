/- Adding a log to another, as the reference does. -/
import Derived.Test.YtpdjehnlejjfmaaJ6
set_option linter.unusedVariables false
set_option linter.unusedSimpArgs false
namespace Go.Proofs.Ytpdjehnlejjfmaa.D
open Go.RowKit
set_option maxRecDepth 100000
set_option maxHeartbeats 4000000
set_option linter.unusedVariables false
set_option linter.unusedSimpArgs false

def fitsL (l : List OpV) (o : OpV) : Prop := o.seq = (own l o.actor).length + 1 ∧ Cause l o
def kfL (l : List OpV) (o : OpV) : Prop := ∀ a ∈ l, a.obj = o.obj → thS a.kind = thS o.kind
noncomputable instance (l : List OpV) (o : OpV) : Decidable (fitsL l o) := Classical.propDecidable _
noncomputable instance (l : List OpV) (o : OpV) : Decidable (kfL l o) := Classical.propDecidable _
theorem Good1.seq_le {l : List OpV} (h : Good1 l l.length) {x : OpV} (hx : x ∈ l) : 1 ≤ x.seq ∧ x.seq ≤ (own l x.actor).length := by
 have hm : x ∈ own l x.actor := by simp [own, hx]
 obtain ⟨i, hi, e⟩ := List.mem_iff_getElem.1 hm
 have h1 := (h.own_at x.actor i hi).1
 rw [e] at h1; omega
theorem Cause.mono {l m : List OpV} {x : OpV} (h : Cause l x) (hm : ∀ a, ∃ t, own m a = own l a ++ t) : Cause m x := by
 intro a ha
 obtain ⟨t, ht⟩ := hm a
 obtain ⟨h1, h2⟩ := h a ha
 refine ⟨by rw [ht, List.length_append]; omega, fun h0 p hp => h2 h0 p ?_⟩
 rw [ht, List.getElem?_append_left (by omega)] at hp; exact hp
theorem LogOk.insG {l : List OpV} {o : OpV} (h : LogOk l) (ho : OpOk o) (hs : o.seq = (own l o.actor).length + 1) : Good1 (insL l o) (insL l o).length ∧ ∀ a, own (insL l o) a = own l a ++ if o.actor = a then [o] else [] := by
 have hlt : ∀ x ∈ l, x.actor = o.actor → x.seq < o.seq := fun x hx e => by have := (h.good.seq_le hx).2; rw [e] at this; omega
 have how := insL_own (o := o) h.good.rise hlt
 refine ⟨Good1.of (fun x hx => ?_) (insL_rise h.good.rise fun x hx e => by have := hlt x hx e.1; omega) (fun a i hi => ?_), how⟩
 ·rcases insL_mem.1 hx with rfl | hx
  ·exact ho
  ·exact h.good.all x hx
 ·have e := how a
  by_cases g : i < (own l a).length
  ·have : (own (insL l o) a)[i] = (own l a)[i] := by
    have : (own (insL l o) a)[i]? = some (own l a)[i] := by rw [e, List.getElem?_append_left g, List.getElem?_eq_getElem g]
    rw [List.getElem?_eq_getElem hi] at this; injection this
   rw [this]; exact (h.good.own_at a i g).1
  ·rw [e, List.length_append] at hi
   by_cases ha : o.actor = a
   ·rw [if_pos ha] at hi e
    have hi' : i = (own l a).length := by simp at hi; omega
    have : (own (insL l o) a)[i]'(by rw [e]; simp; omega) = o := by
     have : (own (insL l o) a)[i]? = some o := by rw [e, hi']; simp
     rw [List.getElem?_eq_getElem (by rw [e]; simp; omega)] at this; injection this
    rw [this, hs, ha]; omega
   ·rw [if_neg ha] at hi; simp at hi; omega
theorem LogOk.ins {l : List OpV} {o : OpV} (h : LogOk l) (ho : OpOk o) (hf : fitsL l o) (hk : kfL l o) (hn : l.length < 1024) : LogOk (insL l o) := by
 obtain ⟨g1, g2⟩ := h.insG ho hf.1
 refine ⟨by rw [insL_length]; omega, g1, ?_, fun x hx => ?_⟩
 ·have hall : ∀ x ∈ insL l o, OpOk x := g1.all
  rw [SameTh.iff hall]
  refine (SameTh.snoc ((SameTh.iff h.good.all).1 h.same) hk).sub fun x hx => ?_
  rcases insL_mem.1 hx with rfl | hx <;> simp [*]
 ·refine Cause.mono (l := l) ?_ fun a => ⟨_, g2 a⟩
  rcases insL_mem.1 hx with rfl | hx
  ·exact hf.2
  ·exact h.cause x hx
abbrev sameN (x o : OpV) : Prop := x.actor = o.actor ∧ x.seq = o.seq
def twin (w : List OpV) (o : OpV) : Prop := ∃ x ∈ w, sameN x o
noncomputable instance (w : List OpV) (o : OpV) : Decidable (twin w o) := Classical.propDecidable _
theorem twin_next {w : List OpV} {j : Nat} {o : OpV} (h : j < w.length) : twin (w.take (j + 1)) o ↔ twin (w.take j) o ∨ sameN w[j] o := by
 unfold twin
 rw [List.take_succ_eq_append_getElem h]
 simp only [List.mem_append, List.mem_singleton]
 constructor
 ·rintro ⟨x, hx | rfl, hp⟩
  ·exact .inl ⟨x, hx, hp⟩
  ·exact .inr hp
 ·rintro (⟨x, hx, hp⟩ | hp)
  ·exact ⟨x, .inl hx, hp⟩
  ·exact ⟨_, .inr rfl, hp⟩
theorem twin_nil {o : OpV} {w : List OpV} : decide (twin (w.take 0) o) = false := by simp [twin]
noncomputable def waitGo (log : List OpV) : List OpV → List OpV → Option (List OpV)
 | [], w => some w
 | o :: r, w =>
  match (own log o.actor)[(o.seq - 1).toNat]? with
  | some p => if p = o then waitGo log r w else none
  | none => if ∃ x ∈ w, sameN x o ∧ x ≠ o then none else waitGo log r (if twin w o then w else w ++ [o])
noncomputable def addGo (out wait : List OpV) (i : Nat) : List OpV × List OpV × Int :=
 if h : i < wait.length then
  if fitsL out wait[i] then
   if kfL out wait[i] then
    if out.length = 1024 then ([], [], 11) else addGo (insL out wait[i]) (wait.take i ++ wait.drop (i + 1)) 0
   else ([], [], 8)
  else addGo out wait (i + 1)
 else (out, wait, 0)
termination_by (wait.length, wait.length - i)
decreasing_by
 ·apply Prod.Lex.left; simp; omega
 ·apply Prod.Lex.right; omega
noncomputable def addL (log more : List OpV) : List OpV × List OpV × Int :=
 if more.length > 1024 then ([], [], 2)
 else if ¬ LogOk log then ([], [], 1)
 else if ¬ ∀ o ∈ more, OpOk o then ([], [], 1)
 else match waitGo log more [] with
  | none => ([], [], 16)
  | some w => addGo log w 0
abbrev vE : SV := .one (.dv (.sl []))
abbrev cL (l : List OpV) : CV := .dv (.sl (l.map oD))
abbrev vAdd (r : List OpV × List OpV × Int) : SV := .tup [(false, [cL r.1]), (false, [cL r.2.1]), (false, [cI r.2.2])]
theorem addGo_next {out w : List OpV} {i : Nat} (h : i < w.length) (hf : ¬ fitsL out w[i]) : addGo out w i = addGo out w (i + 1) := by
 conv => lhs; rw [addGo]
 rw [dif_pos h, if_neg hf]
theorem addGo_kind {out w : List OpV} {i : Nat} (h : i < w.length) (hf : fitsL out w[i]) (hk : ¬ kfL out w[i]) : addGo out w i = ([], [], 8) := by
 rw [addGo, dif_pos h, if_pos hf, if_neg hk]
theorem addGo_many {out w : List OpV} {i : Nat} (h : i < w.length) (hf : fitsL out w[i]) (hk : kfL out w[i]) (hn : out.length = 1024) : addGo out w i = ([], [], 11) := by
 rw [addGo, dif_pos h, if_pos hf, if_pos hk, if_pos hn]
theorem addGo_put {out w : List OpV} {i : Nat} (h : i < w.length) (hf : fitsL out w[i]) (hk : kfL out w[i]) (hn : out.length ≠ 1024) : addGo out w i = addGo (insL out w[i]) (w.take i ++ w.drop (i + 1)) 0 := by
 conv => lhs; rw [addGo]
 rw [dif_pos h, if_pos hf, if_pos hk, if_neg hn]
theorem addGo_end {out w : List OpV} {i : Nat} (h : ¬ i < w.length) : addGo out w i = (out, w, 0) := by rw [addGo, dif_neg h]
theorem s_LogAdd (log more : List OpV) (hl : ∀ o ∈ log, o.key.length ≤ 2 ^ 40 ∧ o.text.length ≤ 2 ^ 40) (hm : ∀ o ∈ more, o.key.length ≤ 2 ^ 40 ∧ o.text.length ≤ 2 ^ 40) :
  CallN Try.prog id_spec_LogAdd [vL log, vL more] [] [] (vAdd (addL log more)) [] := by
 refine F_spec_LogAdd ?_
 try (conv => whnf)
 repeat' (first
  | (refine Pick.mk ?_ ?_ ?_; rotate_left; (focus (first | exact List.length_map _ | (simp only [chunks]; rfl))); conv => whnf)
  | (refine SeqJ.thru ?_; conv => whnf)
  | (refine br_dec (fun _ => ?_) (fun _ => ?_) <;> first | (exfalso; omega) | contradiction | conv => whnf)
  | (refine br_not ?_; conv => whnf)
  | (refine br_bne (fun _ => ?_) (fun _ => ?_) <;> first | (exfalso; omega) | contradiction | conv => whnf)
  | (refine br_beq (fun _ => ?_) (fun _ => ?_) <;> first | (exfalso; omega) | contradiction | conv => whnf))
 ·rename_i hlen
  refine Out.mk true [] [] ?_
  try (conv => whnf)
  repeat (refine Pick.mk ?_ ?_ ?_; rotate_left; (focus ((refine SlF.same ?_ ?_; (first | rfl | omega | (simp; done) | (simp; omega)); (first | exact fz_self _ _ (fun _ => rfl) | exact fz_pl rfl | (refine Fz.append ?_ ?_ <;> first | exact fz_self _ _ (fun _ => rfl) | exact fz_pl rfl) | (refine Fz.append (Fz.append ?_ ?_) ?_ <;> first | exact fz_self _ _ (fun _ => rfl) | exact fz_pl rfl))))); conv => whnf)
  exact ⟨by rw [addL, if_pos (by omega)]; rfl, rfl⟩
 ·rename_i hlen
  refine Hand.mk [] ?_
  try (conv => whnf)
  refine CallW.d (s_LogOK log hl) ?_
  try (conv => whnf)
  by_cases hok : LogOk log
  rotate_left
  ·try (conv => whnf)
   repeat' (first
    | (refine br_dec (fun _ => ?_) (fun _ => ?_) <;> first | (exfalso; omega) | contradiction | conv => whnf)
    | (refine br_not ?_; conv => whnf)
    | (refine br_bne (fun _ => ?_) (fun _ => ?_) <;> first | (exfalso; omega) | contradiction | conv => whnf)
    | (refine br_beq (fun _ => ?_) (fun _ => ?_) <;> first | (exfalso; omega) | contradiction | conv => whnf))
   refine Out.mk true [] [] ?_
   try (conv => whnf)
   repeat (refine Pick.mk ?_ ?_ ?_; rotate_left; (focus ((refine SlF.same ?_ ?_; (first | rfl | omega | (simp; done) | (simp; omega)); (first | exact fz_self _ _ (fun _ => rfl) | exact fz_pl rfl | (refine Fz.append ?_ ?_ <;> first | exact fz_self _ _ (fun _ => rfl) | exact fz_pl rfl) | (refine Fz.append (Fz.append ?_ ?_) ?_ <;> first | exact fz_self _ _ (fun _ => rfl) | exact fz_pl rfl))))); conv => whnf)
   exact ⟨by rw [addL, if_neg (by omega), if_pos hok]; rfl, rfl⟩
  try (conv => whnf)
  repeat' (first
   | (refine br_dec (fun _ => ?_) (fun _ => ?_) <;> first | (exfalso; omega) | contradiction | conv => whnf)
   | (refine br_not ?_; conv => whnf)
   | (refine br_bne (fun _ => ?_) (fun _ => ?_) <;> first | (exfalso; omega) | contradiction | conv => whnf)
   | (refine br_beq (fun _ => ?_) (fun _ => ?_) <;> first | (exfalso; omega) | contradiction | conv => whnf))
  refine LoopE.mk (fun i : Nat => mk [(0, vL log), (1, vL more), (7, vE), (8, vI .i64 i)] []) (fun i => i ≤ more.length ∧ ∀ o ∈ more.take i, OpOk o) (fun i => more.length - i) 0 ⟨by omega, by simp⟩ (LeX.of ?_) ?_
  ·try (conv => whnf)
   repeat (refine Need.mk ?_ ?_; (focus (first | exact SlF.lit rfl rfl | omega | (simp; done))); conv => whnf)
   trivial
  ·rintro i ⟨hi, hall⟩
   by_cases hlt : i < more.length
   ·obtain ⟨hk, ht⟩ := hm _ (List.getElem_mem hlt)
    by_cases hoo : OpOk more[i]
    ·try (conv => whnf)
     repeat' (first
      | (refine Pick.mk ?_ ?_ ?_; rotate_left; (focus (first | exact List.length_map _ | (refine pick_nat _ _ _ ?_; omega))); conv => whnf)
      | (refine SeqJ.thru ?_; conv => whnf)
      | (refine br_dec (fun _ => ?_) (fun _ => ?_) <;> first | (exfalso; omega) | contradiction | conv => whnf)
      | (refine br_not ?_; conv => whnf)
      | (refine br_bne (fun _ => ?_) (fun _ => ?_) <;> first | (exfalso; omega) | contradiction | conv => whnf)
      | (refine br_beq (fun _ => ?_) (fun _ => ?_) <;> first | (exfalso; omega) | contradiction | conv => whnf))
     refine Hand.mk [] ?_
     try (conv => whnf)
     refine CallW.d (s_l08OpOK more[i] hk ht) ?_
     try (conv => whnf)
     try (conv => whnf)
     repeat' (first
      | (refine Pick.mk ?_ ?_ ?_; rotate_left; (focus ((refine wid ?_ ?_ <;> omega))); conv => whnf)
      | (refine br_dec (fun _ => ?_) (fun _ => ?_) <;> first | (exfalso; omega) | contradiction | conv => whnf)
      | (refine br_not ?_; conv => whnf)
      | (refine br_bne (fun _ => ?_) (fun _ => ?_) <;> first | (exfalso; omega) | contradiction | conv => whnf)
      | (refine br_beq (fun _ => ?_) (fun _ => ?_) <;> first | (exfalso; omega) | contradiction | conv => whnf))
     refine Pick.mk (i + 1) ⟨⟨by omega, all_next hlt hall hoo⟩, by omega⟩ (LeX.of ?_)
     try (conv => whnf)
     repeat (refine Need.mk ?_ ?_; (focus (first | omega | (simp; done))); conv => whnf)
     trivial
    ·try (conv => whnf)
     repeat' (first
      | (refine Pick.mk ?_ ?_ ?_; rotate_left; (focus (first | exact List.length_map _ | (refine pick_nat _ _ _ ?_; omega))); conv => whnf)
      | (refine SeqJ.thru ?_; conv => whnf)
      | (refine br_dec (fun _ => ?_) (fun _ => ?_) <;> first | (exfalso; omega) | contradiction | conv => whnf)
      | (refine br_not ?_; conv => whnf)
      | (refine br_bne (fun _ => ?_) (fun _ => ?_) <;> first | (exfalso; omega) | contradiction | conv => whnf)
      | (refine br_beq (fun _ => ?_) (fun _ => ?_) <;> first | (exfalso; omega) | contradiction | conv => whnf))
     refine Hand.mk [] ?_
     try (conv => whnf)
     refine CallW.d (s_l08OpOK more[i] hk ht) ?_
     try (conv => whnf)
     try (conv => whnf)
     repeat' (first
      | (refine br_dec (fun _ => ?_) (fun _ => ?_) <;> first | (exfalso; omega) | contradiction | conv => whnf)
      | (refine br_not ?_; conv => whnf)
      | (refine br_bne (fun _ => ?_) (fun _ => ?_) <;> first | (exfalso; omega) | contradiction | conv => whnf)
      | (refine br_beq (fun _ => ?_) (fun _ => ?_) <;> first | (exfalso; omega) | contradiction | conv => whnf))
     refine Out.mk true [] [] ?_
     try (conv => whnf)
     exact ⟨by rw [addL, if_neg (by omega), if_neg (by simpa using hok), if_pos (fun h => hoo (h _ (List.getElem_mem hlt)))]; try rfl, rfl⟩
   ·have hall := all_end hall (by omega)
    have hadd : addL log more = match waitGo log more [] with | none => ([], [], 16) | some w => addGo log w 0 := by
     rw [addL, if_neg (by omega), if_neg (by simpa using hok), if_neg (by simpa using hall)]
    have hdl : ∀ o : OpV, OpOk o → o.deps.length ≤ 2 ^ 39 := fun o h => by have := h.vec.1; omega
    try (conv => whnf)
    repeat' (first
     | (refine Pick.mk ?_ ?_ ?_; rotate_left; (focus (first | exact List.length_map _ | (simp only [chunks]; rfl))); conv => whnf)
     | (refine SeqJ.thru ?_; conv => whnf)
     | (refine br_dec (fun _ => ?_) (fun _ => ?_) <;> first | (exfalso; omega) | contradiction | conv => whnf)
     | (refine br_not ?_; conv => whnf)
     | (refine br_bne (fun _ => ?_) (fun _ => ?_) <;> first | (exfalso; omega) | contradiction | conv => whnf)
     | (refine br_beq (fun _ => ?_) (fun _ => ?_) <;> first | (exfalso; omega) | contradiction | conv => whnf))
    refine LoopE.mk (fun x : Nat × List OpV => mk [(0, vL log), (1, vL more), (7, vE), (9, .one (.os (.v 49152) 12 0 x.2.length)), (10, vI .i64 x.1)] [(49152, .own 12 (x.2.map oD))])
     (fun x => x.1 ≤ more.length ∧ x.2.length ≤ x.1 ∧ (∀ y ∈ x.2, OpOk y) ∧ waitGo log more [] = waitGo log (more.drop x.1) x.2) (fun x => more.length - x.1) (0, []) ⟨by omega, by simp, by simp, by simp⟩ (LeX.of ?_) ?_
    ·try (conv => whnf)
     repeat (refine Need.mk ?_ ?_; (focus (first | omega | (simp; done))); conv => whnf)
     trivial
    ·rintro ⟨i, w⟩ ⟨hi, hw, hwo, hg⟩
     simp only at hi hw hwo hg ⊢
     by_cases hlt : i < more.length
     ·have hoo := hall _ (List.getElem_mem hlt)
      obtain ⟨q0, q1⟩ := hoo.seq
      rw [List.drop_eq_getElem_cons hlt, waitGo] at hg
      by_cases hf : more[i].seq ≤ (own log more[i].actor).length
      ·obtain ⟨f1, f2, f3, f4⟩ := findL_some hok.good.sorted q0 hf
       have f4 := f4 f3
       rw [List.getElem?_eq_getElem (by omega)] at hg
       simp only [← f4] at hg
       have hpo := hok.good.all _ (List.getElem_mem f3)
       have c1 := s_l08FindN log more[i].actor more[i].seq hok.good.sorted (by have := hok.len; omega) (by omega)
       generalize hk : findL log more[i].actor more[i].seq = k at c1 f2 f3 f4 hg
       have c2 := s_l08SameOp (log[k.toNat]'(by omega)) more[i] (by have := hdl _ hpo; omega) (by have := hdl _ hoo; omega)
       by_cases he : (log[k.toNat]'(by omega)) = more[i]
       ·rw [if_pos he] at hg
        try (conv => whnf)
        repeat' (first
         | (refine Pick.mk ?_ ?_ ?_; rotate_left; (focus (first | exact List.length_map _ | (refine pick_nat _ _ _ ?_; omega))); conv => whnf)
         | (refine SeqJ.thru ?_; conv => whnf)
         | (refine br_dec (fun _ => ?_) (fun _ => ?_) <;> first | (exfalso; omega) | contradiction | conv => whnf)
         | (refine br_not ?_; conv => whnf)
         | (refine br_bne (fun _ => ?_) (fun _ => ?_) <;> first | (exfalso; omega) | contradiction | conv => whnf)
         | (refine br_beq (fun _ => ?_) (fun _ => ?_) <;> first | (exfalso; omega) | contradiction | conv => whnf))
        refine Hand.mk [] ?_
        try (conv => whnf)
        refine CallW.d (c1) ?_
        try (conv => whnf)
        repeat (refine SeqJ.thru ?_; conv => whnf)
        try (conv => whnf)
        repeat' (first
         | (refine Pick.mk ?_ ?_ ?_; rotate_left; (focus (first | (refine pick_nat _ _ _ ?_; omega) | (refine pick_int _ _ _ ?_ ?_ <;> omega))); conv => whnf)
         | (refine SeqJ.thru ?_; conv => whnf)
         | (refine br_dec (fun _ => ?_) (fun _ => ?_) <;> first | (exfalso; omega) | contradiction | conv => whnf)
         | (refine br_not ?_; conv => whnf)
         | (refine br_bne (fun _ => ?_) (fun _ => ?_) <;> first | (exfalso; omega) | contradiction | conv => whnf)
         | (refine br_beq (fun _ => ?_) (fun _ => ?_) <;> first | (exfalso; omega) | contradiction | conv => whnf))
        refine Hand.mk [] ?_
        try (conv => whnf)
        refine CallW.d (c2) ?_
        try (conv => whnf)
        try (conv => whnf)
        repeat' (first
         | (refine Pick.mk ?_ ?_ ?_; rotate_left; (focus ((refine wid ?_ ?_ <;> omega))); conv => whnf)
         | (refine br_dec (fun _ => ?_) (fun _ => ?_) <;> first | (exfalso; omega) | contradiction | conv => whnf)
         | (refine br_not ?_; conv => whnf)
         | (refine br_bne (fun _ => ?_) (fun _ => ?_) <;> first | (exfalso; omega) | contradiction | conv => whnf)
         | (refine br_beq (fun _ => ?_) (fun _ => ?_) <;> first | (exfalso; omega) | contradiction | conv => whnf))
        refine Pick.mk (i + 1, w) ⟨⟨by simp only; omega, by simp only; omega, hwo, hg⟩, by simp only; omega⟩ (LeX.of ?_)
        try (conv => whnf)
        repeat (refine Need.mk ?_ ?_; (focus (first | omega | (simp; done))); conv => whnf)
        trivial
       ·rw [if_neg he] at hg
        try (conv => whnf)
        repeat' (first
         | (refine Pick.mk ?_ ?_ ?_; rotate_left; (focus (first | exact List.length_map _ | (refine pick_nat _ _ _ ?_; omega))); conv => whnf)
         | (refine SeqJ.thru ?_; conv => whnf)
         | (refine br_dec (fun _ => ?_) (fun _ => ?_) <;> first | (exfalso; omega) | contradiction | conv => whnf)
         | (refine br_not ?_; conv => whnf)
         | (refine br_bne (fun _ => ?_) (fun _ => ?_) <;> first | (exfalso; omega) | contradiction | conv => whnf)
         | (refine br_beq (fun _ => ?_) (fun _ => ?_) <;> first | (exfalso; omega) | contradiction | conv => whnf))
        refine Hand.mk [] ?_
        try (conv => whnf)
        refine CallW.d (c1) ?_
        try (conv => whnf)
        repeat (refine SeqJ.thru ?_; conv => whnf)
        try (conv => whnf)
        repeat' (first
         | (refine Pick.mk ?_ ?_ ?_; rotate_left; (focus (first | (refine pick_nat _ _ _ ?_; omega) | (refine pick_int _ _ _ ?_ ?_ <;> omega))); conv => whnf)
         | (refine SeqJ.thru ?_; conv => whnf)
         | (refine br_dec (fun _ => ?_) (fun _ => ?_) <;> first | (exfalso; omega) | contradiction | conv => whnf)
         | (refine br_not ?_; conv => whnf)
         | (refine br_bne (fun _ => ?_) (fun _ => ?_) <;> first | (exfalso; omega) | contradiction | conv => whnf)
         | (refine br_beq (fun _ => ?_) (fun _ => ?_) <;> first | (exfalso; omega) | contradiction | conv => whnf))
        refine Hand.mk [] ?_
        try (conv => whnf)
        refine CallW.d (c2) ?_
        try (conv => whnf)
        try (conv => whnf)
        repeat' (first
         | (refine br_dec (fun _ => ?_) (fun _ => ?_) <;> first | (exfalso; omega) | contradiction | conv => whnf)
         | (refine br_not ?_; conv => whnf)
         | (refine br_bne (fun _ => ?_) (fun _ => ?_) <;> first | (exfalso; omega) | contradiction | conv => whnf)
         | (refine br_beq (fun _ => ?_) (fun _ => ?_) <;> first | (exfalso; omega) | contradiction | conv => whnf))
        refine Out.mk true [] [] ?_
        try (conv => whnf)
        exact ⟨by rw [hadd, hg]; try rfl, rfl⟩
      ·rw [List.getElem?_eq_none (by omega)] at hg
       have c1 := s_l08FindN log more[i].actor more[i].seq hok.good.sorted (by have := hok.len; omega) (by omega)
       rw [show findL log more[i].actor more[i].seq = -1 by rw [findL, if_neg (by omega)]] at c1
       try (conv => whnf)
       repeat' (first
        | (refine Pick.mk ?_ ?_ ?_; rotate_left; (focus (first | exact List.length_map _ | (refine pick_nat _ _ _ ?_; omega))); conv => whnf)
        | (refine SeqJ.thru ?_; conv => whnf)
        | (refine br_dec (fun _ => ?_) (fun _ => ?_) <;> first | (exfalso; omega) | contradiction | conv => whnf)
        | (refine br_not ?_; conv => whnf)
        | (refine br_bne (fun _ => ?_) (fun _ => ?_) <;> first | (exfalso; omega) | contradiction | conv => whnf)
        | (refine br_beq (fun _ => ?_) (fun _ => ?_) <;> first | (exfalso; omega) | contradiction | conv => whnf))
       refine Hand.mk [] ?_
       try (conv => whnf)
       refine CallW.d (c1) ?_
       try (conv => whnf)
       repeat (refine SeqJ.thru ?_; conv => whnf)
       try (conv => whnf)
       repeat' (first
        | (refine br_dec (fun _ => ?_) (fun _ => ?_) <;> first | (exfalso; omega) | contradiction | conv => whnf)
        | (refine br_not ?_; conv => whnf)
        | (refine br_bne (fun _ => ?_) (fun _ => ?_) <;> first | (exfalso; omega) | contradiction | conv => whnf)
        | (refine br_beq (fun _ => ?_) (fun _ => ?_) <;> first | (exfalso; omega) | contradiction | conv => whnf))
       refine LoopE.mk (fun j : Nat => mk [(0, vL log), (1, vL more), (7, vE), (9, .one (.os (.v 49152) 12 0 w.length)), (10, vI .i64 i), (12, vB (decide (twin (w.take j) more[i]))), (13, vI .i64 j)] [(49152, .own 12 (w.map oD))])
        (fun j => j ≤ w.length ∧ ∀ x ∈ w.take j, sameN x more[i] → x = more[i]) (fun j => w.length - j) 0 ⟨by omega, by simp⟩ (LeX.of ?_) ?_
       ·try (conv => whnf)
        repeat (refine Need.mk ?_ ?_; (focus (first | omega | (simp; done))); conv => whnf)
        refine Need.mk (by rw [twin_nil]) ?_
        try (conv => whnf)
        repeat (refine Need.mk ?_ ?_; (focus (first | omega | (simp; done))); conv => whnf)
        trivial
       ·rintro j ⟨hj, htw⟩
        by_cases hjl : j < w.length
        ·have hwj := hwo _ (List.getElem_mem hjl)
         have c2 := s_l08SameOp w[j] more[i] (by have := hdl _ hwj; omega) (by have := hdl _ hoo; omega)
         by_cases hs : sameN w[j] more[i]
         ·by_cases he : w[j] = more[i]
          ·obtain ⟨hs1, hs2⟩ := hs
           try (conv => whnf)
           repeat' (first
            | (refine Need.mk ?_ ?_; (focus (omega)); conv => whnf)
            | (refine Pick.mk ?_ ?_ ?_; rotate_left; (focus (first | (with_reducible refine get_mapN _ _ _ ?_; first | omega | (simp; omega)) | (refine pick_nat _ _ _ ?_; omega))); conv => whnf)
            | (refine SeqJ.thru ?_; conv => whnf)
            | (refine br_dec (fun _ => ?_) (fun _ => ?_) <;> first | (exfalso; omega) | contradiction | conv => whnf)
            | (refine br_not ?_; conv => whnf)
            | (refine br_bne (fun _ => ?_) (fun _ => ?_) <;> first | (exfalso; omega) | contradiction | conv => whnf)
            | (refine br_beq (fun _ => ?_) (fun _ => ?_) <;> first | (exfalso; omega) | contradiction | conv => whnf))
           refine Hand.mk [] ?_
           try (conv => whnf)
           refine CallW.d (c2) ?_
           try (conv => whnf)
           try (conv => whnf)
           repeat' (first
            | (refine Pick.mk ?_ ?_ ?_; rotate_left; (focus ((refine wid ?_ ?_ <;> omega))); conv => whnf)
            | (refine br_dec (fun _ => ?_) (fun _ => ?_) <;> first | (exfalso; omega) | contradiction | conv => whnf)
            | (refine br_not ?_; conv => whnf)
            | (refine br_bne (fun _ => ?_) (fun _ => ?_) <;> first | (exfalso; omega) | contradiction | conv => whnf)
            | (refine br_beq (fun _ => ?_) (fun _ => ?_) <;> first | (exfalso; omega) | contradiction | conv => whnf))
           refine Pick.mk (j + 1) ⟨⟨by omega, all_next hjl htw fun _ => he⟩, by omega⟩ (LeX.of ?_)
           try (conv => whnf)
           repeat (refine Need.mk ?_ ?_; (focus (first | omega | (simp; done))); conv => whnf)
           refine Need.mk (by rw [decide_eq_true ((twin_next hjl).2 (.inr ⟨hs1, hs2⟩))]) ?_
           try (conv => whnf)
           repeat (refine Need.mk ?_ ?_; (focus (first | omega | (simp; done))); conv => whnf)
           trivial
          ·rw [if_pos ⟨_, List.getElem_mem hjl, hs, he⟩] at hg
           obtain ⟨hs1, hs2⟩ := hs
           try (conv => whnf)
           repeat' (first
            | (refine Need.mk ?_ ?_; (focus (omega)); conv => whnf)
            | (refine Pick.mk ?_ ?_ ?_; rotate_left; (focus (first | (with_reducible refine get_mapN _ _ _ ?_; first | omega | (simp; omega)) | (refine pick_nat _ _ _ ?_; omega))); conv => whnf)
            | (refine SeqJ.thru ?_; conv => whnf)
            | (refine br_dec (fun _ => ?_) (fun _ => ?_) <;> first | (exfalso; omega) | contradiction | conv => whnf)
            | (refine br_not ?_; conv => whnf)
            | (refine br_bne (fun _ => ?_) (fun _ => ?_) <;> first | (exfalso; omega) | contradiction | conv => whnf)
            | (refine br_beq (fun _ => ?_) (fun _ => ?_) <;> first | (exfalso; omega) | contradiction | conv => whnf))
           refine Hand.mk [] ?_
           try (conv => whnf)
           refine CallW.d (c2) ?_
           try (conv => whnf)
           try (conv => whnf)
           repeat' (first
            | (refine br_dec (fun _ => ?_) (fun _ => ?_) <;> first | (exfalso; omega) | contradiction | conv => whnf)
            | (refine br_not ?_; conv => whnf)
            | (refine br_bne (fun _ => ?_) (fun _ => ?_) <;> first | (exfalso; omega) | contradiction | conv => whnf)
            | (refine br_beq (fun _ => ?_) (fun _ => ?_) <;> first | (exfalso; omega) | contradiction | conv => whnf))
           refine Out.mk true [] [] ?_
           try (conv => whnf)
           exact ⟨by rw [hadd, hg]; try rfl, rfl⟩
         ·have e1 : decide (twin (w.take (j + 1)) more[i]) = decide (twin (w.take j) more[i]) := decide_eq_decide.2 ⟨fun h => ((twin_next hjl).1 h).resolve_right hs, fun h => (twin_next hjl).2 (.inl h)⟩
          try (conv => whnf)
          repeat' (first
           | (refine Need.mk ?_ ?_; (focus (omega)); conv => whnf)
           | (refine Pick.mk ?_ ?_ ?_; rotate_left; (focus (first | (with_reducible refine get_mapN _ _ _ ?_; first | omega | (simp; omega)) | (refine wid ?_ ?_ <;> omega) | (refine pick_nat _ _ _ ?_; omega))); conv => whnf)
           | (refine SeqJ.thru ?_; conv => whnf)
           | (refine br_dec (fun _ => ?_) (fun _ => ?_) <;> first | (exfalso; omega) | contradiction | conv => whnf)
           | (refine br_not ?_; conv => whnf)
           | (refine br_bne (fun _ => ?_) (fun _ => ?_) <;> first | (exfalso; omega) | contradiction | conv => whnf)
           | (refine br_beq (fun _ => ?_) (fun _ => ?_) <;> first | (exfalso; omega) | contradiction | conv => whnf))
          all_goals
           first
            | (exfalso; exact hs ⟨by assumption, by assumption⟩)
            |skip
             refine Pick.mk (j + 1) ⟨⟨by omega, all_next hjl htw fun h => absurd h hs⟩, by omega⟩ (LeX.of ?_)
             try (conv => whnf)
             repeat (refine Need.mk ?_ ?_; (focus (first | omega | (simp; done))); conv => whnf)
             refine Need.mk (by rw [e1]) ?_
             try (conv => whnf)
             repeat (refine Need.mk ?_ ?_; (focus (first | omega | (simp; done))); conv => whnf)
             trivial
        ·have hw1 : w.take j = w := List.take_of_length_le (by omega)
         rw [hw1] at htw
         simp only [hw1]
         rw [if_neg (by rintro ⟨x, h1, h2, h3⟩; exact h3 (htw x h1 h2))] at hg
         by_cases htwin : twin w more[i]
         ·rw [if_pos htwin] at hg
          try (conv => whnf)
          repeat' (first
           | (refine Pick.mk ?_ ?_ ?_; rotate_left; (focus ((refine wid ?_ ?_ <;> omega))); conv => whnf)
           | (refine SeqJ.thru ?_; conv => whnf)
           | (refine br_dec (fun _ => ?_) (fun _ => ?_) <;> first | (exfalso; omega) | contradiction | conv => whnf)
           | (refine br_not ?_; conv => whnf)
           | (refine br_bne (fun _ => ?_) (fun _ => ?_) <;> first | (exfalso; omega) | contradiction | conv => whnf)
           | (refine br_beq (fun _ => ?_) (fun _ => ?_) <;> first | (exfalso; omega) | contradiction | conv => whnf))
          refine Pick.mk (i + 1, w) ⟨⟨by simp only; omega, by simp only; omega, hwo, hg⟩, by simp only; omega⟩ (LeX.of ?_)
          try (conv => whnf)
          repeat (refine Need.mk ?_ ?_; (focus (first | omega | (simp; done))); conv => whnf)
          trivial
         ·rw [if_neg htwin] at hg
          try (conv => whnf)
          repeat' (first
           | (refine Pick.mk ?_ ?_ ?_; rotate_left; (focus ((refine pick_nat _ _ _ ?_; omega))); conv => whnf)
           | (refine SeqJ.thru ?_; conv => whnf)
           | (refine br_dec (fun _ => ?_) (fun _ => ?_) <;> first | (exfalso; omega) | contradiction | conv => whnf)
           | (refine br_not ?_; conv => whnf)
           | (refine br_bne (fun _ => ?_) (fun _ => ?_) <;> first | (exfalso; omega) | contradiction | conv => whnf)
           | (refine br_beq (fun _ => ?_) (fun _ => ?_) <;> first | (exfalso; omega) | contradiction | conv => whnf))
          refine Hand.mk [] ?_
          try (conv => whnf)
          refine CallW.d (s_l08CopyOp more[i] (hdl _ hoo)) ?_
          try (conv => whnf)
          repeat (first
           | (refine Need.mk ?_ ?_; (focus ((simp only [List.length_map, List.length_append, List.length_cons, List.length_nil, List.length_replicate]; omega))); conv => whnf)
           | (refine Pick.mk ?_ ?_ ?_; rotate_left; (focus (first | (simp only [List.length_map, List.length_append, List.length_cons, List.length_nil, List.length_replicate, Nat.zero_add]; rfl) | (simp only [chunks]; rfl) | (refine wid ?_ ?_ <;> omega) | (refine SlOf.full ?_; first | (simp; done) | (simp; omega)) | (refine SlF.self _ _ ?_ ?_; (first | rfl | omega | (simp; done) | (simp; omega)); (exact fun _ => rfl)) | ((fail_if_success (show @Eq (Option _) _ _)); rfl))); conv => whnf)
           | (refine OwnQ.mk false ?_; conv => whnf))
          refine Pick.mk (i + 1, w ++ [more[i]]) ⟨⟨by simp only; omega, by simp only [List.length_append, List.length_singleton]; omega, fun y hy => (List.mem_append.1 hy).elim (hwo y) fun h => by rw [List.mem_singleton.1 h]; exact hoo, hg⟩, by simp only; omega⟩ (LeX.of ?_)
          try (conv => whnf)
          repeat (refine Need.mk ?_ ?_; (focus (first | omega | (simp; done))); conv => whnf)
          refine Need.mk (by simp only [List.map_append]; rfl) ?_
          try (conv => whnf)
          trivial
     ·rw [List.drop_eq_nil_of_le (by omega), waitGo] at hg
      rw [hg] at hadd
      simp only at hadd
      try (conv => whnf)
      repeat' (first
       | (refine Pick.mk ?_ ?_ ?_; rotate_left; (focus (exact List.length_map _)); conv => whnf)
       | (refine SeqJ.thru ?_; conv => whnf)
       | (refine br_dec (fun _ => ?_) (fun _ => ?_) <;> first | (exfalso; omega) | contradiction | conv => whnf)
       | (refine br_not ?_; conv => whnf)
       | (refine br_bne (fun _ => ?_) (fun _ => ?_) <;> first | (exfalso; omega) | contradiction | conv => whnf)
       | (refine br_beq (fun _ => ?_) (fun _ => ?_) <;> first | (exfalso; omega) | contradiction | conv => whnf))
      refine Hand.mk [] ?_
      try (conv => whnf)
      refine CallW.k (s_l08CopyF log (by have := hok.len; omega) (fun o ho => hdl o (hok.good.all o ho))) ?_
      try (conv => whnf)
      refine LoopE.mk (fun x : List OpV × List OpV × Nat => mk [(7, vE), (9, vL x.2.1), (14, vL x.1), (15, vI .i64 x.2.2)] [])
       (fun x => LogOk x.1 ∧ (∀ y ∈ x.2.1, OpOk y) ∧ x.2.2 ≤ x.2.1.length ∧ x.2.1.length ≤ 1024 ∧ addL log more = addGo x.1 x.2.1 x.2.2) (fun x => x.2.1.length * 2000 + (x.2.1.length - x.2.2)) (log, w, 0) ⟨hok, hwo, by simp, by simp only; omega, hadd⟩ (LeX.of ?_) ?_
      ·try (conv => whnf)
       repeat (refine Need.mk ?_ ?_; (focus (first | exact SlF.self _ _ rfl (fun _ => rfl) | (simp only [List.length_map, List.length_append, List.length_cons, List.length_nil, List.length_replicate]; omega) | (simp; done))); conv => whnf)
       trivial
      ·rintro ⟨out, w, i⟩ ⟨ho, hwo, hi, hwl, hg⟩
       simp only at ho hwo hi hwl hg ⊢
       by_cases hlt : i < w.length
       ·have hoo := hwo _ (List.getElem_mem hlt)
        obtain ⟨a0, a1⟩ := hoo.st.2
        obtain ⟨q0, q1⟩ := hoo.seq
        have hle := ho.len
        have c1 := s_l08Counts out (fun o h => (ho.good.all o h).st.2) (by omega)
        have c2 := s_l08Causes out w[i] ho.good hoo (by omega)
        have hcn := cnts_get out (a := w[i].actor.toNat) (by omega)
        rw [show ((w[i].actor.toNat : Nat) : Int) = w[i].actor by omega] at hcn
        have hcl := cnts_length out
        have hol := own_le out w[i].actor
        by_cases hsq : w[i].seq = (own out w[i].actor).length + 1
        ·by_cases hca : Cause out w[i]
         ·have c3 := s_l08KindFits out w[i] (by omega)
          by_cases hkf : kfL out w[i]
          ·by_cases hn : out.length = 1024
           ·rw [addGo_many hlt ⟨hsq, hca⟩ hkf hn] at hg
            simp only [kfL] at hkf
            try (conv => whnf)
            repeat' (first
             | (refine Pick.mk ?_ ?_ ?_; rotate_left; (focus (first | exact List.length_map _ | (refine pick_nat _ _ _ ?_; omega))); conv => whnf)
             | (refine SeqJ.thru ?_; conv => whnf)
             | (refine br_dec (fun _ => ?_) (fun _ => ?_) <;> first | (exfalso; omega) | contradiction | conv => whnf)
             | (refine br_not ?_; conv => whnf)
             | (refine br_bne (fun _ => ?_) (fun _ => ?_) <;> first | (exfalso; omega) | contradiction | conv => whnf)
             | (refine br_beq (fun _ => ?_) (fun _ => ?_) <;> first | (exfalso; omega) | contradiction | conv => whnf))
            refine Hand.mk [] ?_
            try (conv => whnf)
            refine CallW.d (c1) ?_
            try (conv => whnf)
            repeat (first
             | (refine Need.mk ?_ ?_; (focus (omega)); conv => whnf)
             | (refine Pick.mk ?_ ?_ ?_; rotate_left; (focus (first | (with_reducible refine get_mapI _ _ _ ?_ ?_ <;> first | omega | (simp; omega)) | (refine wid ?_ ?_ <;> omega))); conv => whnf)
             | (refine SeqJ.thru ?_; conv => whnf))
            try (conv => whnf)
            repeat' (first
             | (refine br_dec (fun _ => ?_) (fun _ => ?_) <;> first | (exfalso; omega) | contradiction | conv => whnf)
             | (refine br_not ?_; conv => whnf)
             | (refine br_bne (fun _ => ?_) (fun _ => ?_) <;> first | (exfalso; omega) | contradiction | conv => whnf)
             | (refine br_beq (fun _ => ?_) (fun _ => ?_) <;> first | (exfalso; omega) | contradiction | conv => whnf))
            refine Hand.mk [] ?_
            try (conv => whnf)
            repeat (refine Pick.mk ?_ ?_ ?_; rotate_left; (focus ((refine SlF.self _ _ ?_ ?_; (first | rfl | omega | (simp; done) | (simp; omega)); (exact fun _ => rfl)))); conv => whnf)
            refine CallW.d (c2) ?_
            try (conv => whnf)
            try (conv => whnf)
            repeat' (first
             | (refine SeqJ.thru ?_; conv => whnf)
             | (refine br_dec (fun _ => ?_) (fun _ => ?_) <;> first | (exfalso; omega) | contradiction | conv => whnf)
             | (refine br_not ?_; conv => whnf)
             | (refine br_bne (fun _ => ?_) (fun _ => ?_) <;> first | (exfalso; omega) | contradiction | conv => whnf)
             | (refine br_beq (fun _ => ?_) (fun _ => ?_) <;> first | (exfalso; omega) | contradiction | conv => whnf))
            refine Hand.mk [] ?_
            try (conv => whnf)
            refine CallW.d (c3) ?_
            try (conv => whnf)
            try (conv => whnf)
            repeat' (first
             | (refine Pick.mk ?_ ?_ ?_; rotate_left; (focus (exact List.length_map _)); conv => whnf)
             | (refine SeqJ.thru ?_; conv => whnf)
             | (refine br_dec (fun _ => ?_) (fun _ => ?_) <;> first | (exfalso; omega) | contradiction | conv => whnf)
             | (refine br_not ?_; conv => whnf)
             | (refine br_bne (fun _ => ?_) (fun _ => ?_) <;> first | (exfalso; omega) | contradiction | conv => whnf)
             | (refine br_beq (fun _ => ?_) (fun _ => ?_) <;> first | (exfalso; omega) | contradiction | conv => whnf))
            refine Out.mk true [] [] ?_
            try (conv => whnf)
            exact ⟨by rw [hg]; try rfl, rfl⟩
           ·rw [addGo_put hlt ⟨hsq, hca⟩ hkf hn] at hg
            have hnew := ho.ins hoo ⟨hsq, hca⟩ hkf (by omega)
            simp only [kfL] at hkf
            try (conv => whnf)
            repeat' (first
             | (refine Pick.mk ?_ ?_ ?_; rotate_left; (focus (first | exact List.length_map _ | (refine pick_nat _ _ _ ?_; omega))); conv => whnf)
             | (refine SeqJ.thru ?_; conv => whnf)
             | (refine br_dec (fun _ => ?_) (fun _ => ?_) <;> first | (exfalso; omega) | contradiction | conv => whnf)
             | (refine br_not ?_; conv => whnf)
             | (refine br_bne (fun _ => ?_) (fun _ => ?_) <;> first | (exfalso; omega) | contradiction | conv => whnf)
             | (refine br_beq (fun _ => ?_) (fun _ => ?_) <;> first | (exfalso; omega) | contradiction | conv => whnf))
            refine Hand.mk [] ?_
            try (conv => whnf)
            refine CallW.d (c1) ?_
            try (conv => whnf)
            repeat (first
             | (refine Need.mk ?_ ?_; (focus (omega)); conv => whnf)
             | (refine Pick.mk ?_ ?_ ?_; rotate_left; (focus (first | (with_reducible refine get_mapI _ _ _ ?_ ?_ <;> first | omega | (simp; omega)) | (refine wid ?_ ?_ <;> omega))); conv => whnf)
             | (refine SeqJ.thru ?_; conv => whnf))
            try (conv => whnf)
            repeat' (first
             | (refine br_dec (fun _ => ?_) (fun _ => ?_) <;> first | (exfalso; omega) | contradiction | conv => whnf)
             | (refine br_not ?_; conv => whnf)
             | (refine br_bne (fun _ => ?_) (fun _ => ?_) <;> first | (exfalso; omega) | contradiction | conv => whnf)
             | (refine br_beq (fun _ => ?_) (fun _ => ?_) <;> first | (exfalso; omega) | contradiction | conv => whnf))
            refine Hand.mk [] ?_
            try (conv => whnf)
            repeat (refine Pick.mk ?_ ?_ ?_; rotate_left; (focus ((refine SlF.self _ _ ?_ ?_; (first | rfl | omega | (simp; done) | (simp; omega)); (exact fun _ => rfl)))); conv => whnf)
            refine CallW.d (c2) ?_
            try (conv => whnf)
            try (conv => whnf)
            repeat' (first
             | (refine SeqJ.thru ?_; conv => whnf)
             | (refine br_dec (fun _ => ?_) (fun _ => ?_) <;> first | (exfalso; omega) | contradiction | conv => whnf)
             | (refine br_not ?_; conv => whnf)
             | (refine br_bne (fun _ => ?_) (fun _ => ?_) <;> first | (exfalso; omega) | contradiction | conv => whnf)
             | (refine br_beq (fun _ => ?_) (fun _ => ?_) <;> first | (exfalso; omega) | contradiction | conv => whnf))
            refine Hand.mk [] ?_
            try (conv => whnf)
            refine CallW.d (c3) ?_
            try (conv => whnf)
            try (conv => whnf)
            repeat' (first
             | (refine Pick.mk ?_ ?_ ?_; rotate_left; (focus (exact List.length_map _)); conv => whnf)
             | (refine SeqJ.thru ?_; conv => whnf)
             | (refine br_dec (fun _ => ?_) (fun _ => ?_) <;> first | (exfalso; omega) | contradiction | conv => whnf)
             | (refine br_not ?_; conv => whnf)
             | (refine br_bne (fun _ => ?_) (fun _ => ?_) <;> first | (exfalso; omega) | contradiction | conv => whnf)
             | (refine br_beq (fun _ => ?_) (fun _ => ?_) <;> first | (exfalso; omega) | contradiction | conv => whnf))
            refine Hand.mk [] ?_
            try (conv => whnf)
            refine CallW.k (s_l08Insert out w[i] (by omega)) ?_
            try (conv => whnf)
            repeat (first
             | (refine Need.mk ?_ ?_; (focus (first | exact len_oD _ | (simp; omega))); conv => whnf)
             | (refine Pick.mk ?_ ?_ ?_; rotate_left; (focus (first | with_reducible exact sl_map0 _ _ _ | with_reducible exact sl_mapN _ _ _ | (refine bnd_id ?_; omega) | (refine bnd_int ?_ ?_ <;> omega) | exact List.length_map _ | (simp only [List.length_map, List.length_append, List.length_cons, List.length_nil, List.length_replicate, Nat.zero_add]; rfl) | with_reducible exact List.nil_append _ | with_reducible exact map_app _ _ _ | (simp only [chunks]; rfl) | (refine wid ?_ ?_ <;> omega) | (refine SlOf.full ?_; first | (simp; done) | (simp; omega)))); conv => whnf))
            refine Pick.mk (insL out w[i], w.take i ++ w.drop (i + 1), 0) ⟨⟨hnew, fun y hy => (List.mem_append.1 hy).elim (fun h => hwo y (List.mem_of_mem_take h)) fun h => hwo y (List.mem_of_mem_drop h), by simp, by simp; omega, hg⟩, by simp; omega⟩ (LeX.of ?_)
            try (conv => whnf)
            repeat (refine Need.mk ?_ ?_; (focus ((simp; done))); conv => whnf)
            refine Need.mk (by rw [show ((i : Int) + 1).toNat = i + 1 by omega]; exact SlF.self _ _ (by simp only [List.length_append]) (fun _ => rfl)) ?_
            try (conv => whnf)
            repeat (refine Need.mk ?_ ?_; (focus (first | (simp only [List.length_map, List.length_append, List.length_cons, List.length_nil, List.length_replicate]; omega) | (simp; done))); conv => whnf)
            trivial
          ·rw [addGo_kind hlt ⟨hsq, hca⟩ hkf] at hg
           simp only [kfL] at hkf
           try (conv => whnf)
           repeat' (first
            | (refine Pick.mk ?_ ?_ ?_; rotate_left; (focus (first | exact List.length_map _ | (refine pick_nat _ _ _ ?_; omega))); conv => whnf)
            | (refine SeqJ.thru ?_; conv => whnf)
            | (refine br_dec (fun _ => ?_) (fun _ => ?_) <;> first | (exfalso; omega) | contradiction | conv => whnf)
            | (refine br_not ?_; conv => whnf)
            | (refine br_bne (fun _ => ?_) (fun _ => ?_) <;> first | (exfalso; omega) | contradiction | conv => whnf)
            | (refine br_beq (fun _ => ?_) (fun _ => ?_) <;> first | (exfalso; omega) | contradiction | conv => whnf))
           refine Hand.mk [] ?_
           try (conv => whnf)
           refine CallW.d (c1) ?_
           try (conv => whnf)
           repeat (first
            | (refine Need.mk ?_ ?_; (focus (omega)); conv => whnf)
            | (refine Pick.mk ?_ ?_ ?_; rotate_left; (focus (first | (with_reducible refine get_mapI _ _ _ ?_ ?_ <;> first | omega | (simp; omega)) | (refine wid ?_ ?_ <;> omega))); conv => whnf)
            | (refine SeqJ.thru ?_; conv => whnf))
           try (conv => whnf)
           repeat' (first
            | (refine br_dec (fun _ => ?_) (fun _ => ?_) <;> first | (exfalso; omega) | contradiction | conv => whnf)
            | (refine br_not ?_; conv => whnf)
            | (refine br_bne (fun _ => ?_) (fun _ => ?_) <;> first | (exfalso; omega) | contradiction | conv => whnf)
            | (refine br_beq (fun _ => ?_) (fun _ => ?_) <;> first | (exfalso; omega) | contradiction | conv => whnf))
           refine Hand.mk [] ?_
           try (conv => whnf)
           repeat (refine Pick.mk ?_ ?_ ?_; rotate_left; (focus ((refine SlF.self _ _ ?_ ?_; (first | rfl | omega | (simp; done) | (simp; omega)); (exact fun _ => rfl)))); conv => whnf)
           refine CallW.d (c2) ?_
           try (conv => whnf)
           try (conv => whnf)
           repeat' (first
            | (refine SeqJ.thru ?_; conv => whnf)
            | (refine br_dec (fun _ => ?_) (fun _ => ?_) <;> first | (exfalso; omega) | contradiction | conv => whnf)
            | (refine br_not ?_; conv => whnf)
            | (refine br_bne (fun _ => ?_) (fun _ => ?_) <;> first | (exfalso; omega) | contradiction | conv => whnf)
            | (refine br_beq (fun _ => ?_) (fun _ => ?_) <;> first | (exfalso; omega) | contradiction | conv => whnf))
           refine Hand.mk [] ?_
           try (conv => whnf)
           refine CallW.d (c3) ?_
           try (conv => whnf)
           try (conv => whnf)
           repeat' (first
            | (refine br_dec (fun _ => ?_) (fun _ => ?_) <;> first | (exfalso; omega) | contradiction | conv => whnf)
            | (refine br_not ?_; conv => whnf)
            | (refine br_bne (fun _ => ?_) (fun _ => ?_) <;> first | (exfalso; omega) | contradiction | conv => whnf)
            | (refine br_beq (fun _ => ?_) (fun _ => ?_) <;> first | (exfalso; omega) | contradiction | conv => whnf))
           refine Out.mk true [] [] ?_
           try (conv => whnf)
           exact ⟨by rw [hg]; try rfl, rfl⟩
         ·rw [addGo_next hlt fun h => hca h.2] at hg
          try (conv => whnf)
          repeat' (first
           | (refine Pick.mk ?_ ?_ ?_; rotate_left; (focus (first | exact List.length_map _ | (refine pick_nat _ _ _ ?_; omega))); conv => whnf)
           | (refine SeqJ.thru ?_; conv => whnf)
           | (refine br_dec (fun _ => ?_) (fun _ => ?_) <;> first | (exfalso; omega) | contradiction | conv => whnf)
           | (refine br_not ?_; conv => whnf)
           | (refine br_bne (fun _ => ?_) (fun _ => ?_) <;> first | (exfalso; omega) | contradiction | conv => whnf)
           | (refine br_beq (fun _ => ?_) (fun _ => ?_) <;> first | (exfalso; omega) | contradiction | conv => whnf))
          refine Hand.mk [] ?_
          try (conv => whnf)
          refine CallW.d (c1) ?_
          try (conv => whnf)
          repeat (first
           | (refine Need.mk ?_ ?_; (focus (omega)); conv => whnf)
           | (refine Pick.mk ?_ ?_ ?_; rotate_left; (focus (first | (with_reducible refine get_mapI _ _ _ ?_ ?_ <;> first | omega | (simp; omega)) | (refine wid ?_ ?_ <;> omega))); conv => whnf)
           | (refine SeqJ.thru ?_; conv => whnf))
          try (conv => whnf)
          repeat' (first
           | (refine br_dec (fun _ => ?_) (fun _ => ?_) <;> first | (exfalso; omega) | contradiction | conv => whnf)
           | (refine br_not ?_; conv => whnf)
           | (refine br_bne (fun _ => ?_) (fun _ => ?_) <;> first | (exfalso; omega) | contradiction | conv => whnf)
           | (refine br_beq (fun _ => ?_) (fun _ => ?_) <;> first | (exfalso; omega) | contradiction | conv => whnf))
          refine Hand.mk [] ?_
          try (conv => whnf)
          repeat (refine Pick.mk ?_ ?_ ?_; rotate_left; (focus ((refine SlF.self _ _ ?_ ?_; (first | rfl | omega | (simp; done) | (simp; omega)); (exact fun _ => rfl)))); conv => whnf)
          refine CallW.d (c2) ?_
          try (conv => whnf)
          try (conv => whnf)
          repeat' (first
           | (refine Pick.mk ?_ ?_ ?_; rotate_left; (focus ((refine wid ?_ ?_ <;> omega))); conv => whnf)
           | (refine br_dec (fun _ => ?_) (fun _ => ?_) <;> first | (exfalso; omega) | contradiction | conv => whnf)
           | (refine br_not ?_; conv => whnf)
           | (refine br_bne (fun _ => ?_) (fun _ => ?_) <;> first | (exfalso; omega) | contradiction | conv => whnf)
           | (refine br_beq (fun _ => ?_) (fun _ => ?_) <;> first | (exfalso; omega) | contradiction | conv => whnf))
          refine Pick.mk (out, w, i + 1) ⟨⟨ho, hwo, by simp only; omega, hwl, hg⟩, by simp only; omega⟩ (LeX.of ?_)
          try (conv => whnf)
          repeat (refine Need.mk ?_ ?_; (focus (first | (simp only [List.length_map, List.length_append, List.length_cons, List.length_nil, List.length_replicate]; omega) | (simp; done))); conv => whnf)
          trivial
        ·rw [addGo_next hlt fun h => hsq h.1] at hg
         try (conv => whnf)
         repeat' (first
          | (refine Pick.mk ?_ ?_ ?_; rotate_left; (focus (first | exact List.length_map _ | (refine pick_nat _ _ _ ?_; omega))); conv => whnf)
          | (refine SeqJ.thru ?_; conv => whnf)
          | (refine br_dec (fun _ => ?_) (fun _ => ?_) <;> first | (exfalso; omega) | contradiction | conv => whnf)
          | (refine br_not ?_; conv => whnf)
          | (refine br_bne (fun _ => ?_) (fun _ => ?_) <;> first | (exfalso; omega) | contradiction | conv => whnf)
          | (refine br_beq (fun _ => ?_) (fun _ => ?_) <;> first | (exfalso; omega) | contradiction | conv => whnf))
         refine Hand.mk [] ?_
         try (conv => whnf)
         refine CallW.d (c1) ?_
         try (conv => whnf)
         repeat (first
          | (refine Need.mk ?_ ?_; (focus (omega)); conv => whnf)
          | (refine Pick.mk ?_ ?_ ?_; rotate_left; (focus (first | (with_reducible refine get_mapI _ _ _ ?_ ?_ <;> first | omega | (simp; omega)) | (refine wid ?_ ?_ <;> omega))); conv => whnf)
          | (refine SeqJ.thru ?_; conv => whnf))
         try (conv => whnf)
         repeat' (first
          | (refine Pick.mk ?_ ?_ ?_; rotate_left; (focus ((refine wid ?_ ?_ <;> omega))); conv => whnf)
          | (refine br_dec (fun _ => ?_) (fun _ => ?_) <;> first | (exfalso; omega) | contradiction | conv => whnf)
          | (refine br_not ?_; conv => whnf)
          | (refine br_bne (fun _ => ?_) (fun _ => ?_) <;> first | (exfalso; omega) | contradiction | conv => whnf)
          | (refine br_beq (fun _ => ?_) (fun _ => ?_) <;> first | (exfalso; omega) | contradiction | conv => whnf))
         refine Pick.mk (out, w, i + 1) ⟨⟨ho, hwo, by simp only; omega, hwl, hg⟩, by simp only; omega⟩ (LeX.of ?_)
         try (conv => whnf)
         repeat (refine Need.mk ?_ ?_; (focus (first | (simp only [List.length_map, List.length_append, List.length_cons, List.length_nil, List.length_replicate]; omega) | (simp; done))); conv => whnf)
         trivial
       ·rw [addGo_end hlt] at hg
        try (conv => whnf)
        repeat' (first
         | (refine Pick.mk ?_ ?_ ?_; rotate_left; (focus (exact List.length_map _)); conv => whnf)
         | (refine SeqJ.thru ?_; conv => whnf)
         | (refine br_dec (fun _ => ?_) (fun _ => ?_) <;> first | (exfalso; omega) | contradiction | conv => whnf)
         | (refine br_not ?_; conv => whnf)
         | (refine br_bne (fun _ => ?_) (fun _ => ?_) <;> first | (exfalso; omega) | contradiction | conv => whnf)
         | (refine br_beq (fun _ => ?_) (fun _ => ?_) <;> first | (exfalso; omega) | contradiction | conv => whnf))
        refine Out.mk true [] [] ?_
        try (conv => whnf)
        exact ⟨by rw [hg]; try rfl, rfl⟩
end Go.Proofs.Ytpdjehnlejjfmaa.D
/- The source that the laws draw from: bytes, numbers, words. -/
namespace Go.Proofs.Ytpdjehnlejjfmaa.D
open Go.RowKit
set_option maxRecDepth 100000
set_option linter.unusedVariables false
set_option linter.unusedSimpArgs false

abbrev srcR (code : List UInt8) (a s : Int) : Row := .box [cY code, cI a, cI s]
structure Src (code : List UInt8) (a s b : Int) : Prop where
 len : code.length ≤ 2 ^ 40
 lo : 0 ≤ a
 hi : a ≤ b
 slo : 0 ≤ s
 shi : s < 2147483648
theorem Src.mono {code : List UInt8} {a s b c : Int} (h : Src code a s b) (hc : b ≤ c) : Src code a s c := ⟨h.len, h.lo, Int.le_trans h.hi hc, h.slo, h.shi⟩
def Draws (code : List UInt8) (b : Int) (Q : SV → List Row → Prop) : SV → List Row → Prop :=
 fun r Lo => ∃ a' s' Lo', Lo = srcR code a' s' :: Lo' ∧ Src code a' s' b ∧ Q r Lo'
abbrev DI (Q : Int → Prop) : SV → List Row → Prop := fun r Lo => ∃ v, Lo = [] ∧ r = vI .i64 v ∧ Q v
abbrev DB (Q : Bool → Prop) : SV → List Row → Prop := fun r Lo => ∃ v, Lo = [] ∧ r = vB v ∧ Q v
abbrev DT (Q : List UInt8 → Prop) : SV → List Row → Prop := fun r Lo => ∃ v, Lo = [] ∧ r = vS (bs v) ∧ Q v
theorem s_l01Source (code : List UInt8) (hc : code.length ≤ 2 ^ 40) :
  CallM Try.prog id_spec_l01Source [vY code] [] [] false fun r Lo => ∃ s, Lo = [srcR code 0 s] ∧ r = .one (.ptr 0 0) ∧ Src code 0 s 0 := by
 refine F_spec_l01Source ?_
 try (conv => whnf)
 repeat (first
  | (refine Need.mk ?_ ?_; (focus (omega)); conv => whnf)
  | (refine Pick.mk ?_ ?_ ?_; rotate_left; (focus (first | exact List.length_map _ | (refine tmodn ?_; omega))); conv => whnf))
 refine Out.mk false [0, 1, 2, 3, 4] [] ?_
 try (conv => whnf)
 exact ⟨_, rfl, rfl, hc, by omega, by omega, by omega, by omega⟩
theorem tmod_lt {n : Int} (h0 : 0 ≤ n) (m : Int) (hm : 0 < m) : 0 ≤ n.tmod m ∧ n.tmod m < m := by
 rw [Int.tmod_eq_emod_of_nonneg h0]
 exact ⟨Int.emod_nonneg _ (by omega), Int.emod_lt_of_pos _ hm⟩
section
variable {code : List UInt8} {a s b : Int}
theorem s_byte (hS : Src code a s b) (hb : b ≤ 2 ^ 60) :
  CallM Try.prog id_spec_l01Src_byte [.one (.ptr 0 0)] [srcR code a s] [] false (Draws code (b + 1) (DI fun v => 0 ≤ v ∧ v ≤ 255)) := by
 refine F_spec_l01Src_byte ?_
 obtain ⟨hc, h0, h1, h2, h3⟩ := hS
 try (conv => whnf)
 repeat' (first
  | (refine Need.mk ?_ ?_; (focus (omega)); conv => whnf)
  | (refine Pick.mk ?_ ?_ ?_; rotate_left; (focus (first | exact List.length_map _ | (refine wid ?_ ?_ <;> omega) | exact wby _ | (refine tmodn ?_; omega) | (refine wdiv ?_ ?_ ?_ <;> omega) | (refine pick_int _ _ _ ?_ ?_ <;> omega) | ((fail_if_success (show @Eq (Option _) _ _)); rfl))); conv => whnf)
  | (refine SeqJ.thru ?_; conv => whnf)
  | (refine br_dec (fun _ => ?_) (fun _ => ?_) <;> first | (exfalso; omega) | contradiction | conv => whnf)
  | (refine br_not ?_; conv => whnf)
  | (refine br_bne (fun _ => ?_) (fun _ => ?_) <;> first | (exfalso; omega) | contradiction | conv => whnf)
  | (refine br_beq (fun _ => ?_) (fun _ => ?_) <;> first | (exfalso; omega) | contradiction | conv => whnf))
 ·refine Out.mk false [0, 1, 2, 3, 4] [] ?_
  try (conv => whnf)
  have hb := byLt (code[(a + 1 - 1).toNat]'(by omega))
  rw [wid (x := s * 31 + _) (by omega) (by omega), wid (by omega) (by omega)]
  have ht := tmod_lt (n := s * 31 + ((code[(a + 1 - 1).toNat]'(by omega)).toNat : Int) + 7) (by omega) 2147483648 (by omega)
  exact ⟨a + 1, _, [], rfl, ⟨hc, by omega, by omega, ht.1, ht.2⟩, _, rfl, rfl, by omega, by omega⟩
 ·refine Out.mk false [0, 1, 2, 3, 4] [] ?_
  try (conv => whnf)
  exact ⟨a + 1, s, [], rfl, ⟨hc, by omega, by omega, by omega, by omega⟩, _, rfl, rfl, by omega, by omega⟩
 ·refine Out.mk false [0, 1, 2, 3, 4] [] ?_
  try (conv => whnf)
  exact ⟨a + 1, _, [], rfl, ⟨hc, by omega, by omega, by omega, by omega⟩, _, rfl, rfl, by omega, by omega⟩
theorem s_next (hS : Src code a s b) (hb : b ≤ 2 ^ 59) (n : Int) (hn : n ≤ 2 ^ 62) :
  CallM Try.prog id_spec_l01Src_next [.one (.ptr 0 0), vI .i64 n] [srcR code a s] [] false (Draws code (b + 3) (DI fun v => 0 ≤ v ∧ (v < n ∨ v = 0))) := by
 refine F_spec_l01Src_next ?_
 try (conv => whnf)
 repeat' (first
  | (refine SeqJ.thru ?_; conv => whnf)
  | (refine br_dec (fun _ => ?_) (fun _ => ?_) <;> first | (exfalso; omega) | contradiction | conv => whnf)
  | (refine br_not ?_; conv => whnf)
  | (refine br_bne (fun _ => ?_) (fun _ => ?_) <;> first | (exfalso; omega) | contradiction | conv => whnf)
  | (refine br_beq (fun _ => ?_) (fun _ => ?_) <;> first | (exfalso; omega) | contradiction | conv => whnf))
 ·refine Out.mk false [0, 1, 2, 3, 4] [] ?_
  try (conv => whnf)
  exact ⟨a, s, [], rfl, hS.mono (by omega), _, rfl, rfl, by omega, by omega⟩
 ·refine Hand.mk [] ?_
  try (conv => whnf)
  refine CallW.n (s_byte hS (by omega)) ?_
  rintro _ _ ⟨a1, s1, _, rfl, hS1, v1, rfl, rfl, hv1⟩
  try (conv => whnf)
  repeat (first
   | (refine Need.mk ?_ ?_; (focus (omega)); conv => whnf)
   | (refine Pick.mk ?_ ?_ ?_; rotate_left; (focus ((refine tmodn ?_; omega))); conv => whnf))
  refine Out.mk false [0, 1, 2, 3, 4] [] ?_
  try (conv => whnf)
  have := Int.emod_nonneg v1 (show n ≠ 0 by omega)
  have := Int.emod_lt_of_pos v1 (show 0 < n by omega)
  exact ⟨_, _, [], rfl, hS1.mono (by omega), _, rfl, rfl, by omega, by omega⟩
 ·refine Hand.mk [] ?_
  try (conv => whnf)
  refine CallW.n (s_byte hS (by omega)) ?_
  rintro _ _ ⟨a1, s1, _, rfl, hS1, v1, rfl, rfl, hv1⟩
  try (conv => whnf)
  repeat (refine Pick.mk ?_ ?_ ?_; rotate_left; (focus ((refine wid ?_ ?_ <;> omega))); conv => whnf)
  refine Hand.mk [] ?_
  try (conv => whnf)
  refine CallW.n (s_byte hS1 (by omega)) ?_
  rintro _ _ ⟨a2, s2, _, rfl, hS2, v2, rfl, rfl, hv2⟩
  try (conv => whnf)
  repeat (refine Pick.mk ?_ ?_ ?_; rotate_left; (focus ((refine wid ?_ ?_ <;> omega))); conv => whnf)
  refine Hand.mk [] ?_
  try (conv => whnf)
  refine CallW.n (s_byte hS2 (by omega)) ?_
  rintro _ _ ⟨a3, s3, _, rfl, hS3, v3, rfl, rfl, hv3⟩
  try (conv => whnf)
  repeat (first
   | (refine Need.mk ?_ ?_; (focus (omega)); conv => whnf)
   | (refine Pick.mk ?_ ?_ ?_; rotate_left; (focus (first | (refine wid ?_ ?_ <;> omega) | (refine tmodn ?_; omega))); conv => whnf))
  refine Out.mk false [0, 1, 2, 3, 4] [] ?_
  try (conv => whnf)
  have := Int.emod_nonneg (v1 * 65536 + v2 * 256 + v3) (show n ≠ 0 by omega)
  have := Int.emod_lt_of_pos (v1 * 65536 + v2 * 256 + v3) (show 0 < n by omega)
  exact ⟨_, _, [], rfl, hS3.mono (by omega), _, rfl, rfl, by omega, by omega⟩
theorem s_chance (hS : Src code a s b) (hb : b ≤ 2 ^ 59) (n : Int) (h0 : 0 ≤ n) (hn : n ≤ 2 ^ 62) :
  CallM Try.prog id_spec_l01Src_chance [.one (.ptr 0 0), vI .i64 n] [srcR code a s] [] false (Draws code (b + 3) (DB fun v => True)) := by
 refine F_spec_l01Src_chance ?_
 try (conv => whnf)
 refine Hand.mk [] ?_
 try (conv => whnf)
 refine CallW.n (s_next hS hb n hn) ?_
 rintro _ _ ⟨a1, s1, _, rfl, hS1, v1, rfl, rfl, hv1⟩
 try (conv => whnf)
 repeat (refine Pick.mk ?_ ?_ ?_; rotate_left; (focus ((refine wid ?_ ?_ <;> omega))); conv => whnf)
 refine Out.mk false [0, 1, 2, 3, 4] [] ?_
 try (conv => whnf)
 exact ⟨_, _, [], rfl, hS1, _, rfl, rfl, trivial⟩
def isT (k : Nat) : List DV → Bool
 | [.sc (.string s)] => Nat.ble s.size k
 | _ => false
theorem pickT {es : List (List DV)} {n : Nat} {X : List DV → Prop} (k : Nat) (hk : es.all (isT k) = true) (hn : n < es.length) (h : ∀ t : List UInt8, t.length ≤ k → X (stD (bs t))) : Pick (fun c => es[n]? = some c) X := by
 have h1 := List.all_eq_true.1 hk es[n] (List.getElem_mem _)
 have h2 : es[n]? = some es[n] := List.getElem?_eq_getElem hn
 unfold isT at h1
 split at h1
 ·rename_i s he
  obtain ⟨t, rfl⟩ := bs_all s
  exact ⟨_, h2.trans (by rw [he]), h t (by simpa using Nat.le_of_ble_eq_true h1)⟩
 ·simp at h1
def isI (p : Int → Bool) : List DV → Bool
 | [.sc (.int .i64 n)] => p n
 | _ => false
theorem pickI {es : List (List DV)} {n : Nat} {X : List DV → Prop} (p : Int → Bool) (hk : es.all (isI p) = true) (hn : n < es.length) (h : ∀ x : Int, p x = true → X (inD x)) : Pick (fun c => es[n]? = some c) X := by
 have h1 := List.all_eq_true.1 hk es[n] (List.getElem_mem _)
 have h2 : es[n]? = some es[n] := List.getElem?_eq_getElem hn
 unfold isI at h1
 split at h1
 ·rename_i x he
  exact ⟨_, h2.trans (by rw [he]), h x h1⟩
 ·simp at h1
theorem s_word (hS : Src code a s b) (hb : b ≤ 2 ^ 59) :
  CallM Try.prog id_spec_l01Src_word [.one (.ptr 0 0)] [srcR code a s] [] false (Draws code (b + 3) (DT fun v => v.length ≤ 5)) := by
 refine F_spec_l01Src_word ?_
 try (conv => whnf)
 repeat (refine Pick.mk ?_ ?_ ?_; rotate_left; (focus ((simp only [chunks]; rfl))); conv => whnf)
 refine Hand.mk [] ?_
 try (conv => whnf)
 refine CallW.n (s_next hS hb 10 (by omega)) ?_
 rintro _ _ ⟨a1, s1, _, rfl, hS1, v1, rfl, rfl, hv1⟩
 try (conv => whnf)
 repeat (refine Need.mk ?_ ?_; (focus (omega)); conv => whnf)
 refine pickT 5 rfl (by rw [addN_eq]; show _ < 10; omega) fun t ht => ?_
 try (conv => whnf)
 refine Out.mk false [0, 1, 2, 3, 4] [] ?_
 try (conv => whnf)
 exact ⟨_, _, [], rfl, hS1, _, rfl, rfl, ht⟩
end
end Go.Proofs.Ytpdjehnlejjfmaa.D
/- Vectors as they are drawn. -/
namespace Go.Proofs.Ytpdjehnlejjfmaa.D
open Go.RowKit
set_option maxRecDepth 100000
set_option linter.unusedVariables false
set_option linter.unusedSimpArgs false
theorem s_l02NewV : CallD Try.prog id_spec_l02New [] [] (.agg [.os (.v 0) 1 0 16]) [.own 1 ((List.replicate 16 0).map inD)] := by
 refine F_spec_l02New ?_
 try (conv => whnf)
 repeat (first
  | (refine Need.mk ?_ ?_; (focus (omega)); conv => whnf)
  | (refine Pick.mk ?_ ?_ ?_; rotate_left; (focus (first | (simp only [List.length_map, List.length_append, List.length_cons, List.length_nil, List.length_replicate, Nat.zero_add]; rfl) | exact natlit _)); conv => whnf))
 refine Out.mk false [0, 1, 2, 3, 4] [] ?_
 try (conv => whnf)
 repeat (refine Need.mk ?_ ?_; (focus ((first | exact flat_by _ | exact flat_in _ | exact flat_st _ | exact flat_ts _ | exact flat_bo _ | exact flat_cl rfl))); conv => whnf)
 exact ⟨rfl, rfl⟩
abbrev DN (Q : List Int → Prop) : SV → List Row → Prop := fun r Lo => ∃ v, Lo = [] ∧ r = vV v ∧ Q v
section
variable {code : List UInt8} {a s b : Int}
theorem s_vector (hS : Src code a s b) (hb : b ≤ 2 ^ 58) :
  CallM Try.prog id_spec_l01Src_vector [.one (.ptr 0 0)] [srcR code a s] [] false (Draws code (b + 12) fun r Lo => ∃ v : List Int, Lo = [.own 1 (v.map inD)] ∧ r = .agg [.os (.v 1) 1 0 16] ∧ v.length = 16) := by
 refine F_spec_l01Src_vector ?_
 try (conv => whnf)
 refine Hand.mk [] ?_
 try (conv => whnf)
 refine CallW.d (s_l02NewV) ?_
 try (conv => whnf)
 refine LoopE.mk (fun (x : Nat × Int × Int × List Int) => mk [(0, .one (.ptr 0 0)), (2, .one (.ptr 4096 0)), (3, .one (.ptr 8208 0)), (4, vI .i64 x.1)] [(0, srcR code x.2.1 x.2.2.1), (4096, .box [.nil]), (8208, .box [.os (.v 8192) 1 0 16]), (8192, .own 1 (x.2.2.2.map inD))])
  (fun x => x.1 ≤ 4 ∧ x.2.2.2.length = 16 ∧ Src code x.2.1 x.2.2.1 (b + 3 * x.1)) (fun x => 4 - x.1) (0, a, s, List.replicate 16 0) ⟨by simp only []; omega, rfl, hS.mono (by simp)⟩ (LeX.of ?_) ?_
 ·try (conv => whnf)
  repeat (refine Need.mk ?_ ?_; (focus (first | omega | (simp; done))); conv => whnf)
  trivial
 ·rintro ⟨i, a, s, l⟩ ⟨hi, hl, hS⟩
  dsimp only at hi hl hS ⊢
  try (conv => whnf)
  repeat' (first
   | (refine SeqJ.thru ?_; conv => whnf)
   | (refine br_dec (fun _ => ?_) (fun _ => ?_) <;> first | (exfalso; omega) | contradiction | conv => whnf)
   | (refine br_not ?_; conv => whnf)
   | (refine br_bne (fun _ => ?_) (fun _ => ?_) <;> first | (exfalso; omega) | contradiction | conv => whnf)
   | (refine br_beq (fun _ => ?_) (fun _ => ?_) <;> first | (exfalso; omega) | contradiction | conv => whnf))
  ·refine Hand.mk [] ?_
   try (conv => whnf)
   refine CallW.n (s_next hS (by omega) 5 (by omega)) ?_
   rintro _ _ ⟨a1, s1, _, rfl, hS1, v1, rfl, rfl, hv1⟩
   try (conv => whnf)
   repeat (first
    | (refine Need.mk ?_ ?_; (focus (first | omega | (simp only [List.length_map, List.length_append, List.length_cons, List.length_nil, List.length_replicate]; omega) | ((conv => whnf); (repeat (first | (refine Need.mk (by first | rfl | omega | (simp; done)) ?_; conv => whnf) | (refine Pick.mk ?_ ?_ ?_; rotate_left; (focus (first | with_reducible exact xor_u8 _ _ | (with_reducible refine xor_i64 ?_ ?_; all_goals omega) | (with_reducible refine xor_u32 ?_ ?_; all_goals omega) | assumption | with_reducible exact set_byN _ _ _ _ | with_reducible exact set_byI _ _ _ _ | with_reducible exact set_inN _ _ _ _ | with_reducible exact set_inI _ _ _ _ | with_reducible exact set_stN _ _ _ _ | with_reducible exact set_tsN _ _ _ _ | with_reducible exact set_tsI _ _ _ _ | with_reducible exact set_boN _ _ _ _ | with_reducible exact set_boI _ _ _ _ | (with_reducible refine get_mapN _ _ _ ?_; first | omega | (simp; omega)) | (with_reducible refine get_mapI _ _ _ ?_ ?_ <;> first | omega | (simp; omega)) | exact bs_beq _ _ | exact bs_less _ _ | exact bs_leq _ _ | with_reducible exact bs_app _ _ | (refine bs_get _ _ ?_; omega) | (refine bs_int _ _ ?_ ?_ <;> omega) | with_reducible exact sl_map0 _ _ _ | with_reducible exact sl_mapN _ _ _ | with_reducible exact sl_map _ _ _ _ | exact bs_extract0 _ _ | exact bs_extractN _ _ | exact bs_extract _ _ _ | (refine bnd_id ?_; omega) | (refine bnd_sub ?_ ?_ <;> omega) | (refine bnd_add ?_; omega) | (refine bnd_subN ?_ ?_ <;> omega) | (refine bnd_int ?_ ?_ <;> omega) | ((show @Eq Nat (_ + Int.toNat _ * _) _); simp only [Int.toNat_natCast, Nat.zero_add, Nat.mul_one]; rfl) | ((show @Eq (List _) (List.set [_] _ _) _); simp only [List.set_cons_zero]; rfl) | exact List.length_map _ | exact size_bs _ | (simp only [List.length_map, List.length_append, List.length_cons, List.length_nil, List.length_replicate, Nat.zero_add]; rfl) | with_reducible exact List.nil_append _ | with_reducible exact map_app _ _ _ | exact map_snoc byD _ _ | exact map_snoc inD _ _ | exact map_snoc stD _ _ | exact map_snoc tsD _ _ | (simp only [chunks]; rfl) | (refine wid ?_ ?_ <;> omega) | exact wby _ | with_reducible exact wby32 _ | with_reducible exact wu32 _ | exact wby64 _ | exact shr8 _ | exact shr16 _ | exact shr24 _ | exact shr32 _ | (refine tmodn ?_; omega) | (refine wdiv ?_ ?_ ?_ <;> omega) | exact wbyte _ | exact natlit _ | exact rep_by _ | exact rep_in _ | exact rep_bo _ | exact rep_st _ | (refine pick_nat _ _ _ ?_; omega) | (refine pick_int _ _ _ ?_ ?_ <;> omega) | (refine SlOf.full ?_; first | (simp; done) | (simp; omega)) | (with_reducible refine SlOf.pre _ _ ?_; first | omega | (simp; omega)) | (refine SlF.self _ _ ?_ ?_; (first | rfl | omega | (simp; done) | (simp; omega)); (exact fun _ => rfl)) | (refine SlF.pre _ _ ?_ ?_; (first | omega | (simp; omega)); (exact fun _ => rfl)) | (refine SlF.same ?_ ?_; (first | rfl | omega | (simp; done) | (simp; omega)); (first | exact fz_self _ _ (fun _ => rfl) | exact fz_pl rfl | (refine Fz.append ?_ ?_ <;> first | exact fz_self _ _ (fun _ => rfl) | exact fz_pl rfl) | (refine Fz.append (Fz.append ?_ ?_) ?_ <;> first | exact fz_self _ _ (fun _ => rfl) | exact fz_pl rfl))) | (simp only [Int.toNat_natCast, Nat.zero_add, Nat.mul_one]; rfl) | ((show @Eq (Option CV) _ _); rfl) | ((fail_if_success (show @Eq (Option _) _ _)); rfl) | ((show @Eq (Option _) _ _); simp only [List.getElem?_cons_zero, List.getElem?_cons_succ]; done) | ((show @Eq (Option _) _ _); simp only [List.getElem?_cons_zero, List.getElem?_cons_succ]; rfl) | with_reducible rfl)); conv => whnf))); exact Done.mk trivial))); conv => whnf)
    | (refine Pick.mk ?_ ?_ ?_; rotate_left; (focus (first | with_reducible exact set_inN _ _ _ _ | (with_reducible refine get_mapN _ _ _ ?_; first | omega | (simp; omega)) | (refine wid ?_ ?_ <;> omega))); conv => whnf))
   refine Pick.mk (i + 1, a1, s1, l.set i v1) ⟨⟨by dsimp only; omega, by simp; exact hl, hS1.mono (by simp; omega)⟩, by dsimp only; omega⟩ (LeX.of ?_)
   try (conv => whnf)
   repeat (refine Need.mk ?_ ?_; (focus (first | omega | (simp; done))); conv => whnf)
   trivial
  ·refine Out.mk false [0, 1, 2, 3, 4] [] ?_
   try (conv => whnf)
   exact ⟨_, _, _, rfl, hS.mono (by omega), _, rfl, rfl, hl⟩
theorem s_oddVector (hS : Src code a s b) (hb : b ≤ 2 ^ 57) :
  CallM Try.prog id_spec_l01Src_oddVector [.one (.ptr 0 0)] [srcR code a s] [] false (Draws code (b + 30) (DN fun v => v.length ≤ 17)) := by
 refine F_spec_l01Src_oddVector ?_
 try (conv => whnf)
 refine Hand.mk [] ?_
 try (conv => whnf)
 refine CallW.n (s_vector hS (by omega)) ?_
 rintro _ _ ⟨a1, s1, _, rfl, hS1, v1, rfl, rfl, hv1⟩
 try (conv => whnf)
 refine Hand.mk [] ?_
 try (conv => whnf)
 refine CallW.n (s_next hS1 (by omega) 14 (by omega)) ?_
 rintro _ _ ⟨a2, s2, _, rfl, hS2, v2, rfl, rfl, hv2⟩
 try (conv => whnf)
 try (conv => whnf)
 repeat' (first
  | (refine Need.mk ?_ ?_; (focus (first | omega | rfl)); conv => whnf)
  | (refine Pick.mk ?_ ?_ ?_; rotate_left; (focus (first | (simp only [List.length_map, List.length_append, List.length_cons, List.length_nil, List.length_replicate, Nat.zero_add]; rfl) | exact map_snoc inD _ _ | (simp only [chunks]; rfl) | (refine SlOf.full ?_; first | (simp; done) | (simp; omega)))); conv => whnf)
  | (refine br_dec (fun _ => ?_) (fun _ => ?_) <;> first | (exfalso; omega) | contradiction | conv => whnf)
  | (refine br_not ?_; conv => whnf)
  | (refine br_bne (fun _ => ?_) (fun _ => ?_) <;> first | (exfalso; omega) | contradiction | conv => whnf)
  | (refine br_beq (fun _ => ?_) (fun _ => ?_) <;> first | (exfalso; omega) | contradiction | conv => whnf))
 ·refine Hand.mk [] ?_
  try (conv => whnf)
  refine CallW.n (s_next hS2 (by omega) 17 (by omega)) ?_
  rintro _ _ ⟨a3, s3, _, rfl, hS3, v3, rfl, rfl, hv3⟩
  try (conv => whnf)
  repeat (first
   | (refine Need.mk ?_ ?_; (focus (((conv => whnf); (repeat (first | (refine Need.mk (by first | rfl | omega | (simp; done)) ?_; conv => whnf) | (refine Pick.mk ?_ ?_ ?_; rotate_left; (focus (first | with_reducible exact xor_u8 _ _ | (with_reducible refine xor_i64 ?_ ?_; all_goals omega) | (with_reducible refine xor_u32 ?_ ?_; all_goals omega) | assumption | with_reducible exact set_byN _ _ _ _ | with_reducible exact set_byI _ _ _ _ | with_reducible exact set_inN _ _ _ _ | with_reducible exact set_inI _ _ _ _ | with_reducible exact set_stN _ _ _ _ | with_reducible exact set_tsN _ _ _ _ | with_reducible exact set_tsI _ _ _ _ | with_reducible exact set_boN _ _ _ _ | with_reducible exact set_boI _ _ _ _ | (with_reducible refine get_mapN _ _ _ ?_; first | omega | (simp; omega)) | (with_reducible refine get_mapI _ _ _ ?_ ?_ <;> first | omega | (simp; omega)) | exact bs_beq _ _ | exact bs_less _ _ | exact bs_leq _ _ | with_reducible exact bs_app _ _ | (refine bs_get _ _ ?_; omega) | (refine bs_int _ _ ?_ ?_ <;> omega) | with_reducible exact sl_map0 _ _ _ | with_reducible exact sl_mapN _ _ _ | with_reducible exact sl_map _ _ _ _ | exact bs_extract0 _ _ | exact bs_extractN _ _ | exact bs_extract _ _ _ | (refine bnd_id ?_; omega) | (refine bnd_sub ?_ ?_ <;> omega) | (refine bnd_add ?_; omega) | (refine bnd_subN ?_ ?_ <;> omega) | (refine bnd_int ?_ ?_ <;> omega) | ((show @Eq Nat (_ + Int.toNat _ * _) _); simp only [Int.toNat_natCast, Nat.zero_add, Nat.mul_one]; rfl) | ((show @Eq (List _) (List.set [_] _ _) _); simp only [List.set_cons_zero]; rfl) | exact List.length_map _ | exact size_bs _ | (simp only [List.length_map, List.length_append, List.length_cons, List.length_nil, List.length_replicate, Nat.zero_add]; rfl) | with_reducible exact List.nil_append _ | with_reducible exact map_app _ _ _ | exact map_snoc byD _ _ | exact map_snoc inD _ _ | exact map_snoc stD _ _ | exact map_snoc tsD _ _ | (simp only [chunks]; rfl) | (refine wid ?_ ?_ <;> omega) | exact wby _ | with_reducible exact wby32 _ | with_reducible exact wu32 _ | exact wby64 _ | exact shr8 _ | exact shr16 _ | exact shr24 _ | exact shr32 _ | (refine tmodn ?_; omega) | (refine wdiv ?_ ?_ ?_ <;> omega) | exact wbyte _ | exact natlit _ | exact rep_by _ | exact rep_in _ | exact rep_bo _ | exact rep_st _ | (refine pick_nat _ _ _ ?_; omega) | (refine pick_int _ _ _ ?_ ?_ <;> omega) | (refine SlOf.full ?_; first | (simp; done) | (simp; omega)) | (with_reducible refine SlOf.pre _ _ ?_; first | omega | (simp; omega)) | (refine SlF.self _ _ ?_ ?_; (first | rfl | omega | (simp; done) | (simp; omega)); (exact fun _ => rfl)) | (refine SlF.pre _ _ ?_ ?_; (first | omega | (simp; omega)); (exact fun _ => rfl)) | (refine SlF.same ?_ ?_; (first | rfl | omega | (simp; done) | (simp; omega)); (first | exact fz_self _ _ (fun _ => rfl) | exact fz_pl rfl | (refine Fz.append ?_ ?_ <;> first | exact fz_self _ _ (fun _ => rfl) | exact fz_pl rfl) | (refine Fz.append (Fz.append ?_ ?_) ?_ <;> first | exact fz_self _ _ (fun _ => rfl) | exact fz_pl rfl))) | (simp only [Int.toNat_natCast, Nat.zero_add, Nat.mul_one]; rfl) | ((show @Eq (Option CV) _ _); rfl) | ((fail_if_success (show @Eq (Option _) _ _)); rfl) | ((show @Eq (Option _) _ _); simp only [List.getElem?_cons_zero, List.getElem?_cons_succ]; done) | ((show @Eq (Option _) _ _); simp only [List.getElem?_cons_zero, List.getElem?_cons_succ]; rfl) | with_reducible rfl)); conv => whnf))); exact Done.mk trivial))); conv => whnf)
   | (refine Pick.mk ?_ ?_ ?_; rotate_left; (focus ((refine bnd_int ?_ ?_ <;> omega))); conv => whnf))
  have hb0 : v3 = (v3.toNat : Int) ∧ v3.toNat ≤ 16 := ⟨by omega, by omega⟩
  try (conv => whnf)
  refine Out.mk true [] [] ?_
  try (conv => whnf)
  repeat (refine Pick.mk ?_ ?_ ?_; rotate_left; (focus ((refine SlF.pre _ _ ?_ ?_; (first | omega | (simp; omega)); (exact fun _ => rfl)))); conv => whnf)
  exact ⟨_, _, [], rfl, hS3.mono (by omega), _, rfl, rfl, by simp; omega⟩
 ·refine Need.mk ?_ ?_
  ·try (conv => whnf)
   refine Hand.mk [] ?_
   try (conv => whnf)
   refine CallW.n (s_next hS2 (by omega) 16 (by omega)) ?_
   rintro _ _ ⟨a3, s3, _, rfl, hS3, v3, rfl, rfl, hv3⟩
   try (conv => whnf)
   repeat (refine Need.mk ?_ ?_; (focus (((conv => whnf); (repeat (first | (refine Need.mk (by first | rfl | omega | (simp; done)) ?_; conv => whnf) | (refine Pick.mk ?_ ?_ ?_; rotate_left; (focus (first | with_reducible exact xor_u8 _ _ | (with_reducible refine xor_i64 ?_ ?_; all_goals omega) | (with_reducible refine xor_u32 ?_ ?_; all_goals omega) | assumption | with_reducible exact set_byN _ _ _ _ | with_reducible exact set_byI _ _ _ _ | with_reducible exact set_inN _ _ _ _ | with_reducible exact set_inI _ _ _ _ | with_reducible exact set_stN _ _ _ _ | with_reducible exact set_tsN _ _ _ _ | with_reducible exact set_tsI _ _ _ _ | with_reducible exact set_boN _ _ _ _ | with_reducible exact set_boI _ _ _ _ | (with_reducible refine get_mapN _ _ _ ?_; first | omega | (simp; omega)) | (with_reducible refine get_mapI _ _ _ ?_ ?_ <;> first | omega | (simp; omega)) | exact bs_beq _ _ | exact bs_less _ _ | exact bs_leq _ _ | with_reducible exact bs_app _ _ | (refine bs_get _ _ ?_; omega) | (refine bs_int _ _ ?_ ?_ <;> omega) | with_reducible exact sl_map0 _ _ _ | with_reducible exact sl_mapN _ _ _ | with_reducible exact sl_map _ _ _ _ | exact bs_extract0 _ _ | exact bs_extractN _ _ | exact bs_extract _ _ _ | (refine bnd_id ?_; omega) | (refine bnd_sub ?_ ?_ <;> omega) | (refine bnd_add ?_; omega) | (refine bnd_subN ?_ ?_ <;> omega) | (refine bnd_int ?_ ?_ <;> omega) | ((show @Eq Nat (_ + Int.toNat _ * _) _); simp only [Int.toNat_natCast, Nat.zero_add, Nat.mul_one]; rfl) | ((show @Eq (List _) (List.set [_] _ _) _); simp only [List.set_cons_zero]; rfl) | exact List.length_map _ | exact size_bs _ | (simp only [List.length_map, List.length_append, List.length_cons, List.length_nil, List.length_replicate, Nat.zero_add]; rfl) | with_reducible exact List.nil_append _ | with_reducible exact map_app _ _ _ | exact map_snoc byD _ _ | exact map_snoc inD _ _ | exact map_snoc stD _ _ | exact map_snoc tsD _ _ | (simp only [chunks]; rfl) | (refine wid ?_ ?_ <;> omega) | exact wby _ | with_reducible exact wby32 _ | with_reducible exact wu32 _ | exact wby64 _ | exact shr8 _ | exact shr16 _ | exact shr24 _ | exact shr32 _ | (refine tmodn ?_; omega) | (refine wdiv ?_ ?_ ?_ <;> omega) | exact wbyte _ | exact natlit _ | exact rep_by _ | exact rep_in _ | exact rep_bo _ | exact rep_st _ | (refine pick_nat _ _ _ ?_; omega) | (refine pick_int _ _ _ ?_ ?_ <;> omega) | (refine SlOf.full ?_; first | (simp; done) | (simp; omega)) | (with_reducible refine SlOf.pre _ _ ?_; first | omega | (simp; omega)) | (refine SlF.self _ _ ?_ ?_; (first | rfl | omega | (simp; done) | (simp; omega)); (exact fun _ => rfl)) | (refine SlF.pre _ _ ?_ ?_; (first | omega | (simp; omega)); (exact fun _ => rfl)) | (refine SlF.same ?_ ?_; (first | rfl | omega | (simp; done) | (simp; omega)); (first | exact fz_self _ _ (fun _ => rfl) | exact fz_pl rfl | (refine Fz.append ?_ ?_ <;> first | exact fz_self _ _ (fun _ => rfl) | exact fz_pl rfl) | (refine Fz.append (Fz.append ?_ ?_) ?_ <;> first | exact fz_self _ _ (fun _ => rfl) | exact fz_pl rfl))) | (simp only [Int.toNat_natCast, Nat.zero_add, Nat.mul_one]; rfl) | ((show @Eq (Option CV) _ _); rfl) | ((fail_if_success (show @Eq (Option _) _ _)); rfl) | ((show @Eq (Option _) _ _); simp only [List.getElem?_cons_zero, List.getElem?_cons_succ]; done) | ((show @Eq (Option _) _ _); simp only [List.getElem?_cons_zero, List.getElem?_cons_succ]; rfl) | with_reducible rfl)); conv => whnf))); exact Done.mk trivial))); conv => whnf)
   refine Need.mk ?_ ?_
   all_goals
    try (conv => whnf)
    repeat (first
     | (refine Need.mk ?_ ?_; (focus (((conv => whnf); (repeat (first | (refine Need.mk (by first | rfl | omega | (simp; done)) ?_; conv => whnf) | (refine Pick.mk ?_ ?_ ?_; rotate_left; (focus (first | with_reducible exact xor_u8 _ _ | (with_reducible refine xor_i64 ?_ ?_; all_goals omega) | (with_reducible refine xor_u32 ?_ ?_; all_goals omega) | assumption | with_reducible exact set_byN _ _ _ _ | with_reducible exact set_byI _ _ _ _ | with_reducible exact set_inN _ _ _ _ | with_reducible exact set_inI _ _ _ _ | with_reducible exact set_stN _ _ _ _ | with_reducible exact set_tsN _ _ _ _ | with_reducible exact set_tsI _ _ _ _ | with_reducible exact set_boN _ _ _ _ | with_reducible exact set_boI _ _ _ _ | (with_reducible refine get_mapN _ _ _ ?_; first | omega | (simp; omega)) | (with_reducible refine get_mapI _ _ _ ?_ ?_ <;> first | omega | (simp; omega)) | exact bs_beq _ _ | exact bs_less _ _ | exact bs_leq _ _ | with_reducible exact bs_app _ _ | (refine bs_get _ _ ?_; omega) | (refine bs_int _ _ ?_ ?_ <;> omega) | with_reducible exact sl_map0 _ _ _ | with_reducible exact sl_mapN _ _ _ | with_reducible exact sl_map _ _ _ _ | exact bs_extract0 _ _ | exact bs_extractN _ _ | exact bs_extract _ _ _ | (refine bnd_id ?_; omega) | (refine bnd_sub ?_ ?_ <;> omega) | (refine bnd_add ?_; omega) | (refine bnd_subN ?_ ?_ <;> omega) | (refine bnd_int ?_ ?_ <;> omega) | ((show @Eq Nat (_ + Int.toNat _ * _) _); simp only [Int.toNat_natCast, Nat.zero_add, Nat.mul_one]; rfl) | ((show @Eq (List _) (List.set [_] _ _) _); simp only [List.set_cons_zero]; rfl) | exact List.length_map _ | exact size_bs _ | (simp only [List.length_map, List.length_append, List.length_cons, List.length_nil, List.length_replicate, Nat.zero_add]; rfl) | with_reducible exact List.nil_append _ | with_reducible exact map_app _ _ _ | exact map_snoc byD _ _ | exact map_snoc inD _ _ | exact map_snoc stD _ _ | exact map_snoc tsD _ _ | (simp only [chunks]; rfl) | (refine wid ?_ ?_ <;> omega) | exact wby _ | with_reducible exact wby32 _ | with_reducible exact wu32 _ | exact wby64 _ | exact shr8 _ | exact shr16 _ | exact shr24 _ | exact shr32 _ | (refine tmodn ?_; omega) | (refine wdiv ?_ ?_ ?_ <;> omega) | exact wbyte _ | exact natlit _ | exact rep_by _ | exact rep_in _ | exact rep_bo _ | exact rep_st _ | (refine pick_nat _ _ _ ?_; omega) | (refine pick_int _ _ _ ?_ ?_ <;> omega) | (refine SlOf.full ?_; first | (simp; done) | (simp; omega)) | (with_reducible refine SlOf.pre _ _ ?_; first | omega | (simp; omega)) | (refine SlF.self _ _ ?_ ?_; (first | rfl | omega | (simp; done) | (simp; omega)); (exact fun _ => rfl)) | (refine SlF.pre _ _ ?_ ?_; (first | omega | (simp; omega)); (exact fun _ => rfl)) | (refine SlF.same ?_ ?_; (first | rfl | omega | (simp; done) | (simp; omega)); (first | exact fz_self _ _ (fun _ => rfl) | exact fz_pl rfl | (refine Fz.append ?_ ?_ <;> first | exact fz_self _ _ (fun _ => rfl) | exact fz_pl rfl) | (refine Fz.append (Fz.append ?_ ?_) ?_ <;> first | exact fz_self _ _ (fun _ => rfl) | exact fz_pl rfl))) | (simp only [Int.toNat_natCast, Nat.zero_add, Nat.mul_one]; rfl) | ((show @Eq (Option CV) _ _); rfl) | ((fail_if_success (show @Eq (Option _) _ _)); rfl) | ((show @Eq (Option _) _ _); simp only [List.getElem?_cons_zero, List.getElem?_cons_succ]; done) | ((show @Eq (Option _) _ _); simp only [List.getElem?_cons_zero, List.getElem?_cons_succ]; rfl) | with_reducible rfl)); conv => whnf))); exact Done.mk trivial))); conv => whnf)
     | (refine Pick.mk ?_ ?_ ?_; rotate_left; (focus ((simp only [chunks]; rfl))); conv => whnf))
    refine Hand.mk [] ?_
    try (conv => whnf)
    refine CallW.n (s_next hS3 (by omega) 3 (by omega)) ?_
    rintro _ _ ⟨a4, s4, _, rfl, hS4, v4, rfl, rfl, hv4⟩
    try (conv => whnf)
    repeat (first
     | (refine Need.mk ?_ ?_; (focus (first | omega | ((conv => whnf); (repeat (first | (refine Need.mk (by first | rfl | omega | (simp; done)) ?_; conv => whnf) | (refine Pick.mk ?_ ?_ ?_; rotate_left; (focus (first | with_reducible exact xor_u8 _ _ | (with_reducible refine xor_i64 ?_ ?_; all_goals omega) | (with_reducible refine xor_u32 ?_ ?_; all_goals omega) | assumption | with_reducible exact set_byN _ _ _ _ | with_reducible exact set_byI _ _ _ _ | with_reducible exact set_inN _ _ _ _ | with_reducible exact set_inI _ _ _ _ | with_reducible exact set_stN _ _ _ _ | with_reducible exact set_tsN _ _ _ _ | with_reducible exact set_tsI _ _ _ _ | with_reducible exact set_boN _ _ _ _ | with_reducible exact set_boI _ _ _ _ | (with_reducible refine get_mapN _ _ _ ?_; first | omega | (simp; omega)) | (with_reducible refine get_mapI _ _ _ ?_ ?_ <;> first | omega | (simp; omega)) | exact bs_beq _ _ | exact bs_less _ _ | exact bs_leq _ _ | with_reducible exact bs_app _ _ | (refine bs_get _ _ ?_; omega) | (refine bs_int _ _ ?_ ?_ <;> omega) | with_reducible exact sl_map0 _ _ _ | with_reducible exact sl_mapN _ _ _ | with_reducible exact sl_map _ _ _ _ | exact bs_extract0 _ _ | exact bs_extractN _ _ | exact bs_extract _ _ _ | (refine bnd_id ?_; omega) | (refine bnd_sub ?_ ?_ <;> omega) | (refine bnd_add ?_; omega) | (refine bnd_subN ?_ ?_ <;> omega) | (refine bnd_int ?_ ?_ <;> omega) | ((show @Eq Nat (_ + Int.toNat _ * _) _); simp only [Int.toNat_natCast, Nat.zero_add, Nat.mul_one]; rfl) | ((show @Eq (List _) (List.set [_] _ _) _); simp only [List.set_cons_zero]; rfl) | exact List.length_map _ | exact size_bs _ | (simp only [List.length_map, List.length_append, List.length_cons, List.length_nil, List.length_replicate, Nat.zero_add]; rfl) | with_reducible exact List.nil_append _ | with_reducible exact map_app _ _ _ | exact map_snoc byD _ _ | exact map_snoc inD _ _ | exact map_snoc stD _ _ | exact map_snoc tsD _ _ | (simp only [chunks]; rfl) | (refine wid ?_ ?_ <;> omega) | exact wby _ | with_reducible exact wby32 _ | with_reducible exact wu32 _ | exact wby64 _ | exact shr8 _ | exact shr16 _ | exact shr24 _ | exact shr32 _ | (refine tmodn ?_; omega) | (refine wdiv ?_ ?_ ?_ <;> omega) | exact wbyte _ | exact natlit _ | exact rep_by _ | exact rep_in _ | exact rep_bo _ | exact rep_st _ | (refine pick_nat _ _ _ ?_; omega) | (refine pick_int _ _ _ ?_ ?_ <;> omega) | (refine SlOf.full ?_; first | (simp; done) | (simp; omega)) | (with_reducible refine SlOf.pre _ _ ?_; first | omega | (simp; omega)) | (refine SlF.self _ _ ?_ ?_; (first | rfl | omega | (simp; done) | (simp; omega)); (exact fun _ => rfl)) | (refine SlF.pre _ _ ?_ ?_; (first | omega | (simp; omega)); (exact fun _ => rfl)) | (refine SlF.same ?_ ?_; (first | rfl | omega | (simp; done) | (simp; omega)); (first | exact fz_self _ _ (fun _ => rfl) | exact fz_pl rfl | (refine Fz.append ?_ ?_ <;> first | exact fz_self _ _ (fun _ => rfl) | exact fz_pl rfl) | (refine Fz.append (Fz.append ?_ ?_) ?_ <;> first | exact fz_self _ _ (fun _ => rfl) | exact fz_pl rfl))) | (simp only [Int.toNat_natCast, Nat.zero_add, Nat.mul_one]; rfl) | ((show @Eq (Option CV) _ _); rfl) | ((fail_if_success (show @Eq (Option _) _ _)); rfl) | ((show @Eq (Option _) _ _); simp only [List.getElem?_cons_zero, List.getElem?_cons_succ]; done) | ((show @Eq (Option _) _ _); simp only [List.getElem?_cons_zero, List.getElem?_cons_succ]; rfl) | with_reducible rfl)); conv => whnf))); exact Done.mk trivial))); conv => whnf)
     | (refine Pick.mk ?_ ?_ ?_; rotate_left; (focus ((simp only [chunks]; rfl))); conv => whnf))
    refine pickI (fun _ => true) rfl (by rw [addN_eq]; show _ < 3; omega) fun x _ => ?_
    try (conv => whnf)
    repeat (first
     | (refine Need.mk ?_ ?_; (focus (first | omega | (simp only [List.length_map, List.length_append, List.length_cons, List.length_nil, List.length_replicate]; omega))); conv => whnf)
     | (refine Pick.mk ?_ ?_ ?_; rotate_left; (focus (first | with_reducible exact set_inI _ _ _ _ | (with_reducible refine get_mapI _ _ _ ?_ ?_ <;> first | omega | (simp; omega)))); conv => whnf))
    refine Out.mk true [] [] ?_
    try (conv => whnf)
    repeat (refine Pick.mk ?_ ?_ ?_; rotate_left; (focus ((refine SlF.self _ _ ?_ ?_; (first | rfl | omega | (simp; done) | (simp; omega)); (exact fun _ => rfl)))); conv => whnf)
   all_goals exact ⟨_, _, [], rfl, hS4.mono (by omega), _, rfl, rfl, by simp; omega⟩
  ·try (conv => whnf)
   repeat (first
    | (refine Need.mk ?_ ?_; (focus (((conv => whnf); (repeat (first | (refine Need.mk (by first | rfl | omega | (simp; done)) ?_; conv => whnf) | (refine Pick.mk ?_ ?_ ?_; rotate_left; (focus (first | with_reducible exact xor_u8 _ _ | (with_reducible refine xor_i64 ?_ ?_; all_goals omega) | (with_reducible refine xor_u32 ?_ ?_; all_goals omega) | assumption | with_reducible exact set_byN _ _ _ _ | with_reducible exact set_byI _ _ _ _ | with_reducible exact set_inN _ _ _ _ | with_reducible exact set_inI _ _ _ _ | with_reducible exact set_stN _ _ _ _ | with_reducible exact set_tsN _ _ _ _ | with_reducible exact set_tsI _ _ _ _ | with_reducible exact set_boN _ _ _ _ | with_reducible exact set_boI _ _ _ _ | (with_reducible refine get_mapN _ _ _ ?_; first | omega | (simp; omega)) | (with_reducible refine get_mapI _ _ _ ?_ ?_ <;> first | omega | (simp; omega)) | exact bs_beq _ _ | exact bs_less _ _ | exact bs_leq _ _ | with_reducible exact bs_app _ _ | (refine bs_get _ _ ?_; omega) | (refine bs_int _ _ ?_ ?_ <;> omega) | with_reducible exact sl_map0 _ _ _ | with_reducible exact sl_mapN _ _ _ | with_reducible exact sl_map _ _ _ _ | exact bs_extract0 _ _ | exact bs_extractN _ _ | exact bs_extract _ _ _ | (refine bnd_id ?_; omega) | (refine bnd_sub ?_ ?_ <;> omega) | (refine bnd_add ?_; omega) | (refine bnd_subN ?_ ?_ <;> omega) | (refine bnd_int ?_ ?_ <;> omega) | ((show @Eq Nat (_ + Int.toNat _ * _) _); simp only [Int.toNat_natCast, Nat.zero_add, Nat.mul_one]; rfl) | ((show @Eq (List _) (List.set [_] _ _) _); simp only [List.set_cons_zero]; rfl) | exact List.length_map _ | exact size_bs _ | (simp only [List.length_map, List.length_append, List.length_cons, List.length_nil, List.length_replicate, Nat.zero_add]; rfl) | with_reducible exact List.nil_append _ | with_reducible exact map_app _ _ _ | exact map_snoc byD _ _ | exact map_snoc inD _ _ | exact map_snoc stD _ _ | exact map_snoc tsD _ _ | (simp only [chunks]; rfl) | (refine wid ?_ ?_ <;> omega) | exact wby _ | with_reducible exact wby32 _ | with_reducible exact wu32 _ | exact wby64 _ | exact shr8 _ | exact shr16 _ | exact shr24 _ | exact shr32 _ | (refine tmodn ?_; omega) | (refine wdiv ?_ ?_ ?_ <;> omega) | exact wbyte _ | exact natlit _ | exact rep_by _ | exact rep_in _ | exact rep_bo _ | exact rep_st _ | (refine pick_nat _ _ _ ?_; omega) | (refine pick_int _ _ _ ?_ ?_ <;> omega) | (refine SlOf.full ?_; first | (simp; done) | (simp; omega)) | (with_reducible refine SlOf.pre _ _ ?_; first | omega | (simp; omega)) | (refine SlF.self _ _ ?_ ?_; (first | rfl | omega | (simp; done) | (simp; omega)); (exact fun _ => rfl)) | (refine SlF.pre _ _ ?_ ?_; (first | omega | (simp; omega)); (exact fun _ => rfl)) | (refine SlF.same ?_ ?_; (first | rfl | omega | (simp; done) | (simp; omega)); (first | exact fz_self _ _ (fun _ => rfl) | exact fz_pl rfl | (refine Fz.append ?_ ?_ <;> first | exact fz_self _ _ (fun _ => rfl) | exact fz_pl rfl) | (refine Fz.append (Fz.append ?_ ?_) ?_ <;> first | exact fz_self _ _ (fun _ => rfl) | exact fz_pl rfl))) | (simp only [Int.toNat_natCast, Nat.zero_add, Nat.mul_one]; rfl) | ((show @Eq (Option CV) _ _); rfl) | ((fail_if_success (show @Eq (Option _) _ _)); rfl) | ((show @Eq (Option _) _ _); simp only [List.getElem?_cons_zero, List.getElem?_cons_succ]; done) | ((show @Eq (Option _) _ _); simp only [List.getElem?_cons_zero, List.getElem?_cons_succ]; rfl) | with_reducible rfl)); conv => whnf))); exact Done.mk trivial))); conv => whnf)
    | (refine Pick.mk ?_ ?_ ?_; rotate_left; (focus ((simp only [chunks]; rfl))); conv => whnf))
   refine Hand.mk [] ?_
   try (conv => whnf)
   refine CallW.n (s_next hS2 (by omega) 16 (by omega)) ?_
   rintro _ _ ⟨a3, s3, _, rfl, hS3, v3, rfl, rfl, hv3⟩
   try (conv => whnf)
   repeat (refine Need.mk ?_ ?_; (focus (((conv => whnf); (repeat (first | (refine Need.mk (by first | rfl | omega | (simp; done)) ?_; conv => whnf) | (refine Pick.mk ?_ ?_ ?_; rotate_left; (focus (first | with_reducible exact xor_u8 _ _ | (with_reducible refine xor_i64 ?_ ?_; all_goals omega) | (with_reducible refine xor_u32 ?_ ?_; all_goals omega) | assumption | with_reducible exact set_byN _ _ _ _ | with_reducible exact set_byI _ _ _ _ | with_reducible exact set_inN _ _ _ _ | with_reducible exact set_inI _ _ _ _ | with_reducible exact set_stN _ _ _ _ | with_reducible exact set_tsN _ _ _ _ | with_reducible exact set_tsI _ _ _ _ | with_reducible exact set_boN _ _ _ _ | with_reducible exact set_boI _ _ _ _ | (with_reducible refine get_mapN _ _ _ ?_; first | omega | (simp; omega)) | (with_reducible refine get_mapI _ _ _ ?_ ?_ <;> first | omega | (simp; omega)) | exact bs_beq _ _ | exact bs_less _ _ | exact bs_leq _ _ | with_reducible exact bs_app _ _ | (refine bs_get _ _ ?_; omega) | (refine bs_int _ _ ?_ ?_ <;> omega) | with_reducible exact sl_map0 _ _ _ | with_reducible exact sl_mapN _ _ _ | with_reducible exact sl_map _ _ _ _ | exact bs_extract0 _ _ | exact bs_extractN _ _ | exact bs_extract _ _ _ | (refine bnd_id ?_; omega) | (refine bnd_sub ?_ ?_ <;> omega) | (refine bnd_add ?_; omega) | (refine bnd_subN ?_ ?_ <;> omega) | (refine bnd_int ?_ ?_ <;> omega) | ((show @Eq Nat (_ + Int.toNat _ * _) _); simp only [Int.toNat_natCast, Nat.zero_add, Nat.mul_one]; rfl) | ((show @Eq (List _) (List.set [_] _ _) _); simp only [List.set_cons_zero]; rfl) | exact List.length_map _ | exact size_bs _ | (simp only [List.length_map, List.length_append, List.length_cons, List.length_nil, List.length_replicate, Nat.zero_add]; rfl) | with_reducible exact List.nil_append _ | with_reducible exact map_app _ _ _ | exact map_snoc byD _ _ | exact map_snoc inD _ _ | exact map_snoc stD _ _ | exact map_snoc tsD _ _ | (simp only [chunks]; rfl) | (refine wid ?_ ?_ <;> omega) | exact wby _ | with_reducible exact wby32 _ | with_reducible exact wu32 _ | exact wby64 _ | exact shr8 _ | exact shr16 _ | exact shr24 _ | exact shr32 _ | (refine tmodn ?_; omega) | (refine wdiv ?_ ?_ ?_ <;> omega) | exact wbyte _ | exact natlit _ | exact rep_by _ | exact rep_in _ | exact rep_bo _ | exact rep_st _ | (refine pick_nat _ _ _ ?_; omega) | (refine pick_int _ _ _ ?_ ?_ <;> omega) | (refine SlOf.full ?_; first | (simp; done) | (simp; omega)) | (with_reducible refine SlOf.pre _ _ ?_; first | omega | (simp; omega)) | (refine SlF.self _ _ ?_ ?_; (first | rfl | omega | (simp; done) | (simp; omega)); (exact fun _ => rfl)) | (refine SlF.pre _ _ ?_ ?_; (first | omega | (simp; omega)); (exact fun _ => rfl)) | (refine SlF.same ?_ ?_; (first | rfl | omega | (simp; done) | (simp; omega)); (first | exact fz_self _ _ (fun _ => rfl) | exact fz_pl rfl | (refine Fz.append ?_ ?_ <;> first | exact fz_self _ _ (fun _ => rfl) | exact fz_pl rfl) | (refine Fz.append (Fz.append ?_ ?_) ?_ <;> first | exact fz_self _ _ (fun _ => rfl) | exact fz_pl rfl))) | (simp only [Int.toNat_natCast, Nat.zero_add, Nat.mul_one]; rfl) | ((show @Eq (Option CV) _ _); rfl) | ((fail_if_success (show @Eq (Option _) _ _)); rfl) | ((show @Eq (Option _) _ _); simp only [List.getElem?_cons_zero, List.getElem?_cons_succ]; done) | ((show @Eq (Option _) _ _); simp only [List.getElem?_cons_zero, List.getElem?_cons_succ]; rfl) | with_reducible rfl)); conv => whnf))); exact Done.mk trivial))); conv => whnf)
   refine Hand.mk [] ?_
   try (conv => whnf)
   refine CallW.n (s_next hS3 (by omega) 3 (by omega)) ?_
   rintro _ _ ⟨a4, s4, _, rfl, hS4, v4, rfl, rfl, hv4⟩
   try (conv => whnf)
   repeat (refine Need.mk ?_ ?_; (focus (first | omega | ((conv => whnf); (repeat (first | (refine Need.mk (by first | rfl | omega | (simp; done)) ?_; conv => whnf) | (refine Pick.mk ?_ ?_ ?_; rotate_left; (focus (first | with_reducible exact xor_u8 _ _ | (with_reducible refine xor_i64 ?_ ?_; all_goals omega) | (with_reducible refine xor_u32 ?_ ?_; all_goals omega) | assumption | with_reducible exact set_byN _ _ _ _ | with_reducible exact set_byI _ _ _ _ | with_reducible exact set_inN _ _ _ _ | with_reducible exact set_inI _ _ _ _ | with_reducible exact set_stN _ _ _ _ | with_reducible exact set_tsN _ _ _ _ | with_reducible exact set_tsI _ _ _ _ | with_reducible exact set_boN _ _ _ _ | with_reducible exact set_boI _ _ _ _ | (with_reducible refine get_mapN _ _ _ ?_; first | omega | (simp; omega)) | (with_reducible refine get_mapI _ _ _ ?_ ?_ <;> first | omega | (simp; omega)) | exact bs_beq _ _ | exact bs_less _ _ | exact bs_leq _ _ | with_reducible exact bs_app _ _ | (refine bs_get _ _ ?_; omega) | (refine bs_int _ _ ?_ ?_ <;> omega) | with_reducible exact sl_map0 _ _ _ | with_reducible exact sl_mapN _ _ _ | with_reducible exact sl_map _ _ _ _ | exact bs_extract0 _ _ | exact bs_extractN _ _ | exact bs_extract _ _ _ | (refine bnd_id ?_; omega) | (refine bnd_sub ?_ ?_ <;> omega) | (refine bnd_add ?_; omega) | (refine bnd_subN ?_ ?_ <;> omega) | (refine bnd_int ?_ ?_ <;> omega) | ((show @Eq Nat (_ + Int.toNat _ * _) _); simp only [Int.toNat_natCast, Nat.zero_add, Nat.mul_one]; rfl) | ((show @Eq (List _) (List.set [_] _ _) _); simp only [List.set_cons_zero]; rfl) | exact List.length_map _ | exact size_bs _ | (simp only [List.length_map, List.length_append, List.length_cons, List.length_nil, List.length_replicate, Nat.zero_add]; rfl) | with_reducible exact List.nil_append _ | with_reducible exact map_app _ _ _ | exact map_snoc byD _ _ | exact map_snoc inD _ _ | exact map_snoc stD _ _ | exact map_snoc tsD _ _ | (simp only [chunks]; rfl) | (refine wid ?_ ?_ <;> omega) | exact wby _ | with_reducible exact wby32 _ | with_reducible exact wu32 _ | exact wby64 _ | exact shr8 _ | exact shr16 _ | exact shr24 _ | exact shr32 _ | (refine tmodn ?_; omega) | (refine wdiv ?_ ?_ ?_ <;> omega) | exact wbyte _ | exact natlit _ | exact rep_by _ | exact rep_in _ | exact rep_bo _ | exact rep_st _ | (refine pick_nat _ _ _ ?_; omega) | (refine pick_int _ _ _ ?_ ?_ <;> omega) | (refine SlOf.full ?_; first | (simp; done) | (simp; omega)) | (with_reducible refine SlOf.pre _ _ ?_; first | omega | (simp; omega)) | (refine SlF.self _ _ ?_ ?_; (first | rfl | omega | (simp; done) | (simp; omega)); (exact fun _ => rfl)) | (refine SlF.pre _ _ ?_ ?_; (first | omega | (simp; omega)); (exact fun _ => rfl)) | (refine SlF.same ?_ ?_; (first | rfl | omega | (simp; done) | (simp; omega)); (first | exact fz_self _ _ (fun _ => rfl) | exact fz_pl rfl | (refine Fz.append ?_ ?_ <;> first | exact fz_self _ _ (fun _ => rfl) | exact fz_pl rfl) | (refine Fz.append (Fz.append ?_ ?_) ?_ <;> first | exact fz_self _ _ (fun _ => rfl) | exact fz_pl rfl))) | (simp only [Int.toNat_natCast, Nat.zero_add, Nat.mul_one]; rfl) | ((show @Eq (Option CV) _ _); rfl) | ((fail_if_success (show @Eq (Option _) _ _)); rfl) | ((show @Eq (Option _) _ _); simp only [List.getElem?_cons_zero, List.getElem?_cons_succ]; done) | ((show @Eq (Option _) _ _); simp only [List.getElem?_cons_zero, List.getElem?_cons_succ]; rfl) | with_reducible rfl)); conv => whnf))); exact Done.mk trivial))); conv => whnf)
   refine pickI (fun _ => true) rfl (by rw [addN_eq]; show _ < 3; omega) fun x _ => ?_
   try (conv => whnf)
   repeat (first
    | (refine Need.mk ?_ ?_; (focus (first | omega | (simp only [List.length_map, List.length_append, List.length_cons, List.length_nil, List.length_replicate]; omega))); conv => whnf)
    | (refine Pick.mk ?_ ?_ ?_; rotate_left; (focus (first | with_reducible exact set_inI _ _ _ _ | (with_reducible refine get_mapI _ _ _ ?_ ?_ <;> first | omega | (simp; omega)))); conv => whnf))
   refine Out.mk true [] [] ?_
   try (conv => whnf)
   repeat (refine Pick.mk ?_ ?_ ?_; rotate_left; (focus ((refine SlF.self _ _ ?_ ?_; (first | rfl | omega | (simp; done) | (simp; omega)); (exact fun _ => rfl)))); conv => whnf)
   exact ⟨_, _, [], rfl, hS4.mono (by omega), _, rfl, rfl, by simp; omega⟩
 ·refine Out.mk true [] [] ?_
  try (conv => whnf)
  repeat (refine Pick.mk ?_ ?_ ?_; rotate_left; (focus ((refine SlF.self _ _ ?_ ?_; (first | rfl | omega | (simp; done) | (simp; omega)); (exact fun _ => rfl)))); conv => whnf)
  exact ⟨_, _, [], rfl, hS2.mono (by omega), _, rfl, rfl, by simp; omega⟩
 ·refine Out.mk true [] [] ?_
  try (conv => whnf)
  repeat (refine Pick.mk ?_ ?_ ?_; rotate_left; (focus ((refine SlF.self _ _ ?_ ?_; (first | rfl | omega | (simp; done) | (simp; omega)); (exact fun _ => rfl)))); conv => whnf)
  exact ⟨_, _, [], rfl, hS2.mono (by omega), _, rfl, rfl, by omega⟩
end
end Go.Proofs.Ytpdjehnlejjfmaa.D
/- Numbers, texts and lists drawn. -/
namespace Go.Proofs.Ytpdjehnlejjfmaa.D
open Go.RowKit
set_option maxRecDepth 100000
set_option maxHeartbeats 4000000
set_option linter.unusedVariables false
set_option linter.unusedSimpArgs false
section
variable {code : List UInt8} {a s b : Int}
theorem s_size (hS : Src code a s b) (m : Int) (h0 : 0 ≤ m) (hm : m ≤ 2 ^ 40) :
  CallM Try.prog id_spec_l01Src_size [.one (.ptr 0 0), vI .i64 m] [srcR code a s] [] false (Draws code b (DI fun v => 0 ≤ v ∧ v ≤ m)) := by
 refine F_spec_l01Src_size ?_
 have hl := hS.len
 try (conv => whnf)
 repeat (first
  | (refine Need.mk ?_ ?_; (focus (omega)); conv => whnf)
  | (refine Pick.mk ?_ ?_ ?_; rotate_left; (focus (first | exact List.length_map _ | (refine wid ?_ ?_ <;> omega) | (refine wdiv ?_ ?_ ?_ <;> omega))); conv => whnf))
 refine Out.mk false [0, 1, 2, 3, 4] [] ?_
 try (conv => whnf)
 exact ⟨_, _, [], rfl, hS, _, rfl, rfl, by omega, by omega⟩
end
end Go.Proofs.Ytpdjehnlejjfmaa.D
