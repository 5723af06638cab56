/- What the laws do with entries: copied, compared, marked. -/
import Derived.Test.YtoklfidamhigcaaLawInt
import Derived.Test.YtoklfidamhigcaaLawTs
import Derived.Test.YtoklfidamhigcaaMul
namespace Go.Proofs.Ytoklfidamhigcaa.D
open Go.RowKit
set_option maxRecDepth 100000
set_option maxHeartbeats 4000000
set_option linter.unusedVariables false
set_option linter.unusedSimpArgs false

theorem rep_en (m : Nat) : List.replicate m (zerosD [.zi .i64, .zi .i64, .zs]) = (List.replicate m (⟨0, 0, []⟩ : EntV)).map entD := by rw [List.map_replicate]; rfl
theorem set_en (l : List EntV) (n : Nat) (e : EntV) (t a : Int) (x : List UInt8) : (l.map entD).set (addN 0 (n : Int).toNat) (splice (entD e) 0 [.sc (.int .i64 t), .sc (.int .i64 a), .sc (.string (bs x))]) = (l.set n ⟨t, a, x⟩).map entD := by
  rw [addN_eq, List.map_set, show 0 + (n : Int).toNat = n by omega]; rfl
theorem set_en0 (l : List EntV) (n : Nat) (e : EntV) (t : Int) : (l.map entD).set (addN 0 (n : Int).toNat) (splice (entD e) 0 [.sc (.int .i64 t)]) = (l.set n ⟨t, e.a, e.x⟩).map entD := by
  rw [addN_eq, List.map_set, show 0 + (n : Int).toNat = n by omega]; rfl
theorem set_en1 (l : List EntV) (n : Nat) (e : EntV) (t : Int) : (l.map entD).set (addN 0 (n : Int).toNat) (splice (entD e) 1 [.sc (.int .i64 t)]) = (l.set n ⟨e.t, t, e.x⟩).map entD := by
  rw [addN_eq, List.map_set, show 0 + (n : Int).toNat = n by omega]; rfl
theorem set_en2 (l : List EntV) (n : Nat) (e : EntV) (x : List UInt8) : (l.map entD).set (addN 0 (n : Int).toNat) (splice (entD e) 2 [.sc (.string (bs x))]) = (l.set n ⟨e.t, e.a, x⟩).map entD := by
  rw [addN_eq, List.map_set, show 0 + (n : Int).toNat = n by omega]; rfl
abbrev vEn (e : EntV) : SV := .agg [cI e.t, cI e.a, cS (bs e.x)]
theorem l_toEntry (e : EntV) : CallD Try.prog id_laws_toEntry [vEn e] [] (vEn e) [] := by
  refine F_laws_toEntry ?_
  try (conv => whnf)
  refine Hand.mk [] ?_
  try (conv => whnf)
  refine CallW.d (l_toStamp e.t e.a) ?_
  try (conv => whnf)
  refine Out.mk true [] [] ?_
  try (conv => whnf)
  exact ⟨rfl, rfl⟩
theorem l_toEntryS (l : List EntV) (hl : l.length ≤ 2 ^ 39) : CallD Try.prog id_laws_toEntryS [vE l] [] (.one (.os 0 3 0 l.length)) [.own 3 (l.map entD)] := by
  refine F_laws_toEntryS ?_
  try (conv => whnf)
  repeat (first
    | (refine Need.mk ?_ ?_; (focus (omega)); conv => whnf)
    | (refine Pick.mk ?_ ?_ ?_; rotate_left; (focus (first | exact rep_en _ | exact List.length_map _ | exact natlit _)); conv => whnf))
  refine LoopE.mk (fun i : Nat => mk [(0, vE l), (3, .one (.os 8224 3 0 l.length)), (4, vI .i64 i)] [(8224, .own 3 ((over l (List.replicate l.length ⟨0, 0, []⟩) i).map entD))]) (fun i => i ≤ l.length) (fun i => l.length - i) 0 (by omega) (LeX.of ?_) ?_
  · try (conv => whnf)
    repeat (refine Need.mk ?_ ?_; (focus (first | omega | (simp; done) | rfl)); conv => whnf)
    trivial
  · intro i hi
    try (conv => whnf)
    repeat' (first
      | (refine Pick.mk ?_ ?_ ?_; rotate_left; (focus (first | exact List.length_map _ | (refine pick_nat _ _ _ ?_; omega))); conv => whnf)
      | (refine SeqJ.thru ?_; conv => whnf)
      | (refine br_dec (fun _ => ?_) (fun _ => ?_) <;> first | (exfalso; omega) | contradiction | conv => whnf)
      | (refine br_not ?_; conv => whnf)
      | (refine br_bne (fun _ => ?_) (fun _ => ?_) <;> first | (exfalso; omega) | contradiction | conv => whnf)
      | (refine br_beq (fun _ => ?_) (fun _ => ?_) <;> first | (exfalso; omega) | contradiction | conv => whnf))
    · refine Hand.mk [] ?_
      try (conv => whnf)
      refine CallW.d (l_toEntry (l[i]'(by omega))) ?_
      try (conv => whnf)
      repeat (refine Need.mk ?_ ?_; (focus (omega)); conv => whnf)
      refine Pick.mk (entD ⟨0, 0, []⟩) (by rw [addN_eq, List.getElem?_map, show 0 + (i : Int).toNat = i by omega, over_get (by simp) (by simp; omega)]; simp) ?_
      try (conv => whnf)
      repeat (refine Pick.mk ?_ ?_ ?_; rotate_left; (focus (first | with_reducible exact set_en _ _ _ _ _ _ | (refine wid ?_ ?_ <;> omega))); conv => whnf)
      refine Pick.mk (i + 1) (by constructor <;> first | omega | (simp only []; omega)) (LeX.of ?_)
      try (conv => whnf)
      repeat (refine Need.mk ?_ ?_; (focus (first | omega | (simp; done))); conv => whnf)
      refine Need.mk (by rw [over_set (by simp) (by simp; omega)]) ?_
      try (conv => whnf)
      trivial
    · refine Out.mk false [0, 1, 2, 3, 4] [] ?_
      try (conv => whnf)
      repeat (refine Need.mk ?_ ?_; (focus (exact flat_en _)); conv => whnf)
      rw [over_end (by simp) (by simp; omega)]
      exact ⟨rfl, rfl⟩
/-- A state whose rows are its own. -/
abbrev vMw (s : List Int) (l : List EntV) : SV := .agg [.os 0 1 0 s.length, .os 1 3 0 l.length]
theorem l_toMulti (s : List Int) (l : List EntV) (hs : s.length ≤ 2 ^ 39) (hl : l.length ≤ 2 ^ 39) : CallD Try.prog id_laws_toMulti [vM s l] [] (vMw s l) [.own 1 (s.map inD), .own 3 (l.map entD)] := by
  refine F_laws_toMulti ?_
  try (conv => whnf)
  refine Hand.mk [] ?_
  try (conv => whnf)
  refine CallW.d (l_toVector s hs) ?_
  try (conv => whnf)
  refine Hand.mk [] ?_
  try (conv => whnf)
  refine CallW.d (l_toEntryS l hl) ?_
  try (conv => whnf)
  refine Out.mk false [0, 1, 2, 3, 4] [] ?_
  try (conv => whnf)
  repeat (refine Need.mk ?_ ?_; (focus (first | exact flat_en _ | (first | exact flat_by _ | exact flat_in _ | exact flat_st _ | exact flat_ts _ | exact flat_bo _ | exact flat_cl rfl))); conv => whnf)
  exact ⟨rfl, rfl⟩
theorem l_eqEntry (e : EntV) (he : e.x.length ≤ 2 ^ 62) : CallD Try.prog id_laws_eqEntry [vEn e, vEn e] [] (vB true) [] := by
  refine F_laws_eqEntry ?_
  try (conv => whnf)
  refine Hand.mk [] ?_
  try (conv => whnf)
  refine CallW.d (l_eqStamp e.t e.a) ?_
  try (conv => whnf)
  repeat (refine Pick.mk ?_ ?_ ?_; rotate_left; (focus (exact bs_beq _ _)); conv => whnf)
  try (conv => whnf)
  repeat' (first
    | (refine br_dec (fun _ => ?_) (fun _ => ?_) <;> first | (exfalso; omega) | contradiction | conv => whnf)
    | (refine br_not ?_; conv => whnf)
    | (refine br_bne (fun _ => ?_) (fun _ => ?_) <;> first | (exfalso; omega) | contradiction | conv => whnf)
    | (refine br_beq (fun _ => ?_) (fun _ => ?_) <;> first | (exfalso; omega) | contradiction | conv => whnf))
  refine Out.mk true [] [] ?_
  try (conv => whnf)
  exact ⟨rfl, rfl⟩
theorem l_eqEntryS (a : List EntV) (ha : a.length ≤ 2 ^ 39) (hx : ∀ e ∈ a, e.x.length ≤ 2 ^ 62) : CallD Try.prog id_laws_eqEntryS [vE a, vE a] [] (vB true) [] := by
  refine F_laws_eqEntryS ?_
  try (conv => whnf)
  repeat' (first
    | (refine Pick.mk ?_ ?_ ?_; rotate_left; (focus (exact List.length_map _)); conv => whnf)
    | (refine br_dec (fun _ => ?_) (fun _ => ?_) <;> first | (exfalso; omega) | contradiction | conv => whnf)
    | (refine br_not ?_; conv => whnf)
    | (refine br_bne (fun _ => ?_) (fun _ => ?_) <;> first | (exfalso; omega) | contradiction | conv => whnf)
    | (refine br_beq (fun _ => ?_) (fun _ => ?_) <;> first | (exfalso; omega) | contradiction | conv => whnf))
  refine LoopE.mk (fun i : Nat => mk [(0, vE a), (1, vE a), (5, vI .i64 i)] []) (fun i => i ≤ a.length) (fun i => a.length - i) 0 (by simp) (LeX.of ?_) ?_
  · try (conv => whnf)
    repeat (refine Need.mk ?_ ?_; (focus (first | omega | (simp; done))); conv => whnf)
    trivial
  · intro i hi
    try (conv => whnf)
    repeat' (first
      | (refine Pick.mk ?_ ?_ ?_; rotate_left; (focus (first | exact List.length_map _ | (refine pick_nat _ _ _ ?_; omega))); conv => whnf)
      | (refine SeqJ.thru ?_; conv => whnf)
      | (refine br_dec (fun _ => ?_) (fun _ => ?_) <;> first | (exfalso; omega) | contradiction | conv => whnf)
      | (refine br_not ?_; conv => whnf)
      | (refine br_bne (fun _ => ?_) (fun _ => ?_) <;> first | (exfalso; omega) | contradiction | conv => whnf)
      | (refine br_beq (fun _ => ?_) (fun _ => ?_) <;> first | (exfalso; omega) | contradiction | conv => whnf))
    · refine Hand.mk [] ?_
      try (conv => whnf)
      refine CallW.d (l_eqEntry (a[i]'(by omega)) (hx _ (List.getElem_mem _))) ?_
      try (conv => whnf)
      repeat (refine Pick.mk ?_ ?_ ?_; rotate_left; (focus ((refine wid ?_ ?_ <;> omega))); conv => whnf)
      try (conv => whnf)
      repeat' (first
        | (refine br_dec (fun _ => ?_) (fun _ => ?_) <;> first | (exfalso; omega) | contradiction | conv => whnf)
        | (refine br_not ?_; conv => whnf)
        | (refine br_bne (fun _ => ?_) (fun _ => ?_) <;> first | (exfalso; omega) | contradiction | conv => whnf)
        | (refine br_beq (fun _ => ?_) (fun _ => ?_) <;> first | (exfalso; omega) | contradiction | conv => whnf))
      refine Pick.mk (i + 1) (by constructor <;> first | omega | (simp only []; omega)) (LeX.of ?_)
      try (conv => whnf)
      repeat (refine Need.mk ?_ ?_; (focus (first | omega | (simp; done))); conv => whnf)
      trivial
    · refine Out.mk true [] [] ?_
      try (conv => whnf)
      exact ⟨rfl, rfl⟩
theorem l_eqMulti (s : List Int) (a : List EntV) (hs : s.length ≤ 2 ^ 39) (ha : a.length ≤ 2 ^ 39) (hx : ∀ e ∈ a, e.x.length ≤ 2 ^ 62) : CallD Try.prog id_laws_eqMulti [vM s a, vM s a] [] (vB true) [] := by
  refine F_laws_eqMulti ?_
  try (conv => whnf)
  refine Hand.mk [] ?_
  try (conv => whnf)
  refine CallW.d (l_eqVector s hs) ?_
  try (conv => whnf)
  try (conv => whnf)
  repeat' (first
    | (refine br_dec (fun _ => ?_) (fun _ => ?_) <;> first | (exfalso; omega) | contradiction | conv => whnf)
    | (refine br_not ?_; conv => whnf)
    | (refine br_bne (fun _ => ?_) (fun _ => ?_) <;> first | (exfalso; omega) | contradiction | conv => whnf)
    | (refine br_beq (fun _ => ?_) (fun _ => ?_) <;> first | (exfalso; omega) | contradiction | conv => whnf))
  refine Hand.mk [] ?_
  try (conv => whnf)
  refine CallW.d (l_eqEntryS a ha hx) ?_
  try (conv => whnf)
  try (conv => whnf)
  repeat' (first
    | (refine br_dec (fun _ => ?_) (fun _ => ?_) <;> first | (exfalso; omega) | contradiction | conv => whnf)
    | (refine br_not ?_; conv => whnf)
    | (refine br_bne (fun _ => ?_) (fun _ => ?_) <;> first | (exfalso; omega) | contradiction | conv => whnf)
    | (refine br_beq (fun _ => ?_) (fun _ => ?_) <;> first | (exfalso; omega) | contradiction | conv => whnf))
  refine Out.mk true [] [] ?_
  try (conv => whnf)
  exact ⟨rfl, rfl⟩
/-- The marks from a number on, as entries. -/
def markEs (k : Int) (n : Nat) : List EntV := (List.range n).map fun (i : Nat) => ⟨k + 3 * i, k + 3 * i + 1, markT (k + 3 * i + 1 + 1)⟩
@[simp] theorem markEs_length (k : Int) (n : Nat) : (markEs k n).length = n := by simp [markEs]
theorem markEs_get (k : Int) {n i : Nat} (h : i < n) : (markEs k n)[i]'(by simpa using h) = ⟨k + 3 * i, k + 3 * i + 1, markT (k + 3 * i + 1 + 1)⟩ := by simp [markEs]
theorem l_markEntryS (a : List EntV) (k : Int) (ha : a.length ≤ 2 ^ 39) (h0 : 0 < k) (h1 : k ≤ 2 ^ 58) :
    CallMD Try.prog id_laws_markEntryS [.one (.os 0 3 0 a.length), vI .i64 k] [.own 3 (a.map entD)] [] (vI .i64 (k + 3 * a.length)) [.own 3 ((markEs k a.length).map entD)] := by
  refine F_laws_markEntryS ?_
  try (conv => whnf)
  refine LoopE.mk (fun i : Nat => mk [(0, .one (.os 0 3 0 a.length)), (1, vI .i64 (k + 3 * i)), (5, vI .i64 i)] [(0, .own 3 ((over (markEs k a.length) a i).map entD))]) (fun i => i ≤ a.length) (fun i => a.length - i) 0 (by omega) (LeX.of ?_) ?_
  · try (conv => whnf)
    repeat (refine Need.mk ?_ ?_; (focus (first | omega | rfl)); conv => whnf)
    trivial
  · intro i hi
    rcases Nat.lt_or_ge i a.length with hlt | hge
    · have hstep := over_set (m := markEs k a.length) (t := a) (j := i) (by simp) hlt
      rw [markEs_get k hlt] at hstep
      have hget : (over (markEs k a.length) a i)[i]? = some a[i] := over_get (by simp) hlt
      have hlen : i < (over (markEs k a.length) a i).length := by
        rcases Nat.lt_or_ge i (over (markEs k a.length) a i).length with h | h
        · exact h
        · rw [List.getElem?_eq_none h] at hget; simp at hget
      generalize over (markEs k a.length) a i = L at hstep hget hlen ⊢
      have ad : addN 0 (i : Int).toNat = i := by rw [addN_eq]; omega
      have q0 : (L.map entD)[addN 0 (i : Int).toNat]? = some (entD a[i]) := by rw [ad, List.getElem?_map, hget]; rfl
      have q1 : ((L.set i ⟨k + 3 * i, a[i].a, a[i].x⟩).map entD)[addN 0 (i : Int).toNat]? = some (entD ⟨k + 3 * i, a[i].a, a[i].x⟩) := by rw [ad, List.getElem?_map, List.getElem?_set_self hlen]; rfl
      have q2 : (((L.set i ⟨k + 3 * i, a[i].a, a[i].x⟩).set i ⟨k + 3 * i, k + 3 * i + 1, a[i].x⟩).map entD)[addN 0 (i : Int).toNat]? = some (entD ⟨k + 3 * i, k + 3 * i + 1, a[i].x⟩) := by rw [ad, List.getElem?_map, List.getElem?_set_self (by simpa using hlen)]; rfl
      try (conv => whnf)
      repeat' (first
        | (refine Need.mk ?_ ?_; (focus (omega)); conv => whnf)
        | (refine Pick.mk ?_ ?_ ?_; rotate_left; (focus (first | with_reducible exact set_en1 _ _ _ _ | with_reducible exact set_en0 _ _ _ _ | assumption | (refine wid ?_ ?_ <;> omega))); conv => whnf)
        | (refine SeqJ.thru ?_; conv => whnf)
        | (refine br_dec (fun _ => ?_) (fun _ => ?_) <;> first | (exfalso; omega) | contradiction | conv => whnf)
        | (refine br_not ?_; conv => whnf)
        | (refine br_bne (fun _ => ?_) (fun _ => ?_) <;> first | (exfalso; omega) | contradiction | conv => whnf)
        | (refine br_beq (fun _ => ?_) (fun _ => ?_) <;> first | (exfalso; omega) | contradiction | conv => whnf))
      refine Hand.mk [] ?_
      try (conv => whnf)
      refine CallW.d (l_markText (k + 3 * i + 1 + 1) (by omega) (by omega)) ?_
      try (conv => whnf)
      repeat (first
        | (refine Need.mk ?_ ?_; (focus (omega)); conv => whnf)
        | (refine Pick.mk ?_ ?_ ?_; rotate_left; (focus (first | with_reducible exact set_en2 _ _ _ _ | assumption | (refine wid ?_ ?_ <;> omega))); conv => whnf))
      refine Pick.mk (i + 1) (by constructor <;> first | omega | (simp only []; omega)) (LeX.of ?_)
      try (conv => whnf)
      repeat (refine Need.mk ?_ ?_; (focus (omega)); conv => whnf)
      refine Need.mk (by rw [← hstep, List.set_set, List.set_set]) ?_
      try (conv => whnf)
      trivial
    · try (conv => whnf)
      repeat' (first
        | (refine br_dec (fun _ => ?_) (fun _ => ?_) <;> first | (exfalso; omega) | contradiction | conv => whnf)
        | (refine br_not ?_; conv => whnf)
        | (refine br_bne (fun _ => ?_) (fun _ => ?_) <;> first | (exfalso; omega) | contradiction | conv => whnf)
        | (refine br_beq (fun _ => ?_) (fun _ => ?_) <;> first | (exfalso; omega) | contradiction | conv => whnf))
      refine Out.mk false [0, 1, 2, 3, 4] [] ?_
      try (conv => whnf)
      repeat (refine Need.mk ?_ ?_; (focus (exact flat_en _)); conv => whnf)
      rw [over_end (by simp) (by omega)]
      exact ⟨by congr; omega, rfl⟩
theorem l_heldEntryS (n : Nat) (k : Int) (ha : n ≤ 2 ^ 39) (h0 : 0 < k) (h1 : k ≤ 2 ^ 58) :
    CallD Try.prog id_laws_heldEntryS [vE (markEs k n), vI .i64 k] [] (vI .i64 (k + 3 * n)) [] := by
  refine F_laws_heldEntryS ?_
  have hm : (markEs k n).length = n := by simp
  try (conv => whnf)
  refine LoopE.mk (fun i : Nat => mk [(0, vE (markEs k n)), (1, vI .i64 (k + 3 * i)), (5, vI .i64 i)] []) (fun i => i ≤ n) (fun i => n - i) 0 (by omega) (LeX.of ?_) ?_
  · try (conv => whnf)
    repeat (refine Need.mk ?_ ?_; (focus (first | omega | (simp; done))); conv => whnf)
    trivial
  · intro i hi
    rcases Nat.lt_or_ge i n with hlt | hge
    · have p0 := at_e (markEs k n) (i : Int) i rfl (by omega)
      rw [markEs_get k hlt] at p0
      try (conv => whnf)
      repeat' (first
        | (refine Pick.mk ?_ ?_ ?_; rotate_left; (focus (first | assumption | exact List.length_map _ | (refine wid ?_ ?_ <;> omega))); conv => whnf)
        | (refine SeqJ.thru ?_; conv => whnf)
        | (refine br_dec (fun _ => ?_) (fun _ => ?_) <;> first | (exfalso; omega) | contradiction | conv => whnf)
        | (refine br_not ?_; conv => whnf)
        | (refine br_bne (fun _ => ?_) (fun _ => ?_) <;> first | (exfalso; omega) | contradiction | conv => whnf)
        | (refine br_beq (fun _ => ?_) (fun _ => ?_) <;> first | (exfalso; omega) | contradiction | conv => whnf))
      refine Hand.mk [] ?_
      try (conv => whnf)
      refine CallW.d (l_markText (k + 3 * i + 1 + 1) (by omega) (by omega)) ?_
      try (conv => whnf)
      refine Need.mk ?_ ?_
      · try (conv => whnf)
        repeat (first
          | (refine Need.mk ?_ ?_; (focus ((simp; done))); conv => whnf)
          | (refine Pick.mk ?_ ?_ ?_; rotate_left; (focus (assumption)); conv => whnf))
        exact Done.mk trivial
      try (conv => whnf)
      repeat' (first
        | (refine Pick.mk ?_ ?_ ?_; rotate_left; (focus (first | exact bs_beq _ _ | (refine wid ?_ ?_ <;> omega))); conv => whnf)
        | (refine br_dec (fun _ => ?_) (fun _ => ?_) <;> first | (exfalso; omega) | contradiction | conv => whnf)
        | (refine br_not ?_; conv => whnf)
        | (refine br_bne (fun _ => ?_) (fun _ => ?_) <;> first | (exfalso; omega) | contradiction | conv => whnf)
        | (refine br_beq (fun _ => ?_) (fun _ => ?_) <;> first | (exfalso; omega) | contradiction | conv => whnf))
      · refine Pick.mk (i + 1) (by constructor <;> first | omega | (simp only []; omega)) (LeX.of ?_)
        try (conv => whnf)
        repeat (refine Need.mk ?_ ?_; (focus (first | omega | (simp; done))); conv => whnf)
        trivial
      all_goals
        rename_i g
        exact absurd rfl g
    · try (conv => whnf)
      repeat' (first
        | (refine Pick.mk ?_ ?_ ?_; rotate_left; (focus (exact List.length_map _)); conv => whnf)
        | (refine br_dec (fun _ => ?_) (fun _ => ?_) <;> first | (exfalso; omega) | contradiction | conv => whnf)
        | (refine br_not ?_; conv => whnf)
        | (refine br_bne (fun _ => ?_) (fun _ => ?_) <;> first | (exfalso; omega) | contradiction | conv => whnf)
        | (refine br_beq (fun _ => ?_) (fun _ => ?_) <;> first | (exfalso; omega) | contradiction | conv => whnf))
      refine Out.mk true [] [] ?_
      try (conv => whnf)
      exact ⟨by congr; omega, rfl⟩
theorem l_heldIntS (n : Nat) (k : Int) (ha : n ≤ 2 ^ 39) (h0 : 0 ≤ k) (h1 : k ≤ 2 ^ 60) :
    CallD Try.prog id_laws_heldIntS [vN (markIs k n), vI .i64 k] [] (vI .i64 (k + n)) [] := by
  refine F_laws_heldIntS ?_
  have hm : (markIs k n).length = n := by simp
  try (conv => whnf)
  refine LoopE.mk (fun i : Nat => mk [(0, vN (markIs k n)), (1, vI .i64 (k + i)), (5, vI .i64 i)] []) (fun i => i ≤ n) (fun i => n - i) 0 (by omega) (LeX.of ?_) ?_
  · try (conv => whnf)
    repeat (refine Need.mk ?_ ?_; (focus (first | omega | (simp; done))); conv => whnf)
    trivial
  · intro i hi
    try (conv => whnf)
    repeat' (first
      | (refine Pick.mk ?_ ?_ ?_; rotate_left; (focus (first | exact List.length_map _ | (refine wid ?_ ?_ <;> omega) | (refine pick_nat _ _ _ ?_; omega))); conv => whnf)
      | (refine SeqJ.thru ?_; conv => whnf)
      | (refine br_dec (fun _ => ?_) (fun _ => ?_) <;> first | (exfalso; omega) | contradiction | conv => whnf)
      | (refine br_not ?_; conv => whnf)
      | (refine br_bne (fun _ => ?_) (fun _ => ?_) <;> first | (exfalso; omega) | contradiction | conv => whnf)
      | (refine br_beq (fun _ => ?_) (fun _ => ?_) <;> first | (exfalso; omega) | contradiction | conv => whnf))
    · refine Pick.mk (i + 1) (by constructor <;> first | omega | (simp only []; omega)) (LeX.of ?_)
      try (conv => whnf)
      repeat (refine Need.mk ?_ ?_; (focus (first | omega | (simp; done))); conv => whnf)
      trivial
    · rename_i g1 g2
      exfalso
      rw [markIs_get k (by omega)] at g2
      simp at g2
    · refine Out.mk true [] [] ?_
      try (conv => whnf)
      exact ⟨by congr; omega, rfl⟩
theorem l_heldVector (n : Nat) (k : Int) (ha : n ≤ 2 ^ 39) (h0 : 0 ≤ k) (h1 : k ≤ 2 ^ 60) :
    CallD Try.prog id_laws_heldVector [vV (markIs k n), vI .i64 k] [] (vI .i64 (k + n)) [] := by
  refine F_laws_heldVector ?_
  try (conv => whnf)
  refine Hand.mk [] ?_
  try (conv => whnf)
  refine CallW.d (l_heldIntS n k ha h0 h1) ?_
  try (conv => whnf)
  try (conv => whnf)
  repeat' (first
    | (refine br_dec (fun _ => ?_) (fun _ => ?_) <;> first | (exfalso; omega) | contradiction | conv => whnf)
    | (refine br_not ?_; conv => whnf)
    | (refine br_bne (fun _ => ?_) (fun _ => ?_) <;> first | (exfalso; omega) | contradiction | conv => whnf)
    | (refine br_beq (fun _ => ?_) (fun _ => ?_) <;> first | (exfalso; omega) | contradiction | conv => whnf))
  refine Out.mk true [] [] ?_
  try (conv => whnf)
  exact ⟨rfl, rfl⟩
theorem l_heldMulti (n m : Nat) (k : Int) (ha : n ≤ 2 ^ 39) (hm : m ≤ 2 ^ 39) (h0 : 0 < k) (h1 : k ≤ 2 ^ 57) :
    CallD Try.prog id_laws_heldMulti [vM (markIs k n) (markEs (k + n) m), vI .i64 k] [] (vI .i64 (k + n + 3 * m)) [] := by
  refine F_laws_heldMulti ?_
  try (conv => whnf)
  refine Hand.mk [] ?_
  try (conv => whnf)
  refine CallW.d (l_heldVector n k ha (by omega) (by omega)) ?_
  try (conv => whnf)
  try (conv => whnf)
  repeat' (first
    | (refine br_dec (fun _ => ?_) (fun _ => ?_) <;> first | (exfalso; omega) | contradiction | conv => whnf)
    | (refine br_not ?_; conv => whnf)
    | (refine br_bne (fun _ => ?_) (fun _ => ?_) <;> first | (exfalso; omega) | contradiction | conv => whnf)
    | (refine br_beq (fun _ => ?_) (fun _ => ?_) <;> first | (exfalso; omega) | contradiction | conv => whnf))
  refine Hand.mk [] ?_
  try (conv => whnf)
  refine CallW.d (l_heldEntryS m (k + n) hm (by omega) (by omega)) ?_
  try (conv => whnf)
  try (conv => whnf)
  repeat' (first
    | (refine br_dec (fun _ => ?_) (fun _ => ?_) <;> first | (exfalso; omega) | contradiction | conv => whnf)
    | (refine br_not ?_; conv => whnf)
    | (refine br_bne (fun _ => ?_) (fun _ => ?_) <;> first | (exfalso; omega) | contradiction | conv => whnf)
    | (refine br_beq (fun _ => ?_) (fun _ => ?_) <;> first | (exfalso; omega) | contradiction | conv => whnf))
  refine Out.mk true [] [] ?_
  try (conv => whnf)
  exact ⟨rfl, rfl⟩
theorem l_markMulti (s : List Int) (l : List EntV) (k : Int) (ha : s.length ≤ 2 ^ 39) (hl : l.length ≤ 2 ^ 39) (h0 : 0 < k) (h1 : k ≤ 2 ^ 57) :
    CallMD Try.prog id_laws_markMulti [vMw s l, vI .i64 k] [.own 1 (s.map inD), .own 3 (l.map entD)] [] (vI .i64 (k + s.length + 3 * l.length)) [.own 1 ((markIs k s.length).map inD), .own 3 ((markEs (k + s.length) l.length).map entD)] := by
  refine F_laws_markMulti ?_
  try (conv => whnf)
  refine Hand.mk [0] ?_
  try (conv => whnf)
  refine CallW.m (l_markVector s k ha (by omega) (by omega)) ?_
  try (conv => whnf)
  refine Hand.mk [0] ?_
  try (conv => whnf)
  refine CallW.m (l_markEntryS l (k + s.length) hl (by omega) (by omega)) ?_
  try (conv => whnf)
  refine Out.mk false [0, 1, 2, 3, 4] [] ?_
  try (conv => whnf)
  repeat (refine Need.mk ?_ ?_; (focus (first | exact flat_en _ | (first | exact flat_by _ | exact flat_in _ | exact flat_st _ | exact flat_ts _ | exact flat_bo _ | exact flat_cl rfl))); conv => whnf)
  exact ⟨rfl, rfl⟩
theorem l_szEntry (e : EntV) (left : Int) (hk : e.x.length ≤ 9223372036854775807) (h0 : 0 ≤ left) (h1 : left ≤ 2 ^ 40) :
    CallD Try.prog id_laws_szEntry [vEn e, vI .i64 left] [] (vI .i64 (szL left e.x.length)) [] := by
  refine F_laws_szEntry ?_
  try (conv => whnf)
  repeat' (first
    | (refine Pick.mk ?_ ?_ ?_; rotate_left; (focus (first | exact size_bs _ | (refine wid ?_ ?_ <;> omega))); conv => whnf)
    | (refine br_dec (fun _ => ?_) (fun _ => ?_) <;> first | (exfalso; omega) | contradiction | conv => whnf)
    | (refine br_not ?_; conv => whnf)
    | (refine br_bne (fun _ => ?_) (fun _ => ?_) <;> first | (exfalso; omega) | contradiction | conv => whnf)
    | (refine br_beq (fun _ => ?_) (fun _ => ?_) <;> first | (exfalso; omega) | contradiction | conv => whnf))
  all_goals
    refine Out.mk true [] [] ?_
    try (conv => whnf)
  all_goals first
    | exact ⟨by rw [szL, if_pos (by omega)], rfl⟩
    | exact ⟨by rw [szL, if_neg (by omega)], rfl⟩
/-- How many bytes texts of entries have. -/
def eTot (l : List EntV) : Nat := (l.map fun e => e.x.length).sum
theorem eTot_take {l : List EntV} {i : Nat} (h : i < l.length) : eTot (l.take (i + 1)) = eTot (l.take i) + l[i].x.length := by
  rw [List.take_succ_eq_append_getElem h, eTot, eTot, List.map_append, List.sum_append]; simp
theorem eTot_take_le (l : List EntV) (i : Nat) : eTot (l.take i) ≤ eTot l := by
  conv => rhs; rw [← List.take_append_drop i l]
  rw [eTot, eTot, List.map_append, List.sum_append]
  omega
theorem l_szEntryS (l : List EntV) (left : Int) (hl : l.length ≤ 9223372036854775807) (hm : ∀ e ∈ l, e.x.length ≤ 9223372036854775807) (h0 : 0 ≤ left) (h1 : left ≤ 2 ^ 40) :
    CallD Try.prog id_laws_szEntryS [vE l, vI .i64 left] [] (vI .i64 (szL left (l.length + eTot l))) [] := by
  refine F_laws_szEntryS ?_
  try (conv => whnf)
  repeat' (first
    | (refine Pick.mk ?_ ?_ ?_; rotate_left; (focus (first | exact List.length_map _ | (refine wid ?_ ?_ <;> omega))); conv => whnf)
    | (refine br_dec (fun _ => ?_) (fun _ => ?_) <;> first | (exfalso; omega) | contradiction | conv => whnf)
    | (refine br_not ?_; conv => whnf)
    | (refine br_bne (fun _ => ?_) (fun _ => ?_) <;> first | (exfalso; omega) | contradiction | conv => whnf)
    | (refine br_beq (fun _ => ?_) (fun _ => ?_) <;> first | (exfalso; omega) | contradiction | conv => whnf))
  · refine Out.mk true [] [] ?_
    try (conv => whnf)
    exact ⟨by rw [szL, if_pos (by omega)], rfl⟩
  · refine LoopE.mk (fun i : Nat => mk [(0, vE l), (1, vI .i64 (left - l.length - eTot (l.take i))), (5, vI .i64 i)] []) (fun i => i ≤ l.length ∧ 0 ≤ left - l.length - eTot (l.take i)) (fun i => l.length - i) 0 ⟨by omega, by simp [eTot]; omega⟩ (LeX.of ?_) ?_
    · try (conv => whnf)
      repeat (refine Need.mk ?_ ?_; (focus (first | omega | (simp; done) | (simp [eTot]; done))); conv => whnf)
      trivial
    · rintro i ⟨hi, hg⟩
      have e1 := eTot_take_le l (i + 1)
      rcases Nat.lt_or_ge i l.length with hlt | hge
      · have e2 := eTot_take hlt
        have hx := hm _ (List.getElem_mem hlt)
        try (conv => whnf)
        repeat' (first
          | (refine Pick.mk ?_ ?_ ?_; rotate_left; (focus (first | exact List.length_map _ | (refine pick_nat _ _ _ ?_; omega))); conv => whnf)
          | (refine SeqJ.thru ?_; conv => whnf)
          | (refine br_dec (fun _ => ?_) (fun _ => ?_) <;> first | (exfalso; omega) | contradiction | conv => whnf)
          | (refine br_not ?_; conv => whnf)
          | (refine br_bne (fun _ => ?_) (fun _ => ?_) <;> first | (exfalso; omega) | contradiction | conv => whnf)
          | (refine br_beq (fun _ => ?_) (fun _ => ?_) <;> first | (exfalso; omega) | contradiction | conv => whnf))
        refine Hand.mk [] ?_
        try (conv => whnf)
        refine CallW.d (l_szEntry l[i] (left - l.length - eTot (l.take i)) hx (by omega) (by omega)) ?_
        try (conv => whnf)
        by_cases hz : left - l.length - eTot (l.take i) < (l[i].x.length : Nat)
        · rw [szL, if_pos hz]
          try (conv => whnf)
          repeat' (first
            | (refine br_dec (fun _ => ?_) (fun _ => ?_) <;> first | (exfalso; omega) | contradiction | conv => whnf)
            | (refine br_not ?_; conv => whnf)
            | (refine br_bne (fun _ => ?_) (fun _ => ?_) <;> first | (exfalso; omega) | contradiction | conv => whnf)
            | (refine br_beq (fun _ => ?_) (fun _ => ?_) <;> first | (exfalso; omega) | contradiction | conv => whnf))
          refine Out.mk true [] [] ?_
          try (conv => whnf)
          exact ⟨by rw [szL, if_pos (by omega)], rfl⟩
        · rw [szL, if_neg hz]
          try (conv => whnf)
          repeat' (first
            | (refine Pick.mk ?_ ?_ ?_; rotate_left; (focus ((refine wid ?_ ?_ <;> omega))); conv => whnf)
            | (refine br_dec (fun _ => ?_) (fun _ => ?_) <;> first | (exfalso; omega) | contradiction | conv => whnf)
            | (refine br_not ?_; conv => whnf)
            | (refine br_bne (fun _ => ?_) (fun _ => ?_) <;> first | (exfalso; omega) | contradiction | conv => whnf)
            | (refine br_beq (fun _ => ?_) (fun _ => ?_) <;> first | (exfalso; omega) | contradiction | conv => whnf))
          refine Pick.mk (i + 1) ⟨⟨by omega, by omega⟩, by omega⟩ (LeX.of ?_)
          try (conv => whnf)
          repeat (refine Need.mk ?_ ?_; (focus (first | omega | (simp; done))); conv => whnf)
          trivial
      · rw [List.take_of_length_le hge] at hg ⊢
        try (conv => whnf)
        repeat' (first
          | (refine Pick.mk ?_ ?_ ?_; rotate_left; (focus (exact List.length_map _)); conv => whnf)
          | (refine br_dec (fun _ => ?_) (fun _ => ?_) <;> first | (exfalso; omega) | contradiction | conv => whnf)
          | (refine br_not ?_; conv => whnf)
          | (refine br_bne (fun _ => ?_) (fun _ => ?_) <;> first | (exfalso; omega) | contradiction | conv => whnf)
          | (refine br_beq (fun _ => ?_) (fun _ => ?_) <;> first | (exfalso; omega) | contradiction | conv => whnf))
        refine Out.mk true [] [] ?_
        try (conv => whnf)
        exact ⟨by rw [szL, if_neg (by omega)]; exact vI_ext (by push_cast; omega), rfl⟩
theorem l_szMulti (s : List Int) (l : List EntV) (left : Int) (hs : s.length ≤ 9223372036854775807) (hl : l.length ≤ 9223372036854775807) (hm : ∀ e ∈ l, e.x.length ≤ 9223372036854775807) (h0 : 0 ≤ left) (h1 : left ≤ 2 ^ 40) :
    CallD Try.prog id_laws_szMulti [vM s l, vI .i64 left] [] (vI .i64 (szL left (s.length + (l.length + eTot l)))) [] := by
  refine F_laws_szMulti ?_
  try (conv => whnf)
  refine Hand.mk [] ?_
  try (conv => whnf)
  refine CallW.d (l_szVector s left hs h0 h1) ?_
  try (conv => whnf)
  by_cases h : left < s.length
  · rw [show szL left s.length = -1 from if_pos h]
    try (conv => whnf)
    repeat' (first
      | (refine br_dec (fun _ => ?_) (fun _ => ?_) <;> first | (exfalso; omega) | contradiction | conv => whnf)
      | (refine br_not ?_; conv => whnf)
      | (refine br_bne (fun _ => ?_) (fun _ => ?_) <;> first | (exfalso; omega) | contradiction | conv => whnf)
      | (refine br_beq (fun _ => ?_) (fun _ => ?_) <;> first | (exfalso; omega) | contradiction | conv => whnf))
    refine Out.mk true [] [] ?_
    try (conv => whnf)
    exact ⟨by rw [szL, if_pos (by omega)], rfl⟩
  · rw [show szL left s.length = left - s.length from if_neg h]
    try (conv => whnf)
    repeat' (first
      | (refine br_dec (fun _ => ?_) (fun _ => ?_) <;> first | (exfalso; omega) | contradiction | conv => whnf)
      | (refine br_not ?_; conv => whnf)
      | (refine br_bne (fun _ => ?_) (fun _ => ?_) <;> first | (exfalso; omega) | contradiction | conv => whnf)
      | (refine br_beq (fun _ => ?_) (fun _ => ?_) <;> first | (exfalso; omega) | contradiction | conv => whnf))
    refine Hand.mk [] ?_
    try (conv => whnf)
    refine CallW.d (l_szEntryS l (left - s.length) hl hm (by omega) (by omega)) ?_
    try (conv => whnf)
    by_cases h2 : left - s.length < (l.length + eTot l : Nat)
    · rw [show szL (left - s.length) (l.length + eTot l) = -1 from if_pos h2]
      try (conv => whnf)
      repeat' (first
        | (refine br_dec (fun _ => ?_) (fun _ => ?_) <;> first | (exfalso; omega) | contradiction | conv => whnf)
        | (refine br_not ?_; conv => whnf)
        | (refine br_bne (fun _ => ?_) (fun _ => ?_) <;> first | (exfalso; omega) | contradiction | conv => whnf)
        | (refine br_beq (fun _ => ?_) (fun _ => ?_) <;> first | (exfalso; omega) | contradiction | conv => whnf))
      refine Out.mk true [] [] ?_
      try (conv => whnf)
      exact ⟨by rw [szL, if_pos (by omega)], rfl⟩
    · rw [show szL (left - s.length) (l.length + eTot l) = left - s.length - (l.length + eTot l : Nat) from if_neg h2]
      try (conv => whnf)
      repeat' (first
        | (refine br_dec (fun _ => ?_) (fun _ => ?_) <;> first | (exfalso; omega) | contradiction | conv => whnf)
        | (refine br_not ?_; conv => whnf)
        | (refine br_bne (fun _ => ?_) (fun _ => ?_) <;> first | (exfalso; omega) | contradiction | conv => whnf)
        | (refine br_beq (fun _ => ?_) (fun _ => ?_) <;> first | (exfalso; omega) | contradiction | conv => whnf))
      refine Out.mk true [] [] ?_
      try (conv => whnf)
      exact ⟨by rw [szL, if_neg (by omega)]; exact vI_ext (by push_cast; omega), rfl⟩
end Go.Proofs.Ytoklfidamhigcaa.D
