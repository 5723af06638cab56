/- Runs of numbers written, by both. -/
import Derived.Test.YtoklfidamhigcaaCod
namespace Go.Proofs.Ytoklfidamhigcaa.D
open Go.RowKit
set_option maxRecDepth 100000
set_option maxHeartbeats 4000000
set_option linter.unusedVariables false
set_option linter.unusedSimpArgs false

theorem i_zig (d : Int) (h : -4611686018427387903 ≤ d ∧ d ≤ 4611686018427387903) : CallD Try.prog id_impl_zig [vI .i64 d] [] (vI .i64 (zig d)) [] := by
  refine F_impl_zig ?_
  try (conv => whnf)
  repeat' (first
    | (refine Pick.mk ?_ ?_ ?_; rotate_left; (focus ((refine wid ?_ ?_ <;> omega))); conv => whnf)
    | (refine SeqJ.thru ?_; conv => whnf)
    | (refine br_dec (fun _ => ?_) (fun _ => ?_) <;> first | (exfalso; omega) | contradiction | conv => whnf)
    | (refine br_not ?_; conv => whnf)
    | (refine br_bne (fun _ => ?_) (fun _ => ?_) <;> first | (exfalso; omega) | contradiction | conv => whnf)
    | (refine br_beq (fun _ => ?_) (fun _ => ?_) <;> first | (exfalso; omega) | contradiction | conv => whnf))
  · refine Out.mk true [] [] ?_
    try (conv => whnf)
    exact ⟨by simp only [zig]; rw [if_pos (by omega)]; congr; omega, rfl⟩
  · refine Out.mk true [] [] ?_
    try (conv => whnf)
    exact ⟨by simp only [zig]; rw [if_neg (by omega)]; congr; omega, rfl⟩
theorem zig_lt {d : Int} (h : -4611686018427387903 ≤ d ∧ d ≤ 4611686018427387903) : zig d < 2 ^ 63 := by
  simp only [zig]; split <;> omega
theorem s_l01Signed (d : Int) (h : -4611686018427387903 ≤ d ∧ d ≤ 4611686018427387903) : CallD Try.prog id_spec_l01Signed [vI .i64 d] [] (.one (.os 0 1 0 (put (zig d)).length)) [.own 1 ((put (zig d)).map byD)] := by
  refine F_spec_l01Signed ?_
  have hz := zig_lt h
  try (conv => whnf)
  repeat' (first
    | (refine Pick.mk ?_ ?_ ?_; rotate_left; (focus ((refine wid ?_ ?_ <;> omega))); conv => whnf)
    | (refine SeqJ.thru ?_; conv => whnf)
    | (refine br_dec (fun _ => ?_) (fun _ => ?_) <;> first | (exfalso; omega) | contradiction | conv => whnf)
    | (refine br_not ?_; conv => whnf)
    | (refine br_bne (fun _ => ?_) (fun _ => ?_) <;> first | (exfalso; omega) | contradiction | conv => whnf)
    | (refine br_beq (fun _ => ?_) (fun _ => ?_) <;> first | (exfalso; omega) | contradiction | conv => whnf))
  · have e : -2 * d - 1 = ((zig d : Nat) : Int) := by simp only [zig]; rw [if_pos (by omega)]; omega
    rw [e]
    refine Hand.mk [] ?_
    try (conv => whnf)
    refine CallW.d (s_l01Put (zig d) hz) ?_
    try (conv => whnf)
    refine Out.mk false [0, 1, 2, 3, 4] [] ?_
    try (conv => whnf)
    repeat (refine Need.mk ?_ ?_; (focus ((first | exact flat_by _ | exact flat_in _ | exact flat_st _ | exact flat_ts _ | exact flat_bo _ | exact flat_cl rfl))); conv => whnf)
    exact ⟨rfl, rfl⟩
  · have e : 2 * d = ((zig d : Nat) : Int) := by simp only [zig]; rw [if_neg (by omega)]; omega
    rw [e]
    refine Hand.mk [] ?_
    try (conv => whnf)
    refine CallW.d (s_l01Put (zig d) hz) ?_
    try (conv => whnf)
    refine Out.mk false [0, 1, 2, 3, 4] [] ?_
    try (conv => whnf)
    repeat (refine Need.mk ?_ ?_; (focus ((first | exact flat_by _ | exact flat_in _ | exact flat_st _ | exact flat_ts _ | exact flat_bo _ | exact flat_cl rfl))); conv => whnf)
    exact ⟨rfl, rfl⟩
theorem at_i (l : List Int) (n : Int) (m : Nat) (h : n = m) (hm : m < l.length) : 0 ≤ n ∧ (l.map inD)[n.toNat]? = some (inD l[m]) := by
  subst h; exact pick_nat l inD m hm
theorem rl_at {l : List Int} {i : Nat} (h : i + 1 < l.length) : rl (l.drop i) = 2 + more (l[i + 1] - l[i]) l[i + 1] (l.drop (i + 2)) := by
  rw [List.drop_eq_getElem_cons (show i < l.length by omega), List.drop_eq_getElem_cons h, rl]
  show more _ _ (l.drop (i + 2)) + 2 = _
  omega
theorem rl_last {l : List Int} {i : Nat} (h : i < l.length) (h1 : ¬ i + 1 < l.length) : rl (l.drop i) = 1 := by
  rw [List.drop_eq_getElem_cons h, List.drop_eq_nil_of_le (by omega), rl]
theorem more_at {l : List Int} {d : Int} {j : Nat} (h : j + 1 < l.length) : more d (l[j]) (l.drop (j + 1)) = if l[j + 1] - l[j] = d then more d l[j + 1] (l.drop (j + 2)) + 1 else 0 := by
  rw [List.drop_eq_getElem_cons h, more]
theorem inM_get {l : List Int} (h : ∀ x ∈ l, inM x) {i : Nat} (hi : i < l.length) : 0 ≤ l[i] ∧ l[i] ≤ 1152921504606846975 := h _ (List.getElem_mem hi)
theorem i_runLen (l : List Int) (i : Nat) (hx : ∀ x ∈ l, inM x) (hl : l.length ≤ 2 ^ 40) (hi : i < l.length) : CallD Try.prog id_impl_runLen [vN l, vI .i64 i] [] (vI .i64 (rl (l.drop i))) [] := by
  refine F_impl_runLen ?_
  by_cases h1 : i + 1 < l.length
  · have p1 := at_i l ((i : Int) + 1) (i + 1) (by omega) h1
    have p2 := at_i l (i : Int) i rfl hi
    have b1 := inM_get hx h1
    have b2 := inM_get hx hi
    have hr := rl_at h1
    try (conv => whnf)
    repeat' (first
      | (refine Pick.mk ?_ ?_ ?_; rotate_left; (focus (first | assumption | exact List.length_map _ | (refine wid ?_ ?_ <;> omega))); conv => whnf)
      | (refine SeqJ.thru ?_; conv => whnf)
      | (refine br_dec (fun _ => ?_) (fun _ => ?_) <;> first | (exfalso; omega) | contradiction | conv => whnf)
      | (refine br_not ?_; conv => whnf)
      | (refine br_bne (fun _ => ?_) (fun _ => ?_) <;> first | (exfalso; omega) | contradiction | conv => whnf)
      | (refine br_beq (fun _ => ?_) (fun _ => ?_) <;> first | (exfalso; omega) | contradiction | conv => whnf))
    refine LoopE.mk (fun n : Nat => mk [(0, vN l), (1, vI .i64 i), (5, vI .i64 (l[i + 1] - l[i])), (6, vI .i64 n)] [])
      (fun n => ∃ h : i + n - 1 < l.length, 2 ≤ n ∧ rl (l.drop i) = n + more (l[i + 1] - l[i]) l[i + n - 1] (l.drop (i + n))) (fun n => l.length - n) 2 ⟨by omega, by omega, hr⟩ (LeX.of ?_) ?_
    · try (conv => whnf)
      repeat (refine Need.mk ?_ ?_; (focus (first | omega | (simp; done))); conv => whnf)
      trivial
    · rintro n ⟨hn, h2, h3⟩
      by_cases h4 : i + n < l.length
      · have q1 := at_i l ((i : Int) + (n : Int)) (i + n) (by omega) h4
        have q2 := at_i l ((i : Int) + (n : Int) - 1) (i + n - 1) (by omega) hn
        have c1 := inM_get hx h4
        have c2 := inM_get hx hn
        have hm := more_at (l := l) (d := l[i + 1] - l[i]) (j := i + n - 1) (by omega)
        have e1 : i + n - 1 + 1 = i + n := by omega
        have e2 : i + n - 1 + 2 = i + (n + 1) := by omega
        simp only [e1, e2] at hm
        rw [hm] at h3
        try (conv => whnf)
        repeat' (first
          | (refine Pick.mk ?_ ?_ ?_; rotate_left; (focus (first | assumption | exact List.length_map _ | (refine wid ?_ ?_ <;> omega))); conv => whnf)
          | (refine SeqJ.thru ?_; conv => whnf)
          | (refine br_dec (fun _ => ?_) (fun _ => ?_) <;> first | (exfalso; omega) | contradiction | conv => whnf)
          | (refine br_not ?_; conv => whnf)
          | (refine br_bne (fun _ => ?_) (fun _ => ?_) <;> first | (exfalso; omega) | contradiction | conv => whnf)
          | (refine br_beq (fun _ => ?_) (fun _ => ?_) <;> first | (exfalso; omega) | contradiction | conv => whnf))
        · rename_i g1 g2
          rw [if_pos g2] at h3
          refine Pick.mk (n + 1) ⟨⟨h4, by omega, ?_⟩, by omega⟩ (LeX.of ?_)
          · rw [h3]
            show n + (more _ l[i + n] _ + 1) = _
            have e3 : l[i + (n + 1) - 1]'h4 = l[i + n] := rfl
            rw [e3]; omega
          · try (conv => whnf)
            repeat (refine Need.mk ?_ ?_; (focus (first | omega | (simp; done))); conv => whnf)
            trivial
        · rename_i g1 g2
          rw [if_neg g2] at h3
          refine Out.mk true [] [] ?_
          try (conv => whnf)
          rw [h3]
          exact ⟨rfl, rfl⟩
      · have hd : l.drop (i + n) = [] := List.drop_eq_nil_of_le (by omega)
        rw [hd] at h3
        simp only [more, Nat.add_zero] at h3
        try (conv => whnf)
        repeat' (first
          | (refine Pick.mk ?_ ?_ ?_; rotate_left; (focus (first | exact List.length_map _ | (refine wid ?_ ?_ <;> omega))); conv => whnf)
          | (refine SeqJ.thru ?_; conv => whnf)
          | (refine br_dec (fun _ => ?_) (fun _ => ?_) <;> first | (exfalso; omega) | contradiction | conv => whnf)
          | (refine br_not ?_; conv => whnf)
          | (refine br_bne (fun _ => ?_) (fun _ => ?_) <;> first | (exfalso; omega) | contradiction | conv => whnf)
          | (refine br_beq (fun _ => ?_) (fun _ => ?_) <;> first | (exfalso; omega) | contradiction | conv => whnf))
        refine Out.mk true [] [] ?_
        try (conv => whnf)
        rw [h3]
        exact ⟨rfl, rfl⟩
  · have hr := rl_last hi h1
    try (conv => whnf)
    repeat' (first
      | (refine Pick.mk ?_ ?_ ?_; rotate_left; (focus (first | exact List.length_map _ | (refine wid ?_ ?_ <;> omega))); conv => whnf)
      | (refine SeqJ.thru ?_; conv => whnf)
      | (refine br_dec (fun _ => ?_) (fun _ => ?_) <;> first | (exfalso; omega) | contradiction | conv => whnf)
      | (refine br_not ?_; conv => whnf)
      | (refine br_bne (fun _ => ?_) (fun _ => ?_) <;> first | (exfalso; omega) | contradiction | conv => whnf)
      | (refine br_beq (fun _ => ?_) (fun _ => ?_) <;> first | (exfalso; omega) | contradiction | conv => whnf))
    refine Out.mk true [] [] ?_
    try (conv => whnf)
    rw [hr]
    exact ⟨rfl, rfl⟩
theorem putRs_step {l : List Int} {i : Nat} (h : i < l.length) : putRs (l.drop i) =
    put (l[i]).toNat ++ put (rl (l.drop i)) ++ (if h : i + 1 < l.length then put (zig (l[i + 1] - l[i])) else []) ++ putRs (l.drop (i + rl (l.drop i))) := by
  by_cases h1 : i + 1 < l.length
  · rw [dif_pos h1]
    have e : l.drop i = l[i] :: l[i + 1] :: l.drop (i + 2) := by rw [List.drop_eq_getElem_cons h, List.drop_eq_getElem_cons h1]
    rw [← List.drop_drop]
    generalize hk : rl (l.drop i) = k
    rw [e] at hk ⊢
    rw [putRs_two, hk]
  · rw [dif_neg h1, rl_last h h1, List.drop_eq_nil_of_le (show l.length ≤ i + 1 by omega), List.drop_eq_getElem_cons h, List.drop_eq_nil_of_le (show l.length ≤ i + 1 by omega), putRs_one, putRs_nil]
    simp
theorem putRs_len : ∀ (n : Nat) (l : List Int), l.length ≤ n → (∀ x ∈ l, inM x) → l.length ≤ 2 ^ 40 → (putRs l).length ≤ 27 * l.length := by
  intro n
  induction n with
  | zero => intro l h _ _; have : l = [] := List.eq_nil_of_length_eq_zero (by omega); subst this; simp [putRs_nil]
  | succ n ih =>
    intro l h hx hl
    rcases Nat.eq_zero_or_pos l.length with h0 | h0
    · have : l = [] := List.eq_nil_of_length_eq_zero h0; subst this; simp [putRs_nil]
    · have e := putRs_step (l := l) h0
      have b := inM_get hx h0
      have hr := rl_le l
      have hp := rl_pos (s := l) (by intro e; rw [e] at h0; simp at h0)
      simp only [List.drop_zero, Nat.zero_add] at e
      have h2 := ih (l.drop (rl l)) (by simp; omega) (fun x hx' => hx x (List.mem_of_mem_drop hx')) (by simp; omega)
      have b1 := put_len (n := (l[0]).toNat) (by omega)
      have b2 := put_len (n := rl l) (by omega)
      have b3 : (if h : 1 < l.length then put (zig (l[1] - l[0])) else []).length ≤ 9 := by
        split
        · rename_i h1
          have c := inM_get hx h1
          exact put_len (zig_lt (by omega))
        · simp
      have := congrArg List.length e
      simp only [List.length_append, List.length_drop] at this h2
      rw [this]
      have : 27 * (l.length - rl l) + 27 * 1 ≤ 27 * l.length := by omega
      omega
theorem i_appendRuns (a : List UInt8) (n : Nat) (l : List Int) (hn : n = a.length) (ha : n ≤ 2 ^ 40) (hx : ∀ x ∈ l, inM x) (hl : l.length ≤ 2 ^ 40) :
    CallMD Try.prog id_impl_appendRuns [.one (.os 0 1 0 n), vN l] [.own 1 (a.map byD)] [0] (.one (.os 0 1 0 (a ++ putR l).length)) [.own 1 ((a ++ putR l).map byD)] := by
  subst hn
  refine F_impl_appendRuns ?_
  try (conv => whnf)
  repeat (refine Pick.mk ?_ ?_ ?_; rotate_left; (focus (exact List.length_map _)); conv => whnf)
  have hb := put_len (n := l.length) (by omega)
  refine Hand.mk [0] ?_
  try (conv => whnf)
  refine CallW.m (i_appendInt a _ l.length rfl (by omega) (by omega)) ?_
  try (conv => whnf)
  refine LoopE.mk (fun (x : Nat × List UInt8) => mk [(0, .one (.os 0 1 0 ((a ++ put l.length) ++ x.2).length)), (1, vN l), (5, vI .i64 x.1)] [(0, .own 1 (((a ++ put l.length) ++ x.2).map byD))] [0])
    (fun x => x.1 ≤ l.length ∧ x.2.length ≤ 27 * l.length ∧ putRs l = x.2 ++ putRs (l.drop x.1)) (fun x => l.length - x.1) (0, []) ⟨by simp, by simp, by simp⟩ (LeX.of ?_) ?_
  · try (conv => whnf)
    repeat (refine Need.mk ?_ ?_; (focus (first | omega | (simp; done))); conv => whnf)
    trivial
  · rintro ⟨i, P⟩ ⟨h1, h2, h3⟩
    dsimp only at h1 h2 h3 ⊢
    have hput := put_len (n := l.length) (by omega)
    rcases Nat.lt_or_ge i l.length with hlt | hge
    · have b := inM_get hx hlt
      have hr := rl_le (l.drop i)
      simp only [List.length_drop] at hr
      have hp := rl_pos (s := l.drop i) (by intro e; have := congrArg List.length e; simp at this; omega)
      have e := putRs_step hlt
      rw [e] at h3
      have hlen := putRs_len _ l (Nat.le_refl _) hx hl
      have q := congrArg List.length h3
      have b1 := put_len (n := (l[i]).toNat) (by omega)
      have b2 := put_len (n := rl (l.drop i)) (by omega)
      obtain ⟨v, hv⟩ : ∃ v : Nat, l[i] = v := ⟨l[i].toNat, by omega⟩
      have p2 := at_i l (i : Int) i rfl hlt
      rw [hv] at p2 b
      rw [hv, Int.toNat_natCast] at h3 b1 q
      by_cases h4 : i + 1 < l.length
      · have c := inM_get hx h4
        have hr2 : 2 ≤ rl (l.drop i) := by rw [rl_at h4]; omega
        have p1 := at_i l ((i : Int) + 1) (i + 1) (by omega) h4
        have hz := zig_lt (d := l[i + 1] - v) (by omega)
        have hzl := put_len hz
        rw [dif_pos h4] at h3 q
        simp only [List.length_append] at q
        try (conv => whnf)
        repeat' (first
          | (refine Pick.mk ?_ ?_ ?_; rotate_left; (focus (exact List.length_map _)); conv => whnf)
          | (refine SeqJ.thru ?_; conv => whnf)
          | (refine br_dec (fun _ => ?_) (fun _ => ?_) <;> first | (exfalso; omega) | contradiction | conv => whnf)
          | (refine br_not ?_; conv => whnf)
          | (refine br_bne (fun _ => ?_) (fun _ => ?_) <;> first | (exfalso; omega) | contradiction | conv => whnf)
          | (refine br_beq (fun _ => ?_) (fun _ => ?_) <;> first | (exfalso; omega) | contradiction | conv => whnf))
        refine Hand.mk [] ?_
        try (conv => whnf)
        refine CallW.d (i_runLen l i hx (by omega) hlt) ?_
        try (conv => whnf)
        repeat (refine Pick.mk ?_ ?_ ?_; rotate_left; (focus (assumption)); conv => whnf)
        refine Hand.mk [0] ?_
        try (conv => whnf)
        refine CallW.m (i_appendInt _ _ v rfl (by simp; omega) (by omega)) ?_
        try (conv => whnf)
        refine Hand.mk [0] ?_
        try (conv => whnf)
        refine CallW.m (i_appendInt _ _ (rl (l.drop i)) rfl (by simp; omega) (by omega)) ?_
        try (conv => whnf)
        repeat (refine SeqJ.thru ?_; conv => whnf)
        try (conv => whnf)
        repeat' (first
          | (refine Pick.mk ?_ ?_ ?_; rotate_left; (focus (first | assumption | (refine wid ?_ ?_ <;> omega))); conv => whnf)
          | (refine br_dec (fun _ => ?_) (fun _ => ?_) <;> first | (exfalso; omega) | contradiction | conv => whnf)
          | (refine br_not ?_; conv => whnf)
          | (refine br_bne (fun _ => ?_) (fun _ => ?_) <;> first | (exfalso; omega) | contradiction | conv => whnf)
          | (refine br_beq (fun _ => ?_) (fun _ => ?_) <;> first | (exfalso; omega) | contradiction | conv => whnf))
        refine Hand.mk [] ?_
        try (conv => whnf)
        refine CallW.d (i_zig (l[i + 1] - v) (by omega)) ?_
        try (conv => whnf)
        repeat (refine Need.mk ?_ ?_; (focus (((conv => whnf); (repeat (first | (refine Need.mk (by first | rfl | omega | (simp; done)) ?_; conv => whnf) | (refine Pick.mk ?_ ?_ ?_; rotate_left; (focus (first | with_reducible exact xor_u8 _ _ | (with_reducible refine xor_i64 ?_ ?_; all_goals omega) | (with_reducible refine xor_u32 ?_ ?_; all_goals omega) | assumption | with_reducible exact set_byN _ _ _ _ | with_reducible exact set_byI _ _ _ _ | with_reducible exact set_inN _ _ _ _ | with_reducible exact set_inI _ _ _ _ | with_reducible exact set_stN _ _ _ _ | with_reducible exact set_tsN _ _ _ _ | with_reducible exact set_tsI _ _ _ _ | with_reducible exact set_boN _ _ _ _ | with_reducible exact set_boI _ _ _ _ | (with_reducible refine get_mapN _ _ _ ?_; first | omega | (simp; omega)) | (with_reducible refine get_mapI _ _ _ ?_ ?_ <;> first | omega | (simp; omega)) | exact bs_beq _ _ | exact bs_less _ _ | exact bs_leq _ _ | with_reducible exact bs_app _ _ | (refine bs_get _ _ ?_; omega) | (refine bs_int _ _ ?_ ?_ <;> omega) | with_reducible exact sl_map0 _ _ _ | with_reducible exact sl_mapN _ _ _ | with_reducible exact sl_map _ _ _ _ | exact bs_extract0 _ _ | exact bs_extractN _ _ | exact bs_extract _ _ _ | (refine bnd_id ?_; omega) | (refine bnd_sub ?_ ?_ <;> omega) | (refine bnd_add ?_; omega) | (refine bnd_subN ?_ ?_ <;> omega) | (refine bnd_int ?_ ?_ <;> omega) | exact List.length_map _ | exact size_bs _ | (simp only [List.length_map, List.length_append, List.length_cons, List.length_nil, List.length_replicate, Nat.zero_add]; rfl) | with_reducible exact List.nil_append _ | with_reducible exact map_app _ _ _ | exact map_snoc byD _ _ | exact map_snoc inD _ _ | exact map_snoc stD _ _ | exact map_snoc tsD _ _ | (simp only [chunks]; rfl) | (refine wid ?_ ?_ <;> omega) | exact wby _ | with_reducible exact wby32 _ | with_reducible exact wu32 _ | exact wby64 _ | exact shr8 _ | exact shr16 _ | exact shr24 _ | exact shr32 _ | (refine tmodn ?_; omega) | (refine wdiv ?_ ?_ ?_ <;> omega) | exact wbyte _ | exact natlit _ | exact rep_by _ | exact rep_in _ | exact rep_bo _ | exact rep_st _ | (refine pick_nat _ _ _ ?_; omega) | (refine pick_int _ _ _ ?_ ?_ <;> omega) | (refine SlOf.full ?_; first | (simp; done) | (simp; omega)) | (with_reducible refine SlOf.pre _ _ ?_; first | omega | (simp; omega)) | ((fail_if_success (show @Eq (Option _) _ _)); rfl) | ((show @Eq (Option _) _ _); simp only [List.getElem?_cons_zero, List.getElem?_cons_succ]; done) | ((show @Eq (Option _) _ _); simp only [List.getElem?_cons_zero, List.getElem?_cons_succ]; rfl) | with_reducible rfl)); conv => whnf))); exact Done.mk trivial))); conv => whnf)
        refine Hand.mk [0] ?_
        try (conv => whnf)
        refine CallW.m (i_appendInt _ _ (zig (l[i + 1] - v)) rfl (by simp; omega) (by omega)) ?_
        try (conv => whnf)
        repeat (refine Pick.mk ?_ ?_ ?_; rotate_left; (focus ((refine wid ?_ ?_ <;> omega))); conv => whnf)
        refine Pick.mk (i + rl (l.drop i), P ++ put v ++ put (rl (l.drop i)) ++ put (zig (l[i + 1] - v))) ⟨⟨by dsimp only; omega, by simp; omega, ?_⟩, by dsimp only; omega⟩ (LeX.of ?_)
        · dsimp only
          rw [h3]; simp [List.append_assoc]
        · simp only [← List.append_assoc]
          try (conv => whnf)
          repeat (refine Need.mk ?_ ?_; (focus (first | omega | (simp; done))); conv => whnf)
          trivial
      · have hr1 := rl_last hlt h4
        rw [dif_neg h4, List.append_nil] at h3 q
        simp only [List.length_append] at q
        try (conv => whnf)
        repeat' (first
          | (refine Pick.mk ?_ ?_ ?_; rotate_left; (focus (exact List.length_map _)); conv => whnf)
          | (refine SeqJ.thru ?_; conv => whnf)
          | (refine br_dec (fun _ => ?_) (fun _ => ?_) <;> first | (exfalso; omega) | contradiction | conv => whnf)
          | (refine br_not ?_; conv => whnf)
          | (refine br_bne (fun _ => ?_) (fun _ => ?_) <;> first | (exfalso; omega) | contradiction | conv => whnf)
          | (refine br_beq (fun _ => ?_) (fun _ => ?_) <;> first | (exfalso; omega) | contradiction | conv => whnf))
        refine Hand.mk [] ?_
        try (conv => whnf)
        refine CallW.d (i_runLen l i hx (by omega) hlt) ?_
        try (conv => whnf)
        repeat (refine Pick.mk ?_ ?_ ?_; rotate_left; (focus (assumption)); conv => whnf)
        refine Hand.mk [0] ?_
        try (conv => whnf)
        refine CallW.m (i_appendInt _ _ v rfl (by simp; omega) (by omega)) ?_
        try (conv => whnf)
        refine Hand.mk [0] ?_
        try (conv => whnf)
        refine CallW.m (i_appendInt _ _ (rl (l.drop i)) rfl (by simp; omega) (by omega)) ?_
        try (conv => whnf)
        repeat (refine SeqJ.thru ?_; conv => whnf)
        try (conv => whnf)
        repeat' (first
          | (refine Pick.mk ?_ ?_ ?_; rotate_left; (focus ((refine wid ?_ ?_ <;> omega))); conv => whnf)
          | (refine br_dec (fun _ => ?_) (fun _ => ?_) <;> first | (exfalso; omega) | contradiction | conv => whnf)
          | (refine br_not ?_; conv => whnf)
          | (refine br_bne (fun _ => ?_) (fun _ => ?_) <;> first | (exfalso; omega) | contradiction | conv => whnf)
          | (refine br_beq (fun _ => ?_) (fun _ => ?_) <;> first | (exfalso; omega) | contradiction | conv => whnf))
        refine Pick.mk (i + rl (l.drop i), P ++ put v ++ put (rl (l.drop i))) ⟨⟨by dsimp only; omega, by simp; omega, ?_⟩, by dsimp only; omega⟩ (LeX.of ?_)
        · dsimp only
          rw [h3]; simp [List.append_assoc]
        · simp only [← List.append_assoc]
          try (conv => whnf)
          repeat (refine Need.mk ?_ ?_; (focus (first | omega | (simp; done))); conv => whnf)
          trivial
    · rw [List.drop_eq_nil_of_le hge, putRs_nil, List.append_nil] at h3
      try (conv => whnf)
      repeat' (first
        | (refine Pick.mk ?_ ?_ ?_; rotate_left; (focus (exact List.length_map _)); conv => whnf)
        | (refine SeqJ.thru ?_; conv => whnf)
        | (refine br_dec (fun _ => ?_) (fun _ => ?_) <;> first | (exfalso; omega) | contradiction | conv => whnf)
        | (refine br_not ?_; conv => whnf)
        | (refine br_bne (fun _ => ?_) (fun _ => ?_) <;> first | (exfalso; omega) | contradiction | conv => whnf)
        | (refine br_beq (fun _ => ?_) (fun _ => ?_) <;> first | (exfalso; omega) | contradiction | conv => whnf))
      refine Out.mk false [0, 1, 2, 3, 4] [] ?_
      try (conv => whnf)
      repeat (refine Need.mk ?_ ?_; (focus ((first | exact flat_by _ | exact flat_in _ | exact flat_st _ | exact flat_ts _ | exact flat_bo _ | exact flat_cl rfl))); conv => whnf)
      rw [← h3]
      exact ⟨by simp [putR], by simp [putR]⟩
theorem i_appendRuns_nil (l : List Int) (hx : ∀ x ∈ l, inM x) (hl : l.length ≤ 2 ^ 40) :
    CallD Try.prog id_impl_appendRuns [.one .nil, vN l] [] (.one (.os 0 1 0 (putR l).length)) [.own 1 ((putR l).map byD)] := by
  refine F_impl_appendRuns ?_
  try (conv => whnf)
  repeat (refine Pick.mk ?_ ?_ ?_; rotate_left; (focus (exact List.length_map _)); conv => whnf)
  have hb := put_len (n := l.length) (by omega)
  refine Hand.mk [] ?_
  try (conv => whnf)
  refine CallW.d (i_appendInt_nil l.length (by omega)) ?_
  try (conv => whnf)
  refine LoopE.mk (fun (x : Nat × List UInt8) => mk [(0, .one (.os 8240 1 0 (put l.length ++ x.2).length)), (1, vN l), (5, vI .i64 x.1)] [(8240, .own 1 ((put l.length ++ x.2).map byD))] [])
    (fun x => x.1 ≤ l.length ∧ x.2.length ≤ 27 * l.length ∧ putRs l = x.2 ++ putRs (l.drop x.1)) (fun x => l.length - x.1) (0, []) ⟨by simp, by simp, by simp⟩ (LeX.of ?_) ?_
  · try (conv => whnf)
    repeat (refine Need.mk ?_ ?_; (focus (first | omega | (simp; done))); conv => whnf)
    trivial
  · rintro ⟨i, P⟩ ⟨h1, h2, h3⟩
    dsimp only at h1 h2 h3 ⊢
    have hput := put_len (n := l.length) (by omega)
    rcases Nat.lt_or_ge i l.length with hlt | hge
    · have b := inM_get hx hlt
      have hr := rl_le (l.drop i)
      simp only [List.length_drop] at hr
      have hp := rl_pos (s := l.drop i) (by intro e; have := congrArg List.length e; simp at this; omega)
      have e := putRs_step hlt
      rw [e] at h3
      have hlen := putRs_len _ l (Nat.le_refl _) hx hl
      have q := congrArg List.length h3
      have b1 := put_len (n := (l[i]).toNat) (by omega)
      have b2 := put_len (n := rl (l.drop i)) (by omega)
      obtain ⟨v, hv⟩ : ∃ v : Nat, l[i] = v := ⟨l[i].toNat, by omega⟩
      have p2 := at_i l (i : Int) i rfl hlt
      rw [hv] at p2 b
      rw [hv, Int.toNat_natCast] at h3 b1 q
      by_cases h4 : i + 1 < l.length
      · have c := inM_get hx h4
        have hr2 : 2 ≤ rl (l.drop i) := by rw [rl_at h4]; omega
        have p1 := at_i l ((i : Int) + 1) (i + 1) (by omega) h4
        have hz := zig_lt (d := l[i + 1] - v) (by omega)
        have hzl := put_len hz
        rw [dif_pos h4] at h3 q
        simp only [List.length_append] at q
        try (conv => whnf)
        repeat' (first
          | (refine Pick.mk ?_ ?_ ?_; rotate_left; (focus (exact List.length_map _)); conv => whnf)
          | (refine SeqJ.thru ?_; conv => whnf)
          | (refine br_dec (fun _ => ?_) (fun _ => ?_) <;> first | (exfalso; omega) | contradiction | conv => whnf)
          | (refine br_not ?_; conv => whnf)
          | (refine br_bne (fun _ => ?_) (fun _ => ?_) <;> first | (exfalso; omega) | contradiction | conv => whnf)
          | (refine br_beq (fun _ => ?_) (fun _ => ?_) <;> first | (exfalso; omega) | contradiction | conv => whnf))
        refine Hand.mk [] ?_
        try (conv => whnf)
        refine CallW.d (i_runLen l i hx (by omega) hlt) ?_
        try (conv => whnf)
        repeat (refine Pick.mk ?_ ?_ ?_; rotate_left; (focus (assumption)); conv => whnf)
        refine Hand.mk [0] ?_
        try (conv => whnf)
        refine CallW.m (i_appendInt _ _ v rfl (by simp; omega) (by omega)) ?_
        try (conv => whnf)
        refine Hand.mk [0] ?_
        try (conv => whnf)
        refine CallW.m (i_appendInt _ _ (rl (l.drop i)) rfl (by simp; omega) (by omega)) ?_
        try (conv => whnf)
        repeat (refine SeqJ.thru ?_; conv => whnf)
        try (conv => whnf)
        repeat' (first
          | (refine Pick.mk ?_ ?_ ?_; rotate_left; (focus (first | assumption | (refine wid ?_ ?_ <;> omega))); conv => whnf)
          | (refine br_dec (fun _ => ?_) (fun _ => ?_) <;> first | (exfalso; omega) | contradiction | conv => whnf)
          | (refine br_not ?_; conv => whnf)
          | (refine br_bne (fun _ => ?_) (fun _ => ?_) <;> first | (exfalso; omega) | contradiction | conv => whnf)
          | (refine br_beq (fun _ => ?_) (fun _ => ?_) <;> first | (exfalso; omega) | contradiction | conv => whnf))
        refine Hand.mk [] ?_
        try (conv => whnf)
        refine CallW.d (i_zig (l[i + 1] - v) (by omega)) ?_
        try (conv => whnf)
        repeat (refine Need.mk ?_ ?_; (focus (((conv => whnf); (repeat (first | (refine Need.mk (by first | rfl | omega | (simp; done)) ?_; conv => whnf) | (refine Pick.mk ?_ ?_ ?_; rotate_left; (focus (first | with_reducible exact xor_u8 _ _ | (with_reducible refine xor_i64 ?_ ?_; all_goals omega) | (with_reducible refine xor_u32 ?_ ?_; all_goals omega) | assumption | with_reducible exact set_byN _ _ _ _ | with_reducible exact set_byI _ _ _ _ | with_reducible exact set_inN _ _ _ _ | with_reducible exact set_inI _ _ _ _ | with_reducible exact set_stN _ _ _ _ | with_reducible exact set_tsN _ _ _ _ | with_reducible exact set_tsI _ _ _ _ | with_reducible exact set_boN _ _ _ _ | with_reducible exact set_boI _ _ _ _ | (with_reducible refine get_mapN _ _ _ ?_; first | omega | (simp; omega)) | (with_reducible refine get_mapI _ _ _ ?_ ?_ <;> first | omega | (simp; omega)) | exact bs_beq _ _ | exact bs_less _ _ | exact bs_leq _ _ | with_reducible exact bs_app _ _ | (refine bs_get _ _ ?_; omega) | (refine bs_int _ _ ?_ ?_ <;> omega) | with_reducible exact sl_map0 _ _ _ | with_reducible exact sl_mapN _ _ _ | with_reducible exact sl_map _ _ _ _ | exact bs_extract0 _ _ | exact bs_extractN _ _ | exact bs_extract _ _ _ | (refine bnd_id ?_; omega) | (refine bnd_sub ?_ ?_ <;> omega) | (refine bnd_add ?_; omega) | (refine bnd_subN ?_ ?_ <;> omega) | (refine bnd_int ?_ ?_ <;> omega) | exact List.length_map _ | exact size_bs _ | (simp only [List.length_map, List.length_append, List.length_cons, List.length_nil, List.length_replicate, Nat.zero_add]; rfl) | with_reducible exact List.nil_append _ | with_reducible exact map_app _ _ _ | exact map_snoc byD _ _ | exact map_snoc inD _ _ | exact map_snoc stD _ _ | exact map_snoc tsD _ _ | (simp only [chunks]; rfl) | (refine wid ?_ ?_ <;> omega) | exact wby _ | with_reducible exact wby32 _ | with_reducible exact wu32 _ | exact wby64 _ | exact shr8 _ | exact shr16 _ | exact shr24 _ | exact shr32 _ | (refine tmodn ?_; omega) | (refine wdiv ?_ ?_ ?_ <;> omega) | exact wbyte _ | exact natlit _ | exact rep_by _ | exact rep_in _ | exact rep_bo _ | exact rep_st _ | (refine pick_nat _ _ _ ?_; omega) | (refine pick_int _ _ _ ?_ ?_ <;> omega) | (refine SlOf.full ?_; first | (simp; done) | (simp; omega)) | (with_reducible refine SlOf.pre _ _ ?_; first | omega | (simp; omega)) | ((fail_if_success (show @Eq (Option _) _ _)); rfl) | ((show @Eq (Option _) _ _); simp only [List.getElem?_cons_zero, List.getElem?_cons_succ]; done) | ((show @Eq (Option _) _ _); simp only [List.getElem?_cons_zero, List.getElem?_cons_succ]; rfl) | with_reducible rfl)); conv => whnf))); exact Done.mk trivial))); conv => whnf)
        refine Hand.mk [0] ?_
        try (conv => whnf)
        refine CallW.m (i_appendInt _ _ (zig (l[i + 1] - v)) rfl (by simp; omega) (by omega)) ?_
        try (conv => whnf)
        repeat (refine Pick.mk ?_ ?_ ?_; rotate_left; (focus ((refine wid ?_ ?_ <;> omega))); conv => whnf)
        refine Pick.mk (i + rl (l.drop i), P ++ put v ++ put (rl (l.drop i)) ++ put (zig (l[i + 1] - v))) ⟨⟨by dsimp only; omega, by simp; omega, ?_⟩, by dsimp only; omega⟩ (LeX.of ?_)
        · dsimp only
          rw [h3]; simp [List.append_assoc]
        · simp only [← List.append_assoc]
          try (conv => whnf)
          repeat (refine Need.mk ?_ ?_; (focus (first | omega | (simp; done))); conv => whnf)
          trivial
      · have hr1 := rl_last hlt h4
        rw [dif_neg h4, List.append_nil] at h3 q
        simp only [List.length_append] at q
        try (conv => whnf)
        repeat' (first
          | (refine Pick.mk ?_ ?_ ?_; rotate_left; (focus (exact List.length_map _)); conv => whnf)
          | (refine SeqJ.thru ?_; conv => whnf)
          | (refine br_dec (fun _ => ?_) (fun _ => ?_) <;> first | (exfalso; omega) | contradiction | conv => whnf)
          | (refine br_not ?_; conv => whnf)
          | (refine br_bne (fun _ => ?_) (fun _ => ?_) <;> first | (exfalso; omega) | contradiction | conv => whnf)
          | (refine br_beq (fun _ => ?_) (fun _ => ?_) <;> first | (exfalso; omega) | contradiction | conv => whnf))
        refine Hand.mk [] ?_
        try (conv => whnf)
        refine CallW.d (i_runLen l i hx (by omega) hlt) ?_
        try (conv => whnf)
        repeat (refine Pick.mk ?_ ?_ ?_; rotate_left; (focus (assumption)); conv => whnf)
        refine Hand.mk [0] ?_
        try (conv => whnf)
        refine CallW.m (i_appendInt _ _ v rfl (by simp; omega) (by omega)) ?_
        try (conv => whnf)
        refine Hand.mk [0] ?_
        try (conv => whnf)
        refine CallW.m (i_appendInt _ _ (rl (l.drop i)) rfl (by simp; omega) (by omega)) ?_
        try (conv => whnf)
        repeat (refine SeqJ.thru ?_; conv => whnf)
        try (conv => whnf)
        repeat' (first
          | (refine Pick.mk ?_ ?_ ?_; rotate_left; (focus ((refine wid ?_ ?_ <;> omega))); conv => whnf)
          | (refine br_dec (fun _ => ?_) (fun _ => ?_) <;> first | (exfalso; omega) | contradiction | conv => whnf)
          | (refine br_not ?_; conv => whnf)
          | (refine br_bne (fun _ => ?_) (fun _ => ?_) <;> first | (exfalso; omega) | contradiction | conv => whnf)
          | (refine br_beq (fun _ => ?_) (fun _ => ?_) <;> first | (exfalso; omega) | contradiction | conv => whnf))
        refine Pick.mk (i + rl (l.drop i), P ++ put v ++ put (rl (l.drop i))) ⟨⟨by dsimp only; omega, by simp; omega, ?_⟩, by dsimp only; omega⟩ (LeX.of ?_)
        · dsimp only
          rw [h3]; simp [List.append_assoc]
        · simp only [← List.append_assoc]
          try (conv => whnf)
          repeat (refine Need.mk ?_ ?_; (focus (first | omega | (simp; done))); conv => whnf)
          trivial
    · rw [List.drop_eq_nil_of_le hge, putRs_nil, List.append_nil] at h3
      try (conv => whnf)
      repeat' (first
        | (refine Pick.mk ?_ ?_ ?_; rotate_left; (focus (exact List.length_map _)); conv => whnf)
        | (refine SeqJ.thru ?_; conv => whnf)
        | (refine br_dec (fun _ => ?_) (fun _ => ?_) <;> first | (exfalso; omega) | contradiction | conv => whnf)
        | (refine br_not ?_; conv => whnf)
        | (refine br_bne (fun _ => ?_) (fun _ => ?_) <;> first | (exfalso; omega) | contradiction | conv => whnf)
        | (refine br_beq (fun _ => ?_) (fun _ => ?_) <;> first | (exfalso; omega) | contradiction | conv => whnf))
      refine Out.mk false [0, 1, 2, 3, 4] [] ?_
      try (conv => whnf)
      repeat (refine Need.mk ?_ ?_; (focus ((first | exact flat_by _ | exact flat_in _ | exact flat_st _ | exact flat_ts _ | exact flat_bo _ | exact flat_cl rfl))); conv => whnf)
      rw [← h3]
      exact ⟨by simp [putR], by simp [putR]⟩
end Go.Proofs.Ytoklfidamhigcaa.D
