/- Counters drawn, and the law of counters. -/
import Derived.Test.YtoklfidamhigcaaCounter
namespace Go.Proofs.Ytoklfidamhigcaa.D
open Go.RowKit
set_option maxRecDepth 100000
set_option maxHeartbeats 4000000
set_option linter.unusedVariables false
set_option linter.unusedSimpArgs false
section
variable {code : List UInt8} {a s b : Int}
abbrev ccC (p m : List Int) : Bool × List CV := (true, [cN p, cN m])
theorem s_l03DrawCounter (hS : Src code a s b) (hb : b ≤ 2 ^ 50) :
    CallM Try.prog id_spec_l03DrawCounter [.one (.ptr 0 0)] [srcR code a s] [] false (Draws code (b + 60) fun r Lo => ∃ p m, Lo = [] ∧ r = vC p m ∧ p.length ≤ 17 ∧ m.length ≤ 17) := by
  refine F_spec_l03DrawCounter ?_
  try (conv => whnf)
  refine Hand.mk [] ?_
  try (conv => whnf)
  refine CallW.n (s_oddVector hS (by omega)) ?_
  rintro _ _ ⟨a1, s1, _, rfl, hS1, v1, rfl, rfl, hv1⟩
  try (conv => whnf)
  refine Hand.mk [] ?_
  try (conv => whnf)
  refine CallW.n (s_oddVector hS1 (by omega)) ?_
  rintro _ _ ⟨a2, s2, _, rfl, hS2, v2, rfl, rfl, hv2⟩
  try (conv => whnf)
  refine Out.mk true [] [] ?_
  try (conv => whnf)
  exact ⟨_, _, [], rfl, hS2.mono (by omega), _, _, rfl, rfl, hv1, hv2⟩
theorem s_l03Actor (hS : Src code a s b) (hb : b ≤ 2 ^ 50) :
    CallM Try.prog id_spec_l03Actor [.one (.ptr 0 0)] [srcR code a s] [] false (Draws code (b + 6) (DI fun v => -1 ≤ v ∧ v ≤ 16)) := by
  refine F_spec_l03Actor ?_
  try (conv => whnf)
  refine Hand.mk [] ?_
  try (conv => whnf)
  refine CallW.n (s_chance hS (by omega) 12 (by omega) (by omega)) ?_
  rintro _ _ ⟨a1, s1, _, rfl, hS1, v1, rfl, rfl, hv1⟩
  try (conv => whnf)
  cases v1
  rotate_left 1
  · try (conv => whnf)
    repeat (refine Pick.mk ?_ ?_ ?_; rotate_left; (focus ((simp only [chunks]; rfl))); conv => whnf)
    refine Hand.mk [] ?_
    try (conv => whnf)
    refine CallW.n (s_next hS1 (by omega) 3 (by omega)) ?_
    rintro _ _ ⟨a2, s2, _, rfl, hS2, v2, rfl, rfl, hv2⟩
    try (conv => whnf)
    repeat (refine Need.mk ?_ ?_; (focus (omega)); conv => whnf)
    refine pickI (fun x => decide (-1 ≤ x) && decide (x ≤ 16)) rfl (by rw [addN_eq]; show _ < 3; omega) fun x hx => ?_
    simp at hx
    try (conv => whnf)
    refine Out.mk false [0, 1, 2, 3, 4] [] ?_
    try (conv => whnf)
    exact ⟨_, _, [], rfl, hS2.mono (by omega), _, rfl, rfl, hx⟩
  · try (conv => whnf)
    refine Hand.mk [] ?_
    try (conv => whnf)
    refine CallW.n (s_next hS1 (by omega) 4 (by omega)) ?_
    rintro _ _ ⟨a2, s2, _, rfl, hS2, v2, rfl, rfl, hv2⟩
    try (conv => whnf)
    refine Out.mk false [0, 1, 2, 3, 4] [] ?_
    try (conv => whnf)
    exact ⟨_, _, [], rfl, hS2.mono (by omega), _, rfl, rfl, by omega, by omega⟩
end
theorem s_DrawCounterJoin (code : List UInt8) (hc : code.length ≤ 2 ^ 40) :
    CallM Try.prog id_spec_DrawCounterJoin [vY code] [] [] false fun r Lo => ∃ p m q n, Lo = [] ∧ r = .tup [(true, [cN p, cN m]), (true, [cN q, cN n])] := by
  refine F_spec_DrawCounterJoin ?_
  try (conv => whnf)
  refine Hand.mk [] ?_
  try (conv => whnf)
  refine CallW.n (s_l01Source code hc) ?_
  rintro _ _ ⟨s, rfl, rfl, hS⟩
  try (conv => whnf)
  refine Hand.mk [] ?_
  try (conv => whnf)
  refine CallW.n (s_l03DrawCounter hS (by omega)) ?_
  rintro _ _ ⟨a1, s1, _, rfl, hS1, p, m, rfl, rfl, hp, hm⟩
  try (conv => whnf)
  refine Hand.mk [] ?_
  try (conv => whnf)
  refine CallW.n (s_l03DrawCounter hS1 (by omega)) ?_
  rintro _ _ ⟨a2, s2, _, rfl, hS2, q, n, rfl, rfl, hq, hn⟩
  try (conv => whnf)
  refine Out.mk true [] [] ?_
  try (conv => whnf)
  exact ⟨_, _, _, _, rfl, rfl⟩
theorem s_DrawCounterAdd (code : List UInt8) (hc : code.length ≤ 2 ^ 40) :
    CallM Try.prog id_spec_DrawCounterAdd [vY code] [] [] false fun r Lo => ∃ p m a n, Lo = [] ∧ r = .tup [(true, [cN p, cN m]), (false, [cI a]), (false, [cI n])] := by
  refine F_spec_DrawCounterAdd ?_
  try (conv => whnf)
  refine Hand.mk [] ?_
  try (conv => whnf)
  refine CallW.n (s_l01Source code hc) ?_
  rintro _ _ ⟨s, rfl, rfl, hS⟩
  try (conv => whnf)
  refine Hand.mk [] ?_
  try (conv => whnf)
  refine CallW.n (s_next hS (by omega) 40 (by omega)) ?_
  rintro _ _ ⟨a1, s1, _, rfl, hS1, v1, rfl, rfl, hv1⟩
  try (conv => whnf)
  repeat (refine Pick.mk ?_ ?_ ?_; rotate_left; (focus ((refine wid ?_ ?_ <;> omega))); conv => whnf)
  refine Hand.mk [] ?_
  try (conv => whnf)
  refine CallW.n (s_chance hS1 (by omega) 8 (by omega) (by omega)) ?_
  rintro _ _ ⟨a2, s2, _, rfl, hS2, v2, rfl, rfl, hv2⟩
  try (conv => whnf)
  cases v2
  · try (conv => whnf)
    refine Hand.mk [] ?_
    try (conv => whnf)
    refine CallW.n (s_l03DrawCounter hS2 (by omega)) ?_
    rintro _ _ ⟨a4, s4, _, rfl, hS4, p, m, rfl, rfl, hp, hm⟩
    try (conv => whnf)
    refine Hand.mk [] ?_
    try (conv => whnf)
    refine CallW.n (s_l03Actor hS4 (by omega)) ?_
    rintro _ _ ⟨a5, s5, _, rfl, hS5, v5, rfl, rfl, hv5⟩
    try (conv => whnf)
    refine Out.mk true [] [] ?_
    try (conv => whnf)
    exact ⟨_, _, _, _, rfl, rfl⟩
  · try (conv => whnf)
    repeat (refine Pick.mk ?_ ?_ ?_; rotate_left; (focus ((simp only [chunks]; rfl))); conv => whnf)
    refine Hand.mk [] ?_
    try (conv => whnf)
    refine CallW.n (s_next hS2 (by omega) 4 (by omega)) ?_
    rintro _ _ ⟨a3, s3, _, rfl, hS3, v3, rfl, rfl, hv3⟩
    try (conv => whnf)
    repeat (refine Need.mk ?_ ?_; (focus (omega)); conv => whnf)
    refine pickI (fun _ => true) rfl (by rw [addN_eq]; show _ < 4; omega) fun x _ => ?_
    try (conv => whnf)
    refine Hand.mk [] ?_
    try (conv => whnf)
    refine CallW.n (s_l03DrawCounter hS3 (by omega)) ?_
    rintro _ _ ⟨a4, s4, _, rfl, hS4, p, m, rfl, rfl, hp, hm⟩
    try (conv => whnf)
    refine Hand.mk [] ?_
    try (conv => whnf)
    refine CallW.n (s_l03Actor hS4 (by omega)) ?_
    rintro _ _ ⟨a5, s5, _, rfl, hS5, v5, rfl, rfl, hv5⟩
    try (conv => whnf)
    refine Out.mk true [] [] ?_
    try (conv => whnf)
    exact ⟨_, _, _, _, rfl, rfl⟩
theorem zip_ext {f : Int → Int → Int} {a b c : List Int} (hl : c.length = 16) (ha : a.length = 16) (hb : b.length = 16) (h : ∀ i (hi : i < 16), f (a[i]'(by omega)) (b[i]'(by omega)) = c[i]'(by omega)) : List.zipWith f a b = c := by
  apply List.ext_getElem
  · simp; omega
  · intro i h1 h2
    simp only [List.getElem_zipWith]
    exact h i (by omega)
theorem vmax_comm {a b : List Int} (ha : a.length = 16) (hb : b.length = 16) : vmax b a = vmax a b :=
  zip_ext (vmax_len ha hb) hb ha fun i hi => by
    simp only [vmax, List.getElem_zipWith]
    split <;> split <;> omega
theorem vmax_more {a b : List Int} (ha : a.length = 16) (hb : b.length = 16) : vmax (vmax a b) a = vmax a b :=
  zip_ext (vmax_len ha hb) (vmax_len ha hb) ha fun i hi => by
    simp only [vmax, List.getElem_zipWith]
    split <;> (try split) <;> omega
theorem vmax_ok {a b : List Int} (ha : VecOk a) (hb : VecOk b) : VecOk (vmax a b) := by
  refine ⟨vmax_len ha.1 hb.1, fun c hc => ?_⟩
  obtain ⟨i, hi, rfl⟩ := List.getElem_of_mem hc
  have hl := vmax_len ha.1 hb.1
  have h1 := ha.get (i := i) (by have := ha.1; omega)
  have h2 := hb.get (i := i) (by have := hb.1; omega)
  simp only [vmax, List.getElem_zipWith, cntOk]
  split <;> omega
theorem jOk {p m q n : List Int} (h : CntOk p m ∧ CntOk q n) : CntOk (vmax p q) (vmax m n) := ⟨vmax_ok h.1.1 h.2.1, vmax_ok h.1.2 h.2.2⟩
theorem jC_inv {p m q n : List Int} (h : jC p m q n = 0) : CntOk p m ∧ CntOk q n := by
  rw [jC] at h
  split at h
  · assumption
  · omega
theorem sum_set : ∀ {l : List Int} {i : Nat} (h : i < l.length) (x : Int), (l.set i x).sum = l.sum - l[i] + x
  | a :: l, 0, _, x => by simp; omega
  | a :: l, i + 1, h, x => by
    have := sum_set (l := l) (i := i) (by simpa using h) x
    simp only [List.set_cons_succ, List.sum_cons, this, List.getElem_cons_succ]
    omega
theorem aC_inv {p m : List Int} {a n : Int} (h : aC p m a n = 0) : CntOk p m ∧ CntOk (aP p m a n) (aM p m a n) ∧ cval (aP p m a n) (aM p m a n) = cval p m + n := by
  have h0 := h
  by_cases g : CntOk p m
  · by_cases g2 : a < 0 ∨ 16 ≤ a ∨ n < -1000000000000 ∨ n > 1000000000000
    · rw [aC, if_neg (by simp [g]), if_pos g2] at h; omega
    · by_cases g3 : (if 0 ≤ n then p.getD a.toNat 0 + n else m.getD a.toNat 0 - n) > 1000000000000
      · rw [aC, if_neg (by simp [g]), if_neg g2, if_pos g3] at h; omega
      · have l1 := g.1.1
        have l2 := g.2.1
        refine ⟨g, ?_⟩
        rw [aP, aM, if_pos h0, if_pos h0]
        have c1 := g.1.get (i := a.toNat) (by omega)
        have c2 := g.2.get (i := a.toNat) (by omega)
        rw [getD_at (by omega), getD_at (by omega)] at g3 ⊢
        by_cases g4 : 0 ≤ n
        · rw [if_pos g4] at g3
          rw [if_pos g4, if_pos g4]
          refine ⟨⟨(g.1.set (by omega) _).2 ⟨by omega, by omega⟩, g.2⟩, ?_⟩
          rw [cval, sum_set (by omega), cval]; omega
        · rw [if_neg g4] at g3
          rw [if_neg g4, if_neg g4]
          refine ⟨⟨g.1, (g.2.set (by omega) _).2 ⟨by omega, by omega⟩⟩, ?_⟩
          rw [cval, sum_set (by omega), cval]; omega
  · rw [aC, if_pos g] at h; omega
theorem i_CV {p m : List Int} (h : CntOk p m) : CallD Try.prog id_impl_CounterValue [vC p m] [] (.tup [(false, [cI (cval p m)]), (false, [cI 0])]) [] := by
  have := i_CounterValue p m
  rwa [if_pos h, if_pos h] at this
theorem i_CVx {p m : List Int} {x : Int} (h : CntOk p m) (hx : cval p m = x) : CallD Try.prog id_impl_CounterValue [vC p m] [] (.tup [(false, [cI x]), (false, [cI 0])]) [] := by
  subst hx
  exact i_CV h
theorem s_CV {p m : List Int} (h : CntOk p m) : CallD Try.prog id_spec_CounterValue [vC p m] [] (.tup [(false, [cI (cval p m)]), (false, [cI 0])]) [] := by
  have := s_CounterValue p m
  rwa [if_pos h, if_pos h] at this
theorem i_CJ {p m q n P M : List Int} (h : CntOk p m ∧ CntOk q n) (hP : vmax p q = P) (hM : vmax m n = M) : CallD Try.prog id_impl_CounterJoin [vC p m, vC q n] [] (.tup [(true, [.os 0 1 0 P.length, .os 1 1 0 M.length]), (false, [cI 0])]) [.own 1 (P.map inD), .own 1 (M.map inD)] := by
  have := i_CounterJoin p m q n
  rwa [jV_0 h, jV_0 h, jC_0 h, hP, hM] at this
theorem i_CA {p m : List Int} {a n : Int} (h : aC p m a n = 0) : ∃ P M, CntOk p m ∧ CntOk P M ∧ cval P M = cval p m + n ∧ CallD Try.prog id_impl_CounterAdd [vC p m, vI .i64 a, vI .i64 n] [] (.tup [(true, [.os 0 1 0 P.length, .os 1 1 0 M.length]), (false, [cI 0])]) [.own 1 (P.map inD), .own 1 (M.map inD)] := by
  have g := aC_inv h
  have := i_CounterAdd p m a n
  rw [aR, h] at this
  exact ⟨_, _, g.1, g.2.1, g.2.2, this⟩
theorem s_CA {p m : List Int} {a n : Int} {c : Int} (h : aC p m a n = c) : ∃ P M, CallD Try.prog id_spec_CounterAdd [vC p m, vI .i64 a, vI .i64 n] [] (.tup [(true, [.os 0 1 0 (P : List Int).length, .os 1 1 0 (M : List Int).length]), (false, [cI c])]) [.own 1 (P.map inD), .own 1 (M.map inD)] := by
  have := s_CounterAdd p m a n
  rw [aR, h] at this
  exact ⟨_, _, this⟩
theorem i_CB {p m : List Int} {a n : Int} {c : Int} (h : aC p m a n = c) : ∃ P M, CallD Try.prog id_impl_CounterAdd [vC p m, vI .i64 a, vI .i64 n] [] (.tup [(true, [.os 0 1 0 (P : List Int).length, .os 1 1 0 (M : List Int).length]), (false, [cI c])]) [.own 1 (P.map inD), .own 1 (M.map inD)] := by
  have := i_CounterAdd p m a n
  rw [aR, h] at this
  exact ⟨_, _, this⟩
theorem sum_bnd : ∀ {l : List Int}, (∀ c ∈ l, cntOk c) → 0 ≤ l.sum ∧ l.sum ≤ 1000000000000 * l.length
  | [], _ => by simp
  | a :: l, h => by
    have h1 := h a (by simp)
    have h2 := sum_bnd (l := l) fun c hc => h c (by simp [hc])
    unfold cntOk at h1
    simp only [List.sum_cons, List.length_cons]
    omega
theorem cval_wrap {p m : List Int} {a n : Int} (h : CntOk p m) (h0 : aC p m a n = 0) : IntKind.i64.wrap (cval p m + n) = cval p m + n := by
  have b1 := sum_bnd h.1.2
  have b2 := sum_bnd h.2.2
  have l1 := h.1.1
  have l2 := h.2.1
  have hn : -1000000000000 ≤ n ∧ n ≤ 1000000000000 := by
    rw [aC, if_neg (by simp [h])] at h0
    split at h0
    · omega
    · omega
  have hc : -16000000000000 ≤ cval p m ∧ cval p m ≤ 16000000000000 := by rw [cval]; omega
  exact wid (by omega) (by omega)
theorem b_CA {p m : List Int} {a n : Int} (h : aC p m a n = 0) : ∃ P M P2 M2 : List Int, CntOk p m ∧ CntOk P M ∧ cval P M = cval p m + n ∧ CallD Try.prog id_impl_CounterAdd [vC p m, vI .i64 a, vI .i64 n] [] (.tup [(true, [.os 0 1 0 P.length, .os 1 1 0 M.length]), (false, [cI 0])]) [.own 1 (P.map inD), .own 1 (M.map inD)] ∧
    CallD Try.prog id_spec_CounterAdd [vC p m, vI .i64 a, vI .i64 n] [] (.tup [(true, [.os 0 1 0 P2.length, .os 1 1 0 M2.length]), (false, [cI 0])]) [.own 1 (P2.map inD), .own 1 (M2.map inD)] := by
  obtain ⟨P, M, g1, g2, g3, g4⟩ := i_CA h
  obtain ⟨P2, M2, g5⟩ := s_CA h
  exact ⟨P, M, P2, M2, g1, g2, g3, g4, g5⟩
theorem b_CB {p m : List Int} {a n : Int} {c : Int} (h : aC p m a n = c) : ∃ P M P2 M2 : List Int, CallD Try.prog id_impl_CounterAdd [vC p m, vI .i64 a, vI .i64 n] [] (.tup [(true, [.os 0 1 0 P.length, .os 1 1 0 M.length]), (false, [cI c])]) [.own 1 (P.map inD), .own 1 (M.map inD)] ∧
    CallD Try.prog id_spec_CounterAdd [vC p m, vI .i64 a, vI .i64 n] [] (.tup [(true, [.os 0 1 0 P2.length, .os 1 1 0 M2.length]), (false, [cI c])]) [.own 1 (P2.map inD), .own 1 (M2.map inD)] := by
  obtain ⟨P, M, g4⟩ := i_CB h
  obtain ⟨P2, M2, g5⟩ := s_CA h
  exact ⟨P, M, P2, M2, g4, g5⟩
theorem law_Counter (code : List UInt8) (hc : code.length ≤ 2 ^ 47) :
    CallD Try.prog id_laws_FnCounter [vY code] [] (vB true) [] := by
  refine F_laws_FnCounter ?_
  try (conv => whnf)
  repeat' (first
    | (refine Pick.mk ?_ ?_ ?_; rotate_left; (focus (exact List.length_map _)); conv => whnf)
    | (refine br_dec (fun _ => ?_) (fun _ => ?_) <;> first | (exfalso; omega) | contradiction | conv => whnf)
    | (refine br_not ?_; conv => whnf)
    | (refine br_bne (fun _ => ?_) (fun _ => ?_) <;> first | (exfalso; omega) | contradiction | conv => whnf)
    | (refine br_beq (fun _ => ?_) (fun _ => ?_) <;> first | (exfalso; omega) | contradiction | conv => whnf))
  · refine Out.mk true [] [] ?_
    try (conv => whnf)
    exact ⟨rfl, rfl⟩
  · refine Hand.mk [] ?_
    try (conv => whnf)
    refine CallW.n (s_DrawCounterJoin code (by omega)) ?_
    rintro _ _ ⟨p, m, q, n, rfl, rfl⟩
    try (conv => whnf)
    refine Hand.mk [] ?_
    try (conv => whnf)
    refine CallW.d (i_CounterJoin p m q n) ?_
    try (conv => whnf)
    refine Hand.mk [] ?_
    try (conv => whnf)
    refine CallW.d (s_CounterJoin p m q n) ?_
    try (conv => whnf)
    try (conv => whnf)
    repeat' (first
      | (refine br_dec (fun _ => ?_) (fun _ => ?_) <;> first | (exfalso; omega) | contradiction | conv => whnf)
      | (refine br_not ?_; conv => whnf)
      | (refine br_bne (fun _ => ?_) (fun _ => ?_) <;> first | (exfalso; omega) | contradiction | conv => whnf)
      | (refine br_beq (fun _ => ?_) (fun _ => ?_) <;> first | (exfalso; omega) | contradiction | conv => whnf))
    · have h := jC_inv (p := p) (m := m) (q := q) (n := n) (by assumption)
      have hs : CntOk q n ∧ CntOk p m := ⟨h.2, h.1⟩
      have hj : CntOk (vmax p q) (vmax m n) ∧ CntOk p m := ⟨jOk h, h.1⟩
      rw [jV_0 h, jV_0 h]
      refine Hand.mk [] ?_
      try (conv => whnf)
      refine CallW.d (i_CJ hs (vmax_comm h.1.1.1 h.2.1.1) (vmax_comm h.1.2.1 h.2.2.1)) ?_
      try (conv => whnf)
      refine Hand.mk [] ?_
      try (conv => whnf)
      repeat (refine Pick.mk ?_ ?_ ?_; rotate_left; (focus ((refine SlOf.full ?_; first | (simp; done) | (simp; omega)))); conv => whnf)
      refine CallW.d (i_CJ hj (vmax_more h.1.1.1 h.2.1.1) (vmax_more h.1.2.1 h.2.2.1)) ?_
      try (conv => whnf)
      refine Hand.mk [] ?_
      try (conv => whnf)
      repeat (refine Pick.mk ?_ ?_ ?_; rotate_left; (focus ((refine SlOf.full ?_; first | (simp; done) | (simp; omega)))); conv => whnf)
      refine CallW.d (i_CV hj.1) ?_
      try (conv => whnf)
      refine Hand.mk [] ?_
      try (conv => whnf)
      repeat (refine Pick.mk ?_ ?_ ?_; rotate_left; (focus ((refine SlOf.full ?_; first | (simp; done) | (simp; omega)))); conv => whnf)
      refine CallW.d (i_CV hj.1) ?_
      try (conv => whnf)
      refine Hand.mk [] ?_
      try (conv => whnf)
      repeat (refine Pick.mk ?_ ?_ ?_; rotate_left; (focus ((refine SlOf.full ?_; first | (simp; done) | (simp; omega)))); conv => whnf)
      refine CallW.d (i_CV hj.1) ?_
      try (conv => whnf)
      refine Hand.mk [] ?_
      try (conv => whnf)
      repeat (refine Pick.mk ?_ ?_ ?_; rotate_left; (focus ((refine SlOf.full ?_; first | (simp; done) | (simp; omega)))); conv => whnf)
      refine CallW.d (s_CV hj.1) ?_
      try (conv => whnf)
      try (conv => whnf)
      repeat' (first
        | (refine br_dec (fun _ => ?_) (fun _ => ?_) <;> first | (exfalso; omega) | contradiction | conv => whnf)
        | (refine br_not ?_; conv => whnf)
        | (refine br_bne (fun _ => ?_) (fun _ => ?_) <;> first | (exfalso; omega) | contradiction | conv => whnf)
        | (refine br_beq (fun _ => ?_) (fun _ => ?_) <;> first | (exfalso; omega) | contradiction | conv => whnf))
      refine Hand.mk [] ?_
      try (conv => whnf)
      refine CallW.n (s_DrawCounterAdd code (by omega)) ?_
      rintro _ _ ⟨P, M, a, n, rfl, rfl⟩
      try (conv => whnf)
      by_cases h0 : aC P M a n = 0
      · refine Exists.elim (b_CA h0) fun P' e => Exists.elim e fun M' e => Exists.elim e fun P'' e => Exists.elim e fun M'' e => ?_
        have g1 := e.1
        have g2 := e.2.1
        have g3 := e.2.2.1
        have g4 := e.2.2.2.1
        have g5 := e.2.2.2.2
        have w := cval_wrap g1 h0
        refine Hand.mk [] ?_
        try (conv => whnf)
        refine CallW.d (g4) ?_
        try (conv => whnf)
        refine Hand.mk [] ?_
        try (conv => whnf)
        refine CallW.d (g5) ?_
        try (conv => whnf)
        refine Hand.mk [] ?_
        try (conv => whnf)
        refine CallW.d (i_CV g1) ?_
        try (conv => whnf)
        refine Hand.mk [] ?_
        try (conv => whnf)
        repeat (refine Pick.mk ?_ ?_ ?_; rotate_left; (focus ((refine SlOf.full ?_; first | (simp; done) | (simp; omega)))); conv => whnf)
        refine CallW.d (i_CVx g2 g3) ?_
        try (conv => whnf)
        repeat (refine Pick.mk ?_ ?_ ?_; rotate_left; (focus (assumption)); conv => whnf)
        try (conv => whnf)
        repeat' (first
          | (refine br_dec (fun _ => ?_) (fun _ => ?_) <;> first | (exfalso; omega) | contradiction | conv => whnf)
          | (refine br_not ?_; conv => whnf)
          | (refine br_bne (fun _ => ?_) (fun _ => ?_) <;> first | (exfalso; omega) | contradiction | conv => whnf)
          | (refine br_beq (fun _ => ?_) (fun _ => ?_) <;> first | (exfalso; omega) | contradiction | conv => whnf))
        refine Out.mk true [] [] ?_
        try (conv => whnf)
        exact ⟨by simp, rfl⟩
      · refine Exists.elim (⟨_, rfl⟩ : ∃ c, aC P M a n = c) fun c hc => ?_
        have h1 : ¬ c = 0 := hc ▸ h0
        refine Exists.elim (b_CB hc) fun P' e => Exists.elim e fun M' e => Exists.elim e fun P'' e => Exists.elim e fun M'' e => ?_
        have g4 := e.1
        have g5 := e.2
        refine Hand.mk [] ?_
        try (conv => whnf)
        refine CallW.d (g4) ?_
        try (conv => whnf)
        refine Hand.mk [] ?_
        try (conv => whnf)
        refine CallW.d (g5) ?_
        try (conv => whnf)
        try (conv => whnf)
        repeat' (first
          | (refine br_dec (fun _ => ?_) (fun _ => ?_) <;> first | (exfalso; omega) | contradiction | conv => whnf)
          | (refine br_not ?_; conv => whnf)
          | (refine br_bne (fun _ => ?_) (fun _ => ?_) <;> first | (exfalso; omega) | contradiction | conv => whnf)
          | (refine br_beq (fun _ => ?_) (fun _ => ?_) <;> first | (exfalso; omega) | contradiction | conv => whnf))
        refine Out.mk true [] [] ?_
        try (conv => whnf)
        exact ⟨rfl, rfl⟩
    · refine Hand.mk [] ?_
      try (conv => whnf)
      refine CallW.n (s_DrawCounterAdd code (by omega)) ?_
      rintro _ _ ⟨P, M, a, n, rfl, rfl⟩
      try (conv => whnf)
      by_cases h0 : aC P M a n = 0
      · refine Exists.elim (b_CA h0) fun P' e => Exists.elim e fun M' e => Exists.elim e fun P'' e => Exists.elim e fun M'' e => ?_
        have g1 := e.1
        have g2 := e.2.1
        have g3 := e.2.2.1
        have g4 := e.2.2.2.1
        have g5 := e.2.2.2.2
        have w := cval_wrap g1 h0
        refine Hand.mk [] ?_
        try (conv => whnf)
        refine CallW.d (g4) ?_
        try (conv => whnf)
        refine Hand.mk [] ?_
        try (conv => whnf)
        refine CallW.d (g5) ?_
        try (conv => whnf)
        refine Hand.mk [] ?_
        try (conv => whnf)
        refine CallW.d (i_CV g1) ?_
        try (conv => whnf)
        refine Hand.mk [] ?_
        try (conv => whnf)
        repeat (refine Pick.mk ?_ ?_ ?_; rotate_left; (focus ((refine SlOf.full ?_; first | (simp; done) | (simp; omega)))); conv => whnf)
        refine CallW.d (i_CVx g2 g3) ?_
        try (conv => whnf)
        repeat (refine Pick.mk ?_ ?_ ?_; rotate_left; (focus (assumption)); conv => whnf)
        try (conv => whnf)
        repeat' (first
          | (refine br_dec (fun _ => ?_) (fun _ => ?_) <;> first | (exfalso; omega) | contradiction | conv => whnf)
          | (refine br_not ?_; conv => whnf)
          | (refine br_bne (fun _ => ?_) (fun _ => ?_) <;> first | (exfalso; omega) | contradiction | conv => whnf)
          | (refine br_beq (fun _ => ?_) (fun _ => ?_) <;> first | (exfalso; omega) | contradiction | conv => whnf))
        refine Out.mk true [] [] ?_
        try (conv => whnf)
        exact ⟨by simp, rfl⟩
      · refine Exists.elim (⟨_, rfl⟩ : ∃ c, aC P M a n = c) fun c hc => ?_
        have h1 : ¬ c = 0 := hc ▸ h0
        refine Exists.elim (b_CB hc) fun P' e => Exists.elim e fun M' e => Exists.elim e fun P'' e => Exists.elim e fun M'' e => ?_
        have g4 := e.1
        have g5 := e.2
        refine Hand.mk [] ?_
        try (conv => whnf)
        refine CallW.d (g4) ?_
        try (conv => whnf)
        refine Hand.mk [] ?_
        try (conv => whnf)
        refine CallW.d (g5) ?_
        try (conv => whnf)
        try (conv => whnf)
        repeat' (first
          | (refine br_dec (fun _ => ?_) (fun _ => ?_) <;> first | (exfalso; omega) | contradiction | conv => whnf)
          | (refine br_not ?_; conv => whnf)
          | (refine br_bne (fun _ => ?_) (fun _ => ?_) <;> first | (exfalso; omega) | contradiction | conv => whnf)
          | (refine br_beq (fun _ => ?_) (fun _ => ?_) <;> first | (exfalso; omega) | contradiction | conv => whnf))
        refine Out.mk true [] [] ?_
        try (conv => whnf)
        exact ⟨rfl, rfl⟩
end Go.Proofs.Ytoklfidamhigcaa.D
