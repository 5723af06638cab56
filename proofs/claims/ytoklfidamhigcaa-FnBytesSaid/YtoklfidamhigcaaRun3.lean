/- Lists of numbers read, by the program. -/
import Derived.Test.YtoklfidamhigcaaRun
import Derived.Test.YtoklfidamhigcaaCod2
namespace Go.Proofs.Ytoklfidamhigcaa.D
open Go.RowKit
set_option maxRecDepth 100000
set_option maxHeartbeats 4000000
set_option linter.unusedVariables false
set_option linter.unusedSimpArgs false

/-- What a reader gives that asks for a list of numbers. -/
def RunP (l : List UInt8) (a : Nat) : SV → List Row → Prop := fun r Lo =>
  ∃ (b : Nat) (bad : Bool) (xs : List Int), Lo = [rdR l b bad, .own 1 (xs.map inD)] ∧ r = .one (.os 1 1 0 xs.length) ∧ b ≤ l.length ∧ match getR l a with | some (ys, c) => bad = false ∧ xs = ys ∧ b = c | none => bad = true
theorem zag_le {z : Nat} (h : z ≤ 4611686018427387903) : -2305843009213693952 ≤ zag z ∧ zag z ≤ 2305843009213693952 := by
  unfold zag
  split <;> omega
theorem and1 (z : Nat) (h : z < 2 ^ 63) : bits .and .i64 (z : Int) 1 = ((z % 2 : Nat) : Int) := by
  have := and_i64 (a := z) (b := 1) (by omega) (by omega)
  have e : z &&& 1 = z % 2 := Nat.and_two_pow_sub_one_eq_mod z 1
  rw [e] at this; exact this
theorem i_zag (z : Nat) (h : z ≤ 4611686018427387903) : CallD Try.prog id_impl_zag [vI .i64 z] [] (vI .i64 (zag z)) [] := by
  refine F_impl_zag ?_
  have h1 := and1 z (by omega)
  try (conv => whnf)
  repeat' (first
    | (refine Need.mk ?_ ?_; (focus (omega)); conv => whnf)
    | (refine Pick.mk ?_ ?_ ?_; rotate_left; (focus (first | assumption | (refine wid ?_ ?_ <;> omega) | (refine wdiv ?_ ?_ ?_ <;> omega))); conv => whnf)
    | (refine SeqJ.thru ?_; conv => whnf)
    | (refine br_dec (fun _ => ?_) (fun _ => ?_) <;> first | (exfalso; omega) | contradiction | conv => whnf)
    | (refine br_not ?_; conv => whnf)
    | (refine br_bne (fun _ => ?_) (fun _ => ?_) <;> first | (exfalso; omega) | contradiction | conv => whnf)
    | (refine br_beq (fun _ => ?_) (fun _ => ?_) <;> first | (exfalso; omega) | contradiction | conv => whnf))
  · refine Out.mk true [] [] ?_
    try (conv => whnf)
    exact ⟨by rw [zag, if_pos (by omega)]; congr; omega, rfl⟩
  · refine Out.mk true [] [] ?_
    try (conv => whnf)
    exact ⟨by rw [zag, if_neg (by omega)]; congr, rfl⟩
theorem seq_step (y d : Int) (m : Nat) : seq y d (m + 1) = y :: seq (y + d) d m := rfl
theorem rsN_0 (l : List UInt8) (a : Nat) : rsN l 0 a = some ([], a) := by rw [rsN, if_pos rfl]
theorem rsN_none1 {l : List UInt8} {r a : Nat} (hr : 0 < r) (h : get l a = none) : rsN l r a = none := by rw [rsN, if_neg (by omega), h]
theorem rsN_none2 {l : List UInt8} {r a v b : Nat} (hr : 0 < r) (h : get l a = some (v, b)) (h2 : get l b = none) : rsN l r a = none := by rw [rsN, if_neg (by omega)]; simp only [h, h2]
theorem rsN_none3 {l : List UInt8} {r a v b k c : Nat} (hr : 0 < r) (h : get l a = some (v, b)) (h2 : get l b = some (k, c)) (h3 : ¬ ((v : Int) ≤ M4 ∧ 1 ≤ k ∧ k ≤ r)) : rsN l r a = none := by
  rw [rsN, if_neg (by omega)]; simp only [h, h2]; rw [dif_neg h3]
theorem rsN_one {l : List UInt8} {r a v b c : Nat} (hr : 0 < r) (h : get l a = some (v, b)) (h2 : get l b = some (1, c)) (h3 : (v : Int) ≤ M4) : rsN l r a = (rsN l (r - 1) c).map fun x => ((v : Int) :: x.1, x.2) := by
  rw [rsN, if_neg (by omega)]; simp only [h, h2]; rw [dif_pos ⟨h3, by omega, by omega⟩]; simp
theorem rsN_none4 {l : List UInt8} {r a v b k c : Nat} (hr : 0 < r) (h : get l a = some (v, b)) (h2 : get l b = some (k, c)) (hk : k ≠ 1) (h4 : get l c = none) : rsN l r a = none := by
  rw [rsN, if_neg (by omega)]; simp only [h, h2]; split
  · simp [hk, h4]
  · rfl
theorem rsN_none5 {l : List UInt8} {r a v b k c z d : Nat} (hr : 0 < r) (h : get l a = some (v, b)) (h2 : get l b = some (k, c)) (hk : k ≠ 1) (h4 : get l c = some (z, d)) (h5 : ¬ ∀ x ∈ seq v (zag z) k, inM x) : rsN l r a = none := by
  rw [rsN, if_neg (by omega)]; simp only [h, h2]; split
  · simp [hk, h4, h5]
  · rfl
theorem rsN_more {l : List UInt8} {r a v b k c z d : Nat} (hr : 0 < r) (h : get l a = some (v, b)) (h2 : get l b = some (k, c)) (h3 : (v : Int) ≤ M4 ∧ 1 ≤ k ∧ k ≤ r) (hk : k ≠ 1) (h4 : get l c = some (z, d)) (h5 : ∀ x ∈ seq v (zag z) k, inM x) :
    rsN l r a = (rsN l (r - k) d).map fun x => (seq v (zag z) k ++ x.1, x.2) := by
  rw [rsN, if_neg (by omega)]; simp only [h, h2]; rw [dif_pos h3]; simp only [if_neg hk, h4]; rw [if_pos h5]
theorem i_runs (l : List UInt8) (a : Nat) (hl : l.length ≤ 2 ^ 30) (ha : a ≤ l.length) :
    CallM Try.prog id_impl_reader_runs [.one (.ptr 0 0)] [rdR l a false] [] false (RunP l a) := by
  refine F_impl_reader_runs ?_
  try (conv => whnf)
  cases hg : get l a with
  | none =>
    have hT : getR l a = none := by rw [getR, getR0, hg]
    refine Hand.mk [] ?_
    try (conv => whnf)
    refine CallW.n (i_numN hg (by omega) ha) ?_
    rintro _ _ ⟨b, rfl, rfl, hb⟩
    try (conv => whnf)
    repeat' (first
      | (refine SeqJ.thru ?_; conv => whnf)
      | (refine br_dec (fun _ => ?_) (fun _ => ?_) <;> first | (exfalso; omega) | contradiction | conv => whnf)
      | (refine br_not ?_; conv => whnf)
      | (refine br_bne (fun _ => ?_) (fun _ => ?_) <;> first | (exfalso; omega) | contradiction | conv => whnf)
      | (refine br_beq (fun _ => ?_) (fun _ => ?_) <;> first | (exfalso; omega) | contradiction | conv => whnf))
    refine Out.mk false [0, 1, 2, 3, 4] [(0, 1)] ?_
    try (conv => whnf)
    exact ⟨b, true, [], rfl, rfl, hb, by rw [hT]⟩
  | some r =>
    obtain ⟨n, b⟩ := r
    obtain ⟨g1, g2, g3, g4, g5⟩ := get_inv hg
    simp only [MaxN] at g4
    refine Hand.mk [] ?_
    try (conv => whnf)
    refine CallW.n (i_num hg (by omega)) ?_
    rintro _ _ ⟨rfl, rfl⟩
    try (conv => whnf)
    repeat' (first
      | (refine SeqJ.thru ?_; conv => whnf)
      | (refine br_dec (fun _ => ?_) (fun _ => ?_) <;> first | (exfalso; omega) | contradiction | conv => whnf)
      | (refine br_not ?_; conv => whnf)
      | (refine br_bne (fun _ => ?_) (fun _ => ?_) <;> first | (exfalso; omega) | contradiction | conv => whnf)
      | (refine br_beq (fun _ => ?_) (fun _ => ?_) <;> first | (exfalso; omega) | contradiction | conv => whnf))
    · have hT : getR l a = none := by simp only [getR, getR0, hg]; rw [if_neg (by omega)]
      refine Out.mk false [0, 1, 2, 3, 4] [(0, 1)] ?_
      try (conv => whnf)
      exact ⟨b, true, [], rfl, rfl, g3, by rw [hT]⟩
    · have hT : getR0 l a = rsN l n b := by simp only [getR0, hg]; rw [if_pos (by omega)]
      refine LoopE.mk (fun (x : Nat × List Int) => mk [(0, .one (.ptr 0 0)), (3, vI .i64 a), (4, vI .i64 n), (5, .one (.os 5000 1 0 x.2.length))] [(0, rdR l x.1 false), (5000, .own 1 (x.2.map inD))])
        (fun x => x.2.length ≤ n ∧ a ≤ x.1 ∧ x.1 ≤ l.length ∧ (∀ y ∈ x.2, inM y) ∧ getR0 l a = (rsN l (n - x.2.length) x.1).map fun r => (x.2 ++ r.1, r.2)) (fun x => n - x.2.length) (b, []) ⟨by simp, by omega, g3, by simp, by simp [hT]⟩ (LeX.of ?_) ?_
      · try (conv => whnf)
        repeat (refine Need.mk ?_ ?_; (focus (first | omega | (simp; done))); conv => whnf)
        trivial
      · rintro ⟨b, xs⟩ ⟨h1, h2, h3, h4, h5⟩
        dsimp only at h1 h2 h3 h4 h5 ⊢
        rcases Nat.lt_or_ge xs.length n with hlt | hge
        · have hbad : ∀ {c : Nat} {L : List UInt8}, rsN l (n - xs.length) b = none → c ≤ l.length → RunP l a (.one (.os 1 1 0 0)) [rdR l c true, .own 1 []] := fun h hc => ⟨_, true, [], rfl, rfl, hc, by rw [getR, h5, h]; rfl⟩
          have hpos : 0 < n - xs.length := by omega
          try (conv => whnf)
          repeat' (first
            | (refine SeqJ.thru ?_; conv => whnf)
            | (refine br_dec (fun _ => ?_) (fun _ => ?_) <;> first | (exfalso; omega) | contradiction | conv => whnf)
            | (refine br_not ?_; conv => whnf)
            | (refine br_bne (fun _ => ?_) (fun _ => ?_) <;> first | (exfalso; omega) | contradiction | conv => whnf)
            | (refine br_beq (fun _ => ?_) (fun _ => ?_) <;> first | (exfalso; omega) | contradiction | conv => whnf))
          cases hk : get l b with
          | none =>
            refine Hand.mk [] ?_
            try (conv => whnf)
            refine CallW.n (i_numN hk (by omega) h3) ?_
            rintro _ _ ⟨c, rfl, rfl, hc⟩
            try (conv => whnf)
            refine Hand.mk [] ?_
            try (conv => whnf)
            refine CallW.n (i_numB (by omega) hc) ?_
            rintro _ _ ⟨c, rfl, rfl, hc⟩
            try (conv => whnf)
            repeat' (first
              | (refine SeqJ.thru ?_; conv => whnf)
              | (refine br_dec (fun _ => ?_) (fun _ => ?_) <;> first | (exfalso; omega) | contradiction | conv => whnf)
              | (refine br_not ?_; conv => whnf)
              | (refine br_bne (fun _ => ?_) (fun _ => ?_) <;> first | (exfalso; omega) | contradiction | conv => whnf)
              | (refine br_beq (fun _ => ?_) (fun _ => ?_) <;> first | (exfalso; omega) | contradiction | conv => whnf))
            refine Out.mk false [0, 1, 2, 3, 4] [(0, 1)] ?_
            try (conv => whnf)
            exact ⟨hbad (L := []) (rsN_none1 hpos hk) hc⟩
          | some r =>
            obtain ⟨v, c⟩ := r
            obtain ⟨k1, k2, k3, k4, k5⟩ := get_inv hk
            simp only [MaxN] at k4
            refine Hand.mk [] ?_
            try (conv => whnf)
            refine CallW.n (i_num hk (by omega)) ?_
            rintro _ _ ⟨rfl, rfl⟩
            try (conv => whnf)
            cases hm : get l c with
            | none =>
              refine Hand.mk [] ?_
              try (conv => whnf)
              refine CallW.n (i_numN hm (by omega) k3) ?_
              rintro _ _ ⟨d, rfl, rfl, hc⟩
              try (conv => whnf)
              repeat' (first
                | (refine SeqJ.thru ?_; conv => whnf)
                | (refine br_dec (fun _ => ?_) (fun _ => ?_) <;> first | (exfalso; omega) | contradiction | conv => whnf)
                | (refine br_not ?_; conv => whnf)
                | (refine br_bne (fun _ => ?_) (fun _ => ?_) <;> first | (exfalso; omega) | contradiction | conv => whnf)
                | (refine br_beq (fun _ => ?_) (fun _ => ?_) <;> first | (exfalso; omega) | contradiction | conv => whnf))
              refine Out.mk false [0, 1, 2, 3, 4] [(0, 1)] ?_
              try (conv => whnf)
              exact ⟨hbad (L := []) (rsN_none2 hpos hk hm) hc⟩
            | some r =>
              obtain ⟨k, d⟩ := r
              obtain ⟨m1, m2, m3, m4, m5⟩ := get_inv hm
              simp only [MaxN] at m4
              refine Hand.mk [] ?_
              try (conv => whnf)
              refine CallW.n (i_num hm (by omega)) ?_
              rintro _ _ ⟨rfl, rfl⟩
              by_cases hok : (v : Int) ≤ M4 ∧ 1 ≤ k ∧ k ≤ n - xs.length
              rotate_left
              · unfold M4 at hok
                try (conv => whnf)
                repeat' (first
                  | (refine Pick.mk ?_ ?_ ?_; rotate_left; (focus ((refine wid ?_ ?_ <;> omega))); conv => whnf)
                  | (refine SeqJ.thru ?_; conv => whnf)
                  | (refine br_dec (fun _ => ?_) (fun _ => ?_) <;> first | (exfalso; omega) | contradiction | conv => whnf)
                  | (refine br_not ?_; conv => whnf)
                  | (refine br_bne (fun _ => ?_) (fun _ => ?_) <;> first | (exfalso; omega) | contradiction | conv => whnf)
                  | (refine br_beq (fun _ => ?_) (fun _ => ?_) <;> first | (exfalso; omega) | contradiction | conv => whnf))
                all_goals
                  refine Out.mk false [0, 1, 2, 3, 4] [(0, 1)] ?_
                  try (conv => whnf)
                  exact ⟨hbad (L := []) (rsN_none3 hpos hk hm (by unfold M4; omega)) m3⟩
              · have hok' := hok
                unfold M4 at hok'
                have hv : inM v := ⟨by omega, hok.1⟩
                try (conv => whnf)
                repeat' (first
                  | (refine Need.mk ?_ ?_; (focus (omega)); conv => whnf)
                  | (refine Pick.mk ?_ ?_ ?_; rotate_left; (focus (first | (simp only [List.length_map, List.length_append, List.length_cons, List.length_nil, List.length_replicate, Nat.zero_add]; rfl) | exact map_snoc inD _ _ | (simp only [chunks]; rfl) | (refine wid ?_ ?_ <;> omega) | (refine SlOf.full ?_; first | (simp; done) | (simp; omega)))); conv => whnf)
                  | (refine SeqJ.thru ?_; conv => whnf)
                  | (refine br_dec (fun _ => ?_) (fun _ => ?_) <;> first | (exfalso; omega) | contradiction | conv => whnf)
                  | (refine br_not ?_; conv => whnf)
                  | (refine br_bne (fun _ => ?_) (fun _ => ?_) <;> first | (exfalso; omega) | contradiction | conv => whnf)
                  | (refine br_beq (fun _ => ?_) (fun _ => ?_) <;> first | (exfalso; omega) | contradiction | conv => whnf))
                · obtain rfl : k = 1 := by omega
                  refine Pick.mk (d, xs ++ [(v : Int)]) ⟨⟨by simp; omega, by omega, m3, ?_, ?_⟩, by simp; omega⟩ (LeX.of ?_)
                  · intro y hy
                    rcases List.mem_append.1 hy with hy | hy
                    · exact h4 y hy
                    · simp at hy; subst hy; exact hv
                  · dsimp only
                    rw [h5, rsN_one hpos hk hm hok.1, Option.map_map]
                    simp only [List.length_append, List.length_singleton, Nat.sub_sub]
                    congr 1
                    funext r
                    simp
                  · try (conv => whnf)
                    repeat (refine Need.mk ?_ ?_; (focus (first | omega | (simp; done))); conv => whnf)
                    trivial
                · have hk1 : k ≠ 1 := by omega
                  cases hz : get l d with
                  | none =>
                    refine Hand.mk [] ?_
                    try (conv => whnf)
                    refine CallW.n (i_numN hz (by omega) m3) ?_
                    rintro _ _ ⟨e, rfl, rfl, he⟩
                    try (conv => whnf)
                    refine Hand.mk [] ?_
                    try (conv => whnf)
                    refine CallW.d (i_zag 0 (by omega)) ?_
                    try (conv => whnf)
                    refine LoopE.mk (fun (_ : Nat) => mk [(0, .one (.ptr 0 0)), (3, vI .i64 a), (4, vI .i64 n), (5, .one (.os 5000 1 0 (xs ++ [(v : Int)]).length)), (6, vI .i64 v), (7, vI .i64 k), (8, vI .i64 (zag 0)), (9, vI .i64 1)] [(0, rdR l e true), (5000, .own 1 ((xs ++ [(v : Int)]).map inD))]) (fun _ => True) (fun x => x) 0 trivial (LeX.of ?_) ?_
                    · try (conv => whnf)
                      repeat (refine Need.mk ?_ ?_; (focus (first | omega | (simp; done))); conv => whnf)
                      trivial
                    · intro _ _
                      have hz0 : zag 0 = 0 := rfl
                      try (conv => whnf)
                      repeat' (first
                        | (refine Pick.mk ?_ ?_ ?_; rotate_left; (focus ((refine wid ?_ ?_ <;> omega))); conv => whnf)
                        | (refine SeqJ.thru ?_; conv => whnf)
                        | (refine br_dec (fun _ => ?_) (fun _ => ?_) <;> first | (exfalso; omega) | contradiction | conv => whnf)
                        | (refine br_not ?_; conv => whnf)
                        | (refine br_bne (fun _ => ?_) (fun _ => ?_) <;> first | (exfalso; omega) | contradiction | conv => whnf)
                        | (refine br_beq (fun _ => ?_) (fun _ => ?_) <;> first | (exfalso; omega) | contradiction | conv => whnf))
                      refine Out.mk false [0, 1, 2, 3, 4] [(0, 1)] ?_
                      try (conv => whnf)
                      exact ⟨hbad (L := []) (rsN_none4 hpos hk hm hk1 hz) he⟩
                  | some r =>
                    obtain ⟨z, e⟩ := r
                    obtain ⟨z1, z2, z3, z4, z5⟩ := get_inv hz
                    simp only [MaxN] at z4
                    have hzl := zag_le z4
                    refine Hand.mk [] ?_
                    try (conv => whnf)
                    refine CallW.n (i_num hz (by omega)) ?_
                    rintro _ _ ⟨rfl, rfl⟩
                    try (conv => whnf)
                    refine Hand.mk [] ?_
                    try (conv => whnf)
                    refine CallW.d (i_zag z z4) ?_
                    try (conv => whnf)
                    refine LoopE.mk (fun (x : Nat × Int × List Int) => mk [(0, .one (.ptr 0 0)), (3, vI .i64 a), (4, vI .i64 n), (5, .one (.os 5000 1 0 (xs ++ x.2.2).length)), (6, vI .i64 x.2.1), (7, vI .i64 k), (8, vI .i64 (zag z)), (9, vI .i64 x.1)] [(0, rdR l e false), (5000, .own 1 ((xs ++ x.2.2).map inD))])
                      (fun x => 1 ≤ x.1 ∧ x.1 ≤ k ∧ x.2.2.length = x.1 ∧ (∀ w ∈ x.2.2, inM w) ∧ inM x.2.1 ∧ seq v (zag z) k = x.2.2 ++ seq (x.2.1 + zag z) (zag z) (k - x.1)) (fun x => k - x.1) (1, v, [(v : Int)]) ⟨by omega, by omega, rfl, by simpa using hv, hv, ?_⟩ (LeX.of ?_) ?_
                    · dsimp only
                      obtain ⟨m, rfl⟩ : ∃ m, k = m + 1 := ⟨k - 1, by omega⟩
                      rfl
                    · try (conv => whnf)
                      repeat (refine Need.mk ?_ ?_; (focus (first | omega | (simp; done))); conv => whnf)
                      trivial
                    · rintro ⟨j, y, S⟩ ⟨j1, j2, j3, j4, j5, j6⟩
                      dsimp only at j1 j2 j3 j4 j5 j6 ⊢
                      rcases Nat.lt_or_ge j k with hj | hj
                      · have j5' := j5
                        unfold inM M4 at j5'
                        have e1 : k - j = (k - (j + 1)) + 1 := by omega
                        by_cases hy : inM (y + zag z)
                        · have hy' := hy
                          unfold inM M4 at hy'
                          try (conv => whnf)
                          repeat' (first
                            | (refine Need.mk ?_ ?_; (focus (omega)); conv => whnf)
                            | (refine Pick.mk ?_ ?_ ?_; rotate_left; (focus (first | (simp only [List.length_map, List.length_append, List.length_cons, List.length_nil, List.length_replicate, Nat.zero_add]; rfl) | exact map_snoc inD _ _ | (simp only [chunks]; rfl) | (refine wid ?_ ?_ <;> omega) | (refine SlOf.full ?_; first | (simp; done) | (simp; omega)))); conv => whnf)
                            | (refine SeqJ.thru ?_; conv => whnf)
                            | (refine br_dec (fun _ => ?_) (fun _ => ?_) <;> first | (exfalso; omega) | contradiction | conv => whnf)
                            | (refine br_not ?_; conv => whnf)
                            | (refine br_bne (fun _ => ?_) (fun _ => ?_) <;> first | (exfalso; omega) | contradiction | conv => whnf)
                            | (refine br_beq (fun _ => ?_) (fun _ => ?_) <;> first | (exfalso; omega) | contradiction | conv => whnf))
                          refine Pick.mk (j + 1, y + zag z, S ++ [y + zag z]) ⟨⟨by omega, by omega, by simp [j3], ?_, hy, ?_⟩, by dsimp only; omega⟩ (LeX.of ?_)
                          · intro w hw
                            rcases List.mem_append.1 hw with hw | hw
                            · exact j4 w hw
                            · simp at hw; subst hw; exact hy
                          · dsimp only
                            rw [j6, e1, seq_step]
                            simp
                          · try (conv => whnf)
                            repeat (refine Need.mk ?_ ?_; (focus (first | omega | (simp; done) | (simp; omega))); conv => whnf)
                            trivial
                        · have hn : ¬ ∀ w ∈ seq v (zag z) k, inM w := fun h => hy (h _ (by rw [j6, e1, seq_step]; simp))
                          unfold inM M4 at hy
                          try (conv => whnf)
                          repeat' (first
                            | (refine Pick.mk ?_ ?_ ?_; rotate_left; (focus ((refine wid ?_ ?_ <;> omega))); conv => whnf)
                            | (refine SeqJ.thru ?_; conv => whnf)
                            | (refine br_dec (fun _ => ?_) (fun _ => ?_) <;> first | (exfalso; omega) | contradiction | conv => whnf)
                            | (refine br_not ?_; conv => whnf)
                            | (refine br_bne (fun _ => ?_) (fun _ => ?_) <;> first | (exfalso; omega) | contradiction | conv => whnf)
                            | (refine br_beq (fun _ => ?_) (fun _ => ?_) <;> first | (exfalso; omega) | contradiction | conv => whnf))
                          all_goals
                            refine Out.mk false [0, 1, 2, 3, 4] [(0, 1)] ?_
                            try (conv => whnf)
                            exact ⟨hbad (L := []) (rsN_none5 hpos hk hm hk1 hz hn) z3⟩
                      · rw [show k - j = 0 by omega] at j6
                        simp only [seq, List.append_nil] at j6
                        try (conv => whnf)
                        repeat' (first
                          | (refine SeqJ.thru ?_; conv => whnf)
                          | (refine br_dec (fun _ => ?_) (fun _ => ?_) <;> first | (exfalso; omega) | contradiction | conv => whnf)
                          | (refine br_not ?_; conv => whnf)
                          | (refine br_bne (fun _ => ?_) (fun _ => ?_) <;> first | (exfalso; omega) | contradiction | conv => whnf)
                          | (refine br_beq (fun _ => ?_) (fun _ => ?_) <;> first | (exfalso; omega) | contradiction | conv => whnf))
                        refine Pick.mk (e, xs ++ S) ⟨⟨by simp; omega, by omega, z3, ?_, ?_⟩, by simp; omega⟩ (LeX.of ?_)
                        · intro w hw
                          rcases List.mem_append.1 hw with hw | hw
                          · exact h4 w hw
                          · exact j4 w hw
                        · dsimp only
                          rw [h5, rsN_more hpos hk hm hok hk1 hz (by rw [j6]; exact j4), Option.map_map, j6]
                          simp only [List.length_append, Nat.sub_sub, j3, show j = k by omega]
                          congr 1
                          funext r
                          simp
                        · try (conv => whnf)
                          repeat (refine Need.mk ?_ ?_; (focus (first | omega | (simp; done))); conv => whnf)
                          trivial
        · rw [show n - xs.length = 0 by omega, rsN_0] at h5
          simp only [Option.map_some, List.append_nil] at h5
          try (conv => whnf)
          repeat' (first
            | (refine Need.mk ?_ ?_; (focus ((simp; done))); conv => whnf)
            | (refine Pick.mk ?_ ?_ ?_; rotate_left; (focus (first | with_reducible exact sl_map _ _ _ _ | (refine bnd_id ?_; omega) | exact List.length_map _ | ((fail_if_success (show @Eq (Option _) _ _)); rfl))); conv => whnf)
            | (refine SeqJ.thru ?_; conv => whnf)
            | (refine br_dec (fun _ => ?_) (fun _ => ?_) <;> first | (exfalso; omega) | contradiction | conv => whnf)
            | (refine br_not ?_; conv => whnf)
            | (refine br_bne (fun _ => ?_) (fun _ => ?_) <;> first | (exfalso; omega) | contradiction | conv => whnf)
            | (refine br_beq (fun _ => ?_) (fun _ => ?_) <;> first | (exfalso; omega) | contradiction | conv => whnf))
          refine Hand.mk [] ?_
          try (conv => whnf)
          repeat (refine Pick.mk ?_ ?_ ?_; rotate_left; (focus ((refine SlOf.full ?_; first | (simp; done) | (simp; omega)))); conv => whnf)
          refine CallW.d (i_appendRuns_nil xs h4 (by omega)) ?_
          try (conv => whnf)
          repeat (first
            | (refine Need.mk ?_ ?_; (focus (((conv => whnf); (repeat (first | (refine Need.mk (by first | rfl | omega | (simp; done)) ?_; conv => whnf) | (refine Pick.mk ?_ ?_ ?_; rotate_left; (focus (first | with_reducible exact xor_u8 _ _ | (with_reducible refine xor_i64 ?_ ?_; all_goals omega) | (with_reducible refine xor_u32 ?_ ?_; all_goals omega) | assumption | with_reducible exact set_byN _ _ _ _ | with_reducible exact set_byI _ _ _ _ | with_reducible exact set_inN _ _ _ _ | with_reducible exact set_inI _ _ _ _ | with_reducible exact set_stN _ _ _ _ | with_reducible exact set_tsN _ _ _ _ | with_reducible exact set_tsI _ _ _ _ | with_reducible exact set_boN _ _ _ _ | with_reducible exact set_boI _ _ _ _ | (with_reducible refine get_mapN _ _ _ ?_; first | omega | (simp; omega)) | (with_reducible refine get_mapI _ _ _ ?_ ?_ <;> first | omega | (simp; omega)) | exact bs_beq _ _ | exact bs_less _ _ | exact bs_leq _ _ | with_reducible exact bs_app _ _ | (refine bs_get _ _ ?_; omega) | (refine bs_int _ _ ?_ ?_ <;> omega) | with_reducible exact sl_map0 _ _ _ | with_reducible exact sl_mapN _ _ _ | with_reducible exact sl_map _ _ _ _ | exact bs_extract0 _ _ | exact bs_extractN _ _ | exact bs_extract _ _ _ | (refine bnd_id ?_; omega) | (refine bnd_sub ?_ ?_ <;> omega) | (refine bnd_add ?_; omega) | (refine bnd_subN ?_ ?_ <;> omega) | (refine bnd_int ?_ ?_ <;> omega) | exact List.length_map _ | exact size_bs _ | (simp only [List.length_map, List.length_append, List.length_cons, List.length_nil, List.length_replicate, Nat.zero_add]; rfl) | with_reducible exact List.nil_append _ | with_reducible exact map_app _ _ _ | exact map_snoc byD _ _ | exact map_snoc inD _ _ | exact map_snoc stD _ _ | exact map_snoc tsD _ _ | (simp only [chunks]; rfl) | (refine wid ?_ ?_ <;> omega) | exact wby _ | with_reducible exact wby32 _ | with_reducible exact wu32 _ | exact wby64 _ | exact shr8 _ | exact shr16 _ | exact shr24 _ | exact shr32 _ | (refine tmodn ?_; omega) | (refine wdiv ?_ ?_ ?_ <;> omega) | exact wbyte _ | exact natlit _ | exact rep_by _ | exact rep_in _ | exact rep_bo _ | exact rep_st _ | (refine pick_nat _ _ _ ?_; omega) | (refine pick_int _ _ _ ?_ ?_ <;> omega) | (refine SlOf.full ?_; first | (simp; done) | (simp; omega)) | (with_reducible refine SlOf.pre _ _ ?_; first | omega | (simp; omega)) | ((fail_if_success (show @Eq (Option _) _ _)); rfl) | ((show @Eq (Option _) _ _); simp only [List.getElem?_cons_zero, List.getElem?_cons_succ]; done) | ((show @Eq (Option _) _ _); simp only [List.getElem?_cons_zero, List.getElem?_cons_succ]; rfl) | with_reducible rfl)); conv => whnf))); exact Done.mk trivial))); conv => whnf)
            | (refine Pick.mk ?_ ?_ ?_; rotate_left; (focus (first | exact bs_beq _ _ | (refine SlOf.full ?_; first | (simp; done) | (simp; omega)))); conv => whnf))
          try (conv => whnf)
          repeat' (first
            | (refine br_dec (fun _ => ?_) (fun _ => ?_) <;> first | (exfalso; omega) | contradiction | conv => whnf)
            | (refine br_not ?_; conv => whnf)
            | (refine br_bne (fun _ => ?_) (fun _ => ?_) <;> first | (exfalso; omega) | contradiction | conv => whnf)
            | (refine br_beq (fun _ => ?_) (fun _ => ?_) <;> first | (exfalso; omega) | contradiction | conv => whnf))
          · rename_i q
            refine Out.mk false [0, 1, 2, 3, 4] [] ?_
            try (conv => whnf)
            exact ⟨b, false, xs, rfl, rfl, h3, by
              rw [getR, h5]
              dsimp only
              rw [if_pos (by rw [q, List.drop_take])]
              exact ⟨rfl, rfl, rfl⟩⟩
          · rename_i q
            refine Out.mk false [0, 1, 2, 3, 4] [(0, 1)] ?_
            try (conv => whnf)
            exact ⟨b, true, [], rfl, rfl, h3, by
              rw [getR, h5]
              dsimp only
              rw [if_neg (by rw [← List.drop_take]; exact q)]⟩
end Go.Proofs.Ytoklfidamhigcaa.D
