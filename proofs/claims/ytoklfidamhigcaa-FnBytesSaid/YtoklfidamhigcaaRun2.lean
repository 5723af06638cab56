/- Runs of numbers written by the reference. -/
import Derived.Test.YtoklfidamhigcaaRun
namespace Go.Proofs.Ytoklfidamhigcaa.D
open Go.RowKit
set_option maxRecDepth 100000
set_option maxHeartbeats 4000000
set_option linter.unusedVariables false
set_option linter.unusedSimpArgs false

theorem wsubN {a b : Nat} (h : b ≤ a) (h2 : a ≤ 4611686018427387904) : IntKind.i64.wrap ((a : Int) - (b : Int)) = ((a - b : Nat) : Int) := by
  rw [wid (by omega) (by omega)]; omega
theorem s_l01PutRuns (l : List Int) (hx : ∀ x ∈ l, inM x) (hl : l.length ≤ 2 ^ 40) :
    CallD Try.prog id_spec_l01PutRuns [vN l] [] (.one (.os 0 1 0 (putR l).length)) [.own 1 ((putR l).map byD)] := by
  refine F_spec_l01PutRuns ?_
  try (conv => whnf)
  repeat (refine Pick.mk ?_ ?_ ?_; rotate_left; (focus (exact List.length_map _)); conv => whnf)
  have hput := put_len (n := l.length) (by omega)
  refine Hand.mk [] ?_
  try (conv => whnf)
  refine CallW.d (s_l01Put l.length (by omega)) ?_
  try (conv => whnf)
  refine LoopE.mk (fun (x : Nat × List UInt8) => mk [(0, vN l), (3, .one (.os 8224 1 0 (put l.length ++ x.2).length)), (4, vI .i64 x.1)] [(8224, .own 1 ((put l.length ++ x.2).map byD))])
    (fun x => x.1 ≤ l.length ∧ x.2.length ≤ 27 * l.length ∧ putRs l = x.2 ++ putRs (l.drop x.1)) (fun x => l.length - x.1) (0, []) ⟨by simp, by simp, by simp⟩ (LeX.of ?_) ?_
  · try (conv => whnf)
    repeat (refine Need.mk ?_ ?_; (focus (first | omega | (simp; done))); conv => whnf)
    trivial
  · rintro ⟨i, P⟩ ⟨h1, h2, h3⟩
    dsimp only at h1 h2 h3 ⊢
    rcases Nat.lt_or_ge i l.length with hlt | hge
    · have b := inM_get hx hlt
      have hr := rl_le (l.drop i)
      simp only [List.length_drop] at hr
      have hp := rl_pos (s := l.drop i) (by intro e; have := congrArg List.length e; simp at this; omega)
      have e := putRs_step hlt
      rw [e] at h3
      have hlen := putRs_len _ l (Nat.le_refl _) hx hl
      have q := congrArg List.length h3
      have b1 := put_len (n := (l[i]).toNat) (by omega)
      have b2 := put_len (n := rl (l.drop i)) (by omega)
      obtain ⟨v, hv⟩ : ∃ v : Nat, l[i] = v := ⟨l[i].toNat, by omega⟩
      have p2 := at_i l (i : Int) i rfl hlt
      rw [hv] at p2 b
      rw [hv, Int.toNat_natCast] at h3 b1 q
      have hrl_at : ∀ h : i + 1 < l.length, rl (l.drop i) = 2 + more (l[i + 1] - v) l[i + 1] (l.drop (i + 2)) := fun h => by rw [rl_at h, hv]
      try (conv => whnf)
      repeat' (first
        | (refine Pick.mk ?_ ?_ ?_; rotate_left; (focus (first | exact List.length_map _ | (refine wid ?_ ?_ <;> omega))); conv => whnf)
        | (refine SeqJ.thru ?_; conv => whnf)
        | (refine br_dec (fun _ => ?_) (fun _ => ?_) <;> first | (exfalso; omega) | contradiction | conv => whnf)
        | (refine br_not ?_; conv => whnf)
        | (refine br_bne (fun _ => ?_) (fun _ => ?_) <;> first | (exfalso; omega) | contradiction | conv => whnf)
        | (refine br_beq (fun _ => ?_) (fun _ => ?_) <;> first | (exfalso; omega) | contradiction | conv => whnf))
      refine LoopE.mk (fun k : Nat => mk [(0, vN l), (3, .one (.os 8224 1 0 (put l.length ++ P).length)), (4, vI .i64 i), (5, vI .i64 k)] [(8224, .own 1 ((put l.length ++ P).map byD))])
        (fun k => (k = i + 1 ∨ ∃ (h : i + 1 < l.length) (h2 : k - 1 < l.length), i + 2 ≤ k ∧ rl (l.drop i) = k - i + more (l[i + 1] - v) l[k - 1] (l.drop k))) (fun k => l.length - k) (i + 1) (.inl rfl) (LeX.of ?_) ?_
      · try (conv => whnf)
        repeat (refine Need.mk ?_ ?_; (focus (first | omega | (simp; done))); conv => whnf)
        trivial
      · rintro k hk
        have hkr : k ≤ l.length := by rcases hk with rfl | ⟨_, h, _⟩ <;> omega
        have hkl : i + 1 ≤ k := by rcases hk with rfl | ⟨_, _, h, _⟩ <;> omega
        rcases Nat.lt_or_ge k l.length with hklt | hkge
        · rcases hk with rfl | ⟨h4, h5, h6, h7⟩
          · try (conv => whnf)
            repeat' (first
              | (refine Pick.mk ?_ ?_ ?_; rotate_left; (focus (first | exact List.length_map _ | (refine wid ?_ ?_ <;> omega))); conv => whnf)
              | (refine SeqJ.thru ?_; conv => whnf)
              | (refine br_dec (fun _ => ?_) (fun _ => ?_) <;> first | (exfalso; omega) | contradiction | conv => whnf)
              | (refine br_not ?_; conv => whnf)
              | (refine br_bne (fun _ => ?_) (fun _ => ?_) <;> first | (exfalso; omega) | contradiction | conv => whnf)
              | (refine br_beq (fun _ => ?_) (fun _ => ?_) <;> first | (exfalso; omega) | contradiction | conv => whnf))
            refine Pick.mk (i + 1 + 1) ⟨.inr ⟨hklt, hklt, by omega, ?_⟩, by omega⟩ (LeX.of ?_)
            · rw [hrl_at hklt]
              have e9 : l[i + 1 + 1 - 1]'hklt = l[i + 1] := rfl
              rw [e9]
              show _ = _ + more _ _ (l.drop (i + 2))
              omega
            · try (conv => whnf)
              repeat (refine Need.mk ?_ ?_; (focus (first | omega | (simp; done))); conv => whnf)
              trivial
          · have c1 := inM_get hx hklt
            have c2 := inM_get hx h5
            have c3 := inM_get hx h4
            have q1 := at_i l (k : Int) k rfl hklt
            have q2 := at_i l ((k : Int) - 1) (k - 1) (by omega) h5
            have q3 := at_i l ((i : Int) + 1) (i + 1) (by omega) h4
            have hm := more_at (l := l) (d := l[i + 1] - v) (j := k - 1) (by omega)
            have e1 : k - 1 + 1 = k := by omega
            have e2 : k - 1 + 2 = k + 1 := by omega
            simp only [e1, e2] at hm
            rw [hm] at h7
            try (conv => whnf)
            repeat' (first
              | (refine Pick.mk ?_ ?_ ?_; rotate_left; (focus (first | assumption | exact List.length_map _ | (refine wid ?_ ?_ <;> omega))); conv => whnf)
              | (refine SeqJ.thru ?_; conv => whnf)
              | (refine br_dec (fun _ => ?_) (fun _ => ?_) <;> first | (exfalso; omega) | contradiction | conv => whnf)
              | (refine br_not ?_; conv => whnf)
              | (refine br_bne (fun _ => ?_) (fun _ => ?_) <;> first | (exfalso; omega) | contradiction | conv => whnf)
              | (refine br_beq (fun _ => ?_) (fun _ => ?_) <;> first | (exfalso; omega) | contradiction | conv => whnf))
            · rename_i g0 g1 g2 g3
              rw [if_pos g3] at h7
              refine Pick.mk (k + 1) ⟨.inr ⟨h4, hklt, by omega, ?_⟩, by omega⟩ (LeX.of ?_)
              · have e9 : l[k + 1 - 1]'hklt = l[k] := rfl
                rw [e9]; omega
              · try (conv => whnf)
                repeat (refine Need.mk ?_ ?_; (focus (first | omega | (simp; done))); conv => whnf)
                trivial
            · rename_i g0 g1 g2 g3
              rw [if_neg g3] at h7
              have hrl : rl (l.drop i) = k - i := by omega
              rw [hrl, dif_pos h4] at h3 q
              simp only [List.length_append] at q
              have hz := zig_lt (d := l[i + 1] - v) (by omega)
              have hzl := put_len hz
              have ek : (k : Int) - (i : Int) = ((k - i : Nat) : Int) := by omega
              refine Hand.mk [] ?_
              try (conv => whnf)
              refine CallW.d (s_l01Put v (by omega)) ?_
              try (conv => whnf)
              repeat (first
                | (refine Need.mk ?_ ?_; (focus (omega)); conv => whnf)
                | (refine Pick.mk ?_ ?_ ?_; rotate_left; (focus (first | (with_reducible refine wsubN ?_ ?_ <;> omega) | (simp only [List.length_map, List.length_append, List.length_cons, List.length_nil, List.length_replicate, Nat.zero_add]; rfl) | with_reducible exact map_app _ _ _ | (refine SlOf.full ?_; first | (simp; done) | (simp; omega)))); conv => whnf))
              refine Hand.mk [] ?_
              try (conv => whnf)
              refine CallW.d (s_l01Put (k - i) (by omega)) ?_
              try (conv => whnf)
              repeat (first
                | (refine Need.mk ?_ ?_; (focus (omega)); conv => whnf)
                | (refine Pick.mk ?_ ?_ ?_; rotate_left; (focus (first | (with_reducible refine wsubN ?_ ?_ <;> omega) | (simp only [List.length_map, List.length_append, List.length_cons, List.length_nil, List.length_replicate, Nat.zero_add]; rfl) | with_reducible exact map_app _ _ _ | (refine SlOf.full ?_; first | (simp; done) | (simp; omega)))); conv => whnf)
                | (refine SeqJ.thru ?_; conv => whnf))
              try (conv => whnf)
              repeat' (first
                | (refine Pick.mk ?_ ?_ ?_; rotate_left; (focus (first | assumption | (refine wid ?_ ?_ <;> omega))); conv => whnf)
                | (refine br_dec (fun _ => ?_) (fun _ => ?_) <;> first | (exfalso; omega) | contradiction | conv => whnf)
                | (refine br_not ?_; conv => whnf)
                | (refine br_bne (fun _ => ?_) (fun _ => ?_) <;> first | (exfalso; omega) | contradiction | conv => whnf)
                | (refine br_beq (fun _ => ?_) (fun _ => ?_) <;> first | (exfalso; omega) | contradiction | conv => whnf))
              refine Hand.mk [] ?_
              try (conv => whnf)
              refine CallW.d (s_l01Signed (l[i + 1] - v) (by omega)) ?_
              try (conv => whnf)
              repeat (first
                | (refine Need.mk ?_ ?_; (focus (first | omega | ((conv => whnf); (repeat (first | (refine Need.mk (by first | rfl | omega | (simp; done)) ?_; conv => whnf) | (refine Pick.mk ?_ ?_ ?_; rotate_left; (focus (first | with_reducible exact xor_u8 _ _ | (with_reducible refine xor_i64 ?_ ?_; all_goals omega) | (with_reducible refine xor_u32 ?_ ?_; all_goals omega) | (with_reducible refine wsubN ?_ ?_ <;> omega) | assumption | with_reducible exact set_byN _ _ _ _ | with_reducible exact set_byI _ _ _ _ | with_reducible exact set_inN _ _ _ _ | with_reducible exact set_inI _ _ _ _ | with_reducible exact set_stN _ _ _ _ | with_reducible exact set_tsN _ _ _ _ | with_reducible exact set_tsI _ _ _ _ | with_reducible exact set_boN _ _ _ _ | with_reducible exact set_boI _ _ _ _ | (with_reducible refine get_mapN _ _ _ ?_; first | omega | (simp; omega)) | (with_reducible refine get_mapI _ _ _ ?_ ?_ <;> first | omega | (simp; omega)) | exact bs_beq _ _ | exact bs_less _ _ | exact bs_leq _ _ | with_reducible exact bs_app _ _ | (refine bs_get _ _ ?_; omega) | (refine bs_int _ _ ?_ ?_ <;> omega) | with_reducible exact sl_map0 _ _ _ | with_reducible exact sl_mapN _ _ _ | with_reducible exact sl_map _ _ _ _ | exact bs_extract0 _ _ | exact bs_extractN _ _ | exact bs_extract _ _ _ | (refine bnd_id ?_; omega) | (refine bnd_sub ?_ ?_ <;> omega) | (refine bnd_add ?_; omega) | (refine bnd_subN ?_ ?_ <;> omega) | (refine bnd_int ?_ ?_ <;> omega) | exact List.length_map _ | exact size_bs _ | (simp only [List.length_map, List.length_append, List.length_cons, List.length_nil, List.length_replicate, Nat.zero_add]; rfl) | with_reducible exact List.nil_append _ | with_reducible exact map_app _ _ _ | exact map_snoc byD _ _ | exact map_snoc inD _ _ | exact map_snoc stD _ _ | exact map_snoc tsD _ _ | (simp only [chunks]; rfl) | (refine wid ?_ ?_ <;> omega) | exact wby _ | with_reducible exact wby32 _ | with_reducible exact wu32 _ | exact wby64 _ | exact shr8 _ | exact shr16 _ | exact shr24 _ | exact shr32 _ | (refine tmodn ?_; omega) | (refine wdiv ?_ ?_ ?_ <;> omega) | exact wbyte _ | exact natlit _ | exact rep_by _ | exact rep_in _ | exact rep_bo _ | exact rep_st _ | (refine pick_nat _ _ _ ?_; omega) | (refine pick_int _ _ _ ?_ ?_ <;> omega) | (refine SlOf.full ?_; first | (simp; done) | (simp; omega)) | (with_reducible refine SlOf.pre _ _ ?_; first | omega | (simp; omega)) | ((fail_if_success (show @Eq (Option _) _ _)); rfl) | ((show @Eq (Option _) _ _); simp only [List.getElem?_cons_zero, List.getElem?_cons_succ]; done) | ((show @Eq (Option _) _ _); simp only [List.getElem?_cons_zero, List.getElem?_cons_succ]; rfl) | with_reducible rfl)); conv => whnf))); exact Done.mk trivial))); conv => whnf)
                | (refine Pick.mk ?_ ?_ ?_; rotate_left; (focus (first | (simp only [List.length_map, List.length_append, List.length_cons, List.length_nil, List.length_replicate, Nat.zero_add]; rfl) | with_reducible exact map_app _ _ _ | (refine SlOf.full ?_; first | (simp; done) | (simp; omega)))); conv => whnf))
              refine Pick.mk (k, P ++ put v ++ put (k - i) ++ put (zig (l[i + 1] - v))) ⟨⟨by dsimp only; omega, by simp; omega, ?_⟩, by dsimp only; omega⟩ (LeX.of ?_)
              · dsimp only
                rw [h3, show i + (k - i) = k by omega]; simp [List.append_assoc]
              · simp only [← List.append_assoc]
                try (conv => whnf)
                repeat (refine Need.mk ?_ ?_; (focus (first | omega | (simp; done) | (simp; omega))); conv => whnf)
                trivial
        · have hrl : rl (l.drop i) = k - i := by
            rcases hk with rfl | ⟨h4, h5, h6, h7⟩
            · rw [rl_last hlt (by omega)]; omega
            · have hd : l.drop k = [] := List.drop_eq_nil_of_le hkge
              rw [hd] at h7; simp only [more] at h7; omega
          try (conv => whnf)
          repeat' (first
            | (refine Pick.mk ?_ ?_ ?_; rotate_left; (focus (first | assumption | exact List.length_map _)); conv => whnf)
            | (refine SeqJ.thru ?_; conv => whnf)
            | (refine br_dec (fun _ => ?_) (fun _ => ?_) <;> first | (exfalso; omega) | contradiction | conv => whnf)
            | (refine br_not ?_; conv => whnf)
            | (refine br_bne (fun _ => ?_) (fun _ => ?_) <;> first | (exfalso; omega) | contradiction | conv => whnf)
            | (refine br_beq (fun _ => ?_) (fun _ => ?_) <;> first | (exfalso; omega) | contradiction | conv => whnf))
          by_cases h4 : i + 1 < l.length
          · have c3 := inM_get hx h4
            have q3 := at_i l ((i : Int) + 1) (i + 1) (by omega) h4
            rw [hrl, dif_pos h4] at h3 q
            simp only [List.length_append] at q
            have hz := zig_lt (d := l[i + 1] - v) (by omega)
            have hzl := put_len hz
            have ek : (k : Int) - (i : Int) = ((k - i : Nat) : Int) := by omega
            refine Hand.mk [] ?_
            try (conv => whnf)
            refine CallW.d (s_l01Put v (by omega)) ?_
            try (conv => whnf)
            repeat (first
              | (refine Need.mk ?_ ?_; (focus (omega)); conv => whnf)
              | (refine Pick.mk ?_ ?_ ?_; rotate_left; (focus (first | (with_reducible refine wsubN ?_ ?_ <;> omega) | (simp only [List.length_map, List.length_append, List.length_cons, List.length_nil, List.length_replicate, Nat.zero_add]; rfl) | with_reducible exact map_app _ _ _ | (refine SlOf.full ?_; first | (simp; done) | (simp; omega)))); conv => whnf))
            refine Hand.mk [] ?_
            try (conv => whnf)
            refine CallW.d (s_l01Put (k - i) (by omega)) ?_
            try (conv => whnf)
            repeat (first
              | (refine Need.mk ?_ ?_; (focus (omega)); conv => whnf)
              | (refine Pick.mk ?_ ?_ ?_; rotate_left; (focus (first | (with_reducible refine wsubN ?_ ?_ <;> omega) | (simp only [List.length_map, List.length_append, List.length_cons, List.length_nil, List.length_replicate, Nat.zero_add]; rfl) | with_reducible exact map_app _ _ _ | (refine SlOf.full ?_; first | (simp; done) | (simp; omega)))); conv => whnf)
              | (refine SeqJ.thru ?_; conv => whnf))
            try (conv => whnf)
            repeat' (first
              | (refine Pick.mk ?_ ?_ ?_; rotate_left; (focus (first | assumption | (refine wid ?_ ?_ <;> omega))); conv => whnf)
              | (refine br_dec (fun _ => ?_) (fun _ => ?_) <;> first | (exfalso; omega) | contradiction | conv => whnf)
              | (refine br_not ?_; conv => whnf)
              | (refine br_bne (fun _ => ?_) (fun _ => ?_) <;> first | (exfalso; omega) | contradiction | conv => whnf)
              | (refine br_beq (fun _ => ?_) (fun _ => ?_) <;> first | (exfalso; omega) | contradiction | conv => whnf))
            refine Hand.mk [] ?_
            try (conv => whnf)
            refine CallW.d (s_l01Signed (l[i + 1] - v) (by omega)) ?_
            try (conv => whnf)
            repeat (first
              | (refine Need.mk ?_ ?_; (focus (first | omega | ((conv => whnf); (repeat (first | (refine Need.mk (by first | rfl | omega | (simp; done)) ?_; conv => whnf) | (refine Pick.mk ?_ ?_ ?_; rotate_left; (focus (first | with_reducible exact xor_u8 _ _ | (with_reducible refine xor_i64 ?_ ?_; all_goals omega) | (with_reducible refine xor_u32 ?_ ?_; all_goals omega) | (with_reducible refine wsubN ?_ ?_ <;> omega) | (with_reducible refine wsubN ?_ ?_ <;> omega) | assumption | with_reducible exact set_byN _ _ _ _ | with_reducible exact set_byI _ _ _ _ | with_reducible exact set_inN _ _ _ _ | with_reducible exact set_inI _ _ _ _ | with_reducible exact set_stN _ _ _ _ | with_reducible exact set_tsN _ _ _ _ | with_reducible exact set_tsI _ _ _ _ | with_reducible exact set_boN _ _ _ _ | with_reducible exact set_boI _ _ _ _ | (with_reducible refine get_mapN _ _ _ ?_; first | omega | (simp; omega)) | (with_reducible refine get_mapI _ _ _ ?_ ?_ <;> first | omega | (simp; omega)) | exact bs_beq _ _ | exact bs_less _ _ | exact bs_leq _ _ | with_reducible exact bs_app _ _ | (refine bs_get _ _ ?_; omega) | (refine bs_int _ _ ?_ ?_ <;> omega) | with_reducible exact sl_map0 _ _ _ | with_reducible exact sl_mapN _ _ _ | with_reducible exact sl_map _ _ _ _ | exact bs_extract0 _ _ | exact bs_extractN _ _ | exact bs_extract _ _ _ | (refine bnd_id ?_; omega) | (refine bnd_sub ?_ ?_ <;> omega) | (refine bnd_add ?_; omega) | (refine bnd_subN ?_ ?_ <;> omega) | (refine bnd_int ?_ ?_ <;> omega) | exact List.length_map _ | exact size_bs _ | (simp only [List.length_map, List.length_append, List.length_cons, List.length_nil, List.length_replicate, Nat.zero_add]; rfl) | with_reducible exact List.nil_append _ | with_reducible exact map_app _ _ _ | exact map_snoc byD _ _ | exact map_snoc inD _ _ | exact map_snoc stD _ _ | exact map_snoc tsD _ _ | (simp only [chunks]; rfl) | (refine wid ?_ ?_ <;> omega) | exact wby _ | with_reducible exact wby32 _ | with_reducible exact wu32 _ | exact wby64 _ | exact shr8 _ | exact shr16 _ | exact shr24 _ | exact shr32 _ | (refine tmodn ?_; omega) | (refine wdiv ?_ ?_ ?_ <;> omega) | exact wbyte _ | exact natlit _ | exact rep_by _ | exact rep_in _ | exact rep_bo _ | exact rep_st _ | (refine pick_nat _ _ _ ?_; omega) | (refine pick_int _ _ _ ?_ ?_ <;> omega) | (refine SlOf.full ?_; first | (simp; done) | (simp; omega)) | (with_reducible refine SlOf.pre _ _ ?_; first | omega | (simp; omega)) | ((fail_if_success (show @Eq (Option _) _ _)); rfl) | ((show @Eq (Option _) _ _); simp only [List.getElem?_cons_zero, List.getElem?_cons_succ]; done) | ((show @Eq (Option _) _ _); simp only [List.getElem?_cons_zero, List.getElem?_cons_succ]; rfl) | with_reducible rfl)); conv => whnf))); exact Done.mk trivial))); conv => whnf)
              | (refine Pick.mk ?_ ?_ ?_; rotate_left; (focus (first | (simp only [List.length_map, List.length_append, List.length_cons, List.length_nil, List.length_replicate, Nat.zero_add]; rfl) | with_reducible exact map_app _ _ _ | (refine SlOf.full ?_; first | (simp; done) | (simp; omega)))); conv => whnf))
            refine Pick.mk (k, P ++ put v ++ put (k - i) ++ put (zig (l[i + 1] - v))) ⟨⟨by dsimp only; omega, by simp; omega, ?_⟩, by dsimp only; omega⟩ (LeX.of ?_)
            · dsimp only
              rw [h3, show i + (k - i) = k by omega]; simp [List.append_assoc]
            · simp only [← List.append_assoc]
              try (conv => whnf)
              repeat (refine Need.mk ?_ ?_; (focus (first | omega | (simp; done) | (simp; omega))); conv => whnf)
              trivial
          · have hk1 : k = i + 1 := by omega
            subst hk1
            rw [hrl, dif_neg h4, List.append_nil] at h3 q
            simp only [List.length_append] at q
            have ek : ((i + 1 : Nat) : Int) - (i : Int) = ((i + 1 - i : Nat) : Int) := by omega
            have hp1 : (put (i + 1 - i)).length = (put 1).length := by rw [show i + 1 - i = 1 by omega]
            refine Hand.mk [] ?_
            try (conv => whnf)
            refine CallW.d (s_l01Put v (by omega)) ?_
            try (conv => whnf)
            repeat (first
              | (refine Need.mk ?_ ?_; (focus (omega)); conv => whnf)
              | (refine Pick.mk ?_ ?_ ?_; rotate_left; (focus (first | (with_reducible refine wsubN ?_ ?_ <;> omega) | (simp only [List.length_map, List.length_append, List.length_cons, List.length_nil, List.length_replicate, Nat.zero_add]; rfl) | with_reducible exact map_app _ _ _ | (refine SlOf.full ?_; first | (simp; done) | (simp; omega)))); conv => whnf))
            refine Hand.mk [] ?_
            try (conv => whnf)
            refine CallW.d (s_l01Put (i + 1 - i) (by omega)) ?_
            try (conv => whnf)
            repeat (first
              | (refine Need.mk ?_ ?_; (focus (omega)); conv => whnf)
              | (refine Pick.mk ?_ ?_ ?_; rotate_left; (focus (first | (with_reducible refine wsubN ?_ ?_ <;> omega) | (simp only [List.length_map, List.length_append, List.length_cons, List.length_nil, List.length_replicate, Nat.zero_add]; rfl) | with_reducible exact map_app _ _ _ | (refine SlOf.full ?_; first | (simp; done) | (simp; omega)))); conv => whnf)
              | (refine SeqJ.thru ?_; conv => whnf))
            try (conv => whnf)
            repeat' (first
              | (refine br_dec (fun _ => ?_) (fun _ => ?_) <;> first | (exfalso; omega) | contradiction | conv => whnf)
              | (refine br_not ?_; conv => whnf)
              | (refine br_bne (fun _ => ?_) (fun _ => ?_) <;> first | (exfalso; omega) | contradiction | conv => whnf)
              | (refine br_beq (fun _ => ?_) (fun _ => ?_) <;> first | (exfalso; omega) | contradiction | conv => whnf))
            refine Pick.mk (i + 1, P ++ put v ++ put (i + 1 - i)) ⟨⟨by dsimp only; omega, by simp; omega, ?_⟩, by dsimp only; omega⟩ (LeX.of ?_)
            · dsimp only
              rw [h3, show i + (i + 1 - i) = i + 1 by omega]; simp [List.append_assoc]
            · simp only [← List.append_assoc]
              try (conv => whnf)
              repeat (refine Need.mk ?_ ?_; (focus (first | omega | (simp; done) | (simp; omega))); conv => whnf)
              trivial
    · rw [List.drop_eq_nil_of_le hge, putRs_nil, List.append_nil] at h3
      try (conv => whnf)
      repeat' (first
        | (refine Pick.mk ?_ ?_ ?_; rotate_left; (focus (exact List.length_map _)); conv => whnf)
        | (refine SeqJ.thru ?_; conv => whnf)
        | (refine br_dec (fun _ => ?_) (fun _ => ?_) <;> first | (exfalso; omega) | contradiction | conv => whnf)
        | (refine br_not ?_; conv => whnf)
        | (refine br_bne (fun _ => ?_) (fun _ => ?_) <;> first | (exfalso; omega) | contradiction | conv => whnf)
        | (refine br_beq (fun _ => ?_) (fun _ => ?_) <;> first | (exfalso; omega) | contradiction | conv => whnf))
      refine Out.mk false [0, 1, 2, 3, 4] [] ?_
      try (conv => whnf)
      repeat (refine Need.mk ?_ ?_; (focus ((first | exact flat_by _ | exact flat_in _ | exact flat_st _ | exact flat_ts _ | exact flat_bo _ | exact flat_cl rfl))); conv => whnf)
      rw [← h3]
      exact ⟨by simp [putR], by simp [putR]⟩
end Go.Proofs.Ytoklfidamhigcaa.D
