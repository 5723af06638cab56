/- The heads of the functions: the table of types, plans of regions that draw their order, and a contract out of the code. Printed by wip/tools/gen.py. -/
import Derived.Test.YtpapcelgdcbolaaED
import Derived.Test.YtpapcelgdcbolaaProg
import Derived.KernelRfl
namespace Go.Proofs.Ytpapcelgdcbolaa.D
open Go.RowKit
set_option maxRecDepth 100000
def tyList : List (TypeId × TyI) := [(3, ⟨.int .i64, 1, 8, [.zi .i64], false⟩),
  (4, ⟨.bool, 1, 1, [.zb], false⟩),
  (5, ⟨.int .u8, 1, 1, [.zi .u8], false⟩),
  (9, ⟨.string, 1, 16, [.zs], false⟩),
  (22, ⟨.slice 5, 1, 24, [.zl], false⟩),
  (24, ⟨.slice 26, 1, 24, [.zl], false⟩),
  (26, ⟨.struct [(0, 3), (1, 3), (2, 3), (3, 9)], 4, 40, [.zi .i64, .zi .i64, .zi .i64, .zs], true⟩),
  (27, ⟨.slice 31, 1, 24, [.zl], false⟩),
  (31, ⟨.struct [(0, 3), (1, 3), (2, 3), (3, 9)], 4, 40, [.zi .i64, .zi .i64, .zi .i64, .zs], true⟩),
  (42, ⟨.slice 3, 1, 24, [.zl], false⟩),
  (44, ⟨.struct [(0, 42)], 1, 24, [.zl], false⟩),
  (46, ⟨.struct [(0, 44), (1, 44)], 2, 48, [.zl, .zl], false⟩),
  (58, ⟨.slice 9, 1, 24, [.zl], false⟩),
  (133, ⟨.ptr 139, 1, 8, [.zp], false⟩),
  (134, ⟨.array 16 4, 16, 16, [.zb, .zb, .zb, .zb, .zb, .zb, .zb, .zb, .zb, .zb, .zb, .zb, .zb, .zb, .zb, .zb], false⟩),
  (135, ⟨.slice 134, 1, 24, [.zl], false⟩),
  (136, ⟨.slice 4, 1, 24, [.zl], false⟩),
  (137, ⟨.slice 214, 1, 24, [.zl], false⟩),
  (139, ⟨.struct [(0, 134), (16, 3), (17, 135), (18, 136), (19, 136), (20, 137)], 21, 120, [.zb, .zb, .zb, .zb, .zb, .zb, .zb, .zb, .zb, .zb, .zb, .zb, .zb, .zb, .zb, .zb, .zi .i64, .zl, .zl, .zl, .zl], false⟩),
  (146, ⟨.ptr 218, 1, 8, [.zp], false⟩),
  (155, ⟨.ptr 157, 1, 8, [.zp], false⟩),
  (157, ⟨.struct [(0, 22), (1, 3), (2, 4)], 3, 40, [.zl, .zi .i64, .zb], false⟩),
  (160, ⟨.struct [(0, 22), (1, 3), (2, 4)], 3, 40, [.zl, .zi .i64, .zb], false⟩),
  (214, ⟨.struct [(0, 3), (1, 9)], 2, 24, [.zi .i64, .zs], true⟩),
  (218, ⟨.struct [(0, 22), (1, 3), (2, 3)], 3, 40, [.zl, .zi .i64, .zi .i64], false⟩),
  (221, ⟨.ptr 160, 1, 8, [.zp], false⟩),
  (241, ⟨.int .u64, 1, 8, [.zi .u64], false⟩),
  (242, ⟨.int .u64, 1, 8, [.zi .u64], false⟩),
  (244, ⟨.int .u32, 1, 4, [.zi .u32], false⟩)]
def lk : List (TypeId × TyI) → TypeId → Option TyI
  | [], _ => none
  | (a, i) :: r, t => match Nat.beq t a with | true => some i | false => lk r t
theorem lk_ok (P : Program) : ∀ (l : List (TypeId × TyI)), l.all (fun x => tyOk P x.1 x.2) = true → ∀ t i, lk l t = some i → TyFacts P t i
  | [], _, _, _, h => by simp [lk] at h
  | (a, j) :: r, hl, t, i, h => by
    simp only [List.all_cons, Bool.and_eq_true] at hl
    simp only [lk] at h
    split at h
    · rename_i e; have := Nat.eq_of_beq_eq_true e; subst this; simp at h; subst h; exact tyOk_facts hl.1
    · exact lk_ok P r hl.2 t i h
def T : Tab Try.prog := ⟨lk tyList, by kernel_rfl, lk_ok Try.prog tyList (by kernel_rfl)⟩
def bodyOf (f : Func) : Code := match f.body with | some c => c | none => .skip
def plk (l : List (Nat × PS)) (i : Nat) : Option PS := match l with | [] => none | (j, p) :: r => match Nat.beq i j with | true => some p | false => plk r i
abbrev id_laws_FnThief : FuncId := 3
def pl_laws_FnThief : Nat → Option PS := plk []
theorem F_laws_FnThief {args : List SV} {Li : List Row} {mv : List Nat} {cl : Bool} {Post : SV → List Row → Prop} (h : wpE Try.prog (lk tyList) pl_laws_FnThief (bodyOf Try.f3) ⟨argT args, Lof Li, []⟩ (retE (lk tyList) Try.f3.results.toList Li.length mv cl Post)) (hN : args.length ≤ Try.f3.ntmps := by simp [Try.ntmps3]) :
    CallM Try.prog id_laws_FnThief args Li mv cl Post := CallM.ofE T pl_laws_FnThief Try.func3 (by kernel_rfl) rfl (by kernel_rfl) (by kernel_rfl) hN h
abbrev id_laws_FnExactOpenText : FuncId := 4
def pl_laws_FnExactOpenText : Nat → Option PS := plk []
theorem F_laws_FnExactOpenText {args : List SV} {Li : List Row} {mv : List Nat} {cl : Bool} {Post : SV → List Row → Prop} (h : wpE Try.prog (lk tyList) pl_laws_FnExactOpenText (bodyOf Try.f4) ⟨argT args, Lof Li, []⟩ (retE (lk tyList) Try.f4.results.toList Li.length mv cl Post)) (hN : args.length ≤ Try.f4.ntmps := by simp [Try.ntmps4]) :
    CallM Try.prog id_laws_FnExactOpenText args Li mv cl Post := CallM.ofE T pl_laws_FnExactOpenText Try.func4 (by kernel_rfl) rfl (by kernel_rfl) (by kernel_rfl) hN h
abbrev id_laws_FnExactSealText : FuncId := 5
def pl_laws_FnExactSealText : Nat → Option PS := plk []
theorem F_laws_FnExactSealText {args : List SV} {Li : List Row} {mv : List Nat} {cl : Bool} {Post : SV → List Row → Prop} (h : wpE Try.prog (lk tyList) pl_laws_FnExactSealText (bodyOf Try.f5) ⟨argT args, Lof Li, []⟩ (retE (lk tyList) Try.f5.results.toList Li.length mv cl Post)) (hN : args.length ≤ Try.f5.ntmps := by simp [Try.ntmps5]) :
    CallM Try.prog id_laws_FnExactSealText args Li mv cl Post := CallM.ofE T pl_laws_FnExactSealText Try.func5 (by kernel_rfl) rfl (by kernel_rfl) (by kernel_rfl) hN h
abbrev id_laws_FnCounter : FuncId := 6
def pl_laws_FnCounter : Nat → Option PS := plk []
theorem F_laws_FnCounter {args : List SV} {Li : List Row} {mv : List Nat} {cl : Bool} {Post : SV → List Row → Prop} (h : wpE Try.prog (lk tyList) pl_laws_FnCounter (bodyOf Try.f6) ⟨argT args, Lof Li, []⟩ (retE (lk tyList) Try.f6.results.toList Li.length mv cl Post)) (hN : args.length ≤ Try.f6.ntmps := by simp [Try.ntmps6]) :
    CallM Try.prog id_laws_FnCounter args Li mv cl Post := CallM.ofE T pl_laws_FnCounter Try.func6 (by kernel_rfl) rfl (by kernel_rfl) (by kernel_rfl) hN h
abbrev id_laws_FnSealed : FuncId := 7
def pl_laws_FnSealed : Nat → Option PS := plk [(15, .v 0 (.v 1 (.v 2 (.v 3 (.v 4 (.v 5 (.v 6 (.x 7 [5, 4, 3, 2, 1, 0] (.v 8 (.v 9 (.v 10 (.v 11 (.x 12 [] (.done))))))))))))))]
theorem F_laws_FnSealed {args : List SV} {Li : List Row} {mv : List Nat} {cl : Bool} {Post : SV → List Row → Prop} (h : wpE Try.prog (lk tyList) pl_laws_FnSealed (bodyOf Try.f7) ⟨argT args, Lof Li, []⟩ (retE (lk tyList) Try.f7.results.toList Li.length mv cl Post)) (hN : args.length ≤ Try.f7.ntmps := by simp [Try.ntmps7]) :
    CallM Try.prog id_laws_FnSealed args Li mv cl Post := CallM.ofE T pl_laws_FnSealed Try.func7 (by kernel_rfl) rfl (by kernel_rfl) (by kernel_rfl) hN h
abbrev id_laws_FnExactGetTexts : FuncId := 8
def pl_laws_FnExactGetTexts : Nat → Option PS := plk []
theorem F_laws_FnExactGetTexts {args : List SV} {Li : List Row} {mv : List Nat} {cl : Bool} {Post : SV → List Row → Prop} (h : wpE Try.prog (lk tyList) pl_laws_FnExactGetTexts (bodyOf Try.f8) ⟨argT args, Lof Li, []⟩ (retE (lk tyList) Try.f8.results.toList Li.length mv cl Post)) (hN : args.length ≤ Try.f8.ntmps := by simp [Try.ntmps8]) :
    CallM Try.prog id_laws_FnExactGetTexts args Li mv cl Post := CallM.ofE T pl_laws_FnExactGetTexts Try.func8 (by kernel_rfl) rfl (by kernel_rfl) (by kernel_rfl) hN h
abbrev id_laws_at : FuncId := 15
def pl_laws_at : Nat → Option PS := plk [(5, .v 0 (.v 1 (.v 2 (.v 3 (.v 4 (.v 5 (.v 6 (.v 7 (.v 8 (.v 9 (.v 10 (.v 11 (.v 12 (.v 13 (.v 14 (.v 15 (.v 16 (.v 17 (.v 18 (.v 19 (.v 20 (.v 21 (.v 22 (.v 23 (.v 24 (.v 25 (.v 26 (.done))))))))))))))))))))))))))))]
theorem F_laws_at {args : List SV} {Li : List Row} {mv : List Nat} {cl : Bool} {Post : SV → List Row → Prop} (h : wpE Try.prog (lk tyList) pl_laws_at (bodyOf Try.f15) ⟨argT args, Lof Li, []⟩ (retE (lk tyList) Try.f15.results.toList Li.length mv cl Post)) (hN : args.length ≤ Try.f15.ntmps := by simp [Try.ntmps15]) :
    CallM Try.prog id_laws_at args Li mv cl Post := CallM.ofE T pl_laws_at Try.func15 (by kernel_rfl) rfl (by kernel_rfl) (by kernel_rfl) hN h
abbrev id_impl_GroupRun : FuncId := 16
def pl_impl_GroupRun : Nat → Option PS := plk [(9, .v 0 (.v 1 (.v 2 (.v 3 (.v 4 (.v 5 (.v 6 (.v 7 (.v 8 (.x 9 [4, 3, 2, 1, 0] (.x 10 [0] (.v 11 (.v 12 (.x 13 [] (.done)))))))))))))))]
theorem F_impl_GroupRun {args : List SV} {Li : List Row} {mv : List Nat} {cl : Bool} {Post : SV → List Row → Prop} (h : wpE Try.prog (lk tyList) pl_impl_GroupRun (bodyOf Try.f16) ⟨argT args, Lof Li, []⟩ (retE (lk tyList) Try.f16.results.toList Li.length mv cl Post)) (hN : args.length ≤ Try.f16.ntmps := by simp [Try.ntmps16]) :
    CallM Try.prog id_impl_GroupRun args Li mv cl Post := CallM.ofE T pl_impl_GroupRun Try.func16 (by kernel_rfl) rfl (by kernel_rfl) (by kernel_rfl) hN h
abbrev id_spec_OpenText : FuncId := 17
def pl_spec_OpenText : Nat → Option PS := plk [(8, .v 0 (.v 1 (.v 3 (.v 7 (.v 8 (.v 9 (.v 10 (.v 11 (.x 2 [11, 10, 9, 8, 7, 3, 0] (.x 4 [11, 10, 9, 8, 7, 0] (.x 5 [11, 10, 9, 8, 7] (.v 6 (.v 12 (.done))))))))))))))]
theorem F_spec_OpenText {args : List SV} {Li : List Row} {mv : List Nat} {cl : Bool} {Post : SV → List Row → Prop} (h : wpE Try.prog (lk tyList) pl_spec_OpenText (bodyOf Try.f17) ⟨argT args, Lof Li, []⟩ (retE (lk tyList) Try.f17.results.toList Li.length mv cl Post)) (hN : args.length ≤ Try.f17.ntmps := by simp [Try.ntmps17]) :
    CallM Try.prog id_spec_OpenText args Li mv cl Post := CallM.ofE T pl_spec_OpenText Try.func17 (by kernel_rfl) rfl (by kernel_rfl) (by kernel_rfl) hN h
abbrev id_laws_toByteS : FuncId := 18
def pl_laws_toByteS : Nat → Option PS := plk []
theorem F_laws_toByteS {args : List SV} {Li : List Row} {mv : List Nat} {cl : Bool} {Post : SV → List Row → Prop} (h : wpE Try.prog (lk tyList) pl_laws_toByteS (bodyOf Try.f18) ⟨argT args, Lof Li, []⟩ (retE (lk tyList) Try.f18.results.toList Li.length mv cl Post)) (hN : args.length ≤ Try.f18.ntmps := by simp [Try.ntmps18]) :
    CallM Try.prog id_laws_toByteS args Li mv cl Post := CallM.ofE T pl_laws_toByteS Try.func18 (by kernel_rfl) rfl (by kernel_rfl) (by kernel_rfl) hN h
abbrev id_impl_OpenText : FuncId := 19
def pl_impl_OpenText : Nat → Option PS := plk [(8, .v 0 (.v 1 (.v 2 (.v 5 (.v 6 (.v 7 (.v 8 (.v 9 (.x 3 [9, 8, 7, 6, 5] (.v 4 (.v 10 (.done))))))))))))]
theorem F_impl_OpenText {args : List SV} {Li : List Row} {mv : List Nat} {cl : Bool} {Post : SV → List Row → Prop} (h : wpE Try.prog (lk tyList) pl_impl_OpenText (bodyOf Try.f19) ⟨argT args, Lof Li, []⟩ (retE (lk tyList) Try.f19.results.toList Li.length mv cl Post)) (hN : args.length ≤ Try.f19.ntmps := by simp [Try.ntmps19]) :
    CallM Try.prog id_impl_OpenText args Li mv cl Post := CallM.ofE T pl_impl_OpenText Try.func19 (by kernel_rfl) rfl (by kernel_rfl) (by kernel_rfl) hN h
abbrev id_laws_eqByteS : FuncId := 20
def pl_laws_eqByteS : Nat → Option PS := plk [(6, .v 0 (.v 1 (.v 2 (.v 3 (.v 4 (.v 5 (.v 6 (.v 7 (.v 8 (.done))))))))))]
theorem F_laws_eqByteS {args : List SV} {Li : List Row} {mv : List Nat} {cl : Bool} {Post : SV → List Row → Prop} (h : wpE Try.prog (lk tyList) pl_laws_eqByteS (bodyOf Try.f20) ⟨argT args, Lof Li, []⟩ (retE (lk tyList) Try.f20.results.toList Li.length mv cl Post)) (hN : args.length ≤ Try.f20.ntmps := by simp [Try.ntmps20]) :
    CallM Try.prog id_laws_eqByteS args Li mv cl Post := CallM.ofE T pl_laws_eqByteS Try.func20 (by kernel_rfl) rfl (by kernel_rfl) (by kernel_rfl) hN h
abbrev id_spec_SealText : FuncId := 21
def pl_spec_SealText : Nat → Option PS := plk []
theorem F_spec_SealText {args : List SV} {Li : List Row} {mv : List Nat} {cl : Bool} {Post : SV → List Row → Prop} (h : wpE Try.prog (lk tyList) pl_spec_SealText (bodyOf Try.f21) ⟨argT args, Lof Li, []⟩ (retE (lk tyList) Try.f21.results.toList Li.length mv cl Post)) (hN : args.length ≤ Try.f21.ntmps := by simp [Try.ntmps21]) :
    CallM Try.prog id_spec_SealText args Li mv cl Post := CallM.ofE T pl_spec_SealText Try.func21 (by kernel_rfl) rfl (by kernel_rfl) (by kernel_rfl) hN h
abbrev id_impl_SealText : FuncId := 22
def pl_impl_SealText : Nat → Option PS := plk []
theorem F_impl_SealText {args : List SV} {Li : List Row} {mv : List Nat} {cl : Bool} {Post : SV → List Row → Prop} (h : wpE Try.prog (lk tyList) pl_impl_SealText (bodyOf Try.f22) ⟨argT args, Lof Li, []⟩ (retE (lk tyList) Try.f22.results.toList Li.length mv cl Post)) (hN : args.length ≤ Try.f22.ntmps := by simp [Try.ntmps22]) :
    CallM Try.prog id_impl_SealText args Li mv cl Post := CallM.ofE T pl_impl_SealText Try.func22 (by kernel_rfl) rfl (by kernel_rfl) (by kernel_rfl) hN h
abbrev id_laws_markByteS : FuncId := 23
def pl_laws_markByteS : Nat → Option PS := plk []
theorem F_laws_markByteS {args : List SV} {Li : List Row} {mv : List Nat} {cl : Bool} {Post : SV → List Row → Prop} (h : wpE Try.prog (lk tyList) pl_laws_markByteS (bodyOf Try.f23) ⟨argT args, Lof Li, []⟩ (retE (lk tyList) Try.f23.results.toList Li.length mv cl Post)) (hN : args.length ≤ Try.f23.ntmps := by simp [Try.ntmps23]) :
    CallM Try.prog id_laws_markByteS args Li mv cl Post := CallM.ofE T pl_laws_markByteS Try.func23 (by kernel_rfl) rfl (by kernel_rfl) (by kernel_rfl) hN h
abbrev id_laws_heldByteS : FuncId := 24
def pl_laws_heldByteS : Nat → Option PS := plk []
theorem F_laws_heldByteS {args : List SV} {Li : List Row} {mv : List Nat} {cl : Bool} {Post : SV → List Row → Prop} (h : wpE Try.prog (lk tyList) pl_laws_heldByteS (bodyOf Try.f24) ⟨argT args, Lof Li, []⟩ (retE (lk tyList) Try.f24.results.toList Li.length mv cl Post)) (hN : args.length ≤ Try.f24.ntmps := by simp [Try.ntmps24]) :
    CallM Try.prog id_laws_heldByteS args Li mv cl Post := CallM.ofE T pl_laws_heldByteS Try.func24 (by kernel_rfl) rfl (by kernel_rfl) (by kernel_rfl) hN h
abbrev id_spec_DrawCounterJoin : FuncId := 25
def pl_spec_DrawCounterJoin : Nat → Option PS := plk []
theorem F_spec_DrawCounterJoin {args : List SV} {Li : List Row} {mv : List Nat} {cl : Bool} {Post : SV → List Row → Prop} (h : wpE Try.prog (lk tyList) pl_spec_DrawCounterJoin (bodyOf Try.f25) ⟨argT args, Lof Li, []⟩ (retE (lk tyList) Try.f25.results.toList Li.length mv cl Post)) (hN : args.length ≤ Try.f25.ntmps := by simp [Try.ntmps25]) :
    CallM Try.prog id_spec_DrawCounterJoin args Li mv cl Post := CallM.ofE T pl_spec_DrawCounterJoin Try.func25 (by kernel_rfl) rfl (by kernel_rfl) (by kernel_rfl) hN h
abbrev id_impl_CounterJoin : FuncId := 26
def pl_impl_CounterJoin : Nat → Option PS := plk [(3, .v 0 (.v 1 (.v 2 (.v 3 (.v 5 (.v 6 (.v 7 (.v 8 (.x 4 [8, 7, 6, 5] (.x 9 [] (.v 10 (.x 11 [] (.v 12 (.done))))))))))))))]
theorem F_impl_CounterJoin {args : List SV} {Li : List Row} {mv : List Nat} {cl : Bool} {Post : SV → List Row → Prop} (h : wpE Try.prog (lk tyList) pl_impl_CounterJoin (bodyOf Try.f26) ⟨argT args, Lof Li, []⟩ (retE (lk tyList) Try.f26.results.toList Li.length mv cl Post)) (hN : args.length ≤ Try.f26.ntmps := by simp [Try.ntmps26]) :
    CallM Try.prog id_impl_CounterJoin args Li mv cl Post := CallM.ofE T pl_impl_CounterJoin Try.func26 (by kernel_rfl) rfl (by kernel_rfl) (by kernel_rfl) hN h
abbrev id_spec_CounterJoin : FuncId := 27
def pl_spec_CounterJoin : Nat → Option PS := plk [(3, .v 0 (.v 1 (.v 2 (.v 3 (.v 5 (.v 6 (.v 7 (.v 8 (.x 4 [8, 7, 6, 5] (.x 9 [] (.v 10 (.x 11 [] (.v 12 (.done))))))))))))))]
theorem F_spec_CounterJoin {args : List SV} {Li : List Row} {mv : List Nat} {cl : Bool} {Post : SV → List Row → Prop} (h : wpE Try.prog (lk tyList) pl_spec_CounterJoin (bodyOf Try.f27) ⟨argT args, Lof Li, []⟩ (retE (lk tyList) Try.f27.results.toList Li.length mv cl Post)) (hN : args.length ≤ Try.f27.ntmps := by simp [Try.ntmps27]) :
    CallM Try.prog id_spec_CounterJoin args Li mv cl Post := CallM.ofE T pl_spec_CounterJoin Try.func27 (by kernel_rfl) rfl (by kernel_rfl) (by kernel_rfl) hN h
abbrev id_impl_CounterValue : FuncId := 28
def pl_impl_CounterValue : Nat → Option PS := plk [(7, .v 0 (.v 1 (.v 2 (.v 3 (.v 4 (.v 5 (.v 6 (.v 7 (.v 8 (.v 9 (.v 10 (.v 11 (.v 12 (.v 13 (.v 14 (.x 15 [] (.done)))))))))))))))))]
theorem F_impl_CounterValue {args : List SV} {Li : List Row} {mv : List Nat} {cl : Bool} {Post : SV → List Row → Prop} (h : wpE Try.prog (lk tyList) pl_impl_CounterValue (bodyOf Try.f28) ⟨argT args, Lof Li, []⟩ (retE (lk tyList) Try.f28.results.toList Li.length mv cl Post)) (hN : args.length ≤ Try.f28.ntmps := by simp [Try.ntmps28]) :
    CallM Try.prog id_impl_CounterValue args Li mv cl Post := CallM.ofE T pl_impl_CounterValue Try.func28 (by kernel_rfl) rfl (by kernel_rfl) (by kernel_rfl) hN h
abbrev id_spec_CounterValue : FuncId := 29
def pl_spec_CounterValue : Nat → Option PS := plk [(7, .v 0 (.v 1 (.v 2 (.v 3 (.v 4 (.v 5 (.v 6 (.v 7 (.v 8 (.v 9 (.v 10 (.v 11 (.v 12 (.v 13 (.v 14 (.x 15 [] (.done)))))))))))))))))]
theorem F_spec_CounterValue {args : List SV} {Li : List Row} {mv : List Nat} {cl : Bool} {Post : SV → List Row → Prop} (h : wpE Try.prog (lk tyList) pl_spec_CounterValue (bodyOf Try.f29) ⟨argT args, Lof Li, []⟩ (retE (lk tyList) Try.f29.results.toList Li.length mv cl Post)) (hN : args.length ≤ Try.f29.ntmps := by simp [Try.ntmps29]) :
    CallM Try.prog id_spec_CounterValue args Li mv cl Post := CallM.ofE T pl_spec_CounterValue Try.func29 (by kernel_rfl) rfl (by kernel_rfl) (by kernel_rfl) hN h
abbrev id_spec_DrawCounterAdd : FuncId := 30
def pl_spec_DrawCounterAdd : Nat → Option PS := plk []
theorem F_spec_DrawCounterAdd {args : List SV} {Li : List Row} {mv : List Nat} {cl : Bool} {Post : SV → List Row → Prop} (h : wpE Try.prog (lk tyList) pl_spec_DrawCounterAdd (bodyOf Try.f30) ⟨argT args, Lof Li, []⟩ (retE (lk tyList) Try.f30.results.toList Li.length mv cl Post)) (hN : args.length ≤ Try.f30.ntmps := by simp [Try.ntmps30]) :
    CallM Try.prog id_spec_DrawCounterAdd args Li mv cl Post := CallM.ofE T pl_spec_DrawCounterAdd Try.func30 (by kernel_rfl) rfl (by kernel_rfl) (by kernel_rfl) hN h
abbrev id_impl_CounterAdd : FuncId := 31
def pl_impl_CounterAdd : Nat → Option PS := plk [(5, .v 0 (.v 1 (.v 3 (.v 4 (.or (.x 2 [4, 3] (.or (.x 5 [] (.v 6 (.x 7 [6] (.x 8 [] (.done))))) (.x 7 [4, 3] (.x 5 [] (.v 6 (.x 8 [] (.done))))))) (.x 7 [4, 3, 1, 0] (.x 2 [4, 3] (.x 5 [] (.v 6 (.x 8 [] (.done)))))))))))]
theorem F_impl_CounterAdd {args : List SV} {Li : List Row} {mv : List Nat} {cl : Bool} {Post : SV → List Row → Prop} (h : wpE Try.prog (lk tyList) pl_impl_CounterAdd (bodyOf Try.f31) ⟨argT args, Lof Li, []⟩ (retE (lk tyList) Try.f31.results.toList Li.length mv cl Post)) (hN : args.length ≤ Try.f31.ntmps := by simp [Try.ntmps31]) :
    CallM Try.prog id_impl_CounterAdd args Li mv cl Post := CallM.ofE T pl_impl_CounterAdd Try.func31 (by kernel_rfl) rfl (by kernel_rfl) (by kernel_rfl) hN h
abbrev id_spec_CounterAdd : FuncId := 32
def pl_spec_CounterAdd : Nat → Option PS := plk [(5, .v 0 (.v 1 (.v 3 (.v 4 (.or (.x 2 [4, 3] (.or (.x 5 [] (.v 6 (.x 7 [6] (.x 8 [] (.done))))) (.x 7 [4, 3] (.x 5 [] (.v 6 (.x 8 [] (.done))))))) (.x 7 [4, 3, 1, 0] (.x 2 [4, 3] (.x 5 [] (.v 6 (.x 8 [] (.done))))))))))),
  (7, .v 0 (.v 1 (.v 2 (.v 3 (.v 4 (.v 5 (.v 6 (.v 7 (.v 8 (.v 9 (.v 10 (.v 11 (.v 12 (.x 13 [] (.done))))))))))))))),
  (8, .v 0 (.v 1 (.v 2 (.v 3 (.v 4 (.v 5 (.v 6 (.v 7 (.v 8 (.v 9 (.v 10 (.v 11 (.v 12 (.x 13 [] (.done)))))))))))))))]
theorem F_spec_CounterAdd {args : List SV} {Li : List Row} {mv : List Nat} {cl : Bool} {Post : SV → List Row → Prop} (h : wpE Try.prog (lk tyList) pl_spec_CounterAdd (bodyOf Try.f32) ⟨argT args, Lof Li, []⟩ (retE (lk tyList) Try.f32.results.toList Li.length mv cl Post)) (hN : args.length ≤ Try.f32.ntmps := by simp [Try.ntmps32]) :
    CallM Try.prog id_spec_CounterAdd args Li mv cl Post := CallM.ofE T pl_spec_CounterAdd Try.func32 (by kernel_rfl) rfl (by kernel_rfl) (by kernel_rfl) hN h
abbrev id_spec_DrawSealText : FuncId := 33
def pl_spec_DrawSealText : Nat → Option PS := plk []
theorem F_spec_DrawSealText {args : List SV} {Li : List Row} {mv : List Nat} {cl : Bool} {Post : SV → List Row → Prop} (h : wpE Try.prog (lk tyList) pl_spec_DrawSealText (bodyOf Try.f33) ⟨argT args, Lof Li, []⟩ (retE (lk tyList) Try.f33.results.toList Li.length mv cl Post)) (hN : args.length ≤ Try.f33.ntmps := by simp [Try.ntmps33]) :
    CallM Try.prog id_spec_DrawSealText args Li mv cl Post := CallM.ofE T pl_spec_DrawSealText Try.func33 (by kernel_rfl) rfl (by kernel_rfl) (by kernel_rfl) hN h
abbrev id_spec_GetTexts : FuncId := 34
def pl_spec_GetTexts : Nat → Option PS := plk []
theorem F_spec_GetTexts {args : List SV} {Li : List Row} {mv : List Nat} {cl : Bool} {Post : SV → List Row → Prop} (h : wpE Try.prog (lk tyList) pl_spec_GetTexts (bodyOf Try.f34) ⟨argT args, Lof Li, []⟩ (retE (lk tyList) Try.f34.results.toList Li.length mv cl Post)) (hN : args.length ≤ Try.f34.ntmps := by simp [Try.ntmps34]) :
    CallM Try.prog id_spec_GetTexts args Li mv cl Post := CallM.ofE T pl_spec_GetTexts Try.func34 (by kernel_rfl) rfl (by kernel_rfl) (by kernel_rfl) hN h
abbrev id_impl_GetTexts : FuncId := 35
def pl_impl_GetTexts : Nat → Option PS := plk []
theorem F_impl_GetTexts {args : List SV} {Li : List Row} {mv : List Nat} {cl : Bool} {Post : SV → List Row → Prop} (h : wpE Try.prog (lk tyList) pl_impl_GetTexts (bodyOf Try.f35) ⟨argT args, Lof Li, []⟩ (retE (lk tyList) Try.f35.results.toList Li.length mv cl Post)) (hN : args.length ≤ Try.f35.ntmps := by simp [Try.ntmps35]) :
    CallM Try.prog id_impl_GetTexts args Li mv cl Post := CallM.ofE T pl_impl_GetTexts Try.func35 (by kernel_rfl) rfl (by kernel_rfl) (by kernel_rfl) hN h
abbrev id_laws_eqStringS : FuncId := 36
def pl_laws_eqStringS : Nat → Option PS := plk [(6, .v 0 (.v 1 (.v 2 (.v 3 (.v 4 (.v 5 (.v 6 (.v 7 (.v 8 (.done))))))))))]
theorem F_laws_eqStringS {args : List SV} {Li : List Row} {mv : List Nat} {cl : Bool} {Post : SV → List Row → Prop} (h : wpE Try.prog (lk tyList) pl_laws_eqStringS (bodyOf Try.f36) ⟨argT args, Lof Li, []⟩ (retE (lk tyList) Try.f36.results.toList Li.length mv cl Post)) (hN : args.length ≤ Try.f36.ntmps := by simp [Try.ntmps36]) :
    CallM Try.prog id_laws_eqStringS args Li mv cl Post := CallM.ofE T pl_laws_eqStringS Try.func36 (by kernel_rfl) rfl (by kernel_rfl) (by kernel_rfl) hN h
abbrev id_laws_markStringS : FuncId := 37
def pl_laws_markStringS : Nat → Option PS := plk []
theorem F_laws_markStringS {args : List SV} {Li : List Row} {mv : List Nat} {cl : Bool} {Post : SV → List Row → Prop} (h : wpE Try.prog (lk tyList) pl_laws_markStringS (bodyOf Try.f37) ⟨argT args, Lof Li, []⟩ (retE (lk tyList) Try.f37.results.toList Li.length mv cl Post)) (hN : args.length ≤ Try.f37.ntmps := by simp [Try.ntmps37]) :
    CallM Try.prog id_laws_markStringS args Li mv cl Post := CallM.ofE T pl_laws_markStringS Try.func37 (by kernel_rfl) rfl (by kernel_rfl) (by kernel_rfl) hN h
abbrev id_laws_heldStringS : FuncId := 38
def pl_laws_heldStringS : Nat → Option PS := plk [(4, .v 0 (.v 1 (.v 2 (.v 3 (.v 4 (.x 5 [3, 2, 1, 0] (.v 6 (.done))))))))]
theorem F_laws_heldStringS {args : List SV} {Li : List Row} {mv : List Nat} {cl : Bool} {Post : SV → List Row → Prop} (h : wpE Try.prog (lk tyList) pl_laws_heldStringS (bodyOf Try.f38) ⟨argT args, Lof Li, []⟩ (retE (lk tyList) Try.f38.results.toList Li.length mv cl Post)) (hN : args.length ≤ Try.f38.ntmps := by simp [Try.ntmps38]) :
    CallM Try.prog id_laws_heldStringS args Li mv cl Post := CallM.ofE T pl_laws_heldStringS Try.func38 (by kernel_rfl) rfl (by kernel_rfl) (by kernel_rfl) hN h
abbrev id_spec_VecOK : FuncId := 88
def pl_spec_VecOK : Nat → Option PS := plk []
theorem F_spec_VecOK {args : List SV} {Li : List Row} {mv : List Nat} {cl : Bool} {Post : SV → List Row → Prop} (h : wpE Try.prog (lk tyList) pl_spec_VecOK (bodyOf Try.f88) ⟨argT args, Lof Li, []⟩ (retE (lk tyList) Try.f88.results.toList Li.length mv cl Post)) (hN : args.length ≤ Try.f88.ntmps := by simp [Try.ntmps88]) :
    CallM Try.prog id_spec_VecOK args Li mv cl Post := CallM.ofE T pl_spec_VecOK Try.func88 (by kernel_rfl) rfl (by kernel_rfl) (by kernel_rfl) hN h
abbrev id_impl_VecOK : FuncId := 89
def pl_impl_VecOK : Nat → Option PS := plk []
theorem F_impl_VecOK {args : List SV} {Li : List Row} {mv : List Nat} {cl : Bool} {Post : SV → List Row → Prop} (h : wpE Try.prog (lk tyList) pl_impl_VecOK (bodyOf Try.f89) ⟨argT args, Lof Li, []⟩ (retE (lk tyList) Try.f89.results.toList Li.length mv cl Post)) (hN : args.length ≤ Try.f89.ntmps := by simp [Try.ntmps89]) :
    CallM Try.prog id_impl_VecOK args Li mv cl Post := CallM.ofE T pl_impl_VecOK Try.func89 (by kernel_rfl) rfl (by kernel_rfl) (by kernel_rfl) hN h
abbrev id_impl_group_run : FuncId := 91
def pl_impl_group_run : Nat → Option PS := plk [(5, .v 0 (.v 1 (.v 2 (.v 3 (.v 4 (.v 5 (.v 6 (.v 7 (.done))))))))),
  (11, .v 0 (.v 1 (.v 2 (.v 3 (.v 4 (.v 5 (.x 6 [] (.done)))))))),
  (21, .v 0 (.v 1 (.v 2 (.v 3 (.v 4 (.v 5 (.x 6 [] (.done)))))))),
  (25, .v 0 (.v 1 (.v 2 (.v 3 (.v 4 (.v 5 (.v 7 (.v 8 (.x 6 [8, 7, 4, 3, 2, 1, 0] (.v 9 (.x 10 [4, 3, 2, 1, 0] (.x 11 [0] (.v 12 (.v 13 (.x 14 [] (.done)))))))))))))))),
  (33, .v 0 (.v 1 (.v 2 (.v 3 (.v 4 (.v 5 (.v 6 (.v 7 (.v 8 (.v 9 (.v 10 (.v 11 (.v 12 (.done)))))))))))))),
  (35, .v 0 (.v 1 (.v 2 (.v 3 (.v 4 (.v 5 (.v 6 (.v 7 (.v 8 (.x 9 [8, 7, 6, 5, 4, 3, 2, 1, 0] (.x 10 [] (.done)))))))))))),
  (36, .v 0 (.v 1 (.v 2 (.v 3 (.v 4 (.v 5 (.v 6 (.v 7 (.v 8 (.v 9 (.v 10 (.v 11 (.v 12 (.v 13 (.v 14 (.v 15 (.v 16 (.v 17 (.v 18 (.v 19 (.v 20 (.v 21 (.v 22 (.v 23 (.v 24 (.v 25 (.v 26 (.v 27 (.v 28 (.v 29 (.v 30 (.v 31 (.v 32 (.done))))))))))))))))))))))))))))))))))]
theorem F_impl_group_run {args : List SV} {Li : List Row} {mv : List Nat} {cl : Bool} {Post : SV → List Row → Prop} (h : wpE Try.prog (lk tyList) pl_impl_group_run (bodyOf Try.f91) ⟨argT args, Lof Li, []⟩ (retE (lk tyList) Try.f91.results.toList Li.length mv cl Post)) (hN : args.length ≤ Try.f91.ntmps := by simp [Try.ntmps91]) :
    CallM Try.prog id_impl_group_run args Li mv cl Post := CallM.ofE T pl_impl_group_run Try.func91 (by kernel_rfl) rfl (by kernel_rfl) (by kernel_rfl) hN h
abbrev id_impl_group_epoch : FuncId := 92
def pl_impl_group_epoch : Nat → Option PS := plk []
theorem F_impl_group_epoch {args : List SV} {Li : List Row} {mv : List Nat} {cl : Bool} {Post : SV → List Row → Prop} (h : wpE Try.prog (lk tyList) pl_impl_group_epoch (bodyOf Try.f92) ⟨argT args, Lof Li, []⟩ (retE (lk tyList) Try.f92.results.toList Li.length mv cl Post)) (hN : args.length ≤ Try.f92.ntmps := by simp [Try.ntmps92]) :
    CallM Try.prog id_impl_group_epoch args Li mv cl Post := CallM.ofE T pl_impl_group_epoch Try.func92 (by kernel_rfl) rfl (by kernel_rfl) (by kernel_rfl) hN h
abbrev id_spec_l16Sum : FuncId := 93
def pl_spec_l16Sum : Nat → Option PS := plk []
theorem F_spec_l16Sum {args : List SV} {Li : List Row} {mv : List Nat} {cl : Bool} {Post : SV → List Row → Prop} (h : wpE Try.prog (lk tyList) pl_spec_l16Sum (bodyOf Try.f93) ⟨argT args, Lof Li, []⟩ (retE (lk tyList) Try.f93.results.toList Li.length mv cl Post)) (hN : args.length ≤ Try.f93.ntmps := by simp [Try.ntmps93]) :
    CallM Try.prog id_spec_l16Sum args Li mv cl Post := CallM.ofE T pl_spec_l16Sum Try.func93 (by kernel_rfl) rfl (by kernel_rfl) (by kernel_rfl) hN h
abbrev id_spec_l16Eight : FuncId := 94
def pl_spec_l16Eight : Nat → Option PS := plk []
theorem F_spec_l16Eight {args : List SV} {Li : List Row} {mv : List Nat} {cl : Bool} {Post : SV → List Row → Prop} (h : wpE Try.prog (lk tyList) pl_spec_l16Eight (bodyOf Try.f94) ⟨argT args, Lof Li, []⟩ (retE (lk tyList) Try.f94.results.toList Li.length mv cl Post)) (hN : args.length ≤ Try.f94.ntmps := by simp [Try.ntmps94]) :
    CallM Try.prog id_spec_l16Eight args Li mv cl Post := CallM.ofE T pl_spec_l16Eight Try.func94 (by kernel_rfl) rfl (by kernel_rfl) (by kernel_rfl) hN h
abbrev id_spec_l16Mask : FuncId := 95
def pl_spec_l16Mask : Nat → Option PS := plk [(8, .v 0 (.v 1 (.v 2 (.v 3 (.v 4 (.v 5 (.v 6 (.v 7 (.v 8 (.v 9 (.v 10 (.x 11 [0] (.x 12 [] (.v 13 (.done)))))))))))))))]
theorem F_spec_l16Mask {args : List SV} {Li : List Row} {mv : List Nat} {cl : Bool} {Post : SV → List Row → Prop} (h : wpE Try.prog (lk tyList) pl_spec_l16Mask (bodyOf Try.f95) ⟨argT args, Lof Li, []⟩ (retE (lk tyList) Try.f95.results.toList Li.length mv cl Post)) (hN : args.length ≤ Try.f95.ntmps := by simp [Try.ntmps95]) :
    CallM Try.prog id_spec_l16Mask args Li mv cl Post := CallM.ofE T pl_spec_l16Mask Try.func95 (by kernel_rfl) rfl (by kernel_rfl) (by kernel_rfl) hN h
abbrev id_impl_sealTag : FuncId := 96
def pl_impl_sealTag : Nat → Option PS := plk []
theorem F_impl_sealTag {args : List SV} {Li : List Row} {mv : List Nat} {cl : Bool} {Post : SV → List Row → Prop} (h : wpE Try.prog (lk tyList) pl_impl_sealTag (bodyOf Try.f96) ⟨argT args, Lof Li, []⟩ (retE (lk tyList) Try.f96.results.toList Li.length mv cl Post)) (hN : args.length ≤ Try.f96.ntmps := by simp [Try.ntmps96]) :
    CallM Try.prog id_impl_sealTag args Li mv cl Post := CallM.ofE T pl_impl_sealTag Try.func96 (by kernel_rfl) rfl (by kernel_rfl) (by kernel_rfl) hN h
abbrev id_impl_xorStream : FuncId := 97
def pl_impl_xorStream : Nat → Option PS := plk [(9, .v 0 (.v 1 (.v 2 (.v 3 (.v 4 (.v 5 (.v 6 (.v 7 (.v 8 (.v 9 (.v 10 (.v 11 (.x 12 [] (.done))))))))))))))]
theorem F_impl_xorStream {args : List SV} {Li : List Row} {mv : List Nat} {cl : Bool} {Post : SV → List Row → Prop} (h : wpE Try.prog (lk tyList) pl_impl_xorStream (bodyOf Try.f97) ⟨argT args, Lof Li, []⟩ (retE (lk tyList) Try.f97.results.toList Li.length mv cl Post)) (hN : args.length ≤ Try.f97.ntmps := by simp [Try.ntmps97]) :
    CallM Try.prog id_impl_xorStream args Li mv cl Post := CallM.ofE T pl_impl_xorStream Try.func97 (by kernel_rfl) rfl (by kernel_rfl) (by kernel_rfl) hN h
abbrev id_spec_l01Source : FuncId := 98
def pl_spec_l01Source : Nat → Option PS := plk []
theorem F_spec_l01Source {args : List SV} {Li : List Row} {mv : List Nat} {cl : Bool} {Post : SV → List Row → Prop} (h : wpE Try.prog (lk tyList) pl_spec_l01Source (bodyOf Try.f98) ⟨argT args, Lof Li, []⟩ (retE (lk tyList) Try.f98.results.toList Li.length mv cl Post)) (hN : args.length ≤ Try.f98.ntmps := by simp [Try.ntmps98]) :
    CallM Try.prog id_spec_l01Source args Li mv cl Post := CallM.ofE T pl_spec_l01Source Try.func98 (by kernel_rfl) rfl (by kernel_rfl) (by kernel_rfl) hN h
abbrev id_spec_l03DrawCounter : FuncId := 99
def pl_spec_l03DrawCounter : Nat → Option PS := plk []
theorem F_spec_l03DrawCounter {args : List SV} {Li : List Row} {mv : List Nat} {cl : Bool} {Post : SV → List Row → Prop} (h : wpE Try.prog (lk tyList) pl_spec_l03DrawCounter (bodyOf Try.f99) ⟨argT args, Lof Li, []⟩ (retE (lk tyList) Try.f99.results.toList Li.length mv cl Post)) (hN : args.length ≤ Try.f99.ntmps := by simp [Try.ntmps99]) :
    CallM Try.prog id_spec_l03DrawCounter args Li mv cl Post := CallM.ofE T pl_spec_l03DrawCounter Try.func99 (by kernel_rfl) rfl (by kernel_rfl) (by kernel_rfl) hN h
abbrev id_impl_counterOK : FuncId := 100
def pl_impl_counterOK : Nat → Option PS := plk []
theorem F_impl_counterOK {args : List SV} {Li : List Row} {mv : List Nat} {cl : Bool} {Post : SV → List Row → Prop} (h : wpE Try.prog (lk tyList) pl_impl_counterOK (bodyOf Try.f100) ⟨argT args, Lof Li, []⟩ (retE (lk tyList) Try.f100.results.toList Li.length mv cl Post)) (hN : args.length ≤ Try.f100.ntmps := by simp [Try.ntmps100]) :
    CallM Try.prog id_impl_counterOK args Li mv cl Post := CallM.ofE T pl_impl_counterOK Try.func100 (by kernel_rfl) rfl (by kernel_rfl) (by kernel_rfl) hN h
abbrev id_impl_vecJoin : FuncId := 101
def pl_impl_vecJoin : Nat → Option PS := plk [(5, .v 0 (.v 1 (.v 2 (.v 3 (.v 4 (.v 5 (.v 6 (.v 7 (.v 8 (.v 9 (.v 10 (.v 11 (.v 12 (.v 13 (.x 14 [] (.done))))))))))))))))]
theorem F_impl_vecJoin {args : List SV} {Li : List Row} {mv : List Nat} {cl : Bool} {Post : SV → List Row → Prop} (h : wpE Try.prog (lk tyList) pl_impl_vecJoin (bodyOf Try.f101) ⟨argT args, Lof Li, []⟩ (retE (lk tyList) Try.f101.results.toList Li.length mv cl Post)) (hN : args.length ≤ Try.f101.ntmps := by simp [Try.ntmps101]) :
    CallM Try.prog id_impl_vecJoin args Li mv cl Post := CallM.ofE T pl_impl_vecJoin Try.func101 (by kernel_rfl) rfl (by kernel_rfl) (by kernel_rfl) hN h
abbrev id_spec_l03CounterOK : FuncId := 102
def pl_spec_l03CounterOK : Nat → Option PS := plk []
theorem F_spec_l03CounterOK {args : List SV} {Li : List Row} {mv : List Nat} {cl : Bool} {Post : SV → List Row → Prop} (h : wpE Try.prog (lk tyList) pl_spec_l03CounterOK (bodyOf Try.f102) ⟨argT args, Lof Li, []⟩ (retE (lk tyList) Try.f102.results.toList Li.length mv cl Post)) (hN : args.length ≤ Try.f102.ntmps := by simp [Try.ntmps102]) :
    CallM Try.prog id_spec_l03CounterOK args Li mv cl Post := CallM.ofE T pl_spec_l03CounterOK Try.func102 (by kernel_rfl) rfl (by kernel_rfl) (by kernel_rfl) hN h
abbrev id_spec_l02Join : FuncId := 103
def pl_spec_l02Join : Nat → Option PS := plk [(5, .v 0 (.v 1 (.v 2 (.v 3 (.v 4 (.v 5 (.v 6 (.v 7 (.v 8 (.v 9 (.v 10 (.v 11 (.v 12 (.x 13 [1, 0] (.x 14 [] (.v 15 (.x 16 [] (.done))))))))))))))))))]
theorem F_spec_l02Join {args : List SV} {Li : List Row} {mv : List Nat} {cl : Bool} {Post : SV → List Row → Prop} (h : wpE Try.prog (lk tyList) pl_spec_l02Join (bodyOf Try.f103) ⟨argT args, Lof Li, []⟩ (retE (lk tyList) Try.f103.results.toList Li.length mv cl Post)) (hN : args.length ≤ Try.f103.ntmps := by simp [Try.ntmps103]) :
    CallM Try.prog id_spec_l02Join args Li mv cl Post := CallM.ofE T pl_spec_l02Join Try.func103 (by kernel_rfl) rfl (by kernel_rfl) (by kernel_rfl) hN h
abbrev id_spec_l01Src_next : FuncId := 104
def pl_spec_l01Src_next : Nat → Option PS := plk []
theorem F_spec_l01Src_next {args : List SV} {Li : List Row} {mv : List Nat} {cl : Bool} {Post : SV → List Row → Prop} (h : wpE Try.prog (lk tyList) pl_spec_l01Src_next (bodyOf Try.f104) ⟨argT args, Lof Li, []⟩ (retE (lk tyList) Try.f104.results.toList Li.length mv cl Post)) (hN : args.length ≤ Try.f104.ntmps := by simp [Try.ntmps104]) :
    CallM Try.prog id_spec_l01Src_next args Li mv cl Post := CallM.ofE T pl_spec_l01Src_next Try.func104 (by kernel_rfl) rfl (by kernel_rfl) (by kernel_rfl) hN h
abbrev id_spec_l01Src_chance : FuncId := 105
def pl_spec_l01Src_chance : Nat → Option PS := plk []
theorem F_spec_l01Src_chance {args : List SV} {Li : List Row} {mv : List Nat} {cl : Bool} {Post : SV → List Row → Prop} (h : wpE Try.prog (lk tyList) pl_spec_l01Src_chance (bodyOf Try.f105) ⟨argT args, Lof Li, []⟩ (retE (lk tyList) Try.f105.results.toList Li.length mv cl Post)) (hN : args.length ≤ Try.f105.ntmps := by simp [Try.ntmps105]) :
    CallM Try.prog id_spec_l01Src_chance args Li mv cl Post := CallM.ofE T pl_spec_l01Src_chance Try.func105 (by kernel_rfl) rfl (by kernel_rfl) (by kernel_rfl) hN h
abbrev id_spec_l03Actor : FuncId := 106
def pl_spec_l03Actor : Nat → Option PS := plk []
theorem F_spec_l03Actor {args : List SV} {Li : List Row} {mv : List Nat} {cl : Bool} {Post : SV → List Row → Prop} (h : wpE Try.prog (lk tyList) pl_spec_l03Actor (bodyOf Try.f106) ⟨argT args, Lof Li, []⟩ (retE (lk tyList) Try.f106.results.toList Li.length mv cl Post)) (hN : args.length ≤ Try.f106.ntmps := by simp [Try.ntmps106]) :
    CallM Try.prog id_spec_l03Actor args Li mv cl Post := CallM.ofE T pl_spec_l03Actor Try.func106 (by kernel_rfl) rfl (by kernel_rfl) (by kernel_rfl) hN h
abbrev id_impl_isActor : FuncId := 107
def pl_impl_isActor : Nat → Option PS := plk []
theorem F_impl_isActor {args : List SV} {Li : List Row} {mv : List Nat} {cl : Bool} {Post : SV → List Row → Prop} (h : wpE Try.prog (lk tyList) pl_impl_isActor (bodyOf Try.f107) ⟨argT args, Lof Li, []⟩ (retE (lk tyList) Try.f107.results.toList Li.length mv cl Post)) (hN : args.length ≤ Try.f107.ntmps := by simp [Try.ntmps107]) :
    CallM Try.prog id_impl_isActor args Li mv cl Post := CallM.ofE T pl_impl_isActor Try.func107 (by kernel_rfl) rfl (by kernel_rfl) (by kernel_rfl) hN h
abbrev id_impl_vecCopy : FuncId := 108
def pl_impl_vecCopy : Nat → Option PS := plk []
theorem F_impl_vecCopy {args : List SV} {Li : List Row} {mv : List Nat} {cl : Bool} {Post : SV → List Row → Prop} (h : wpE Try.prog (lk tyList) pl_impl_vecCopy (bodyOf Try.f108) ⟨argT args, Lof Li, []⟩ (retE (lk tyList) Try.f108.results.toList Li.length mv cl Post)) (hN : args.length ≤ Try.f108.ntmps := by simp [Try.ntmps108]) :
    CallM Try.prog id_impl_vecCopy args Li mv cl Post := CallM.ofE T pl_impl_vecCopy Try.func108 (by kernel_rfl) rfl (by kernel_rfl) (by kernel_rfl) hN h
abbrev id_spec_l02Copy : FuncId := 109
def pl_spec_l02Copy : Nat → Option PS := plk []
theorem F_spec_l02Copy {args : List SV} {Li : List Row} {mv : List Nat} {cl : Bool} {Post : SV → List Row → Prop} (h : wpE Try.prog (lk tyList) pl_spec_l02Copy (bodyOf Try.f109) ⟨argT args, Lof Li, []⟩ (retE (lk tyList) Try.f109.results.toList Li.length mv cl Post)) (hN : args.length ≤ Try.f109.ntmps := by simp [Try.ntmps109]) :
    CallM Try.prog id_spec_l02Copy args Li mv cl Post := CallM.ofE T pl_spec_l02Copy Try.func109 (by kernel_rfl) rfl (by kernel_rfl) (by kernel_rfl) hN h
abbrev id_spec_l16Draw : FuncId := 110
def pl_spec_l16Draw : Nat → Option PS := plk []
theorem F_spec_l16Draw {args : List SV} {Li : List Row} {mv : List Nat} {cl : Bool} {Post : SV → List Row → Prop} (h : wpE Try.prog (lk tyList) pl_spec_l16Draw (bodyOf Try.f110) ⟨argT args, Lof Li, []⟩ (retE (lk tyList) Try.f110.results.toList Li.length mv cl Post)) (hN : args.length ≤ Try.f110.ntmps := by simp [Try.ntmps110]) :
    CallM Try.prog id_spec_l16Draw args Li mv cl Post := CallM.ofE T pl_spec_l16Draw Try.func110 (by kernel_rfl) rfl (by kernel_rfl) (by kernel_rfl) hN h
abbrev id_spec_l01Reader_texts : FuncId := 111
def pl_spec_l01Reader_texts : Nat → Option PS := plk [(11, .v 0 (.v 1 (.v 2 (.v 3 (.v 4 (.x 5 [3, 2, 1, 0] (.x 6 [2, 1, 0] (.v 7 (.v 8 (.done))))))))))]
theorem F_spec_l01Reader_texts {args : List SV} {Li : List Row} {mv : List Nat} {cl : Bool} {Post : SV → List Row → Prop} (h : wpE Try.prog (lk tyList) pl_spec_l01Reader_texts (bodyOf Try.f111) ⟨argT args, Lof Li, []⟩ (retE (lk tyList) Try.f111.results.toList Li.length mv cl Post)) (hN : args.length ≤ Try.f111.ntmps := by simp [Try.ntmps111]) :
    CallM Try.prog id_spec_l01Reader_texts args Li mv cl Post := CallM.ofE T pl_spec_l01Reader_texts Try.func111 (by kernel_rfl) rfl (by kernel_rfl) (by kernel_rfl) hN h
abbrev id_impl_reader_texts : FuncId := 112
def pl_impl_reader_texts : Nat → Option PS := plk []
theorem F_impl_reader_texts {args : List SV} {Li : List Row} {mv : List Nat} {cl : Bool} {Post : SV → List Row → Prop} (h : wpE Try.prog (lk tyList) pl_impl_reader_texts (bodyOf Try.f112) ⟨argT args, Lof Li, []⟩ (retE (lk tyList) Try.f112.results.toList Li.length mv cl Post)) (hN : args.length ≤ Try.f112.ntmps := by simp [Try.ntmps112]) :
    CallM Try.prog id_impl_reader_texts args Li mv cl Post := CallM.ofE T pl_impl_reader_texts Try.func112 (by kernel_rfl) rfl (by kernel_rfl) (by kernel_rfl) hN h
abbrev id_laws_markText : FuncId := 113
def pl_laws_markText : Nat → Option PS := plk []
theorem F_laws_markText {args : List SV} {Li : List Row} {mv : List Nat} {cl : Bool} {Post : SV → List Row → Prop} (h : wpE Try.prog (lk tyList) pl_laws_markText (bodyOf Try.f113) ⟨argT args, Lof Li, []⟩ (retE (lk tyList) Try.f113.results.toList Li.length mv cl Post)) (hN : args.length ≤ Try.f113.ntmps := by simp [Try.ntmps113]) :
    CallM Try.prog id_laws_markText args Li mv cl Post := CallM.ofE T pl_laws_markText Try.func113 (by kernel_rfl) rfl (by kernel_rfl) (by kernel_rfl) hN h
abbrev id_impl_reader_num : FuncId := 156
def pl_impl_reader_num : Nat → Option PS := plk [(3, .v 0 (.v 1 (.v 2 (.v 3 (.v 4 (.v 5 (.v 6 (.v 7 (.v 8 (.v 9 (.v 10 (.v 11 (.v 12 (.v 13 (.done))))))))))))))),
  (6, .v 0 (.v 1 (.v 2 (.v 3 (.v 4 (.v 5 (.v 6 (.v 7 (.v 8 (.v 9 (.v 10 (.done))))))))))))]
theorem F_impl_reader_num {args : List SV} {Li : List Row} {mv : List Nat} {cl : Bool} {Post : SV → List Row → Prop} (h : wpE Try.prog (lk tyList) pl_impl_reader_num (bodyOf Try.f156) ⟨argT args, Lof Li, []⟩ (retE (lk tyList) Try.f156.results.toList Li.length mv cl Post)) (hN : args.length ≤ Try.f156.ntmps := by simp [Try.ntmps156]) :
    CallM Try.prog id_impl_reader_num args Li mv cl Post := CallM.ofE T pl_impl_reader_num Try.func156 (by kernel_rfl) rfl (by kernel_rfl) (by kernel_rfl) hN h
abbrev id_spec_l01Src_oddVector : FuncId := 165
def pl_spec_l01Src_oddVector : Nat → Option PS := plk [(4, .v 0 (.v 1 (.v 2 (.x 3 [1, 0] (.v 4 (.v 5 (.x 6 [] (.done)))))))),
  (6, .v 0 (.v 1 (.v 2 (.v 5 (.or (.x 3 [5, 1, 0] (.or (.x 4 [5, 1, 0] (.x 6 [1, 0] (.v 7 (.v 8 (.v 9 (.x 10 [] (.done))))))) (.x 6 [1, 0] (.x 4 [1, 0] (.v 7 (.v 8 (.v 9 (.x 10 [] (.done))))))))) (.x 4 [5, 2, 1, 0] (.x 3 [5, 1, 0] (.x 6 [1, 0] (.v 7 (.v 8 (.v 9 (.x 10 [] (.done)))))))))))))]
theorem F_spec_l01Src_oddVector {args : List SV} {Li : List Row} {mv : List Nat} {cl : Bool} {Post : SV → List Row → Prop} (h : wpE Try.prog (lk tyList) pl_spec_l01Src_oddVector (bodyOf Try.f165) ⟨argT args, Lof Li, []⟩ (retE (lk tyList) Try.f165.results.toList Li.length mv cl Post)) (hN : args.length ≤ Try.f165.ntmps := by simp [Try.ntmps165]) :
    CallM Try.prog id_spec_l01Src_oddVector args Li mv cl Post := CallM.ofE T pl_spec_l01Src_oddVector Try.func165 (by kernel_rfl) rfl (by kernel_rfl) (by kernel_rfl) hN h
abbrev id_impl_group_next : FuncId := 166
def pl_impl_group_next : Nat → Option PS := plk [(0, .v 0 (.v 1 (.v 2 (.v 3 (.v 4 (.v 5 (.v 6 (.x 7 [5, 4, 3, 2] (.v 8 (.v 9 (.v 10 (.v 11 (.done))))))))))))),
  (1, .v 0 (.v 1 (.v 2 (.v 3 (.v 4 (.v 5 (.v 6 (.v 7 (.v 8 (.x 9 [4, 3, 2, 1, 0] (.x 10 [0] (.v 11 (.v 12 (.x 13 [] (.done)))))))))))))))]
theorem F_impl_group_next {args : List SV} {Li : List Row} {mv : List Nat} {cl : Bool} {Post : SV → List Row → Prop} (h : wpE Try.prog (lk tyList) pl_impl_group_next (bodyOf Try.f166) ⟨argT args, Lof Li, []⟩ (retE (lk tyList) Try.f166.results.toList Li.length mv cl Post)) (hN : args.length ≤ Try.f166.ntmps := by simp [Try.ntmps166]) :
    CallM Try.prog id_impl_group_next args Li mv cl Post := CallM.ofE T pl_impl_group_next Try.func166 (by kernel_rfl) rfl (by kernel_rfl) (by kernel_rfl) hN h
abbrev id_impl_group_steal : FuncId := 167
def pl_impl_group_steal : Nat → Option PS := plk []
theorem F_impl_group_steal {args : List SV} {Li : List Row} {mv : List Nat} {cl : Bool} {Post : SV → List Row → Prop} (h : wpE Try.prog (lk tyList) pl_impl_group_steal (bodyOf Try.f167) ⟨argT args, Lof Li, []⟩ (retE (lk tyList) Try.f167.results.toList Li.length mv cl Post)) (hN : args.length ≤ Try.f167.ntmps := by simp [Try.ntmps167]) :
    CallM Try.prog id_impl_group_steal args Li mv cl Post := CallM.ofE T pl_impl_group_steal Try.func167 (by kernel_rfl) rfl (by kernel_rfl) (by kernel_rfl) hN h
abbrev id_spec_KeySum : FuncId := 168
def pl_spec_KeySum : Nat → Option PS := plk []
theorem F_spec_KeySum {args : List SV} {Li : List Row} {mv : List Nat} {cl : Bool} {Post : SV → List Row → Prop} (h : wpE Try.prog (lk tyList) pl_spec_KeySum (bodyOf Try.f168) ⟨argT args, Lof Li, []⟩ (retE (lk tyList) Try.f168.results.toList Li.length mv cl Post)) (hN : args.length ≤ Try.f168.ntmps := by simp [Try.ntmps168]) :
    CallM Try.prog id_spec_KeySum args Li mv cl Post := CallM.ofE T pl_spec_KeySum Try.func168 (by kernel_rfl) rfl (by kernel_rfl) (by kernel_rfl) hN h
abbrev id_spec_l01Four : FuncId := 169
def pl_spec_l01Four : Nat → Option PS := plk []
theorem F_spec_l01Four {args : List SV} {Li : List Row} {mv : List Nat} {cl : Bool} {Post : SV → List Row → Prop} (h : wpE Try.prog (lk tyList) pl_spec_l01Four (bodyOf Try.f169) ⟨argT args, Lof Li, []⟩ (retE (lk tyList) Try.f169.results.toList Li.length mv cl Post)) (hN : args.length ≤ Try.f169.ntmps := by simp [Try.ntmps169]) :
    CallM Try.prog id_spec_l01Four args Li mv cl Post := CallM.ofE T pl_spec_l01Four Try.func169 (by kernel_rfl) rfl (by kernel_rfl) (by kernel_rfl) hN h
abbrev id_impl_KeySum : FuncId := 170
def pl_impl_KeySum : Nat → Option PS := plk []
theorem F_impl_KeySum {args : List SV} {Li : List Row} {mv : List Nat} {cl : Bool} {Post : SV → List Row → Prop} (h : wpE Try.prog (lk tyList) pl_impl_KeySum (bodyOf Try.f170) ⟨argT args, Lof Li, []⟩ (retE (lk tyList) Try.f170.results.toList Li.length mv cl Post)) (hN : args.length ≤ Try.f170.ntmps := by simp [Try.ntmps170]) :
    CallM Try.prog id_impl_KeySum args Li mv cl Post := CallM.ofE T pl_impl_KeySum Try.func170 (by kernel_rfl) rfl (by kernel_rfl) (by kernel_rfl) hN h
abbrev id_impl_append8 : FuncId := 171
def pl_impl_append8 : Nat → Option PS := plk []
theorem F_impl_append8 {args : List SV} {Li : List Row} {mv : List Nat} {cl : Bool} {Post : SV → List Row → Prop} (h : wpE Try.prog (lk tyList) pl_impl_append8 (bodyOf Try.f171) ⟨argT args, Lof Li, []⟩ (retE (lk tyList) Try.f171.results.toList Li.length mv cl Post)) (hN : args.length ≤ Try.f171.ntmps := by simp [Try.ntmps171]) :
    CallM Try.prog id_impl_append8 args Li mv cl Post := CallM.ofE T pl_impl_append8 Try.func171 (by kernel_rfl) rfl (by kernel_rfl) (by kernel_rfl) hN h
abbrev id_spec_l01Src_byte : FuncId := 172
def pl_spec_l01Src_byte : Nat → Option PS := plk [(2, .v 0 (.v 1 (.v 2 (.v 3 (.v 4 (.v 5 (.v 6 (.v 7 (.v 8 (.v 9 (.done))))))))))),
  (3, .v 0 (.v 1 (.v 2 (.v 3 (.v 4 (.v 5 (.v 6 (.v 7 (.v 8 (.v 9 (.v 10 (.v 11 (.v 12 (.v 13 (.v 14 (.v 15 (.v 16 (.v 17 (.v 18 (.v 19 (.v 20 (.v 21 (.v 22 (.x 23 [] (.done))))))))))))))))))))))))),
  (4, .v 0 (.v 1 (.v 2 (.v 3 (.v 4 (.v 5 (.v 6 (.v 7 (.v 8 (.v 9 (.v 10 (.v 11 (.v 12 (.done)))))))))))))),
  (5, .v 0 (.v 1 (.v 2 (.v 3 (.v 4 (.v 5 (.v 6 (.v 7 (.v 8 (.v 9 (.v 10 (.v 11 (.done)))))))))))))]
theorem F_spec_l01Src_byte {args : List SV} {Li : List Row} {mv : List Nat} {cl : Bool} {Post : SV → List Row → Prop} (h : wpE Try.prog (lk tyList) pl_spec_l01Src_byte (bodyOf Try.f172) ⟨argT args, Lof Li, []⟩ (retE (lk tyList) Try.f172.results.toList Li.length mv cl Post)) (hN : args.length ≤ Try.f172.ntmps := by simp [Try.ntmps172]) :
    CallM Try.prog id_spec_l01Src_byte args Li mv cl Post := CallM.ofE T pl_spec_l01Src_byte Try.func172 (by kernel_rfl) rfl (by kernel_rfl) (by kernel_rfl) hN h
abbrev id_spec_l01Src_bytes : FuncId := 173
def pl_spec_l01Src_bytes : Nat → Option PS := plk []
theorem F_spec_l01Src_bytes {args : List SV} {Li : List Row} {mv : List Nat} {cl : Bool} {Post : SV → List Row → Prop} (h : wpE Try.prog (lk tyList) pl_spec_l01Src_bytes (bodyOf Try.f173) ⟨argT args, Lof Li, []⟩ (retE (lk tyList) Try.f173.results.toList Li.length mv cl Post)) (hN : args.length ≤ Try.f173.ntmps := by simp [Try.ntmps173]) :
    CallM Try.prog id_spec_l01Src_bytes args Li mv cl Post := CallM.ofE T pl_spec_l01Src_bytes Try.func173 (by kernel_rfl) rfl (by kernel_rfl) (by kernel_rfl) hN h
abbrev id_spec_l01Src_word : FuncId := 174
def pl_spec_l01Src_word : Nat → Option PS := plk []
theorem F_spec_l01Src_word {args : List SV} {Li : List Row} {mv : List Nat} {cl : Bool} {Post : SV → List Row → Prop} (h : wpE Try.prog (lk tyList) pl_spec_l01Src_word (bodyOf Try.f174) ⟨argT args, Lof Li, []⟩ (retE (lk tyList) Try.f174.results.toList Li.length mv cl Post)) (hN : args.length ≤ Try.f174.ntmps := by simp [Try.ntmps174]) :
    CallM Try.prog id_spec_l01Src_word args Li mv cl Post := CallM.ofE T pl_spec_l01Src_word Try.func174 (by kernel_rfl) rfl (by kernel_rfl) (by kernel_rfl) hN h
abbrev id_spec_l01Reader_count : FuncId := 175
def pl_spec_l01Reader_count : Nat → Option PS := plk []
theorem F_spec_l01Reader_count {args : List SV} {Li : List Row} {mv : List Nat} {cl : Bool} {Post : SV → List Row → Prop} (h : wpE Try.prog (lk tyList) pl_spec_l01Reader_count (bodyOf Try.f175) ⟨argT args, Lof Li, []⟩ (retE (lk tyList) Try.f175.results.toList Li.length mv cl Post)) (hN : args.length ≤ Try.f175.ntmps := by simp [Try.ntmps175]) :
    CallM Try.prog id_spec_l01Reader_count args Li mv cl Post := CallM.ofE T pl_spec_l01Reader_count Try.func175 (by kernel_rfl) rfl (by kernel_rfl) (by kernel_rfl) hN h
abbrev id_spec_l01Reader_num : FuncId := 176
def pl_spec_l01Reader_num : Nat → Option PS := plk [(3, .v 0 (.v 1 (.v 2 (.v 3 (.v 4 (.v 5 (.v 6 (.v 7 (.x 8 [] (.v 9 (.v 10 (.v 11 (.v 12 (.v 13 (.v 14 (.v 15 (.done)))))))))))))))))]
theorem F_spec_l01Reader_num {args : List SV} {Li : List Row} {mv : List Nat} {cl : Bool} {Post : SV → List Row → Prop} (h : wpE Try.prog (lk tyList) pl_spec_l01Reader_num (bodyOf Try.f176) ⟨argT args, Lof Li, []⟩ (retE (lk tyList) Try.f176.results.toList Li.length mv cl Post)) (hN : args.length ≤ Try.f176.ntmps := by simp [Try.ntmps176]) :
    CallM Try.prog id_spec_l01Reader_num args Li mv cl Post := CallM.ofE T pl_spec_l01Reader_num Try.func176 (by kernel_rfl) rfl (by kernel_rfl) (by kernel_rfl) hN h
abbrev id_spec_l01Reader_take : FuncId := 177
def pl_spec_l01Reader_take : Nat → Option PS := plk [(1, .v 0 (.v 1 (.v 2 (.v 3 (.v 4 (.v 5 (.v 6 (.v 7 (.v 8 (.v 9 (.v 10 (.v 11 (.v 12 (.v 13 (.v 14 (.v 15 (.v 16 (.v 17 (.done))))))))))))))))))),
  (5, .v 0 (.v 1 (.v 2 (.v 3 (.v 4 (.v 5 (.v 6 (.v 7 (.v 8 (.v 9 (.v 10 (.v 11 (.v 12 (.v 13 (.v 14 (.v 15 (.v 16 (.done))))))))))))))))))]
theorem F_spec_l01Reader_take {args : List SV} {Li : List Row} {mv : List Nat} {cl : Bool} {Post : SV → List Row → Prop} (h : wpE Try.prog (lk tyList) pl_spec_l01Reader_take (bodyOf Try.f177) ⟨argT args, Lof Li, []⟩ (retE (lk tyList) Try.f177.results.toList Li.length mv cl Post)) (hN : args.length ≤ Try.f177.ntmps := by simp [Try.ntmps177]) :
    CallM Try.prog id_spec_l01Reader_take args Li mv cl Post := CallM.ofE T pl_spec_l01Reader_take Try.func177 (by kernel_rfl) rfl (by kernel_rfl) (by kernel_rfl) hN h
abbrev id_spec_l01Alike : FuncId := 178
def pl_spec_l01Alike : Nat → Option PS := plk [(2, .v 0 (.v 1 (.v 2 (.v 3 (.v 4 (.v 5 (.v 6 (.v 7 (.v 8 (.v 9 (.v 10 (.v 11 (.v 12 (.v 13 (.v 14 (.v 15 (.v 16 (.v 17 (.v 18 (.done))))))))))))))))))))]
theorem F_spec_l01Alike {args : List SV} {Li : List Row} {mv : List Nat} {cl : Bool} {Post : SV → List Row → Prop} (h : wpE Try.prog (lk tyList) pl_spec_l01Alike (bodyOf Try.f178) ⟨argT args, Lof Li, []⟩ (retE (lk tyList) Try.f178.results.toList Li.length mv cl Post)) (hN : args.length ≤ Try.f178.ntmps := by simp [Try.ntmps178]) :
    CallM Try.prog id_spec_l01Alike args Li mv cl Post := CallM.ofE T pl_spec_l01Alike Try.func178 (by kernel_rfl) rfl (by kernel_rfl) (by kernel_rfl) hN h
abbrev id_impl_reader_text : FuncId := 179
def pl_impl_reader_text : Nat → Option PS := plk [(1, .v 0 (.v 1 (.v 2 (.v 3 (.v 4 (.v 5 (.v 6 (.v 7 (.v 8 (.v 9 (.v 10 (.v 11 (.v 12 (.v 13 (.v 14 (.v 15 (.v 16 (.v 17 (.v 18 (.v 19 (.v 20 (.v 21 (.done))))))))))))))))))))))),
  (4, .v 0 (.v 1 (.v 2 (.v 3 (.v 4 (.v 5 (.v 6 (.v 7 (.v 8 (.v 9 (.v 10 (.v 11 (.v 12 (.v 13 (.v 14 (.v 15 (.v 16 (.done))))))))))))))))))]
theorem F_impl_reader_text {args : List SV} {Li : List Row} {mv : List Nat} {cl : Bool} {Post : SV → List Row → Prop} (h : wpE Try.prog (lk tyList) pl_impl_reader_text (bodyOf Try.f179) ⟨argT args, Lof Li, []⟩ (retE (lk tyList) Try.f179.results.toList Li.length mv cl Post)) (hN : args.length ≤ Try.f179.ntmps := by simp [Try.ntmps179]) :
    CallM Try.prog id_impl_reader_text args Li mv cl Post := CallM.ofE T pl_impl_reader_text Try.func179 (by kernel_rfl) rfl (by kernel_rfl) (by kernel_rfl) hN h
abbrev id_impl_common : FuncId := 180
def pl_impl_common : Nat → Option PS := plk [(2, .v 0 (.v 1 (.v 2 (.v 3 (.v 4 (.v 5 (.v 6 (.v 7 (.v 8 (.v 9 (.v 10 (.v 11 (.v 12 (.v 13 (.v 14 (.v 15 (.v 16 (.v 17 (.v 18 (.done))))))))))))))))))))]
theorem F_impl_common {args : List SV} {Li : List Row} {mv : List Nat} {cl : Bool} {Post : SV → List Row → Prop} (h : wpE Try.prog (lk tyList) pl_impl_common (bodyOf Try.f180) ⟨argT args, Lof Li, []⟩ (retE (lk tyList) Try.f180.results.toList Li.length mv cl Post)) (hN : args.length ≤ Try.f180.ntmps := by simp [Try.ntmps180]) :
    CallM Try.prog id_impl_common args Li mv cl Post := CallM.ofE T pl_impl_common Try.func180 (by kernel_rfl) rfl (by kernel_rfl) (by kernel_rfl) hN h
abbrev id_spec_Sum32 : FuncId := 210
def pl_spec_Sum32 : Nat → Option PS := plk []
theorem F_spec_Sum32 {args : List SV} {Li : List Row} {mv : List Nat} {cl : Bool} {Post : SV → List Row → Prop} (h : wpE Try.prog (lk tyList) pl_spec_Sum32 (bodyOf Try.f210) ⟨argT args, Lof Li, []⟩ (retE (lk tyList) Try.f210.results.toList Li.length mv cl Post)) (hN : args.length ≤ Try.f210.ntmps := by simp [Try.ntmps210]) :
    CallM Try.prog id_spec_Sum32 args Li mv cl Post := CallM.ofE T pl_spec_Sum32 Try.func210 (by kernel_rfl) rfl (by kernel_rfl) (by kernel_rfl) hN h
abbrev id_impl_append4 : FuncId := 211
def pl_impl_append4 : Nat → Option PS := plk []
theorem F_impl_append4 {args : List SV} {Li : List Row} {mv : List Nat} {cl : Bool} {Post : SV → List Row → Prop} (h : wpE Try.prog (lk tyList) pl_impl_append4 (bodyOf Try.f211) ⟨argT args, Lof Li, []⟩ (retE (lk tyList) Try.f211.results.toList Li.length mv cl Post)) (hN : args.length ≤ Try.f211.ntmps := by simp [Try.ntmps211]) :
    CallM Try.prog id_impl_append4 args Li mv cl Post := CallM.ofE T pl_impl_append4 Try.func211 (by kernel_rfl) rfl (by kernel_rfl) (by kernel_rfl) hN h
abbrev id_spec_l01Src_vector : FuncId := 218
def pl_spec_l01Src_vector : Nat → Option PS := plk [(5, .v 0 (.v 1 (.v 2 (.v 3 (.x 4 [2, 1, 0] (.v 5 (.x 6 [] (.done))))))))]
theorem F_spec_l01Src_vector {args : List SV} {Li : List Row} {mv : List Nat} {cl : Bool} {Post : SV → List Row → Prop} (h : wpE Try.prog (lk tyList) pl_spec_l01Src_vector (bodyOf Try.f218) ⟨argT args, Lof Li, []⟩ (retE (lk tyList) Try.f218.results.toList Li.length mv cl Post)) (hN : args.length ≤ Try.f218.ntmps := by simp [Try.ntmps218]) :
    CallM Try.prog id_spec_l01Src_vector args Li mv cl Post := CallM.ofE T pl_spec_l01Src_vector Try.func218 (by kernel_rfl) rfl (by kernel_rfl) (by kernel_rfl) hN h
abbrev id_spec_l01Join : FuncId := 219
def pl_spec_l01Join : Nat → Option PS := plk []
theorem F_spec_l01Join {args : List SV} {Li : List Row} {mv : List Nat} {cl : Bool} {Post : SV → List Row → Prop} (h : wpE Try.prog (lk tyList) pl_spec_l01Join (bodyOf Try.f219) ⟨argT args, Lof Li, []⟩ (retE (lk tyList) Try.f219.results.toList Li.length mv cl Post)) (hN : args.length ≤ Try.f219.ntmps := by simp [Try.ntmps219]) :
    CallM Try.prog id_spec_l01Join args Li mv cl Post := CallM.ofE T pl_spec_l01Join Try.func219 (by kernel_rfl) rfl (by kernel_rfl) (by kernel_rfl) hN h
abbrev id_impl_sumOn : FuncId := 220
def pl_impl_sumOn : Nat → Option PS := plk []
theorem F_impl_sumOn {args : List SV} {Li : List Row} {mv : List Nat} {cl : Bool} {Post : SV → List Row → Prop} (h : wpE Try.prog (lk tyList) pl_impl_sumOn (bodyOf Try.f220) ⟨argT args, Lof Li, []⟩ (retE (lk tyList) Try.f220.results.toList Li.length mv cl Post)) (hN : args.length ≤ Try.f220.ntmps := by simp [Try.ntmps220]) :
    CallM Try.prog id_impl_sumOn args Li mv cl Post := CallM.ofE T pl_impl_sumOn Try.func220 (by kernel_rfl) rfl (by kernel_rfl) (by kernel_rfl) hN h
abbrev id_spec_l01Get : FuncId := 221
def pl_spec_l01Get : Nat → Option PS := plk []
theorem F_spec_l01Get {args : List SV} {Li : List Row} {mv : List Nat} {cl : Bool} {Post : SV → List Row → Prop} (h : wpE Try.prog (lk tyList) pl_spec_l01Get (bodyOf Try.f221) ⟨argT args, Lof Li, []⟩ (retE (lk tyList) Try.f221.results.toList Li.length mv cl Post)) (hN : args.length ≤ Try.f221.ntmps := by simp [Try.ntmps221]) :
    CallM Try.prog id_spec_l01Get args Li mv cl Post := CallM.ofE T pl_spec_l01Get Try.func221 (by kernel_rfl) rfl (by kernel_rfl) (by kernel_rfl) hN h
abbrev id_spec_l02New : FuncId := 222
def pl_spec_l02New : Nat → Option PS := plk []
theorem F_spec_l02New {args : List SV} {Li : List Row} {mv : List Nat} {cl : Bool} {Post : SV → List Row → Prop} (h : wpE Try.prog (lk tyList) pl_spec_l02New (bodyOf Try.f222) ⟨argT args, Lof Li, []⟩ (retE (lk tyList) Try.f222.results.toList Li.length mv cl Post)) (hN : args.length ≤ Try.f222.ntmps := by simp [Try.ntmps222]) :
    CallM Try.prog id_spec_l02New args Li mv cl Post := CallM.ofE T pl_spec_l02New Try.func222 (by kernel_rfl) rfl (by kernel_rfl) (by kernel_rfl) hN h
end Go.Proofs.Ytpapcelgdcbolaa.D
