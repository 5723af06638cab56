/- The heads of the functions: the table of types, plans of regions that draw their order, and a contract out of the code. Printed by wip/tools/gen.py. -/
import Derived.Test.YtoklfidamhigcaaED
import Derived.Test.YtoklfidamhigcaaProg
import Derived.KernelRfl
namespace Go.Proofs.Ytoklfidamhigcaa.D
open Go.RowKit
set_option maxRecDepth 100000
def tyList : List (TypeId × TyI) := [(3, ⟨.int .i64, 1, 8, [.zi .i64], false⟩),
  (4, ⟨.bool, 1, 1, [.zb], false⟩),
  (5, ⟨.int .u8, 1, 1, [.zi .u8], false⟩),
  (9, ⟨.string, 1, 16, [.zs], false⟩),
  (22, ⟨.slice 5, 1, 24, [.zl], false⟩),
  (24, ⟨.slice 26, 1, 24, [.zl], false⟩),
  (26, ⟨.struct [(0, 3), (1, 3), (2, 3), (3, 9)], 4, 40, [.zi .i64, .zi .i64, .zi .i64, .zs], true⟩),
  (27, ⟨.slice 31, 1, 24, [.zl], false⟩),
  (31, ⟨.struct [(0, 3), (1, 3), (2, 3), (3, 9)], 4, 40, [.zi .i64, .zi .i64, .zi .i64, .zs], true⟩),
  (33, ⟨.slice 3, 1, 24, [.zl], false⟩),
  (35, ⟨.struct [(0, 33)], 1, 24, [.zl], false⟩),
  (37, ⟨.struct [(0, 35), (1, 35)], 2, 48, [.zl, .zl], false⟩),
  (54, ⟨.slice 9, 1, 24, [.zl], false⟩),
  (61, ⟨.struct [(0, 33)], 1, 24, [.zl], false⟩),
  (62, ⟨.slice 210, 1, 24, [.zl], false⟩),
  (64, ⟨.struct [(0, 61), (1, 62)], 2, 48, [.zl, .zl], false⟩),
  (66, ⟨.slice 157, 1, 24, [.zl], false⟩),
  (68, ⟨.struct [(0, 35), (1, 66)], 2, 48, [.zl, .zl], false⟩),
  (75, ⟨.struct [(0, 35), (1, 66)], 2, 48, [.zl, .zl], false⟩),
  (86, ⟨.struct [(0, 3), (1, 3)], 2, 16, [.zi .i64, .zi .i64], true⟩),
  (88, ⟨.struct [(0, 3), (1, 3), (2, 3), (3, 61), (4, 3), (5, 3), (6, 3), (7, 3), (8, 86), (10, 9), (11, 9)], 12, 128, [.zi .i64, .zi .i64, .zi .i64, .zl, .zi .i64, .zi .i64, .zi .i64, .zi .i64, .zi .i64, .zi .i64, .zs, .zs], false⟩),
  (91, ⟨.struct [(0, 3), (1, 3)], 2, 16, [.zi .i64, .zi .i64], true⟩),
  (93, ⟨.struct [(0, 3), (1, 3), (2, 3), (3, 35), (4, 3), (5, 3), (6, 3), (7, 3), (8, 91), (10, 9), (11, 9)], 12, 128, [.zi .i64, .zi .i64, .zi .i64, .zl, .zi .i64, .zi .i64, .zi .i64, .zi .i64, .zi .i64, .zi .i64, .zs, .zs], false⟩),
  (113, ⟨.slice 93, 1, 24, [.zl], false⟩),
  (124, ⟨.ptr 130, 1, 8, [.zp], false⟩),
  (125, ⟨.array 16 4, 16, 16, [.zb, .zb, .zb, .zb, .zb, .zb, .zb, .zb, .zb, .zb, .zb, .zb, .zb, .zb, .zb, .zb], false⟩),
  (126, ⟨.slice 125, 1, 24, [.zl], false⟩),
  (127, ⟨.slice 4, 1, 24, [.zl], false⟩),
  (128, ⟨.slice 200, 1, 24, [.zl], false⟩),
  (130, ⟨.struct [(0, 125), (16, 3), (17, 126), (18, 127), (19, 127), (20, 128)], 21, 120, [.zb, .zb, .zb, .zb, .zb, .zb, .zb, .zb, .zb, .zb, .zb, .zb, .zb, .zb, .zb, .zb, .zi .i64, .zl, .zl, .zl, .zl], false⟩),
  (133, ⟨.ptr 203, 1, 8, [.zp], false⟩),
  (146, ⟨.ptr 148, 1, 8, [.zp], false⟩),
  (148, ⟨.struct [(0, 22), (1, 3), (2, 4)], 3, 40, [.zl, .zi .i64, .zb], false⟩),
  (151, ⟨.struct [(0, 22), (1, 3), (2, 4)], 3, 40, [.zl, .zi .i64, .zb], false⟩),
  (157, ⟨.struct [(0, 91), (2, 9)], 3, 32, [.zi .i64, .zi .i64, .zs], true⟩),
  (189, ⟨.ptr 195, 1, 8, [.zp], false⟩),
  (192, ⟨.array 16 113, 16, 384, [.zl, .zl, .zl, .zl, .zl, .zl, .zl, .zl, .zl, .zl, .zl, .zl, .zl, .zl, .zl, .zl], false⟩),
  (200, ⟨.struct [(0, 3), (1, 9)], 2, 24, [.zi .i64, .zs], true⟩),
  (203, ⟨.struct [(0, 22), (1, 3), (2, 3)], 3, 40, [.zl, .zi .i64, .zi .i64], false⟩),
  (207, ⟨.ptr 151, 1, 8, [.zp], false⟩),
  (210, ⟨.struct [(0, 86), (2, 9)], 3, 32, [.zi .i64, .zi .i64, .zs], true⟩),
  (215, ⟨.slice 75, 1, 24, [.zl], false⟩),
  (222, ⟨.array 9 3, 9, 72, [.zi .i64, .zi .i64, .zi .i64, .zi .i64, .zi .i64, .zi .i64, .zi .i64, .zi .i64, .zi .i64], false⟩),
  (224, ⟨.int .u64, 1, 8, [.zi .u64], false⟩),
  (225, ⟨.int .u64, 1, 8, [.zi .u64], false⟩),
  (232, ⟨.slice 113, 1, 24, [.zl], false⟩),
  (238, ⟨.int .u32, 1, 4, [.zi .u32], false⟩),
  (251, ⟨.slice 91, 1, 24, [.zl], false⟩)]
def lk : List (TypeId × TyI) → TypeId → Option TyI
  | [], _ => none
  | (a, i) :: r, t => match Nat.beq t a with | true => some i | false => lk r t
theorem lk_ok (P : Program) : ∀ (l : List (TypeId × TyI)), l.all (fun x => tyOk P x.1 x.2) = true → ∀ t i, lk l t = some i → TyFacts P t i
  | [], _, _, _, h => by simp [lk] at h
  | (a, j) :: r, hl, t, i, h => by
    simp only [List.all_cons, Bool.and_eq_true] at hl
    simp only [lk] at h
    split at h
    · rename_i e; have := Nat.eq_of_beq_eq_true e; subst this; simp at h; subst h; exact tyOk_facts hl.1
    · exact lk_ok P r hl.2 t i h
def T : Tab Try.prog := ⟨lk tyList, by kernel_rfl, lk_ok Try.prog tyList (by kernel_rfl)⟩
def bodyOf (f : Func) : Code := match f.body with | some c => c | none => .skip
def plk (l : List (Nat × PS)) (i : Nat) : Option PS := match l with | [] => none | (j, p) :: r => match Nat.beq i j with | true => some p | false => plk r i
abbrev id_laws_FnThief : FuncId := 3
def pl_laws_FnThief : Nat → Option PS := plk []
theorem F_laws_FnThief {args : List SV} {Li : List Row} {mv : List Nat} {cl : Bool} {Post : SV → List Row → Prop} (h : wpE Try.prog (lk tyList) pl_laws_FnThief (bodyOf Try.f3) ⟨argT args, Lof Li, []⟩ (retE (lk tyList) Try.f3.results.toList Li.length mv cl Post)) (hN : args.length ≤ Try.f3.ntmps := by simp [Try.ntmps3]) :
    CallM Try.prog id_laws_FnThief args Li mv cl Post := CallM.ofE T pl_laws_FnThief Try.func3 (by kernel_rfl) rfl (by kernel_rfl) (by kernel_rfl) hN h
abbrev id_laws_FnCounter : FuncId := 4
def pl_laws_FnCounter : Nat → Option PS := plk []
theorem F_laws_FnCounter {args : List SV} {Li : List Row} {mv : List Nat} {cl : Bool} {Post : SV → List Row → Prop} (h : wpE Try.prog (lk tyList) pl_laws_FnCounter (bodyOf Try.f4) ⟨argT args, Lof Li, []⟩ (retE (lk tyList) Try.f4.results.toList Li.length mv cl Post)) (hN : args.length ≤ Try.f4.ntmps := by simp [Try.ntmps4]) :
    CallM Try.prog id_laws_FnCounter args Li mv cl Post := CallM.ofE T pl_laws_FnCounter Try.func4 (by kernel_rfl) rfl (by kernel_rfl) (by kernel_rfl) hN h
abbrev id_laws_FnSealed : FuncId := 5
def pl_laws_FnSealed : Nat → Option PS := plk [(15, .v 0 (.v 1 (.v 2 (.v 3 (.v 4 (.v 5 (.v 6 (.x 7 [5, 4, 3, 2, 1, 0] (.v 8 (.v 9 (.v 10 (.v 11 (.x 12 [] (.done))))))))))))))]
theorem F_laws_FnSealed {args : List SV} {Li : List Row} {mv : List Nat} {cl : Bool} {Post : SV → List Row → Prop} (h : wpE Try.prog (lk tyList) pl_laws_FnSealed (bodyOf Try.f5) ⟨argT args, Lof Li, []⟩ (retE (lk tyList) Try.f5.results.toList Li.length mv cl Post)) (hN : args.length ≤ Try.f5.ntmps := by simp [Try.ntmps5]) :
    CallM Try.prog id_laws_FnSealed args Li mv cl Post := CallM.ofE T pl_laws_FnSealed Try.func5 (by kernel_rfl) rfl (by kernel_rfl) (by kernel_rfl) hN h
abbrev id_laws_FnExactGetTexts : FuncId := 6
def pl_laws_FnExactGetTexts : Nat → Option PS := plk []
theorem F_laws_FnExactGetTexts {args : List SV} {Li : List Row} {mv : List Nat} {cl : Bool} {Post : SV → List Row → Prop} (h : wpE Try.prog (lk tyList) pl_laws_FnExactGetTexts (bodyOf Try.f6) ⟨argT args, Lof Li, []⟩ (retE (lk tyList) Try.f6.results.toList Li.length mv cl Post)) (hN : args.length ≤ Try.f6.ntmps := by simp [Try.ntmps6]) :
    CallM Try.prog id_laws_FnExactGetTexts args Li mv cl Post := CallM.ofE T pl_laws_FnExactGetTexts Try.func6 (by kernel_rfl) rfl (by kernel_rfl) (by kernel_rfl) hN h
abbrev id_laws_FnExactMultiWrite : FuncId := 7
def pl_laws_FnExactMultiWrite : Nat → Option PS := plk [(12, .v 0 (.v 1 (.x 2 [0] (.x 3 [] (.v 4 (.done))))))]
theorem F_laws_FnExactMultiWrite {args : List SV} {Li : List Row} {mv : List Nat} {cl : Bool} {Post : SV → List Row → Prop} (h : wpE Try.prog (lk tyList) pl_laws_FnExactMultiWrite (bodyOf Try.f7) ⟨argT args, Lof Li, []⟩ (retE (lk tyList) Try.f7.results.toList Li.length mv cl Post)) (hN : args.length ≤ Try.f7.ntmps := by simp [Try.ntmps7]) :
    CallM Try.prog id_laws_FnExactMultiWrite args Li mv cl Post := CallM.ofE T pl_laws_FnExactMultiWrite Try.func7 (by kernel_rfl) rfl (by kernel_rfl) (by kernel_rfl) hN h
abbrev id_laws_FnValues : FuncId := 8
def pl_laws_FnValues : Nat → Option PS := plk []
theorem F_laws_FnValues {args : List SV} {Li : List Row} {mv : List Nat} {cl : Bool} {Post : SV → List Row → Prop} (h : wpE Try.prog (lk tyList) pl_laws_FnValues (bodyOf Try.f8) ⟨argT args, Lof Li, []⟩ (retE (lk tyList) Try.f8.results.toList Li.length mv cl Post)) (hN : args.length ≤ Try.f8.ntmps := by simp [Try.ntmps8]) :
    CallM Try.prog id_laws_FnValues args Li mv cl Post := CallM.ofE T pl_laws_FnValues Try.func8 (by kernel_rfl) rfl (by kernel_rfl) (by kernel_rfl) hN h
abbrev id_laws_FnExactOpBytes : FuncId := 9
def pl_laws_FnExactOpBytes : Nat → Option PS := plk [(10, .v 0 (.v 1 (.x 2 [0] (.x 3 [] (.v 4 (.done))))))]
theorem F_laws_FnExactOpBytes {args : List SV} {Li : List Row} {mv : List Nat} {cl : Bool} {Post : SV → List Row → Prop} (h : wpE Try.prog (lk tyList) pl_laws_FnExactOpBytes (bodyOf Try.f9) ⟨argT args, Lof Li, []⟩ (retE (lk tyList) Try.f9.results.toList Li.length mv cl Post)) (hN : args.length ≤ Try.f9.ntmps := by simp [Try.ntmps9]) :
    CallM Try.prog id_laws_FnExactOpBytes args Li mv cl Post := CallM.ofE T pl_laws_FnExactOpBytes Try.func9 (by kernel_rfl) rfl (by kernel_rfl) (by kernel_rfl) hN h
abbrev id_laws_FnExactRecordBytes : FuncId := 10
def pl_laws_FnExactRecordBytes : Nat → Option PS := plk [(10, .v 0 (.v 1 (.x 2 [0] (.x 3 [] (.v 4 (.done))))))]
theorem F_laws_FnExactRecordBytes {args : List SV} {Li : List Row} {mv : List Nat} {cl : Bool} {Post : SV → List Row → Prop} (h : wpE Try.prog (lk tyList) pl_laws_FnExactRecordBytes (bodyOf Try.f10) ⟨argT args, Lof Li, []⟩ (retE (lk tyList) Try.f10.results.toList Li.length mv cl Post)) (hN : args.length ≤ Try.f10.ntmps := by simp [Try.ntmps10]) :
    CallM Try.prog id_laws_FnExactRecordBytes args Li mv cl Post := CallM.ofE T pl_laws_FnExactRecordBytes Try.func10 (by kernel_rfl) rfl (by kernel_rfl) (by kernel_rfl) hN h
abbrev id_laws_FnBytes : FuncId := 11
def pl_laws_FnBytes : Nat → Option PS := plk [(34, .v 0 (.v 1 (.v 2 (.x 3 [1, 0] (.v 4 (.v 5 (.v 6 (.v 8 (.x 7 [8] (.x 9 [] (.v 10 (.v 11 (.done)))))))))))))]
theorem F_laws_FnBytes {args : List SV} {Li : List Row} {mv : List Nat} {cl : Bool} {Post : SV → List Row → Prop} (h : wpE Try.prog (lk tyList) pl_laws_FnBytes (bodyOf Try.f11) ⟨argT args, Lof Li, []⟩ (retE (lk tyList) Try.f11.results.toList Li.length mv cl Post)) (hN : args.length ≤ Try.f11.ntmps := by simp [Try.ntmps11]) :
    CallM Try.prog id_laws_FnBytes args Li mv cl Post := CallM.ofE T pl_laws_FnBytes Try.func11 (by kernel_rfl) rfl (by kernel_rfl) (by kernel_rfl) hN h
abbrev id_laws_FnExactReadRecords : FuncId := 12
def pl_laws_FnExactReadRecords : Nat → Option PS := plk []
theorem F_laws_FnExactReadRecords {args : List SV} {Li : List Row} {mv : List Nat} {cl : Bool} {Post : SV → List Row → Prop} (h : wpE Try.prog (lk tyList) pl_laws_FnExactReadRecords (bodyOf Try.f12) ⟨argT args, Lof Li, []⟩ (retE (lk tyList) Try.f12.results.toList Li.length mv cl Post)) (hN : args.length ≤ Try.f12.ntmps := by simp [Try.ntmps12]) :
    CallM Try.prog id_laws_FnExactReadRecords args Li mv cl Post := CallM.ofE T pl_laws_FnExactReadRecords Try.func12 (by kernel_rfl) rfl (by kernel_rfl) (by kernel_rfl) hN h
abbrev id_laws_FnRecords : FuncId := 13
def pl_laws_FnRecords : Nat → Option PS := plk []
theorem F_laws_FnRecords {args : List SV} {Li : List Row} {mv : List Nat} {cl : Bool} {Post : SV → List Row → Prop} (h : wpE Try.prog (lk tyList) pl_laws_FnRecords (bodyOf Try.f13) ⟨argT args, Lof Li, []⟩ (retE (lk tyList) Try.f13.results.toList Li.length mv cl Post)) (hN : args.length ≤ Try.f13.ntmps := by simp [Try.ntmps13]) :
    CallM Try.prog id_laws_FnRecords args Li mv cl Post := CallM.ofE T pl_laws_FnRecords Try.func13 (by kernel_rfl) rfl (by kernel_rfl) (by kernel_rfl) hN h
abbrev id_laws_FnSince : FuncId := 14
def pl_laws_FnSince : Nat → Option PS := plk [(16, .v 0 (.v 1 (.v 2 (.v 3 (.v 4 (.v 5 (.v 6 (.v 7 (.v 8 (.v 9 (.v 10 (.v 11 (.v 12 (.v 13 (.x 14 [] (.done))))))))))))))))]
theorem F_laws_FnSince {args : List SV} {Li : List Row} {mv : List Nat} {cl : Bool} {Post : SV → List Row → Prop} (h : wpE Try.prog (lk tyList) pl_laws_FnSince (bodyOf Try.f14) ⟨argT args, Lof Li, []⟩ (retE (lk tyList) Try.f14.results.toList Li.length mv cl Post)) (hN : args.length ≤ Try.f14.ntmps := by simp [Try.ntmps14]) :
    CallM Try.prog id_laws_FnSince args Li mv cl Post := CallM.ofE T pl_laws_FnSince Try.func14 (by kernel_rfl) rfl (by kernel_rfl) (by kernel_rfl) hN h
abbrev id_laws_at : FuncId := 15
def pl_laws_at : Nat → Option PS := plk [(5, .v 0 (.v 1 (.v 2 (.v 3 (.v 4 (.v 5 (.v 6 (.v 7 (.v 8 (.v 9 (.v 10 (.v 11 (.v 12 (.v 13 (.v 14 (.v 15 (.v 16 (.v 17 (.v 18 (.v 19 (.v 20 (.v 21 (.v 22 (.v 23 (.v 24 (.v 25 (.v 26 (.done))))))))))))))))))))))))))))]
theorem F_laws_at {args : List SV} {Li : List Row} {mv : List Nat} {cl : Bool} {Post : SV → List Row → Prop} (h : wpE Try.prog (lk tyList) pl_laws_at (bodyOf Try.f15) ⟨argT args, Lof Li, []⟩ (retE (lk tyList) Try.f15.results.toList Li.length mv cl Post)) (hN : args.length ≤ Try.f15.ntmps := by simp [Try.ntmps15]) :
    CallM Try.prog id_laws_at args Li mv cl Post := CallM.ofE T pl_laws_at Try.func15 (by kernel_rfl) rfl (by kernel_rfl) (by kernel_rfl) hN h
abbrev id_impl_GroupRun : FuncId := 16
def pl_impl_GroupRun : Nat → Option PS := plk [(9, .v 0 (.v 1 (.v 2 (.v 3 (.v 4 (.v 5 (.v 6 (.v 7 (.v 8 (.x 9 [4, 3, 2, 1, 0] (.x 10 [0] (.v 11 (.v 12 (.x 13 [] (.done)))))))))))))))]
theorem F_impl_GroupRun {args : List SV} {Li : List Row} {mv : List Nat} {cl : Bool} {Post : SV → List Row → Prop} (h : wpE Try.prog (lk tyList) pl_impl_GroupRun (bodyOf Try.f16) ⟨argT args, Lof Li, []⟩ (retE (lk tyList) Try.f16.results.toList Li.length mv cl Post)) (hN : args.length ≤ Try.f16.ntmps := by simp [Try.ntmps16]) :
    CallM Try.prog id_impl_GroupRun args Li mv cl Post := CallM.ofE T pl_impl_GroupRun Try.func16 (by kernel_rfl) rfl (by kernel_rfl) (by kernel_rfl) hN h
abbrev id_spec_DrawCounterJoin : FuncId := 17
def pl_spec_DrawCounterJoin : Nat → Option PS := plk []
theorem F_spec_DrawCounterJoin {args : List SV} {Li : List Row} {mv : List Nat} {cl : Bool} {Post : SV → List Row → Prop} (h : wpE Try.prog (lk tyList) pl_spec_DrawCounterJoin (bodyOf Try.f17) ⟨argT args, Lof Li, []⟩ (retE (lk tyList) Try.f17.results.toList Li.length mv cl Post)) (hN : args.length ≤ Try.f17.ntmps := by simp [Try.ntmps17]) :
    CallM Try.prog id_spec_DrawCounterJoin args Li mv cl Post := CallM.ofE T pl_spec_DrawCounterJoin Try.func17 (by kernel_rfl) rfl (by kernel_rfl) (by kernel_rfl) hN h
abbrev id_impl_CounterJoin : FuncId := 18
def pl_impl_CounterJoin : Nat → Option PS := plk [(3, .v 0 (.v 1 (.v 2 (.v 3 (.v 5 (.v 6 (.v 7 (.v 8 (.x 4 [8, 7, 6, 5] (.x 9 [] (.v 10 (.x 11 [] (.v 12 (.done))))))))))))))]
theorem F_impl_CounterJoin {args : List SV} {Li : List Row} {mv : List Nat} {cl : Bool} {Post : SV → List Row → Prop} (h : wpE Try.prog (lk tyList) pl_impl_CounterJoin (bodyOf Try.f18) ⟨argT args, Lof Li, []⟩ (retE (lk tyList) Try.f18.results.toList Li.length mv cl Post)) (hN : args.length ≤ Try.f18.ntmps := by simp [Try.ntmps18]) :
    CallM Try.prog id_impl_CounterJoin args Li mv cl Post := CallM.ofE T pl_impl_CounterJoin Try.func18 (by kernel_rfl) rfl (by kernel_rfl) (by kernel_rfl) hN h
abbrev id_spec_CounterJoin : FuncId := 19
def pl_spec_CounterJoin : Nat → Option PS := plk [(3, .v 0 (.v 1 (.v 2 (.v 3 (.v 5 (.v 6 (.v 7 (.v 8 (.x 4 [8, 7, 6, 5] (.x 9 [] (.v 10 (.x 11 [] (.v 12 (.done))))))))))))))]
theorem F_spec_CounterJoin {args : List SV} {Li : List Row} {mv : List Nat} {cl : Bool} {Post : SV → List Row → Prop} (h : wpE Try.prog (lk tyList) pl_spec_CounterJoin (bodyOf Try.f19) ⟨argT args, Lof Li, []⟩ (retE (lk tyList) Try.f19.results.toList Li.length mv cl Post)) (hN : args.length ≤ Try.f19.ntmps := by simp [Try.ntmps19]) :
    CallM Try.prog id_spec_CounterJoin args Li mv cl Post := CallM.ofE T pl_spec_CounterJoin Try.func19 (by kernel_rfl) rfl (by kernel_rfl) (by kernel_rfl) hN h
abbrev id_impl_CounterValue : FuncId := 20
def pl_impl_CounterValue : Nat → Option PS := plk [(7, .v 0 (.v 1 (.v 2 (.v 3 (.v 4 (.v 5 (.v 6 (.v 7 (.v 8 (.v 9 (.v 10 (.v 11 (.v 12 (.v 13 (.v 14 (.x 15 [] (.done)))))))))))))))))]
theorem F_impl_CounterValue {args : List SV} {Li : List Row} {mv : List Nat} {cl : Bool} {Post : SV → List Row → Prop} (h : wpE Try.prog (lk tyList) pl_impl_CounterValue (bodyOf Try.f20) ⟨argT args, Lof Li, []⟩ (retE (lk tyList) Try.f20.results.toList Li.length mv cl Post)) (hN : args.length ≤ Try.f20.ntmps := by simp [Try.ntmps20]) :
    CallM Try.prog id_impl_CounterValue args Li mv cl Post := CallM.ofE T pl_impl_CounterValue Try.func20 (by kernel_rfl) rfl (by kernel_rfl) (by kernel_rfl) hN h
abbrev id_spec_CounterValue : FuncId := 21
def pl_spec_CounterValue : Nat → Option PS := plk [(7, .v 0 (.v 1 (.v 2 (.v 3 (.v 4 (.v 5 (.v 6 (.v 7 (.v 8 (.v 9 (.v 10 (.v 11 (.v 12 (.v 13 (.v 14 (.x 15 [] (.done)))))))))))))))))]
theorem F_spec_CounterValue {args : List SV} {Li : List Row} {mv : List Nat} {cl : Bool} {Post : SV → List Row → Prop} (h : wpE Try.prog (lk tyList) pl_spec_CounterValue (bodyOf Try.f21) ⟨argT args, Lof Li, []⟩ (retE (lk tyList) Try.f21.results.toList Li.length mv cl Post)) (hN : args.length ≤ Try.f21.ntmps := by simp [Try.ntmps21]) :
    CallM Try.prog id_spec_CounterValue args Li mv cl Post := CallM.ofE T pl_spec_CounterValue Try.func21 (by kernel_rfl) rfl (by kernel_rfl) (by kernel_rfl) hN h
abbrev id_spec_DrawCounterAdd : FuncId := 22
def pl_spec_DrawCounterAdd : Nat → Option PS := plk []
theorem F_spec_DrawCounterAdd {args : List SV} {Li : List Row} {mv : List Nat} {cl : Bool} {Post : SV → List Row → Prop} (h : wpE Try.prog (lk tyList) pl_spec_DrawCounterAdd (bodyOf Try.f22) ⟨argT args, Lof Li, []⟩ (retE (lk tyList) Try.f22.results.toList Li.length mv cl Post)) (hN : args.length ≤ Try.f22.ntmps := by simp [Try.ntmps22]) :
    CallM Try.prog id_spec_DrawCounterAdd args Li mv cl Post := CallM.ofE T pl_spec_DrawCounterAdd Try.func22 (by kernel_rfl) rfl (by kernel_rfl) (by kernel_rfl) hN h
abbrev id_impl_CounterAdd : FuncId := 23
def pl_impl_CounterAdd : Nat → Option PS := plk [(5, .v 0 (.v 1 (.v 3 (.v 4 (.or (.x 2 [4, 3] (.or (.x 5 [] (.v 6 (.x 7 [6] (.x 8 [] (.done))))) (.x 7 [4, 3] (.x 5 [] (.v 6 (.x 8 [] (.done))))))) (.x 7 [4, 3, 1, 0] (.x 2 [4, 3] (.x 5 [] (.v 6 (.x 8 [] (.done)))))))))))]
theorem F_impl_CounterAdd {args : List SV} {Li : List Row} {mv : List Nat} {cl : Bool} {Post : SV → List Row → Prop} (h : wpE Try.prog (lk tyList) pl_impl_CounterAdd (bodyOf Try.f23) ⟨argT args, Lof Li, []⟩ (retE (lk tyList) Try.f23.results.toList Li.length mv cl Post)) (hN : args.length ≤ Try.f23.ntmps := by simp [Try.ntmps23]) :
    CallM Try.prog id_impl_CounterAdd args Li mv cl Post := CallM.ofE T pl_impl_CounterAdd Try.func23 (by kernel_rfl) rfl (by kernel_rfl) (by kernel_rfl) hN h
abbrev id_spec_CounterAdd : FuncId := 24
def pl_spec_CounterAdd : Nat → Option PS := plk [(5, .v 0 (.v 1 (.v 3 (.v 4 (.or (.x 2 [4, 3] (.or (.x 5 [] (.v 6 (.x 7 [6] (.x 8 [] (.done))))) (.x 7 [4, 3] (.x 5 [] (.v 6 (.x 8 [] (.done))))))) (.x 7 [4, 3, 1, 0] (.x 2 [4, 3] (.x 5 [] (.v 6 (.x 8 [] (.done))))))))))),
  (7, .v 0 (.v 1 (.v 2 (.v 3 (.v 4 (.v 5 (.v 6 (.v 7 (.v 8 (.v 9 (.v 10 (.v 11 (.v 12 (.x 13 [] (.done))))))))))))))),
  (8, .v 0 (.v 1 (.v 2 (.v 3 (.v 4 (.v 5 (.v 6 (.v 7 (.v 8 (.v 9 (.v 10 (.v 11 (.v 12 (.x 13 [] (.done)))))))))))))))]
theorem F_spec_CounterAdd {args : List SV} {Li : List Row} {mv : List Nat} {cl : Bool} {Post : SV → List Row → Prop} (h : wpE Try.prog (lk tyList) pl_spec_CounterAdd (bodyOf Try.f24) ⟨argT args, Lof Li, []⟩ (retE (lk tyList) Try.f24.results.toList Li.length mv cl Post)) (hN : args.length ≤ Try.f24.ntmps := by simp [Try.ntmps24]) :
    CallM Try.prog id_spec_CounterAdd args Li mv cl Post := CallM.ofE T pl_spec_CounterAdd Try.func24 (by kernel_rfl) rfl (by kernel_rfl) (by kernel_rfl) hN h
abbrev id_spec_DrawSealText : FuncId := 25
def pl_spec_DrawSealText : Nat → Option PS := plk []
theorem F_spec_DrawSealText {args : List SV} {Li : List Row} {mv : List Nat} {cl : Bool} {Post : SV → List Row → Prop} (h : wpE Try.prog (lk tyList) pl_spec_DrawSealText (bodyOf Try.f25) ⟨argT args, Lof Li, []⟩ (retE (lk tyList) Try.f25.results.toList Li.length mv cl Post)) (hN : args.length ≤ Try.f25.ntmps := by simp [Try.ntmps25]) :
    CallM Try.prog id_spec_DrawSealText args Li mv cl Post := CallM.ofE T pl_spec_DrawSealText Try.func25 (by kernel_rfl) rfl (by kernel_rfl) (by kernel_rfl) hN h
abbrev id_spec_SealText : FuncId := 26
def pl_spec_SealText : Nat → Option PS := plk []
theorem F_spec_SealText {args : List SV} {Li : List Row} {mv : List Nat} {cl : Bool} {Post : SV → List Row → Prop} (h : wpE Try.prog (lk tyList) pl_spec_SealText (bodyOf Try.f26) ⟨argT args, Lof Li, []⟩ (retE (lk tyList) Try.f26.results.toList Li.length mv cl Post)) (hN : args.length ≤ Try.f26.ntmps := by simp [Try.ntmps26]) :
    CallM Try.prog id_spec_SealText args Li mv cl Post := CallM.ofE T pl_spec_SealText Try.func26 (by kernel_rfl) rfl (by kernel_rfl) (by kernel_rfl) hN h
abbrev id_impl_SealText : FuncId := 27
def pl_impl_SealText : Nat → Option PS := plk []
theorem F_impl_SealText {args : List SV} {Li : List Row} {mv : List Nat} {cl : Bool} {Post : SV → List Row → Prop} (h : wpE Try.prog (lk tyList) pl_impl_SealText (bodyOf Try.f27) ⟨argT args, Lof Li, []⟩ (retE (lk tyList) Try.f27.results.toList Li.length mv cl Post)) (hN : args.length ≤ Try.f27.ntmps := by simp [Try.ntmps27]) :
    CallM Try.prog id_impl_SealText args Li mv cl Post := CallM.ofE T pl_impl_SealText Try.func27 (by kernel_rfl) rfl (by kernel_rfl) (by kernel_rfl) hN h
abbrev id_impl_OpenText : FuncId := 28
def pl_impl_OpenText : Nat → Option PS := plk [(8, .v 0 (.v 1 (.v 2 (.v 5 (.v 6 (.v 7 (.v 8 (.v 9 (.x 3 [9, 8, 7, 6, 5] (.v 4 (.v 10 (.done))))))))))))]
theorem F_impl_OpenText {args : List SV} {Li : List Row} {mv : List Nat} {cl : Bool} {Post : SV → List Row → Prop} (h : wpE Try.prog (lk tyList) pl_impl_OpenText (bodyOf Try.f28) ⟨argT args, Lof Li, []⟩ (retE (lk tyList) Try.f28.results.toList Li.length mv cl Post)) (hN : args.length ≤ Try.f28.ntmps := by simp [Try.ntmps28]) :
    CallM Try.prog id_impl_OpenText args Li mv cl Post := CallM.ofE T pl_impl_OpenText Try.func28 (by kernel_rfl) rfl (by kernel_rfl) (by kernel_rfl) hN h
abbrev id_spec_OpenText : FuncId := 29
def pl_spec_OpenText : Nat → Option PS := plk [(8, .v 0 (.v 1 (.v 3 (.v 7 (.v 8 (.v 9 (.v 10 (.v 11 (.x 2 [11, 10, 9, 8, 7, 3, 0] (.x 4 [11, 10, 9, 8, 7, 0] (.x 5 [11, 10, 9, 8, 7] (.v 6 (.v 12 (.done))))))))))))))]
theorem F_spec_OpenText {args : List SV} {Li : List Row} {mv : List Nat} {cl : Bool} {Post : SV → List Row → Prop} (h : wpE Try.prog (lk tyList) pl_spec_OpenText (bodyOf Try.f29) ⟨argT args, Lof Li, []⟩ (retE (lk tyList) Try.f29.results.toList Li.length mv cl Post)) (hN : args.length ≤ Try.f29.ntmps := by simp [Try.ntmps29]) :
    CallM Try.prog id_spec_OpenText args Li mv cl Post := CallM.ofE T pl_spec_OpenText Try.func29 (by kernel_rfl) rfl (by kernel_rfl) (by kernel_rfl) hN h
abbrev id_spec_GetTexts : FuncId := 30
def pl_spec_GetTexts : Nat → Option PS := plk []
theorem F_spec_GetTexts {args : List SV} {Li : List Row} {mv : List Nat} {cl : Bool} {Post : SV → List Row → Prop} (h : wpE Try.prog (lk tyList) pl_spec_GetTexts (bodyOf Try.f30) ⟨argT args, Lof Li, []⟩ (retE (lk tyList) Try.f30.results.toList Li.length mv cl Post)) (hN : args.length ≤ Try.f30.ntmps := by simp [Try.ntmps30]) :
    CallM Try.prog id_spec_GetTexts args Li mv cl Post := CallM.ofE T pl_spec_GetTexts Try.func30 (by kernel_rfl) rfl (by kernel_rfl) (by kernel_rfl) hN h
abbrev id_laws_toByteS : FuncId := 31
def pl_laws_toByteS : Nat → Option PS := plk []
theorem F_laws_toByteS {args : List SV} {Li : List Row} {mv : List Nat} {cl : Bool} {Post : SV → List Row → Prop} (h : wpE Try.prog (lk tyList) pl_laws_toByteS (bodyOf Try.f31) ⟨argT args, Lof Li, []⟩ (retE (lk tyList) Try.f31.results.toList Li.length mv cl Post)) (hN : args.length ≤ Try.f31.ntmps := by simp [Try.ntmps31]) :
    CallM Try.prog id_laws_toByteS args Li mv cl Post := CallM.ofE T pl_laws_toByteS Try.func31 (by kernel_rfl) rfl (by kernel_rfl) (by kernel_rfl) hN h
abbrev id_impl_GetTexts : FuncId := 32
def pl_impl_GetTexts : Nat → Option PS := plk []
theorem F_impl_GetTexts {args : List SV} {Li : List Row} {mv : List Nat} {cl : Bool} {Post : SV → List Row → Prop} (h : wpE Try.prog (lk tyList) pl_impl_GetTexts (bodyOf Try.f32) ⟨argT args, Lof Li, []⟩ (retE (lk tyList) Try.f32.results.toList Li.length mv cl Post)) (hN : args.length ≤ Try.f32.ntmps := by simp [Try.ntmps32]) :
    CallM Try.prog id_impl_GetTexts args Li mv cl Post := CallM.ofE T pl_impl_GetTexts Try.func32 (by kernel_rfl) rfl (by kernel_rfl) (by kernel_rfl) hN h
abbrev id_laws_eqStringS : FuncId := 33
def pl_laws_eqStringS : Nat → Option PS := plk [(6, .v 0 (.v 1 (.v 2 (.v 3 (.v 4 (.v 5 (.v 6 (.v 7 (.v 8 (.done))))))))))]
theorem F_laws_eqStringS {args : List SV} {Li : List Row} {mv : List Nat} {cl : Bool} {Post : SV → List Row → Prop} (h : wpE Try.prog (lk tyList) pl_laws_eqStringS (bodyOf Try.f33) ⟨argT args, Lof Li, []⟩ (retE (lk tyList) Try.f33.results.toList Li.length mv cl Post)) (hN : args.length ≤ Try.f33.ntmps := by simp [Try.ntmps33]) :
    CallM Try.prog id_laws_eqStringS args Li mv cl Post := CallM.ofE T pl_laws_eqStringS Try.func33 (by kernel_rfl) rfl (by kernel_rfl) (by kernel_rfl) hN h
abbrev id_laws_eqByteS : FuncId := 34
def pl_laws_eqByteS : Nat → Option PS := plk [(6, .v 0 (.v 1 (.v 2 (.v 3 (.v 4 (.v 5 (.v 6 (.v 7 (.v 8 (.done))))))))))]
theorem F_laws_eqByteS {args : List SV} {Li : List Row} {mv : List Nat} {cl : Bool} {Post : SV → List Row → Prop} (h : wpE Try.prog (lk tyList) pl_laws_eqByteS (bodyOf Try.f34) ⟨argT args, Lof Li, []⟩ (retE (lk tyList) Try.f34.results.toList Li.length mv cl Post)) (hN : args.length ≤ Try.f34.ntmps := by simp [Try.ntmps34]) :
    CallM Try.prog id_laws_eqByteS args Li mv cl Post := CallM.ofE T pl_laws_eqByteS Try.func34 (by kernel_rfl) rfl (by kernel_rfl) (by kernel_rfl) hN h
abbrev id_laws_markByteS : FuncId := 35
def pl_laws_markByteS : Nat → Option PS := plk []
theorem F_laws_markByteS {args : List SV} {Li : List Row} {mv : List Nat} {cl : Bool} {Post : SV → List Row → Prop} (h : wpE Try.prog (lk tyList) pl_laws_markByteS (bodyOf Try.f35) ⟨argT args, Lof Li, []⟩ (retE (lk tyList) Try.f35.results.toList Li.length mv cl Post)) (hN : args.length ≤ Try.f35.ntmps := by simp [Try.ntmps35]) :
    CallM Try.prog id_laws_markByteS args Li mv cl Post := CallM.ofE T pl_laws_markByteS Try.func35 (by kernel_rfl) rfl (by kernel_rfl) (by kernel_rfl) hN h
abbrev id_laws_markStringS : FuncId := 36
def pl_laws_markStringS : Nat → Option PS := plk []
theorem F_laws_markStringS {args : List SV} {Li : List Row} {mv : List Nat} {cl : Bool} {Post : SV → List Row → Prop} (h : wpE Try.prog (lk tyList) pl_laws_markStringS (bodyOf Try.f36) ⟨argT args, Lof Li, []⟩ (retE (lk tyList) Try.f36.results.toList Li.length mv cl Post)) (hN : args.length ≤ Try.f36.ntmps := by simp [Try.ntmps36]) :
    CallM Try.prog id_laws_markStringS args Li mv cl Post := CallM.ofE T pl_laws_markStringS Try.func36 (by kernel_rfl) rfl (by kernel_rfl) (by kernel_rfl) hN h
abbrev id_laws_heldStringS : FuncId := 37
def pl_laws_heldStringS : Nat → Option PS := plk [(4, .v 0 (.v 1 (.v 2 (.v 3 (.v 4 (.x 5 [3, 2, 1, 0] (.v 6 (.done))))))))]
theorem F_laws_heldStringS {args : List SV} {Li : List Row} {mv : List Nat} {cl : Bool} {Post : SV → List Row → Prop} (h : wpE Try.prog (lk tyList) pl_laws_heldStringS (bodyOf Try.f37) ⟨argT args, Lof Li, []⟩ (retE (lk tyList) Try.f37.results.toList Li.length mv cl Post)) (hN : args.length ≤ Try.f37.ntmps := by simp [Try.ntmps37]) :
    CallM Try.prog id_laws_heldStringS args Li mv cl Post := CallM.ofE T pl_laws_heldStringS Try.func37 (by kernel_rfl) rfl (by kernel_rfl) (by kernel_rfl) hN h
abbrev id_laws_szMulti : FuncId := 38
def pl_laws_szMulti : Nat → Option PS := plk []
theorem F_laws_szMulti {args : List SV} {Li : List Row} {mv : List Nat} {cl : Bool} {Post : SV → List Row → Prop} (h : wpE Try.prog (lk tyList) pl_laws_szMulti (bodyOf Try.f38) ⟨argT args, Lof Li, []⟩ (retE (lk tyList) Try.f38.results.toList Li.length mv cl Post)) (hN : args.length ≤ Try.f38.ntmps := by simp [Try.ntmps38]) :
    CallM Try.prog id_laws_szMulti args Li mv cl Post := CallM.ofE T pl_laws_szMulti Try.func38 (by kernel_rfl) rfl (by kernel_rfl) (by kernel_rfl) hN h
abbrev id_spec_MultiWrite : FuncId := 39
def pl_spec_MultiWrite : Nat → Option PS := plk []
theorem F_spec_MultiWrite {args : List SV} {Li : List Row} {mv : List Nat} {cl : Bool} {Post : SV → List Row → Prop} (h : wpE Try.prog (lk tyList) pl_spec_MultiWrite (bodyOf Try.f39) ⟨argT args, Lof Li, []⟩ (retE (lk tyList) Try.f39.results.toList Li.length mv cl Post)) (hN : args.length ≤ Try.f39.ntmps := by simp [Try.ntmps39]) :
    CallM Try.prog id_spec_MultiWrite args Li mv cl Post := CallM.ofE T pl_spec_MultiWrite Try.func39 (by kernel_rfl) rfl (by kernel_rfl) (by kernel_rfl) hN h
abbrev id_laws_toMulti : FuncId := 40
def pl_laws_toMulti : Nat → Option PS := plk []
theorem F_laws_toMulti {args : List SV} {Li : List Row} {mv : List Nat} {cl : Bool} {Post : SV → List Row → Prop} (h : wpE Try.prog (lk tyList) pl_laws_toMulti (bodyOf Try.f40) ⟨argT args, Lof Li, []⟩ (retE (lk tyList) Try.f40.results.toList Li.length mv cl Post)) (hN : args.length ≤ Try.f40.ntmps := by simp [Try.ntmps40]) :
    CallM Try.prog id_laws_toMulti args Li mv cl Post := CallM.ofE T pl_laws_toMulti Try.func40 (by kernel_rfl) rfl (by kernel_rfl) (by kernel_rfl) hN h
abbrev id_impl_MultiWrite : FuncId := 41
def pl_impl_MultiWrite : Nat → Option PS := plk []
theorem F_impl_MultiWrite {args : List SV} {Li : List Row} {mv : List Nat} {cl : Bool} {Post : SV → List Row → Prop} (h : wpE Try.prog (lk tyList) pl_impl_MultiWrite (bodyOf Try.f41) ⟨argT args, Lof Li, []⟩ (retE (lk tyList) Try.f41.results.toList Li.length mv cl Post)) (hN : args.length ≤ Try.f41.ntmps := by simp [Try.ntmps41]) :
    CallM Try.prog id_impl_MultiWrite args Li mv cl Post := CallM.ofE T pl_impl_MultiWrite Try.func41 (by kernel_rfl) rfl (by kernel_rfl) (by kernel_rfl) hN h
abbrev id_laws_eqMulti : FuncId := 42
def pl_laws_eqMulti : Nat → Option PS := plk []
theorem F_laws_eqMulti {args : List SV} {Li : List Row} {mv : List Nat} {cl : Bool} {Post : SV → List Row → Prop} (h : wpE Try.prog (lk tyList) pl_laws_eqMulti (bodyOf Try.f42) ⟨argT args, Lof Li, []⟩ (retE (lk tyList) Try.f42.results.toList Li.length mv cl Post)) (hN : args.length ≤ Try.f42.ntmps := by simp [Try.ntmps42]) :
    CallM Try.prog id_laws_eqMulti args Li mv cl Post := CallM.ofE T pl_laws_eqMulti Try.func42 (by kernel_rfl) rfl (by kernel_rfl) (by kernel_rfl) hN h
abbrev id_laws_markMulti : FuncId := 43
def pl_laws_markMulti : Nat → Option PS := plk []
theorem F_laws_markMulti {args : List SV} {Li : List Row} {mv : List Nat} {cl : Bool} {Post : SV → List Row → Prop} (h : wpE Try.prog (lk tyList) pl_laws_markMulti (bodyOf Try.f43) ⟨argT args, Lof Li, []⟩ (retE (lk tyList) Try.f43.results.toList Li.length mv cl Post)) (hN : args.length ≤ Try.f43.ntmps := by simp [Try.ntmps43]) :
    CallM Try.prog id_laws_markMulti args Li mv cl Post := CallM.ofE T pl_laws_markMulti Try.func43 (by kernel_rfl) rfl (by kernel_rfl) (by kernel_rfl) hN h
abbrev id_laws_heldMulti : FuncId := 44
def pl_laws_heldMulti : Nat → Option PS := plk []
theorem F_laws_heldMulti {args : List SV} {Li : List Row} {mv : List Nat} {cl : Bool} {Post : SV → List Row → Prop} (h : wpE Try.prog (lk tyList) pl_laws_heldMulti (bodyOf Try.f44) ⟨argT args, Lof Li, []⟩ (retE (lk tyList) Try.f44.results.toList Li.length mv cl Post)) (hN : args.length ≤ Try.f44.ntmps := by simp [Try.ntmps44]) :
    CallM Try.prog id_laws_heldMulti args Li mv cl Post := CallM.ofE T pl_laws_heldMulti Try.func44 (by kernel_rfl) rfl (by kernel_rfl) (by kernel_rfl) hN h
abbrev id_spec_DrawSetJoin : FuncId := 45
def pl_spec_DrawSetJoin : Nat → Option PS := plk [(2, .v 0 (.v 1 (.x 2 [1] (.x 3 [] (.done)))))]
theorem F_spec_DrawSetJoin {args : List SV} {Li : List Row} {mv : List Nat} {cl : Bool} {Post : SV → List Row → Prop} (h : wpE Try.prog (lk tyList) pl_spec_DrawSetJoin (bodyOf Try.f45) ⟨argT args, Lof Li, []⟩ (retE (lk tyList) Try.f45.results.toList Li.length mv cl Post)) (hN : args.length ≤ Try.f45.ntmps := by simp [Try.ntmps45]) :
    CallM Try.prog id_spec_DrawSetJoin args Li mv cl Post := CallM.ofE T pl_spec_DrawSetJoin Try.func45 (by kernel_rfl) rfl (by kernel_rfl) (by kernel_rfl) hN h
abbrev id_spec_SetJoin : FuncId := 46
def pl_spec_SetJoin : Nat → Option PS := plk []
theorem F_spec_SetJoin {args : List SV} {Li : List Row} {mv : List Nat} {cl : Bool} {Post : SV → List Row → Prop} (h : wpE Try.prog (lk tyList) pl_spec_SetJoin (bodyOf Try.f46) ⟨argT args, Lof Li, []⟩ (retE (lk tyList) Try.f46.results.toList Li.length mv cl Post)) (hN : args.length ≤ Try.f46.ntmps := by simp [Try.ntmps46]) :
    CallM Try.prog id_spec_SetJoin args Li mv cl Post := CallM.ofE T pl_spec_SetJoin Try.func46 (by kernel_rfl) rfl (by kernel_rfl) (by kernel_rfl) hN h
abbrev id_impl_SetJoin : FuncId := 47
def pl_impl_SetJoin : Nat → Option PS := plk []
theorem F_impl_SetJoin {args : List SV} {Li : List Row} {mv : List Nat} {cl : Bool} {Post : SV → List Row → Prop} (h : wpE Try.prog (lk tyList) pl_impl_SetJoin (bodyOf Try.f47) ⟨argT args, Lof Li, []⟩ (retE (lk tyList) Try.f47.results.toList Li.length mv cl Post)) (hN : args.length ≤ Try.f47.ntmps := by simp [Try.ntmps47]) :
    CallM Try.prog id_impl_SetJoin args Li mv cl Post := CallM.ofE T pl_impl_SetJoin Try.func47 (by kernel_rfl) rfl (by kernel_rfl) (by kernel_rfl) hN h
abbrev id_laws_sameInts : FuncId := 48
def pl_laws_sameInts : Nat → Option PS := plk [(6, .v 0 (.v 1 (.v 2 (.v 3 (.v 4 (.v 5 (.v 6 (.v 7 (.v 8 (.done))))))))))]
theorem F_laws_sameInts {args : List SV} {Li : List Row} {mv : List Nat} {cl : Bool} {Post : SV → List Row → Prop} (h : wpE Try.prog (lk tyList) pl_laws_sameInts (bodyOf Try.f48) ⟨argT args, Lof Li, []⟩ (retE (lk tyList) Try.f48.results.toList Li.length mv cl Post)) (hN : args.length ≤ Try.f48.ntmps := by simp [Try.ntmps48]) :
    CallM Try.prog id_laws_sameInts args Li mv cl Post := CallM.ofE T pl_laws_sameInts Try.func48 (by kernel_rfl) rfl (by kernel_rfl) (by kernel_rfl) hN h
abbrev id_laws_sameEntries : FuncId := 49
def pl_laws_sameEntries : Nat → Option PS := plk [(6, .v 0 (.v 1 (.v 2 (.v 3 (.v 4 (.v 5 (.v 6 (.v 7 (.v 8 (.done))))))))))]
theorem F_laws_sameEntries {args : List SV} {Li : List Row} {mv : List Nat} {cl : Bool} {Post : SV → List Row → Prop} (h : wpE Try.prog (lk tyList) pl_laws_sameEntries (bodyOf Try.f49) ⟨argT args, Lof Li, []⟩ (retE (lk tyList) Try.f49.results.toList Li.length mv cl Post)) (hN : args.length ≤ Try.f49.ntmps := by simp [Try.ntmps49]) :
    CallM Try.prog id_laws_sameEntries args Li mv cl Post := CallM.ofE T pl_laws_sameEntries Try.func49 (by kernel_rfl) rfl (by kernel_rfl) (by kernel_rfl) hN h
abbrev id_spec_DrawMultiJoin : FuncId := 50
def pl_spec_DrawMultiJoin : Nat → Option PS := plk []
theorem F_spec_DrawMultiJoin {args : List SV} {Li : List Row} {mv : List Nat} {cl : Bool} {Post : SV → List Row → Prop} (h : wpE Try.prog (lk tyList) pl_spec_DrawMultiJoin (bodyOf Try.f50) ⟨argT args, Lof Li, []⟩ (retE (lk tyList) Try.f50.results.toList Li.length mv cl Post)) (hN : args.length ≤ Try.f50.ntmps := by simp [Try.ntmps50]) :
    CallM Try.prog id_spec_DrawMultiJoin args Li mv cl Post := CallM.ofE T pl_spec_DrawMultiJoin Try.func50 (by kernel_rfl) rfl (by kernel_rfl) (by kernel_rfl) hN h
abbrev id_impl_MultiJoin : FuncId := 51
def pl_impl_MultiJoin : Nat → Option PS := plk []
theorem F_impl_MultiJoin {args : List SV} {Li : List Row} {mv : List Nat} {cl : Bool} {Post : SV → List Row → Prop} (h : wpE Try.prog (lk tyList) pl_impl_MultiJoin (bodyOf Try.f51) ⟨argT args, Lof Li, []⟩ (retE (lk tyList) Try.f51.results.toList Li.length mv cl Post)) (hN : args.length ≤ Try.f51.ntmps := by simp [Try.ntmps51]) :
    CallM Try.prog id_impl_MultiJoin args Li mv cl Post := CallM.ofE T pl_impl_MultiJoin Try.func51 (by kernel_rfl) rfl (by kernel_rfl) (by kernel_rfl) hN h
abbrev id_spec_MultiJoin : FuncId := 52
def pl_spec_MultiJoin : Nat → Option PS := plk []
theorem F_spec_MultiJoin {args : List SV} {Li : List Row} {mv : List Nat} {cl : Bool} {Post : SV → List Row → Prop} (h : wpE Try.prog (lk tyList) pl_spec_MultiJoin (bodyOf Try.f52) ⟨argT args, Lof Li, []⟩ (retE (lk tyList) Try.f52.results.toList Li.length mv cl Post)) (hN : args.length ≤ Try.f52.ntmps := by simp [Try.ntmps52]) :
    CallM Try.prog id_spec_MultiJoin args Li mv cl Post := CallM.ofE T pl_spec_MultiJoin Try.func52 (by kernel_rfl) rfl (by kernel_rfl) (by kernel_rfl) hN h
abbrev id_laws_szOp : FuncId := 53
def pl_laws_szOp : Nat → Option PS := plk []
theorem F_laws_szOp {args : List SV} {Li : List Row} {mv : List Nat} {cl : Bool} {Post : SV → List Row → Prop} (h : wpE Try.prog (lk tyList) pl_laws_szOp (bodyOf Try.f53) ⟨argT args, Lof Li, []⟩ (retE (lk tyList) Try.f53.results.toList Li.length mv cl Post)) (hN : args.length ≤ Try.f53.ntmps := by simp [Try.ntmps53]) :
    CallM Try.prog id_laws_szOp args Li mv cl Post := CallM.ofE T pl_laws_szOp Try.func53 (by kernel_rfl) rfl (by kernel_rfl) (by kernel_rfl) hN h
abbrev id_spec_OpBytes : FuncId := 54
def pl_spec_OpBytes : Nat → Option PS := plk []
theorem F_spec_OpBytes {args : List SV} {Li : List Row} {mv : List Nat} {cl : Bool} {Post : SV → List Row → Prop} (h : wpE Try.prog (lk tyList) pl_spec_OpBytes (bodyOf Try.f54) ⟨argT args, Lof Li, []⟩ (retE (lk tyList) Try.f54.results.toList Li.length mv cl Post)) (hN : args.length ≤ Try.f54.ntmps := by simp [Try.ntmps54]) :
    CallM Try.prog id_spec_OpBytes args Li mv cl Post := CallM.ofE T pl_spec_OpBytes Try.func54 (by kernel_rfl) rfl (by kernel_rfl) (by kernel_rfl) hN h
abbrev id_laws_toOp : FuncId := 55
def pl_laws_toOp : Nat → Option PS := plk []
theorem F_laws_toOp {args : List SV} {Li : List Row} {mv : List Nat} {cl : Bool} {Post : SV → List Row → Prop} (h : wpE Try.prog (lk tyList) pl_laws_toOp (bodyOf Try.f55) ⟨argT args, Lof Li, []⟩ (retE (lk tyList) Try.f55.results.toList Li.length mv cl Post)) (hN : args.length ≤ Try.f55.ntmps := by simp [Try.ntmps55]) :
    CallM Try.prog id_laws_toOp args Li mv cl Post := CallM.ofE T pl_laws_toOp Try.func55 (by kernel_rfl) rfl (by kernel_rfl) (by kernel_rfl) hN h
abbrev id_impl_OpBytes : FuncId := 56
def pl_impl_OpBytes : Nat → Option PS := plk []
theorem F_impl_OpBytes {args : List SV} {Li : List Row} {mv : List Nat} {cl : Bool} {Post : SV → List Row → Prop} (h : wpE Try.prog (lk tyList) pl_impl_OpBytes (bodyOf Try.f56) ⟨argT args, Lof Li, []⟩ (retE (lk tyList) Try.f56.results.toList Li.length mv cl Post)) (hN : args.length ≤ Try.f56.ntmps := by simp [Try.ntmps56]) :
    CallM Try.prog id_impl_OpBytes args Li mv cl Post := CallM.ofE T pl_impl_OpBytes Try.func56 (by kernel_rfl) rfl (by kernel_rfl) (by kernel_rfl) hN h
abbrev id_laws_eqOp : FuncId := 57
def pl_laws_eqOp : Nat → Option PS := plk []
theorem F_laws_eqOp {args : List SV} {Li : List Row} {mv : List Nat} {cl : Bool} {Post : SV → List Row → Prop} (h : wpE Try.prog (lk tyList) pl_laws_eqOp (bodyOf Try.f57) ⟨argT args, Lof Li, []⟩ (retE (lk tyList) Try.f57.results.toList Li.length mv cl Post)) (hN : args.length ≤ Try.f57.ntmps := by simp [Try.ntmps57]) :
    CallM Try.prog id_laws_eqOp args Li mv cl Post := CallM.ofE T pl_laws_eqOp Try.func57 (by kernel_rfl) rfl (by kernel_rfl) (by kernel_rfl) hN h
abbrev id_laws_markOp : FuncId := 58
def pl_laws_markOp : Nat → Option PS := plk []
theorem F_laws_markOp {args : List SV} {Li : List Row} {mv : List Nat} {cl : Bool} {Post : SV → List Row → Prop} (h : wpE Try.prog (lk tyList) pl_laws_markOp (bodyOf Try.f58) ⟨argT args, Lof Li, []⟩ (retE (lk tyList) Try.f58.results.toList Li.length mv cl Post)) (hN : args.length ≤ Try.f58.ntmps := by simp [Try.ntmps58]) :
    CallM Try.prog id_laws_markOp args Li mv cl Post := CallM.ofE T pl_laws_markOp Try.func58 (by kernel_rfl) rfl (by kernel_rfl) (by kernel_rfl) hN h
abbrev id_laws_heldByteS : FuncId := 59
def pl_laws_heldByteS : Nat → Option PS := plk []
theorem F_laws_heldByteS {args : List SV} {Li : List Row} {mv : List Nat} {cl : Bool} {Post : SV → List Row → Prop} (h : wpE Try.prog (lk tyList) pl_laws_heldByteS (bodyOf Try.f59) ⟨argT args, Lof Li, []⟩ (retE (lk tyList) Try.f59.results.toList Li.length mv cl Post)) (hN : args.length ≤ Try.f59.ntmps := by simp [Try.ntmps59]) :
    CallM Try.prog id_laws_heldByteS args Li mv cl Post := CallM.ofE T pl_laws_heldByteS Try.func59 (by kernel_rfl) rfl (by kernel_rfl) (by kernel_rfl) hN h
abbrev id_spec_RecordBytes : FuncId := 60
def pl_spec_RecordBytes : Nat → Option PS := plk []
theorem F_spec_RecordBytes {args : List SV} {Li : List Row} {mv : List Nat} {cl : Bool} {Post : SV → List Row → Prop} (h : wpE Try.prog (lk tyList) pl_spec_RecordBytes (bodyOf Try.f60) ⟨argT args, Lof Li, []⟩ (retE (lk tyList) Try.f60.results.toList Li.length mv cl Post)) (hN : args.length ≤ Try.f60.ntmps := by simp [Try.ntmps60]) :
    CallM Try.prog id_spec_RecordBytes args Li mv cl Post := CallM.ofE T pl_spec_RecordBytes Try.func60 (by kernel_rfl) rfl (by kernel_rfl) (by kernel_rfl) hN h
abbrev id_impl_RecordBytes : FuncId := 61
def pl_impl_RecordBytes : Nat → Option PS := plk []
theorem F_impl_RecordBytes {args : List SV} {Li : List Row} {mv : List Nat} {cl : Bool} {Post : SV → List Row → Prop} (h : wpE Try.prog (lk tyList) pl_impl_RecordBytes (bodyOf Try.f61) ⟨argT args, Lof Li, []⟩ (retE (lk tyList) Try.f61.results.toList Li.length mv cl Post)) (hN : args.length ≤ Try.f61.ntmps := by simp [Try.ntmps61]) :
    CallM Try.prog id_impl_RecordBytes args Li mv cl Post := CallM.ofE T pl_impl_RecordBytes Try.func61 (by kernel_rfl) rfl (by kernel_rfl) (by kernel_rfl) hN h
abbrev id_spec_DrawPutInt : FuncId := 62
def pl_spec_DrawPutInt : Nat → Option PS := plk []
theorem F_spec_DrawPutInt {args : List SV} {Li : List Row} {mv : List Nat} {cl : Bool} {Post : SV → List Row → Prop} (h : wpE Try.prog (lk tyList) pl_spec_DrawPutInt (bodyOf Try.f62) ⟨argT args, Lof Li, []⟩ (retE (lk tyList) Try.f62.results.toList Li.length mv cl Post)) (hN : args.length ≤ Try.f62.ntmps := by simp [Try.ntmps62]) :
    CallM Try.prog id_spec_DrawPutInt args Li mv cl Post := CallM.ofE T pl_spec_DrawPutInt Try.func62 (by kernel_rfl) rfl (by kernel_rfl) (by kernel_rfl) hN h
abbrev id_impl_PutInt : FuncId := 63
def pl_impl_PutInt : Nat → Option PS := plk []
theorem F_impl_PutInt {args : List SV} {Li : List Row} {mv : List Nat} {cl : Bool} {Post : SV → List Row → Prop} (h : wpE Try.prog (lk tyList) pl_impl_PutInt (bodyOf Try.f63) ⟨argT args, Lof Li, []⟩ (retE (lk tyList) Try.f63.results.toList Li.length mv cl Post)) (hN : args.length ≤ Try.f63.ntmps := by simp [Try.ntmps63]) :
    CallM Try.prog id_impl_PutInt args Li mv cl Post := CallM.ofE T pl_impl_PutInt Try.func63 (by kernel_rfl) rfl (by kernel_rfl) (by kernel_rfl) hN h
abbrev id_impl_GetInt : FuncId := 64
def pl_impl_GetInt : Nat → Option PS := plk [(9, .v 0 (.v 1 (.v 2 (.v 3 (.v 4 (.v 5 (.done)))))))]
theorem F_impl_GetInt {args : List SV} {Li : List Row} {mv : List Nat} {cl : Bool} {Post : SV → List Row → Prop} (h : wpE Try.prog (lk tyList) pl_impl_GetInt (bodyOf Try.f64) ⟨argT args, Lof Li, []⟩ (retE (lk tyList) Try.f64.results.toList Li.length mv cl Post)) (hN : args.length ≤ Try.f64.ntmps := by simp [Try.ntmps64]) :
    CallM Try.prog id_impl_GetInt args Li mv cl Post := CallM.ofE T pl_impl_GetInt Try.func64 (by kernel_rfl) rfl (by kernel_rfl) (by kernel_rfl) hN h
abbrev id_spec_DrawPutTexts : FuncId := 65
def pl_spec_DrawPutTexts : Nat → Option PS := plk []
theorem F_spec_DrawPutTexts {args : List SV} {Li : List Row} {mv : List Nat} {cl : Bool} {Post : SV → List Row → Prop} (h : wpE Try.prog (lk tyList) pl_spec_DrawPutTexts (bodyOf Try.f65) ⟨argT args, Lof Li, []⟩ (retE (lk tyList) Try.f65.results.toList Li.length mv cl Post)) (hN : args.length ≤ Try.f65.ntmps := by simp [Try.ntmps65]) :
    CallM Try.prog id_spec_DrawPutTexts args Li mv cl Post := CallM.ofE T pl_spec_DrawPutTexts Try.func65 (by kernel_rfl) rfl (by kernel_rfl) (by kernel_rfl) hN h
abbrev id_impl_PutTexts : FuncId := 66
def pl_impl_PutTexts : Nat → Option PS := plk []
theorem F_impl_PutTexts {args : List SV} {Li : List Row} {mv : List Nat} {cl : Bool} {Post : SV → List Row → Prop} (h : wpE Try.prog (lk tyList) pl_impl_PutTexts (bodyOf Try.f66) ⟨argT args, Lof Li, []⟩ (retE (lk tyList) Try.f66.results.toList Li.length mv cl Post)) (hN : args.length ≤ Try.f66.ntmps := by simp [Try.ntmps66]) :
    CallM Try.prog id_impl_PutTexts args Li mv cl Post := CallM.ofE T pl_impl_PutTexts Try.func66 (by kernel_rfl) rfl (by kernel_rfl) (by kernel_rfl) hN h
abbrev id_spec_PutTexts : FuncId := 67
def pl_spec_PutTexts : Nat → Option PS := plk []
theorem F_spec_PutTexts {args : List SV} {Li : List Row} {mv : List Nat} {cl : Bool} {Post : SV → List Row → Prop} (h : wpE Try.prog (lk tyList) pl_spec_PutTexts (bodyOf Try.f67) ⟨argT args, Lof Li, []⟩ (retE (lk tyList) Try.f67.results.toList Li.length mv cl Post)) (hN : args.length ≤ Try.f67.ntmps := by simp [Try.ntmps67]) :
    CallM Try.prog id_spec_PutTexts args Li mv cl Post := CallM.ofE T pl_spec_PutTexts Try.func67 (by kernel_rfl) rfl (by kernel_rfl) (by kernel_rfl) hN h
abbrev id_laws_sameTexts : FuncId := 68
def pl_laws_sameTexts : Nat → Option PS := plk [(6, .v 0 (.v 1 (.v 2 (.v 3 (.v 4 (.v 5 (.v 6 (.v 7 (.v 8 (.done))))))))))]
theorem F_laws_sameTexts {args : List SV} {Li : List Row} {mv : List Nat} {cl : Bool} {Post : SV → List Row → Prop} (h : wpE Try.prog (lk tyList) pl_laws_sameTexts (bodyOf Try.f68) ⟨argT args, Lof Li, []⟩ (retE (lk tyList) Try.f68.results.toList Li.length mv cl Post)) (hN : args.length ≤ Try.f68.ntmps := by simp [Try.ntmps68]) :
    CallM Try.prog id_laws_sameTexts args Li mv cl Post := CallM.ofE T pl_laws_sameTexts Try.func68 (by kernel_rfl) rfl (by kernel_rfl) (by kernel_rfl) hN h
abbrev id_spec_DrawPutRuns : FuncId := 69
def pl_spec_DrawPutRuns : Nat → Option PS := plk []
theorem F_spec_DrawPutRuns {args : List SV} {Li : List Row} {mv : List Nat} {cl : Bool} {Post : SV → List Row → Prop} (h : wpE Try.prog (lk tyList) pl_spec_DrawPutRuns (bodyOf Try.f69) ⟨argT args, Lof Li, []⟩ (retE (lk tyList) Try.f69.results.toList Li.length mv cl Post)) (hN : args.length ≤ Try.f69.ntmps := by simp [Try.ntmps69]) :
    CallM Try.prog id_spec_DrawPutRuns args Li mv cl Post := CallM.ofE T pl_spec_DrawPutRuns Try.func69 (by kernel_rfl) rfl (by kernel_rfl) (by kernel_rfl) hN h
abbrev id_impl_PutRuns : FuncId := 70
def pl_impl_PutRuns : Nat → Option PS := plk []
theorem F_impl_PutRuns {args : List SV} {Li : List Row} {mv : List Nat} {cl : Bool} {Post : SV → List Row → Prop} (h : wpE Try.prog (lk tyList) pl_impl_PutRuns (bodyOf Try.f70) ⟨argT args, Lof Li, []⟩ (retE (lk tyList) Try.f70.results.toList Li.length mv cl Post)) (hN : args.length ≤ Try.f70.ntmps := by simp [Try.ntmps70]) :
    CallM Try.prog id_impl_PutRuns args Li mv cl Post := CallM.ofE T pl_impl_PutRuns Try.func70 (by kernel_rfl) rfl (by kernel_rfl) (by kernel_rfl) hN h
abbrev id_spec_PutRuns : FuncId := 71
def pl_spec_PutRuns : Nat → Option PS := plk []
theorem F_spec_PutRuns {args : List SV} {Li : List Row} {mv : List Nat} {cl : Bool} {Post : SV → List Row → Prop} (h : wpE Try.prog (lk tyList) pl_spec_PutRuns (bodyOf Try.f71) ⟨argT args, Lof Li, []⟩ (retE (lk tyList) Try.f71.results.toList Li.length mv cl Post)) (hN : args.length ≤ Try.f71.ntmps := by simp [Try.ntmps71]) :
    CallM Try.prog id_spec_PutRuns args Li mv cl Post := CallM.ofE T pl_spec_PutRuns Try.func71 (by kernel_rfl) rfl (by kernel_rfl) (by kernel_rfl) hN h
abbrev id_impl_GetRuns : FuncId := 72
def pl_impl_GetRuns : Nat → Option PS := plk []
theorem F_impl_GetRuns {args : List SV} {Li : List Row} {mv : List Nat} {cl : Bool} {Post : SV → List Row → Prop} (h : wpE Try.prog (lk tyList) pl_impl_GetRuns (bodyOf Try.f72) ⟨argT args, Lof Li, []⟩ (retE (lk tyList) Try.f72.results.toList Li.length mv cl Post)) (hN : args.length ≤ Try.f72.ntmps := by simp [Try.ntmps72]) :
    CallM Try.prog id_impl_GetRuns args Li mv cl Post := CallM.ofE T pl_impl_GetRuns Try.func72 (by kernel_rfl) rfl (by kernel_rfl) (by kernel_rfl) hN h
abbrev id_spec_DrawVecBytes : FuncId := 73
def pl_spec_DrawVecBytes : Nat → Option PS := plk []
theorem F_spec_DrawVecBytes {args : List SV} {Li : List Row} {mv : List Nat} {cl : Bool} {Post : SV → List Row → Prop} (h : wpE Try.prog (lk tyList) pl_spec_DrawVecBytes (bodyOf Try.f73) ⟨argT args, Lof Li, []⟩ (retE (lk tyList) Try.f73.results.toList Li.length mv cl Post)) (hN : args.length ≤ Try.f73.ntmps := by simp [Try.ntmps73]) :
    CallM Try.prog id_spec_DrawVecBytes args Li mv cl Post := CallM.ofE T pl_spec_DrawVecBytes Try.func73 (by kernel_rfl) rfl (by kernel_rfl) (by kernel_rfl) hN h
abbrev id_impl_VecBytes : FuncId := 74
def pl_impl_VecBytes : Nat → Option PS := plk []
theorem F_impl_VecBytes {args : List SV} {Li : List Row} {mv : List Nat} {cl : Bool} {Post : SV → List Row → Prop} (h : wpE Try.prog (lk tyList) pl_impl_VecBytes (bodyOf Try.f74) ⟨argT args, Lof Li, []⟩ (retE (lk tyList) Try.f74.results.toList Li.length mv cl Post)) (hN : args.length ≤ Try.f74.ntmps := by simp [Try.ntmps74]) :
    CallM Try.prog id_impl_VecBytes args Li mv cl Post := CallM.ofE T pl_impl_VecBytes Try.func74 (by kernel_rfl) rfl (by kernel_rfl) (by kernel_rfl) hN h
abbrev id_spec_VecOK : FuncId := 75
def pl_spec_VecOK : Nat → Option PS := plk []
theorem F_spec_VecOK {args : List SV} {Li : List Row} {mv : List Nat} {cl : Bool} {Post : SV → List Row → Prop} (h : wpE Try.prog (lk tyList) pl_spec_VecOK (bodyOf Try.f75) ⟨argT args, Lof Li, []⟩ (retE (lk tyList) Try.f75.results.toList Li.length mv cl Post)) (hN : args.length ≤ Try.f75.ntmps := by simp [Try.ntmps75]) :
    CallM Try.prog id_spec_VecOK args Li mv cl Post := CallM.ofE T pl_spec_VecOK Try.func75 (by kernel_rfl) rfl (by kernel_rfl) (by kernel_rfl) hN h
abbrev id_impl_VecOK : FuncId := 76
def pl_impl_VecOK : Nat → Option PS := plk []
theorem F_impl_VecOK {args : List SV} {Li : List Row} {mv : List Nat} {cl : Bool} {Post : SV → List Row → Prop} (h : wpE Try.prog (lk tyList) pl_impl_VecOK (bodyOf Try.f76) ⟨argT args, Lof Li, []⟩ (retE (lk tyList) Try.f76.results.toList Li.length mv cl Post)) (hN : args.length ≤ Try.f76.ntmps := by simp [Try.ntmps76]) :
    CallM Try.prog id_impl_VecOK args Li mv cl Post := CallM.ofE T pl_impl_VecOK Try.func76 (by kernel_rfl) rfl (by kernel_rfl) (by kernel_rfl) hN h
abbrev id_impl_ReadVec : FuncId := 77
def pl_impl_ReadVec : Nat → Option PS := plk []
theorem F_impl_ReadVec {args : List SV} {Li : List Row} {mv : List Nat} {cl : Bool} {Post : SV → List Row → Prop} (h : wpE Try.prog (lk tyList) pl_impl_ReadVec (bodyOf Try.f77) ⟨argT args, Lof Li, []⟩ (retE (lk tyList) Try.f77.results.toList Li.length mv cl Post)) (hN : args.length ≤ Try.f77.ntmps := by simp [Try.ntmps77]) :
    CallM Try.prog id_impl_ReadVec args Li mv cl Post := CallM.ofE T pl_impl_ReadVec Try.func77 (by kernel_rfl) rfl (by kernel_rfl) (by kernel_rfl) hN h
abbrev id_spec_ReadRecords : FuncId := 78
def pl_spec_ReadRecords : Nat → Option PS := plk []
theorem F_spec_ReadRecords {args : List SV} {Li : List Row} {mv : List Nat} {cl : Bool} {Post : SV → List Row → Prop} (h : wpE Try.prog (lk tyList) pl_spec_ReadRecords (bodyOf Try.f78) ⟨argT args, Lof Li, []⟩ (retE (lk tyList) Try.f78.results.toList Li.length mv cl Post)) (hN : args.length ≤ Try.f78.ntmps := by simp [Try.ntmps78]) :
    CallM Try.prog id_spec_ReadRecords args Li mv cl Post := CallM.ofE T pl_spec_ReadRecords Try.func78 (by kernel_rfl) rfl (by kernel_rfl) (by kernel_rfl) hN h
abbrev id_impl_ReadRecords : FuncId := 79
def pl_impl_ReadRecords : Nat → Option PS := plk []
theorem F_impl_ReadRecords {args : List SV} {Li : List Row} {mv : List Nat} {cl : Bool} {Post : SV → List Row → Prop} (h : wpE Try.prog (lk tyList) pl_impl_ReadRecords (bodyOf Try.f79) ⟨argT args, Lof Li, []⟩ (retE (lk tyList) Try.f79.results.toList Li.length mv cl Post)) (hN : args.length ≤ Try.f79.ntmps := by simp [Try.ntmps79]) :
    CallM Try.prog id_impl_ReadRecords args Li mv cl Post := CallM.ofE T pl_impl_ReadRecords Try.func79 (by kernel_rfl) rfl (by kernel_rfl) (by kernel_rfl) hN h
abbrev id_laws_eqOpS : FuncId := 80
def pl_laws_eqOpS : Nat → Option PS := plk [(6, .v 0 (.v 1 (.v 2 (.v 3 (.v 4 (.v 5 (.v 6 (.v 7 (.x 8 [] (.v 9 (.done)))))))))))]
theorem F_laws_eqOpS {args : List SV} {Li : List Row} {mv : List Nat} {cl : Bool} {Post : SV → List Row → Prop} (h : wpE Try.prog (lk tyList) pl_laws_eqOpS (bodyOf Try.f80) ⟨argT args, Lof Li, []⟩ (retE (lk tyList) Try.f80.results.toList Li.length mv cl Post)) (hN : args.length ≤ Try.f80.ntmps := by simp [Try.ntmps80]) :
    CallM Try.prog id_laws_eqOpS args Li mv cl Post := CallM.ofE T pl_laws_eqOpS Try.func80 (by kernel_rfl) rfl (by kernel_rfl) (by kernel_rfl) hN h
abbrev id_laws_markOpS : FuncId := 81
def pl_laws_markOpS : Nat → Option PS := plk []
theorem F_laws_markOpS {args : List SV} {Li : List Row} {mv : List Nat} {cl : Bool} {Post : SV → List Row → Prop} (h : wpE Try.prog (lk tyList) pl_laws_markOpS (bodyOf Try.f81) ⟨argT args, Lof Li, []⟩ (retE (lk tyList) Try.f81.results.toList Li.length mv cl Post)) (hN : args.length ≤ Try.f81.ntmps := by simp [Try.ntmps81]) :
    CallM Try.prog id_laws_markOpS args Li mv cl Post := CallM.ofE T pl_laws_markOpS Try.func81 (by kernel_rfl) rfl (by kernel_rfl) (by kernel_rfl) hN h
abbrev id_laws_heldOpS : FuncId := 82
def pl_laws_heldOpS : Nat → Option PS := plk [(34, .v 0 (.v 1 (.v 2 (.v 3 (.v 4 (.v 5 (.x 6 [4, 3, 2, 1, 0] (.v 7 (.done))))))))),
  (37, .v 0 (.v 1 (.v 2 (.v 3 (.v 4 (.v 5 (.x 6 [4, 3, 2, 1, 0] (.v 7 (.done)))))))))]
theorem F_laws_heldOpS {args : List SV} {Li : List Row} {mv : List Nat} {cl : Bool} {Post : SV → List Row → Prop} (h : wpE Try.prog (lk tyList) pl_laws_heldOpS (bodyOf Try.f82) ⟨argT args, Lof Li, []⟩ (retE (lk tyList) Try.f82.results.toList Li.length mv cl Post)) (hN : args.length ≤ Try.f82.ntmps := by simp [Try.ntmps82]) :
    CallM Try.prog id_laws_heldOpS args Li mv cl Post := CallM.ofE T pl_laws_heldOpS Try.func82 (by kernel_rfl) rfl (by kernel_rfl) (by kernel_rfl) hN h
abbrev id_spec_DrawOpBytes : FuncId := 83
def pl_spec_DrawOpBytes : Nat → Option PS := plk []
theorem F_spec_DrawOpBytes {args : List SV} {Li : List Row} {mv : List Nat} {cl : Bool} {Post : SV → List Row → Prop} (h : wpE Try.prog (lk tyList) pl_spec_DrawOpBytes (bodyOf Try.f83) ⟨argT args, Lof Li, []⟩ (retE (lk tyList) Try.f83.results.toList Li.length mv cl Post)) (hN : args.length ≤ Try.f83.ntmps := by simp [Try.ntmps83]) :
    CallM Try.prog id_spec_DrawOpBytes args Li mv cl Post := CallM.ofE T pl_spec_DrawOpBytes Try.func83 (by kernel_rfl) rfl (by kernel_rfl) (by kernel_rfl) hN h
abbrev id_spec_DrawLogSince : FuncId := 84
def pl_spec_DrawLogSince : Nat → Option PS := plk []
theorem F_spec_DrawLogSince {args : List SV} {Li : List Row} {mv : List Nat} {cl : Bool} {Post : SV → List Row → Prop} (h : wpE Try.prog (lk tyList) pl_spec_DrawLogSince (bodyOf Try.f84) ⟨argT args, Lof Li, []⟩ (retE (lk tyList) Try.f84.results.toList Li.length mv cl Post)) (hN : args.length ≤ Try.f84.ntmps := by simp [Try.ntmps84]) :
    CallM Try.prog id_spec_DrawLogSince args Li mv cl Post := CallM.ofE T pl_spec_DrawLogSince Try.func84 (by kernel_rfl) rfl (by kernel_rfl) (by kernel_rfl) hN h
abbrev id_impl_LogSince : FuncId := 85
def pl_impl_LogSince : Nat → Option PS := plk [(11, .v 0 (.v 1 (.v 2 (.v 3 (.v 4 (.v 5 (.v 6 (.v 7 (.done)))))))))]
theorem F_impl_LogSince {args : List SV} {Li : List Row} {mv : List Nat} {cl : Bool} {Post : SV → List Row → Prop} (h : wpE Try.prog (lk tyList) pl_impl_LogSince (bodyOf Try.f85) ⟨argT args, Lof Li, []⟩ (retE (lk tyList) Try.f85.results.toList Li.length mv cl Post)) (hN : args.length ≤ Try.f85.ntmps := by simp [Try.ntmps85]) :
    CallM Try.prog id_impl_LogSince args Li mv cl Post := CallM.ofE T pl_impl_LogSince Try.func85 (by kernel_rfl) rfl (by kernel_rfl) (by kernel_rfl) hN h
abbrev id_spec_LogSince : FuncId := 86
def pl_spec_LogSince : Nat → Option PS := plk [(7, .v 0 (.v 1 (.v 2 (.v 3 (.v 4 (.v 5 (.v 6 (.v 7 (.v 8 (.v 9 (.v 10 (.v 11 (.v 12 (.v 13 (.v 14 (.done))))))))))))))))]
theorem F_spec_LogSince {args : List SV} {Li : List Row} {mv : List Nat} {cl : Bool} {Post : SV → List Row → Prop} (h : wpE Try.prog (lk tyList) pl_spec_LogSince (bodyOf Try.f86) ⟨argT args, Lof Li, []⟩ (retE (lk tyList) Try.f86.results.toList Li.length mv cl Post)) (hN : args.length ≤ Try.f86.ntmps := by simp [Try.ntmps86]) :
    CallM Try.prog id_spec_LogSince args Li mv cl Post := CallM.ofE T pl_spec_LogSince Try.func86 (by kernel_rfl) rfl (by kernel_rfl) (by kernel_rfl) hN h
abbrev id_laws_sameLog : FuncId := 87
def pl_laws_sameLog : Nat → Option PS := plk [(6, .v 0 (.v 1 (.v 2 (.v 3 (.v 4 (.v 5 (.v 6 (.v 7 (.x 8 [] (.v 9 (.done)))))))))))]
theorem F_laws_sameLog {args : List SV} {Li : List Row} {mv : List Nat} {cl : Bool} {Post : SV → List Row → Prop} (h : wpE Try.prog (lk tyList) pl_laws_sameLog (bodyOf Try.f87) ⟨argT args, Lof Li, []⟩ (retE (lk tyList) Try.f87.results.toList Li.length mv cl Post)) (hN : args.length ≤ Try.f87.ntmps := by simp [Try.ntmps87]) :
    CallM Try.prog id_laws_sameLog args Li mv cl Post := CallM.ofE T pl_laws_sameLog Try.func87 (by kernel_rfl) rfl (by kernel_rfl) (by kernel_rfl) hN h
abbrev id_impl_LogVector : FuncId := 88
def pl_impl_LogVector : Nat → Option PS := plk []
theorem F_impl_LogVector {args : List SV} {Li : List Row} {mv : List Nat} {cl : Bool} {Post : SV → List Row → Prop} (h : wpE Try.prog (lk tyList) pl_impl_LogVector (bodyOf Try.f88) ⟨argT args, Lof Li, []⟩ (retE (lk tyList) Try.f88.results.toList Li.length mv cl Post)) (hN : args.length ≤ Try.f88.ntmps := by simp [Try.ntmps88]) :
    CallM Try.prog id_impl_LogVector args Li mv cl Post := CallM.ofE T pl_impl_LogVector Try.func88 (by kernel_rfl) rfl (by kernel_rfl) (by kernel_rfl) hN h
abbrev id_impl_group_run : FuncId := 89
def pl_impl_group_run : Nat → Option PS := plk [(5, .v 0 (.v 1 (.v 2 (.v 3 (.v 4 (.v 5 (.v 6 (.v 7 (.done))))))))),
  (11, .v 0 (.v 1 (.v 2 (.v 3 (.v 4 (.v 5 (.x 6 [] (.done)))))))),
  (21, .v 0 (.v 1 (.v 2 (.v 3 (.v 4 (.v 5 (.x 6 [] (.done)))))))),
  (25, .v 0 (.v 1 (.v 2 (.v 3 (.v 4 (.v 5 (.v 7 (.v 8 (.x 6 [8, 7, 4, 3, 2, 1, 0] (.v 9 (.x 10 [4, 3, 2, 1, 0] (.x 11 [0] (.v 12 (.v 13 (.x 14 [] (.done)))))))))))))))),
  (33, .v 0 (.v 1 (.v 2 (.v 3 (.v 4 (.v 5 (.v 6 (.v 7 (.v 8 (.v 9 (.v 10 (.v 11 (.v 12 (.done)))))))))))))),
  (35, .v 0 (.v 1 (.v 2 (.v 3 (.v 4 (.v 5 (.v 6 (.v 7 (.v 8 (.x 9 [8, 7, 6, 5, 4, 3, 2, 1, 0] (.x 10 [] (.done)))))))))))),
  (36, .v 0 (.v 1 (.v 2 (.v 3 (.v 4 (.v 5 (.v 6 (.v 7 (.v 8 (.v 9 (.v 10 (.v 11 (.v 12 (.v 13 (.v 14 (.v 15 (.v 16 (.v 17 (.v 18 (.v 19 (.v 20 (.v 21 (.v 22 (.v 23 (.v 24 (.v 25 (.v 26 (.v 27 (.v 28 (.v 29 (.v 30 (.v 31 (.v 32 (.done))))))))))))))))))))))))))))))))))]
theorem F_impl_group_run {args : List SV} {Li : List Row} {mv : List Nat} {cl : Bool} {Post : SV → List Row → Prop} (h : wpE Try.prog (lk tyList) pl_impl_group_run (bodyOf Try.f89) ⟨argT args, Lof Li, []⟩ (retE (lk tyList) Try.f89.results.toList Li.length mv cl Post)) (hN : args.length ≤ Try.f89.ntmps := by simp [Try.ntmps89]) :
    CallM Try.prog id_impl_group_run args Li mv cl Post := CallM.ofE T pl_impl_group_run Try.func89 (by kernel_rfl) rfl (by kernel_rfl) (by kernel_rfl) hN h
abbrev id_impl_group_epoch : FuncId := 90
def pl_impl_group_epoch : Nat → Option PS := plk []
theorem F_impl_group_epoch {args : List SV} {Li : List Row} {mv : List Nat} {cl : Bool} {Post : SV → List Row → Prop} (h : wpE Try.prog (lk tyList) pl_impl_group_epoch (bodyOf Try.f90) ⟨argT args, Lof Li, []⟩ (retE (lk tyList) Try.f90.results.toList Li.length mv cl Post)) (hN : args.length ≤ Try.f90.ntmps := by simp [Try.ntmps90]) :
    CallM Try.prog id_impl_group_epoch args Li mv cl Post := CallM.ofE T pl_impl_group_epoch Try.func90 (by kernel_rfl) rfl (by kernel_rfl) (by kernel_rfl) hN h
abbrev id_spec_l01Source : FuncId := 91
def pl_spec_l01Source : Nat → Option PS := plk []
theorem F_spec_l01Source {args : List SV} {Li : List Row} {mv : List Nat} {cl : Bool} {Post : SV → List Row → Prop} (h : wpE Try.prog (lk tyList) pl_spec_l01Source (bodyOf Try.f91) ⟨argT args, Lof Li, []⟩ (retE (lk tyList) Try.f91.results.toList Li.length mv cl Post)) (hN : args.length ≤ Try.f91.ntmps := by simp [Try.ntmps91]) :
    CallM Try.prog id_spec_l01Source args Li mv cl Post := CallM.ofE T pl_spec_l01Source Try.func91 (by kernel_rfl) rfl (by kernel_rfl) (by kernel_rfl) hN h
abbrev id_spec_l03DrawCounter : FuncId := 92
def pl_spec_l03DrawCounter : Nat → Option PS := plk []
theorem F_spec_l03DrawCounter {args : List SV} {Li : List Row} {mv : List Nat} {cl : Bool} {Post : SV → List Row → Prop} (h : wpE Try.prog (lk tyList) pl_spec_l03DrawCounter (bodyOf Try.f92) ⟨argT args, Lof Li, []⟩ (retE (lk tyList) Try.f92.results.toList Li.length mv cl Post)) (hN : args.length ≤ Try.f92.ntmps := by simp [Try.ntmps92]) :
    CallM Try.prog id_spec_l03DrawCounter args Li mv cl Post := CallM.ofE T pl_spec_l03DrawCounter Try.func92 (by kernel_rfl) rfl (by kernel_rfl) (by kernel_rfl) hN h
abbrev id_impl_counterOK : FuncId := 93
def pl_impl_counterOK : Nat → Option PS := plk []
theorem F_impl_counterOK {args : List SV} {Li : List Row} {mv : List Nat} {cl : Bool} {Post : SV → List Row → Prop} (h : wpE Try.prog (lk tyList) pl_impl_counterOK (bodyOf Try.f93) ⟨argT args, Lof Li, []⟩ (retE (lk tyList) Try.f93.results.toList Li.length mv cl Post)) (hN : args.length ≤ Try.f93.ntmps := by simp [Try.ntmps93]) :
    CallM Try.prog id_impl_counterOK args Li mv cl Post := CallM.ofE T pl_impl_counterOK Try.func93 (by kernel_rfl) rfl (by kernel_rfl) (by kernel_rfl) hN h
abbrev id_impl_vecJoin : FuncId := 94
def pl_impl_vecJoin : Nat → Option PS := plk [(5, .v 0 (.v 1 (.v 2 (.v 3 (.v 4 (.v 5 (.v 6 (.v 7 (.v 8 (.v 9 (.v 10 (.v 11 (.v 12 (.v 13 (.x 14 [] (.done))))))))))))))))]
theorem F_impl_vecJoin {args : List SV} {Li : List Row} {mv : List Nat} {cl : Bool} {Post : SV → List Row → Prop} (h : wpE Try.prog (lk tyList) pl_impl_vecJoin (bodyOf Try.f94) ⟨argT args, Lof Li, []⟩ (retE (lk tyList) Try.f94.results.toList Li.length mv cl Post)) (hN : args.length ≤ Try.f94.ntmps := by simp [Try.ntmps94]) :
    CallM Try.prog id_impl_vecJoin args Li mv cl Post := CallM.ofE T pl_impl_vecJoin Try.func94 (by kernel_rfl) rfl (by kernel_rfl) (by kernel_rfl) hN h
abbrev id_spec_l03CounterOK : FuncId := 95
def pl_spec_l03CounterOK : Nat → Option PS := plk []
theorem F_spec_l03CounterOK {args : List SV} {Li : List Row} {mv : List Nat} {cl : Bool} {Post : SV → List Row → Prop} (h : wpE Try.prog (lk tyList) pl_spec_l03CounterOK (bodyOf Try.f95) ⟨argT args, Lof Li, []⟩ (retE (lk tyList) Try.f95.results.toList Li.length mv cl Post)) (hN : args.length ≤ Try.f95.ntmps := by simp [Try.ntmps95]) :
    CallM Try.prog id_spec_l03CounterOK args Li mv cl Post := CallM.ofE T pl_spec_l03CounterOK Try.func95 (by kernel_rfl) rfl (by kernel_rfl) (by kernel_rfl) hN h
abbrev id_spec_l02Join : FuncId := 96
def pl_spec_l02Join : Nat → Option PS := plk [(5, .v 0 (.v 1 (.v 2 (.v 3 (.v 4 (.v 5 (.v 6 (.v 7 (.v 8 (.v 9 (.v 10 (.v 11 (.v 12 (.x 13 [1, 0] (.x 14 [] (.v 15 (.x 16 [] (.done))))))))))))))))))]
theorem F_spec_l02Join {args : List SV} {Li : List Row} {mv : List Nat} {cl : Bool} {Post : SV → List Row → Prop} (h : wpE Try.prog (lk tyList) pl_spec_l02Join (bodyOf Try.f96) ⟨argT args, Lof Li, []⟩ (retE (lk tyList) Try.f96.results.toList Li.length mv cl Post)) (hN : args.length ≤ Try.f96.ntmps := by simp [Try.ntmps96]) :
    CallM Try.prog id_spec_l02Join args Li mv cl Post := CallM.ofE T pl_spec_l02Join Try.func96 (by kernel_rfl) rfl (by kernel_rfl) (by kernel_rfl) hN h
abbrev id_spec_l01Src_next : FuncId := 97
def pl_spec_l01Src_next : Nat → Option PS := plk []
theorem F_spec_l01Src_next {args : List SV} {Li : List Row} {mv : List Nat} {cl : Bool} {Post : SV → List Row → Prop} (h : wpE Try.prog (lk tyList) pl_spec_l01Src_next (bodyOf Try.f97) ⟨argT args, Lof Li, []⟩ (retE (lk tyList) Try.f97.results.toList Li.length mv cl Post)) (hN : args.length ≤ Try.f97.ntmps := by simp [Try.ntmps97]) :
    CallM Try.prog id_spec_l01Src_next args Li mv cl Post := CallM.ofE T pl_spec_l01Src_next Try.func97 (by kernel_rfl) rfl (by kernel_rfl) (by kernel_rfl) hN h
abbrev id_spec_l01Src_chance : FuncId := 98
def pl_spec_l01Src_chance : Nat → Option PS := plk []
theorem F_spec_l01Src_chance {args : List SV} {Li : List Row} {mv : List Nat} {cl : Bool} {Post : SV → List Row → Prop} (h : wpE Try.prog (lk tyList) pl_spec_l01Src_chance (bodyOf Try.f98) ⟨argT args, Lof Li, []⟩ (retE (lk tyList) Try.f98.results.toList Li.length mv cl Post)) (hN : args.length ≤ Try.f98.ntmps := by simp [Try.ntmps98]) :
    CallM Try.prog id_spec_l01Src_chance args Li mv cl Post := CallM.ofE T pl_spec_l01Src_chance Try.func98 (by kernel_rfl) rfl (by kernel_rfl) (by kernel_rfl) hN h
abbrev id_spec_l03Actor : FuncId := 99
def pl_spec_l03Actor : Nat → Option PS := plk []
theorem F_spec_l03Actor {args : List SV} {Li : List Row} {mv : List Nat} {cl : Bool} {Post : SV → List Row → Prop} (h : wpE Try.prog (lk tyList) pl_spec_l03Actor (bodyOf Try.f99) ⟨argT args, Lof Li, []⟩ (retE (lk tyList) Try.f99.results.toList Li.length mv cl Post)) (hN : args.length ≤ Try.f99.ntmps := by simp [Try.ntmps99]) :
    CallM Try.prog id_spec_l03Actor args Li mv cl Post := CallM.ofE T pl_spec_l03Actor Try.func99 (by kernel_rfl) rfl (by kernel_rfl) (by kernel_rfl) hN h
abbrev id_impl_isActor : FuncId := 100
def pl_impl_isActor : Nat → Option PS := plk []
theorem F_impl_isActor {args : List SV} {Li : List Row} {mv : List Nat} {cl : Bool} {Post : SV → List Row → Prop} (h : wpE Try.prog (lk tyList) pl_impl_isActor (bodyOf Try.f100) ⟨argT args, Lof Li, []⟩ (retE (lk tyList) Try.f100.results.toList Li.length mv cl Post)) (hN : args.length ≤ Try.f100.ntmps := by simp [Try.ntmps100]) :
    CallM Try.prog id_impl_isActor args Li mv cl Post := CallM.ofE T pl_impl_isActor Try.func100 (by kernel_rfl) rfl (by kernel_rfl) (by kernel_rfl) hN h
abbrev id_impl_vecCopy : FuncId := 101
def pl_impl_vecCopy : Nat → Option PS := plk []
theorem F_impl_vecCopy {args : List SV} {Li : List Row} {mv : List Nat} {cl : Bool} {Post : SV → List Row → Prop} (h : wpE Try.prog (lk tyList) pl_impl_vecCopy (bodyOf Try.f101) ⟨argT args, Lof Li, []⟩ (retE (lk tyList) Try.f101.results.toList Li.length mv cl Post)) (hN : args.length ≤ Try.f101.ntmps := by simp [Try.ntmps101]) :
    CallM Try.prog id_impl_vecCopy args Li mv cl Post := CallM.ofE T pl_impl_vecCopy Try.func101 (by kernel_rfl) rfl (by kernel_rfl) (by kernel_rfl) hN h
abbrev id_spec_l02Copy : FuncId := 102
def pl_spec_l02Copy : Nat → Option PS := plk []
theorem F_spec_l02Copy {args : List SV} {Li : List Row} {mv : List Nat} {cl : Bool} {Post : SV → List Row → Prop} (h : wpE Try.prog (lk tyList) pl_spec_l02Copy (bodyOf Try.f102) ⟨argT args, Lof Li, []⟩ (retE (lk tyList) Try.f102.results.toList Li.length mv cl Post)) (hN : args.length ≤ Try.f102.ntmps := by simp [Try.ntmps102]) :
    CallM Try.prog id_spec_l02Copy args Li mv cl Post := CallM.ofE T pl_spec_l02Copy Try.func102 (by kernel_rfl) rfl (by kernel_rfl) (by kernel_rfl) hN h
abbrev id_spec_l16Draw : FuncId := 103
def pl_spec_l16Draw : Nat → Option PS := plk []
theorem F_spec_l16Draw {args : List SV} {Li : List Row} {mv : List Nat} {cl : Bool} {Post : SV → List Row → Prop} (h : wpE Try.prog (lk tyList) pl_spec_l16Draw (bodyOf Try.f103) ⟨argT args, Lof Li, []⟩ (retE (lk tyList) Try.f103.results.toList Li.length mv cl Post)) (hN : args.length ≤ Try.f103.ntmps := by simp [Try.ntmps103]) :
    CallM Try.prog id_spec_l16Draw args Li mv cl Post := CallM.ofE T pl_spec_l16Draw Try.func103 (by kernel_rfl) rfl (by kernel_rfl) (by kernel_rfl) hN h
abbrev id_spec_l16Mask : FuncId := 104
def pl_spec_l16Mask : Nat → Option PS := plk [(8, .v 0 (.v 1 (.v 2 (.v 3 (.v 4 (.v 5 (.v 6 (.v 7 (.v 8 (.v 9 (.v 10 (.x 11 [0] (.x 12 [] (.v 13 (.done)))))))))))))))]
theorem F_spec_l16Mask {args : List SV} {Li : List Row} {mv : List Nat} {cl : Bool} {Post : SV → List Row → Prop} (h : wpE Try.prog (lk tyList) pl_spec_l16Mask (bodyOf Try.f104) ⟨argT args, Lof Li, []⟩ (retE (lk tyList) Try.f104.results.toList Li.length mv cl Post)) (hN : args.length ≤ Try.f104.ntmps := by simp [Try.ntmps104]) :
    CallM Try.prog id_spec_l16Mask args Li mv cl Post := CallM.ofE T pl_spec_l16Mask Try.func104 (by kernel_rfl) rfl (by kernel_rfl) (by kernel_rfl) hN h
abbrev id_spec_l16Sum : FuncId := 105
def pl_spec_l16Sum : Nat → Option PS := plk []
theorem F_spec_l16Sum {args : List SV} {Li : List Row} {mv : List Nat} {cl : Bool} {Post : SV → List Row → Prop} (h : wpE Try.prog (lk tyList) pl_spec_l16Sum (bodyOf Try.f105) ⟨argT args, Lof Li, []⟩ (retE (lk tyList) Try.f105.results.toList Li.length mv cl Post)) (hN : args.length ≤ Try.f105.ntmps := by simp [Try.ntmps105]) :
    CallM Try.prog id_spec_l16Sum args Li mv cl Post := CallM.ofE T pl_spec_l16Sum Try.func105 (by kernel_rfl) rfl (by kernel_rfl) (by kernel_rfl) hN h
abbrev id_spec_l16Eight : FuncId := 106
def pl_spec_l16Eight : Nat → Option PS := plk []
theorem F_spec_l16Eight {args : List SV} {Li : List Row} {mv : List Nat} {cl : Bool} {Post : SV → List Row → Prop} (h : wpE Try.prog (lk tyList) pl_spec_l16Eight (bodyOf Try.f106) ⟨argT args, Lof Li, []⟩ (retE (lk tyList) Try.f106.results.toList Li.length mv cl Post)) (hN : args.length ≤ Try.f106.ntmps := by simp [Try.ntmps106]) :
    CallM Try.prog id_spec_l16Eight args Li mv cl Post := CallM.ofE T pl_spec_l16Eight Try.func106 (by kernel_rfl) rfl (by kernel_rfl) (by kernel_rfl) hN h
abbrev id_impl_xorStream : FuncId := 107
def pl_impl_xorStream : Nat → Option PS := plk [(9, .v 0 (.v 1 (.v 2 (.v 3 (.v 4 (.v 5 (.v 6 (.v 7 (.v 8 (.v 9 (.v 10 (.v 11 (.x 12 [] (.done))))))))))))))]
theorem F_impl_xorStream {args : List SV} {Li : List Row} {mv : List Nat} {cl : Bool} {Post : SV → List Row → Prop} (h : wpE Try.prog (lk tyList) pl_impl_xorStream (bodyOf Try.f107) ⟨argT args, Lof Li, []⟩ (retE (lk tyList) Try.f107.results.toList Li.length mv cl Post)) (hN : args.length ≤ Try.f107.ntmps := by simp [Try.ntmps107]) :
    CallM Try.prog id_impl_xorStream args Li mv cl Post := CallM.ofE T pl_impl_xorStream Try.func107 (by kernel_rfl) rfl (by kernel_rfl) (by kernel_rfl) hN h
abbrev id_impl_sealTag : FuncId := 108
def pl_impl_sealTag : Nat → Option PS := plk []
theorem F_impl_sealTag {args : List SV} {Li : List Row} {mv : List Nat} {cl : Bool} {Post : SV → List Row → Prop} (h : wpE Try.prog (lk tyList) pl_impl_sealTag (bodyOf Try.f108) ⟨argT args, Lof Li, []⟩ (retE (lk tyList) Try.f108.results.toList Li.length mv cl Post)) (hN : args.length ≤ Try.f108.ntmps := by simp [Try.ntmps108]) :
    CallM Try.prog id_impl_sealTag args Li mv cl Post := CallM.ofE T pl_impl_sealTag Try.func108 (by kernel_rfl) rfl (by kernel_rfl) (by kernel_rfl) hN h
abbrev id_spec_l01Reader_texts : FuncId := 109
def pl_spec_l01Reader_texts : Nat → Option PS := plk [(11, .v 0 (.v 1 (.v 2 (.v 3 (.v 4 (.x 5 [3, 2, 1, 0] (.x 6 [2, 1, 0] (.v 7 (.v 8 (.done))))))))))]
theorem F_spec_l01Reader_texts {args : List SV} {Li : List Row} {mv : List Nat} {cl : Bool} {Post : SV → List Row → Prop} (h : wpE Try.prog (lk tyList) pl_spec_l01Reader_texts (bodyOf Try.f109) ⟨argT args, Lof Li, []⟩ (retE (lk tyList) Try.f109.results.toList Li.length mv cl Post)) (hN : args.length ≤ Try.f109.ntmps := by simp [Try.ntmps109]) :
    CallM Try.prog id_spec_l01Reader_texts args Li mv cl Post := CallM.ofE T pl_spec_l01Reader_texts Try.func109 (by kernel_rfl) rfl (by kernel_rfl) (by kernel_rfl) hN h
abbrev id_impl_reader_texts : FuncId := 110
def pl_impl_reader_texts : Nat → Option PS := plk []
theorem F_impl_reader_texts {args : List SV} {Li : List Row} {mv : List Nat} {cl : Bool} {Post : SV → List Row → Prop} (h : wpE Try.prog (lk tyList) pl_impl_reader_texts (bodyOf Try.f110) ⟨argT args, Lof Li, []⟩ (retE (lk tyList) Try.f110.results.toList Li.length mv cl Post)) (hN : args.length ≤ Try.f110.ntmps := by simp [Try.ntmps110]) :
    CallM Try.prog id_impl_reader_texts args Li mv cl Post := CallM.ofE T pl_impl_reader_texts Try.func110 (by kernel_rfl) rfl (by kernel_rfl) (by kernel_rfl) hN h
abbrev id_laws_markText : FuncId := 111
def pl_laws_markText : Nat → Option PS := plk []
theorem F_laws_markText {args : List SV} {Li : List Row} {mv : List Nat} {cl : Bool} {Post : SV → List Row → Prop} (h : wpE Try.prog (lk tyList) pl_laws_markText (bodyOf Try.f111) ⟨argT args, Lof Li, []⟩ (retE (lk tyList) Try.f111.results.toList Li.length mv cl Post)) (hN : args.length ≤ Try.f111.ntmps := by simp [Try.ntmps111]) :
    CallM Try.prog id_laws_markText args Li mv cl Post := CallM.ofE T pl_laws_markText Try.func111 (by kernel_rfl) rfl (by kernel_rfl) (by kernel_rfl) hN h
abbrev id_laws_szVector : FuncId := 112
def pl_laws_szVector : Nat → Option PS := plk []
theorem F_laws_szVector {args : List SV} {Li : List Row} {mv : List Nat} {cl : Bool} {Post : SV → List Row → Prop} (h : wpE Try.prog (lk tyList) pl_laws_szVector (bodyOf Try.f112) ⟨argT args, Lof Li, []⟩ (retE (lk tyList) Try.f112.results.toList Li.length mv cl Post)) (hN : args.length ≤ Try.f112.ntmps := by simp [Try.ntmps112]) :
    CallM Try.prog id_laws_szVector args Li mv cl Post := CallM.ofE T pl_laws_szVector Try.func112 (by kernel_rfl) rfl (by kernel_rfl) (by kernel_rfl) hN h
abbrev id_laws_szEntryS : FuncId := 113
def pl_laws_szEntryS : Nat → Option PS := plk []
theorem F_laws_szEntryS {args : List SV} {Li : List Row} {mv : List Nat} {cl : Bool} {Post : SV → List Row → Prop} (h : wpE Try.prog (lk tyList) pl_laws_szEntryS (bodyOf Try.f113) ⟨argT args, Lof Li, []⟩ (retE (lk tyList) Try.f113.results.toList Li.length mv cl Post)) (hN : args.length ≤ Try.f113.ntmps := by simp [Try.ntmps113]) :
    CallM Try.prog id_laws_szEntryS args Li mv cl Post := CallM.ofE T pl_laws_szEntryS Try.func113 (by kernel_rfl) rfl (by kernel_rfl) (by kernel_rfl) hN h
abbrev id_spec_l03EntriesOK : FuncId := 114
def pl_spec_l03EntriesOK : Nat → Option PS := plk [(7, .v 0 (.v 1 (.x 2 [] (.v 3 (.v 4 (.v 5 (.v 6 (.v 7 (.v 8 (.v 9 (.v 10 (.v 11 (.v 12 (.v 13 (.v 14 (.v 15 (.v 16 (.v 17 (.v 18 (.v 19 (.v 20 (.v 21 (.v 22 (.v 23 (.v 24 (.v 25 (.v 26 (.v 27 (.v 28 (.v 29 (.v 30 (.v 31 (.v 32 (.v 33 (.v 34 (.x 35 [] (.v 36 (.v 37 (.v 38 (.done))))))))))))))))))))))))))))))))))))))))]
theorem F_spec_l03EntriesOK {args : List SV} {Li : List Row} {mv : List Nat} {cl : Bool} {Post : SV → List Row → Prop} (h : wpE Try.prog (lk tyList) pl_spec_l03EntriesOK (bodyOf Try.f114) ⟨argT args, Lof Li, []⟩ (retE (lk tyList) Try.f114.results.toList Li.length mv cl Post)) (hN : args.length ≤ Try.f114.ntmps := by simp [Try.ntmps114]) :
    CallM Try.prog id_spec_l03EntriesOK args Li mv cl Post := CallM.ofE T pl_spec_l03EntriesOK Try.func114 (by kernel_rfl) rfl (by kernel_rfl) (by kernel_rfl) hN h
abbrev id_spec_l03Write : FuncId := 115
def pl_spec_l03Write : Nat → Option PS := plk [(7, .v 0 (.v 1 (.v 2 (.v 3 (.v 4 (.v 5 (.v 6 (.v 7 (.v 8 (.v 9 (.x 10 [9, 8, 7, 6, 5, 4, 3, 2, 1] (.x 11 [] (.v 12 (.done))))))))))))))]
theorem F_spec_l03Write {args : List SV} {Li : List Row} {mv : List Nat} {cl : Bool} {Post : SV → List Row → Prop} (h : wpE Try.prog (lk tyList) pl_spec_l03Write (bodyOf Try.f115) ⟨argT args, Lof Li, []⟩ (retE (lk tyList) Try.f115.results.toList Li.length mv cl Post)) (hN : args.length ≤ Try.f115.ntmps := by simp [Try.ntmps115]) :
    CallM Try.prog id_spec_l03Write args Li mv cl Post := CallM.ofE T pl_spec_l03Write Try.func115 (by kernel_rfl) rfl (by kernel_rfl) (by kernel_rfl) hN h
abbrev id_laws_toVector : FuncId := 116
def pl_laws_toVector : Nat → Option PS := plk []
theorem F_laws_toVector {args : List SV} {Li : List Row} {mv : List Nat} {cl : Bool} {Post : SV → List Row → Prop} (h : wpE Try.prog (lk tyList) pl_laws_toVector (bodyOf Try.f116) ⟨argT args, Lof Li, []⟩ (retE (lk tyList) Try.f116.results.toList Li.length mv cl Post)) (hN : args.length ≤ Try.f116.ntmps := by simp [Try.ntmps116]) :
    CallM Try.prog id_laws_toVector args Li mv cl Post := CallM.ofE T pl_laws_toVector Try.func116 (by kernel_rfl) rfl (by kernel_rfl) (by kernel_rfl) hN h
abbrev id_laws_toEntryS : FuncId := 117
def pl_laws_toEntryS : Nat → Option PS := plk []
theorem F_laws_toEntryS {args : List SV} {Li : List Row} {mv : List Nat} {cl : Bool} {Post : SV → List Row → Prop} (h : wpE Try.prog (lk tyList) pl_laws_toEntryS (bodyOf Try.f117) ⟨argT args, Lof Li, []⟩ (retE (lk tyList) Try.f117.results.toList Li.length mv cl Post)) (hN : args.length ≤ Try.f117.ntmps := by simp [Try.ntmps117]) :
    CallM Try.prog id_laws_toEntryS args Li mv cl Post := CallM.ofE T pl_laws_toEntryS Try.func117 (by kernel_rfl) rfl (by kernel_rfl) (by kernel_rfl) hN h
abbrev id_impl_stateOK : FuncId := 118
def pl_impl_stateOK : Nat → Option PS := plk [(6, .v 0 (.v 1 (.x 2 [] (.v 3 (.v 4 (.v 5 (.v 6 (.v 7 (.v 8 (.v 9 (.v 10 (.v 11 (.v 12 (.v 13 (.v 14 (.v 15 (.v 16 (.v 17 (.v 18 (.v 19 (.v 20 (.v 21 (.v 22 (.done)))))))))))))))))))))))),
  (8, .v 0 (.v 1 (.v 2 (.v 3 (.v 4 (.v 5 (.v 6 (.v 7 (.v 8 (.v 9 (.v 10 (.x 11 [] (.v 12 (.v 13 (.done)))))))))))))))]
theorem F_impl_stateOK {args : List SV} {Li : List Row} {mv : List Nat} {cl : Bool} {Post : SV → List Row → Prop} (h : wpE Try.prog (lk tyList) pl_impl_stateOK (bodyOf Try.f118) ⟨argT args, Lof Li, []⟩ (retE (lk tyList) Try.f118.results.toList Li.length mv cl Post)) (hN : args.length ≤ Try.f118.ntmps := by simp [Try.ntmps118]) :
    CallM Try.prog id_impl_stateOK args Li mv cl Post := CallM.ofE T pl_impl_stateOK Try.func118 (by kernel_rfl) rfl (by kernel_rfl) (by kernel_rfl) hN h
abbrev id_impl_write : FuncId := 119
def pl_impl_write : Nat → Option PS := plk [(7, .v 0 (.v 1 (.v 2 (.v 3 (.v 4 (.v 5 (.v 6 (.v 7 (.v 8 (.v 9 (.x 10 [9, 8, 7, 6, 5, 4, 3, 2, 1] (.x 11 [] (.v 12 (.done))))))))))))))]
theorem F_impl_write {args : List SV} {Li : List Row} {mv : List Nat} {cl : Bool} {Post : SV → List Row → Prop} (h : wpE Try.prog (lk tyList) pl_impl_write (bodyOf Try.f119) ⟨argT args, Lof Li, []⟩ (retE (lk tyList) Try.f119.results.toList Li.length mv cl Post)) (hN : args.length ≤ Try.f119.ntmps := by simp [Try.ntmps119]) :
    CallM Try.prog id_impl_write args Li mv cl Post := CallM.ofE T pl_impl_write Try.func119 (by kernel_rfl) rfl (by kernel_rfl) (by kernel_rfl) hN h
abbrev id_laws_eqVector : FuncId := 120
def pl_laws_eqVector : Nat → Option PS := plk []
theorem F_laws_eqVector {args : List SV} {Li : List Row} {mv : List Nat} {cl : Bool} {Post : SV → List Row → Prop} (h : wpE Try.prog (lk tyList) pl_laws_eqVector (bodyOf Try.f120) ⟨argT args, Lof Li, []⟩ (retE (lk tyList) Try.f120.results.toList Li.length mv cl Post)) (hN : args.length ≤ Try.f120.ntmps := by simp [Try.ntmps120]) :
    CallM Try.prog id_laws_eqVector args Li mv cl Post := CallM.ofE T pl_laws_eqVector Try.func120 (by kernel_rfl) rfl (by kernel_rfl) (by kernel_rfl) hN h
abbrev id_laws_eqEntryS : FuncId := 121
def pl_laws_eqEntryS : Nat → Option PS := plk [(6, .v 0 (.v 1 (.v 2 (.v 3 (.v 4 (.v 5 (.v 6 (.v 7 (.x 8 [] (.v 9 (.done)))))))))))]
theorem F_laws_eqEntryS {args : List SV} {Li : List Row} {mv : List Nat} {cl : Bool} {Post : SV → List Row → Prop} (h : wpE Try.prog (lk tyList) pl_laws_eqEntryS (bodyOf Try.f121) ⟨argT args, Lof Li, []⟩ (retE (lk tyList) Try.f121.results.toList Li.length mv cl Post)) (hN : args.length ≤ Try.f121.ntmps := by simp [Try.ntmps121]) :
    CallM Try.prog id_laws_eqEntryS args Li mv cl Post := CallM.ofE T pl_laws_eqEntryS Try.func121 (by kernel_rfl) rfl (by kernel_rfl) (by kernel_rfl) hN h
abbrev id_laws_markVector : FuncId := 122
def pl_laws_markVector : Nat → Option PS := plk []
theorem F_laws_markVector {args : List SV} {Li : List Row} {mv : List Nat} {cl : Bool} {Post : SV → List Row → Prop} (h : wpE Try.prog (lk tyList) pl_laws_markVector (bodyOf Try.f122) ⟨argT args, Lof Li, []⟩ (retE (lk tyList) Try.f122.results.toList Li.length mv cl Post)) (hN : args.length ≤ Try.f122.ntmps := by simp [Try.ntmps122]) :
    CallM Try.prog id_laws_markVector args Li mv cl Post := CallM.ofE T pl_laws_markVector Try.func122 (by kernel_rfl) rfl (by kernel_rfl) (by kernel_rfl) hN h
abbrev id_laws_markEntryS : FuncId := 123
def pl_laws_markEntryS : Nat → Option PS := plk []
theorem F_laws_markEntryS {args : List SV} {Li : List Row} {mv : List Nat} {cl : Bool} {Post : SV → List Row → Prop} (h : wpE Try.prog (lk tyList) pl_laws_markEntryS (bodyOf Try.f123) ⟨argT args, Lof Li, []⟩ (retE (lk tyList) Try.f123.results.toList Li.length mv cl Post)) (hN : args.length ≤ Try.f123.ntmps := by simp [Try.ntmps123]) :
    CallM Try.prog id_laws_markEntryS args Li mv cl Post := CallM.ofE T pl_laws_markEntryS Try.func123 (by kernel_rfl) rfl (by kernel_rfl) (by kernel_rfl) hN h
abbrev id_laws_heldVector : FuncId := 124
def pl_laws_heldVector : Nat → Option PS := plk []
theorem F_laws_heldVector {args : List SV} {Li : List Row} {mv : List Nat} {cl : Bool} {Post : SV → List Row → Prop} (h : wpE Try.prog (lk tyList) pl_laws_heldVector (bodyOf Try.f124) ⟨argT args, Lof Li, []⟩ (retE (lk tyList) Try.f124.results.toList Li.length mv cl Post)) (hN : args.length ≤ Try.f124.ntmps := by simp [Try.ntmps124]) :
    CallM Try.prog id_laws_heldVector args Li mv cl Post := CallM.ofE T pl_laws_heldVector Try.func124 (by kernel_rfl) rfl (by kernel_rfl) (by kernel_rfl) hN h
abbrev id_laws_heldEntryS : FuncId := 125
def pl_laws_heldEntryS : Nat → Option PS := plk [(10, .v 0 (.v 1 (.v 2 (.v 3 (.v 4 (.v 5 (.x 6 [4, 3, 2, 1, 0] (.v 7 (.done)))))))))]
theorem F_laws_heldEntryS {args : List SV} {Li : List Row} {mv : List Nat} {cl : Bool} {Post : SV → List Row → Prop} (h : wpE Try.prog (lk tyList) pl_laws_heldEntryS (bodyOf Try.f125) ⟨argT args, Lof Li, []⟩ (retE (lk tyList) Try.f125.results.toList Li.length mv cl Post)) (hN : args.length ≤ Try.f125.ntmps := by simp [Try.ntmps125]) :
    CallM Try.prog id_laws_heldEntryS args Li mv cl Post := CallM.ofE T pl_laws_heldEntryS Try.func125 (by kernel_rfl) rfl (by kernel_rfl) (by kernel_rfl) hN h
abbrev id_spec_l03DrawSet : FuncId := 126
def pl_spec_l03DrawSet : Nat → Option PS := plk [(3, .v 0 (.v 1 (.v 2 (.v 3 (.v 4 (.v 5 (.v 6 (.v 7 (.v 8 (.v 9 (.v 10 (.x 11 [10, 9, 8, 7, 6, 5] (.x 12 [10] (.v 13 (.done)))))))))))))))]
theorem F_spec_l03DrawSet {args : List SV} {Li : List Row} {mv : List Nat} {cl : Bool} {Post : SV → List Row → Prop} (h : wpE Try.prog (lk tyList) pl_spec_l03DrawSet (bodyOf Try.f126) ⟨argT args, Lof Li, []⟩ (retE (lk tyList) Try.f126.results.toList Li.length mv cl Post)) (hN : args.length ≤ Try.f126.ntmps := by simp [Try.ntmps126]) :
    CallM Try.prog id_spec_l03DrawSet args Li mv cl Post := CallM.ofE T pl_spec_l03DrawSet Try.func126 (by kernel_rfl) rfl (by kernel_rfl) (by kernel_rfl) hN h
abbrev id_impl_joinStates : FuncId := 127
def pl_impl_joinStates : Nat → Option PS := plk [(10, .v 0 (.v 1 (.v 2 (.v 3 (.v 4 (.v 5 (.v 6 (.v 7 (.v 8 (.v 9 (.v 10 (.v 11 (.v 12 (.v 13 (.v 14 (.v 15 (.v 16 (.v 17 (.v 18 (.v 19 (.x 20 [] (.v 21 (.v 22 (.v 23 (.done))))))))))))))))))))))))),
  (11, .v 0 (.v 1 (.v 2 (.v 3 (.v 4 (.v 5 (.v 6 (.v 7 (.v 8 (.v 9 (.v 10 (.v 11 (.v 12 (.v 13 (.v 14 (.v 15 (.v 16 (.done)))))))))))))))))),
  (14, .v 0 (.v 1 (.v 2 (.v 3 (.v 4 (.v 5 (.v 6 (.v 7 (.v 8 (.v 9 (.v 10 (.v 11 (.v 12 (.v 13 (.v 14 (.x 15 [] (.v 16 (.v 17 (.done))))))))))))))))))),
  (15, .v 0 (.v 1 (.v 2 (.v 3 (.v 4 (.v 5 (.v 6 (.v 7 (.v 8 (.v 9 (.v 10 (.v 11 (.v 12 (.v 13 (.v 14 (.v 15 (.v 16 (.done)))))))))))))))))),
  (5, .v 0 (.v 1 (.v 2 (.v 3 (.v 4 (.v 5 (.v 6 (.v 7 (.done)))))))))]
theorem F_impl_joinStates {args : List SV} {Li : List Row} {mv : List Nat} {cl : Bool} {Post : SV → List Row → Prop} (h : wpE Try.prog (lk tyList) pl_impl_joinStates (bodyOf Try.f127) ⟨argT args, Lof Li, []⟩ (retE (lk tyList) Try.f127.results.toList Li.length mv cl Post)) (hN : args.length ≤ Try.f127.ntmps := by simp [Try.ntmps127]) :
    CallM Try.prog id_impl_joinStates args Li mv cl Post := CallM.ofE T pl_impl_joinStates Try.func127 (by kernel_rfl) rfl (by kernel_rfl) (by kernel_rfl) hN h
abbrev id_spec_l03Draw : FuncId := 128
def pl_spec_l03Draw : Nat → Option PS := plk [(4, .v 0 (.v 1 (.v 2 (.v 5 (.v 6 (.v 10 (.v 11 (.v 12 (.v 15 (.v 16 (.or (.x 3 [16, 15, 12, 11, 10, 6, 5, 0] (.or (.x 4 [16, 15, 12, 11, 10, 6, 5, 0] (.or (.x 7 [16, 15, 12, 11, 10, 0] (.v 8 (.or (.x 9 [16, 15, 12, 11, 10] (.or (.x 13 [16, 15, 10] (.x 14 [16, 15, 10] (.x 17 [10] (.v 18 (.x 19 [] (.x 20 [] (.x 21 [] (.done)))))))) (.x 14 [16, 15, 12, 11, 10] (.x 13 [16, 15, 10] (.x 17 [10] (.v 18 (.x 19 [] (.x 20 [] (.x 21 [] (.done)))))))))) (.x 14 [8, 16, 15, 12, 11, 10, 0] (.x 9 [16, 15, 12, 11, 10] (.x 13 [16, 15, 10] (.x 17 [10] (.v 18 (.x 19 [] (.x 20 [] (.x 21 [] (.done)))))))))))) (.x 14 [16, 15, 12, 11, 10, 6, 5, 0] (.x 7 [16, 15, 12, 11, 10, 0] (.v 8 (.x 9 [16, 15, 12, 11, 10] (.x 13 [16, 15, 10] (.x 17 [10] (.v 18 (.x 19 [] (.x 20 [] (.x 21 [] (.done))))))))))))) (.x 14 [16, 15, 12, 11, 10, 6, 5, 0] (.x 4 [16, 15, 12, 11, 10, 6, 5, 0] (.x 7 [16, 15, 12, 11, 10, 0] (.v 8 (.x 9 [16, 15, 12, 11, 10] (.x 13 [16, 15, 10] (.x 17 [10] (.v 18 (.x 19 [] (.x 20 [] (.x 21 [] (.done)))))))))))))) (.or (.x 4 [16, 15, 12, 11, 10, 6, 5, 2, 1, 0] (.or (.x 3 [16, 15, 12, 11, 10, 6, 5, 0] (.or (.x 7 [16, 15, 12, 11, 10, 0] (.v 8 (.or (.x 9 [16, 15, 12, 11, 10] (.or (.x 13 [16, 15, 10] (.x 14 [16, 15, 10] (.x 17 [10] (.v 18 (.x 19 [] (.x 20 [] (.x 21 [] (.done)))))))) (.x 14 [16, 15, 12, 11, 10] (.x 13 [16, 15, 10] (.x 17 [10] (.v 18 (.x 19 [] (.x 20 [] (.x 21 [] (.done)))))))))) (.x 14 [8, 16, 15, 12, 11, 10, 0] (.x 9 [16, 15, 12, 11, 10] (.x 13 [16, 15, 10] (.x 17 [10] (.v 18 (.x 19 [] (.x 20 [] (.x 21 [] (.done)))))))))))) (.x 14 [16, 15, 12, 11, 10, 6, 5, 0] (.x 7 [16, 15, 12, 11, 10, 0] (.v 8 (.x 9 [16, 15, 12, 11, 10] (.x 13 [16, 15, 10] (.x 17 [10] (.v 18 (.x 19 [] (.x 20 [] (.x 21 [] (.done))))))))))))) (.x 14 [16, 15, 12, 11, 10, 6, 5, 2, 1, 0] (.x 3 [16, 15, 12, 11, 10, 6, 5, 0] (.x 7 [16, 15, 12, 11, 10, 0] (.v 8 (.x 9 [16, 15, 12, 11, 10] (.x 13 [16, 15, 10] (.x 17 [10] (.v 18 (.x 19 [] (.x 20 [] (.x 21 [] (.done)))))))))))))) (.x 14 [16, 15, 12, 11, 10, 6, 5, 2, 1, 0] (.or (.x 3 [16, 15, 12, 11, 10, 6, 5, 0] (.x 4 [16, 15, 12, 11, 10, 6, 5, 0] (.x 7 [16, 15, 12, 11, 10, 0] (.v 8 (.x 9 [16, 15, 12, 11, 10] (.x 13 [16, 15, 10] (.x 17 [10] (.v 18 (.x 19 [] (.x 20 [] (.x 21 [] (.done)))))))))))) (.x 4 [16, 15, 12, 11, 10, 6, 5, 2, 1, 0] (.x 3 [16, 15, 12, 11, 10, 6, 5, 0] (.x 7 [16, 15, 12, 11, 10, 0] (.v 8 (.x 9 [16, 15, 12, 11, 10] (.x 13 [16, 15, 10] (.x 17 [10] (.v 18 (.x 19 [] (.x 20 [] (.x 21 [] (.done))))))))))))))))))))))))))]
theorem F_spec_l03Draw {args : List SV} {Li : List Row} {mv : List Nat} {cl : Bool} {Post : SV → List Row → Prop} (h : wpE Try.prog (lk tyList) pl_spec_l03Draw (bodyOf Try.f128) ⟨argT args, Lof Li, []⟩ (retE (lk tyList) Try.f128.results.toList Li.length mv cl Post)) (hN : args.length ≤ Try.f128.ntmps := by simp [Try.ntmps128]) :
    CallM Try.prog id_spec_l03Draw args Li mv cl Post := CallM.ofE T pl_spec_l03Draw Try.func128 (by kernel_rfl) rfl (by kernel_rfl) (by kernel_rfl) hN h
abbrev id_spec_l03Join : FuncId := 129
def pl_spec_l03Join : Nat → Option PS := plk [(7, .v 0 (.v 1 (.v 2 (.v 3 (.v 4 (.v 5 (.v 6 (.v 7 (.v 8 (.v 9 (.v 10 (.v 11 (.done))))))))))))),
  (9, .v 0 (.v 1 (.v 2 (.v 3 (.v 4 (.v 5 (.v 6 (.v 7 (.v 8 (.v 9 (.v 10 (.v 11 (.v 12 (.v 13 (.v 14 (.done)))))))))))))))),
  (14, .v 0 (.v 1 (.v 2 (.v 3 (.v 4 (.v 5 (.x 6 [] (.v 7 (.v 8 (.v 9 (.v 10 (.v 11 (.v 12 (.v 13 (.v 14 (.v 15 (.v 16 (.v 17 (.v 18 (.v 19 (.v 20 (.v 21 (.v 22 (.v 23 (.v 24 (.v 25 (.v 26 (.done))))))))))))))))))))))))))))]
theorem F_spec_l03Join {args : List SV} {Li : List Row} {mv : List Nat} {cl : Bool} {Post : SV → List Row → Prop} (h : wpE Try.prog (lk tyList) pl_spec_l03Join (bodyOf Try.f129) ⟨argT args, Lof Li, []⟩ (retE (lk tyList) Try.f129.results.toList Li.length mv cl Post)) (hN : args.length ≤ Try.f129.ntmps := by simp [Try.ntmps129]) :
    CallM Try.prog id_spec_l03Join args Li mv cl Post := CallM.ofE T pl_spec_l03Join Try.func129 (by kernel_rfl) rfl (by kernel_rfl) (by kernel_rfl) hN h
abbrev id_spec_l08OpOK : FuncId := 130
def pl_spec_l08OpOK : Nat → Option PS := plk [(2, .v 0 (.x 1 [] (.v 2 (.v 3 (.v 4 (.v 5 (.v 6 (.v 7 (.v 8 (.v 9 (.v 10 (.v 11 (.v 12 (.v 13 (.v 14 (.v 15 (.x 16 [] (.v 17 (.v 18 (.v 19 (.v 20 (.v 21 (.v 22 (.v 23 (.v 24 (.v 25 (.v 26 (.v 27 (.v 28 (.v 29 (.v 30 (.v 31 (.v 32 (.v 33 (.v 34 (.v 35 (.v 36 (.v 37 (.v 38 (.v 39 (.v 40 (.v 41 (.v 42 (.v 43 (.v 44 (.v 45 (.v 46 (.v 47 (.v 48 (.v 49 (.v 50 (.v 51 (.v 52 (.v 53 (.v 54 (.v 55 (.v 56 (.v 57 (.v 58 (.v 59 (.v 60 (.v 61 (.v 62 (.v 63 (.v 64 (.v 65 (.v 66 (.v 67 (.v 68 (.v 69 (.v 70 (.v 71 (.v 72 (.v 73 (.v 74 (.v 75 (.done)))))))))))))))))))))))))))))))))))))))))))))))))))))))))))))))))))))))))))))]
theorem F_spec_l08OpOK {args : List SV} {Li : List Row} {mv : List Nat} {cl : Bool} {Post : SV → List Row → Prop} (h : wpE Try.prog (lk tyList) pl_spec_l08OpOK (bodyOf Try.f130) ⟨argT args, Lof Li, []⟩ (retE (lk tyList) Try.f130.results.toList Li.length mv cl Post)) (hN : args.length ≤ Try.f130.ntmps := by simp [Try.ntmps130]) :
    CallM Try.prog id_spec_l08OpOK args Li mv cl Post := CallM.ofE T pl_spec_l08OpOK Try.func130 (by kernel_rfl) rfl (by kernel_rfl) (by kernel_rfl) hN h
abbrev id_spec_l12Bytes : FuncId := 131
def pl_spec_l12Bytes : Nat → Option PS := plk [(1, .v 0 (.v 1 (.v 2 (.v 3 (.v 4 (.v 5 (.v 6 (.v 7 (.v 8 (.v 9 (.v 10 (.v 11 (.v 13 (.v 14 (.v 15 (.v 16 (.v 17 (.v 18 (.v 19 (.v 20 (.x 12 [20, 19, 18, 17, 16, 15, 14, 13, 9, 8, 7, 6, 5, 4, 3, 2, 1, 0] (.x 21 [] (.v 22 (.done)))))))))))))))))))))))),
  (3, .v 0 (.v 2 (.v 3 (.v 4 (.v 5 (.or (.x 1 [5, 4, 3, 2] (.x 6 [] (.x 7 [] (.x 8 [] (.v 9 (.done)))))) (.x 6 [0] (.x 1 [] (.x 7 [] (.x 8 [] (.v 9 (.done))))))))))))]
theorem F_spec_l12Bytes {args : List SV} {Li : List Row} {mv : List Nat} {cl : Bool} {Post : SV → List Row → Prop} (h : wpE Try.prog (lk tyList) pl_spec_l12Bytes (bodyOf Try.f131) ⟨argT args, Lof Li, []⟩ (retE (lk tyList) Try.f131.results.toList Li.length mv cl Post)) (hN : args.length ≤ Try.f131.ntmps := by simp [Try.ntmps131]) :
    CallM Try.prog id_spec_l12Bytes args Li mv cl Post := CallM.ofE T pl_spec_l12Bytes Try.func131 (by kernel_rfl) rfl (by kernel_rfl) (by kernel_rfl) hN h
abbrev id_laws_toStamp : FuncId := 132
def pl_laws_toStamp : Nat → Option PS := plk []
theorem F_laws_toStamp {args : List SV} {Li : List Row} {mv : List Nat} {cl : Bool} {Post : SV → List Row → Prop} (h : wpE Try.prog (lk tyList) pl_laws_toStamp (bodyOf Try.f132) ⟨argT args, Lof Li, []⟩ (retE (lk tyList) Try.f132.results.toList Li.length mv cl Post)) (hN : args.length ≤ Try.f132.ntmps := by simp [Try.ntmps132]) :
    CallM Try.prog id_laws_toStamp args Li mv cl Post := CallM.ofE T pl_laws_toStamp Try.func132 (by kernel_rfl) rfl (by kernel_rfl) (by kernel_rfl) hN h
abbrev id_impl_opOK : FuncId := 133
def pl_impl_opOK : Nat → Option PS := plk [(1, .v 0 (.x 1 [] (.x 2 [] (.v 3 (.v 4 (.v 5 (.v 6 (.v 7 (.v 8 (.v 9 (.v 10 (.v 11 (.v 12 (.v 13 (.v 14 (.v 15 (.v 16 (.x 17 [] (.v 18 (.v 19 (.v 20 (.v 21 (.v 22 (.v 23 (.v 24 (.v 25 (.v 26 (.v 27 (.v 28 (.v 29 (.v 30 (.v 31 (.v 32 (.done)))))))))))))))))))))))))))))))))),
  (8, .v 0 (.v 1 (.v 2 (.v 3 (.v 4 (.x 5 [] (.v 6 (.v 7 (.v 8 (.v 9 (.v 10 (.x 11 [9, 8] (.x 12 [] (.v 13 (.v 14 (.v 15 (.done)))))))))))))))))]
theorem F_impl_opOK {args : List SV} {Li : List Row} {mv : List Nat} {cl : Bool} {Post : SV → List Row → Prop} (h : wpE Try.prog (lk tyList) pl_impl_opOK (bodyOf Try.f133) ⟨argT args, Lof Li, []⟩ (retE (lk tyList) Try.f133.results.toList Li.length mv cl Post)) (hN : args.length ≤ Try.f133.ntmps := by simp [Try.ntmps133]) :
    CallM Try.prog id_impl_opOK args Li mv cl Post := CallM.ofE T pl_impl_opOK Try.func133 (by kernel_rfl) rfl (by kernel_rfl) (by kernel_rfl) hN h
abbrev id_impl_opBytes : FuncId := 134
def pl_impl_opBytes : Nat → Option PS := plk [(2, .v 0 (.v 1 (.v 2 (.v 3 (.x 4 [] (.x 5 [] (.v 6 (.done))))))))]
theorem F_impl_opBytes {args : List SV} {Li : List Row} {mv : List Nat} {cl : Bool} {Post : SV → List Row → Prop} (h : wpE Try.prog (lk tyList) pl_impl_opBytes (bodyOf Try.f134) ⟨argT args, Lof Li, []⟩ (retE (lk tyList) Try.f134.results.toList Li.length mv cl Post)) (hN : args.length ≤ Try.f134.ntmps := by simp [Try.ntmps134]) :
    CallM Try.prog id_impl_opBytes args Li mv cl Post := CallM.ofE T pl_impl_opBytes Try.func134 (by kernel_rfl) rfl (by kernel_rfl) (by kernel_rfl) hN h
abbrev id_laws_eqStamp : FuncId := 135
def pl_laws_eqStamp : Nat → Option PS := plk []
theorem F_laws_eqStamp {args : List SV} {Li : List Row} {mv : List Nat} {cl : Bool} {Post : SV → List Row → Prop} (h : wpE Try.prog (lk tyList) pl_laws_eqStamp (bodyOf Try.f135) ⟨argT args, Lof Li, []⟩ (retE (lk tyList) Try.f135.results.toList Li.length mv cl Post)) (hN : args.length ≤ Try.f135.ntmps := by simp [Try.ntmps135]) :
    CallM Try.prog id_laws_eqStamp args Li mv cl Post := CallM.ofE T pl_laws_eqStamp Try.func135 (by kernel_rfl) rfl (by kernel_rfl) (by kernel_rfl) hN h
abbrev id_spec_l13Bytes : FuncId := 136
def pl_spec_l13Bytes : Nat → Option PS := plk []
theorem F_spec_l13Bytes {args : List SV} {Li : List Row} {mv : List Nat} {cl : Bool} {Post : SV → List Row → Prop} (h : wpE Try.prog (lk tyList) pl_spec_l13Bytes (bodyOf Try.f136) ⟨argT args, Lof Li, []⟩ (retE (lk tyList) Try.f136.results.toList Li.length mv cl Post)) (hN : args.length ≤ Try.f136.ntmps := by simp [Try.ntmps136]) :
    CallM Try.prog id_spec_l13Bytes args Li mv cl Post := CallM.ofE T pl_spec_l13Bytes Try.func136 (by kernel_rfl) rfl (by kernel_rfl) (by kernel_rfl) hN h
abbrev id_impl_recordBytes : FuncId := 137
def pl_impl_recordBytes : Nat → Option PS := plk []
theorem F_impl_recordBytes {args : List SV} {Li : List Row} {mv : List Nat} {cl : Bool} {Post : SV → List Row → Prop} (h : wpE Try.prog (lk tyList) pl_impl_recordBytes (bodyOf Try.f137) ⟨argT args, Lof Li, []⟩ (retE (lk tyList) Try.f137.results.toList Li.length mv cl Post)) (hN : args.length ≤ Try.f137.ntmps := by simp [Try.ntmps137]) :
    CallM Try.prog id_impl_recordBytes args Li mv cl Post := CallM.ofE T pl_impl_recordBytes Try.func137 (by kernel_rfl) rfl (by kernel_rfl) (by kernel_rfl) hN h
abbrev id_spec_l01Src_num : FuncId := 138
def pl_spec_l01Src_num : Nat → Option PS := plk []
theorem F_spec_l01Src_num {args : List SV} {Li : List Row} {mv : List Nat} {cl : Bool} {Post : SV → List Row → Prop} (h : wpE Try.prog (lk tyList) pl_spec_l01Src_num (bodyOf Try.f138) ⟨argT args, Lof Li, []⟩ (retE (lk tyList) Try.f138.results.toList Li.length mv cl Post)) (hN : args.length ≤ Try.f138.ntmps := by simp [Try.ntmps138]) :
    CallM Try.prog id_spec_l01Src_num args Li mv cl Post := CallM.ofE T pl_spec_l01Src_num Try.func138 (by kernel_rfl) rfl (by kernel_rfl) (by kernel_rfl) hN h
abbrev id_impl_appendInt : FuncId := 139
def pl_impl_appendInt : Nat → Option PS := plk []
theorem F_impl_appendInt {args : List SV} {Li : List Row} {mv : List Nat} {cl : Bool} {Post : SV → List Row → Prop} (h : wpE Try.prog (lk tyList) pl_impl_appendInt (bodyOf Try.f139) ⟨argT args, Lof Li, []⟩ (retE (lk tyList) Try.f139.results.toList Li.length mv cl Post)) (hN : args.length ≤ Try.f139.ntmps := by simp [Try.ntmps139]) :
    CallM Try.prog id_impl_appendInt args Li mv cl Post := CallM.ofE T pl_impl_appendInt Try.func139 (by kernel_rfl) rfl (by kernel_rfl) (by kernel_rfl) hN h
abbrev id_impl_reader_num : FuncId := 140
def pl_impl_reader_num : Nat → Option PS := plk [(3, .v 0 (.v 1 (.v 2 (.v 3 (.v 4 (.v 5 (.v 6 (.v 7 (.v 8 (.v 9 (.v 10 (.v 11 (.v 12 (.v 13 (.done))))))))))))))),
  (6, .v 0 (.v 1 (.v 2 (.v 3 (.v 4 (.v 5 (.v 6 (.v 7 (.v 8 (.v 9 (.v 10 (.done))))))))))))]
theorem F_impl_reader_num {args : List SV} {Li : List Row} {mv : List Nat} {cl : Bool} {Post : SV → List Row → Prop} (h : wpE Try.prog (lk tyList) pl_impl_reader_num (bodyOf Try.f140) ⟨argT args, Lof Li, []⟩ (retE (lk tyList) Try.f140.results.toList Li.length mv cl Post)) (hN : args.length ≤ Try.f140.ntmps := by simp [Try.ntmps140]) :
    CallM Try.prog id_impl_reader_num args Li mv cl Post := CallM.ofE T pl_impl_reader_num Try.func140 (by kernel_rfl) rfl (by kernel_rfl) (by kernel_rfl) hN h
abbrev id_spec_l01Texts : FuncId := 141
def pl_spec_l01Texts : Nat → Option PS := plk []
theorem F_spec_l01Texts {args : List SV} {Li : List Row} {mv : List Nat} {cl : Bool} {Post : SV → List Row → Prop} (h : wpE Try.prog (lk tyList) pl_spec_l01Texts (bodyOf Try.f141) ⟨argT args, Lof Li, []⟩ (retE (lk tyList) Try.f141.results.toList Li.length mv cl Post)) (hN : args.length ≤ Try.f141.ntmps := by simp [Try.ntmps141]) :
    CallM Try.prog id_spec_l01Texts args Li mv cl Post := CallM.ofE T pl_spec_l01Texts Try.func141 (by kernel_rfl) rfl (by kernel_rfl) (by kernel_rfl) hN h
abbrev id_impl_appendTexts : FuncId := 142
def pl_impl_appendTexts : Nat → Option PS := plk []
theorem F_impl_appendTexts {args : List SV} {Li : List Row} {mv : List Nat} {cl : Bool} {Post : SV → List Row → Prop} (h : wpE Try.prog (lk tyList) pl_impl_appendTexts (bodyOf Try.f142) ⟨argT args, Lof Li, []⟩ (retE (lk tyList) Try.f142.results.toList Li.length mv cl Post)) (hN : args.length ≤ Try.f142.ntmps := by simp [Try.ntmps142]) :
    CallM Try.prog id_impl_appendTexts args Li mv cl Post := CallM.ofE T pl_impl_appendTexts Try.func142 (by kernel_rfl) rfl (by kernel_rfl) (by kernel_rfl) hN h
abbrev id_spec_l01PutTexts : FuncId := 143
def pl_spec_l01PutTexts : Nat → Option PS := plk []
theorem F_spec_l01PutTexts {args : List SV} {Li : List Row} {mv : List Nat} {cl : Bool} {Post : SV → List Row → Prop} (h : wpE Try.prog (lk tyList) pl_spec_l01PutTexts (bodyOf Try.f143) ⟨argT args, Lof Li, []⟩ (retE (lk tyList) Try.f143.results.toList Li.length mv cl Post)) (hN : args.length ≤ Try.f143.ntmps := by simp [Try.ntmps143]) :
    CallM Try.prog id_spec_l01PutTexts args Li mv cl Post := CallM.ofE T pl_spec_l01PutTexts Try.func143 (by kernel_rfl) rfl (by kernel_rfl) (by kernel_rfl) hN h
abbrev id_spec_l01Numbers : FuncId := 144
def pl_spec_l01Numbers : Nat → Option PS := plk []
theorem F_spec_l01Numbers {args : List SV} {Li : List Row} {mv : List Nat} {cl : Bool} {Post : SV → List Row → Prop} (h : wpE Try.prog (lk tyList) pl_spec_l01Numbers (bodyOf Try.f144) ⟨argT args, Lof Li, []⟩ (retE (lk tyList) Try.f144.results.toList Li.length mv cl Post)) (hN : args.length ≤ Try.f144.ntmps := by simp [Try.ntmps144]) :
    CallM Try.prog id_spec_l01Numbers args Li mv cl Post := CallM.ofE T pl_spec_l01Numbers Try.func144 (by kernel_rfl) rfl (by kernel_rfl) (by kernel_rfl) hN h
abbrev id_impl_appendRuns : FuncId := 145
def pl_impl_appendRuns : Nat → Option PS := plk [(8, .v 0 (.v 1 (.v 2 (.v 3 (.v 4 (.v 5 (.v 6 (.v 7 (.v 8 (.v 9 (.v 10 (.x 11 [0] (.x 12 [] (.v 13 (.done)))))))))))))))]
theorem F_impl_appendRuns {args : List SV} {Li : List Row} {mv : List Nat} {cl : Bool} {Post : SV → List Row → Prop} (h : wpE Try.prog (lk tyList) pl_impl_appendRuns (bodyOf Try.f145) ⟨argT args, Lof Li, []⟩ (retE (lk tyList) Try.f145.results.toList Li.length mv cl Post)) (hN : args.length ≤ Try.f145.ntmps := by simp [Try.ntmps145]) :
    CallM Try.prog id_impl_appendRuns args Li mv cl Post := CallM.ofE T pl_impl_appendRuns Try.func145 (by kernel_rfl) rfl (by kernel_rfl) (by kernel_rfl) hN h
abbrev id_spec_l01RunsOK : FuncId := 146
def pl_spec_l01RunsOK : Nat → Option PS := plk []
theorem F_spec_l01RunsOK {args : List SV} {Li : List Row} {mv : List Nat} {cl : Bool} {Post : SV → List Row → Prop} (h : wpE Try.prog (lk tyList) pl_spec_l01RunsOK (bodyOf Try.f146) ⟨argT args, Lof Li, []⟩ (retE (lk tyList) Try.f146.results.toList Li.length mv cl Post)) (hN : args.length ≤ Try.f146.ntmps := by simp [Try.ntmps146]) :
    CallM Try.prog id_spec_l01RunsOK args Li mv cl Post := CallM.ofE T pl_spec_l01RunsOK Try.func146 (by kernel_rfl) rfl (by kernel_rfl) (by kernel_rfl) hN h
abbrev id_spec_l01PutRuns : FuncId := 147
def pl_spec_l01PutRuns : Nat → Option PS := plk [(5, .v 0 (.v 1 (.v 2 (.v 3 (.v 4 (.v 5 (.v 6 (.v 7 (.v 8 (.v 9 (.v 10 (.v 11 (.v 12 (.v 13 (.v 14 (.v 15 (.v 16 (.v 17 (.v 18 (.v 19 (.v 20 (.v 21 (.v 22 (.v 23 (.v 24 (.v 25 (.v 26 (.v 27 (.v 28 (.v 29 (.v 30 (.v 31 (.v 32 (.done)))))))))))))))))))))))))))))))))),
  (10, .v 0 (.v 1 (.v 2 (.v 3 (.v 4 (.v 5 (.v 6 (.v 7 (.v 8 (.v 9 (.v 10 (.x 11 [0] (.x 12 [] (.v 13 (.done)))))))))))))))]
theorem F_spec_l01PutRuns {args : List SV} {Li : List Row} {mv : List Nat} {cl : Bool} {Post : SV → List Row → Prop} (h : wpE Try.prog (lk tyList) pl_spec_l01PutRuns (bodyOf Try.f147) ⟨argT args, Lof Li, []⟩ (retE (lk tyList) Try.f147.results.toList Li.length mv cl Post)) (hN : args.length ≤ Try.f147.ntmps := by simp [Try.ntmps147]) :
    CallM Try.prog id_spec_l01PutRuns args Li mv cl Post := CallM.ofE T pl_spec_l01PutRuns Try.func147 (by kernel_rfl) rfl (by kernel_rfl) (by kernel_rfl) hN h
abbrev id_impl_reader_runs : FuncId := 148
def pl_impl_reader_runs : Nat → Option PS := plk [(24, .v 0 (.v 3 (.v 4 (.v 5 (.v 6 (.v 7 (.v 8 (.v 9 (.v 10 (.v 11 (.v 12 (.v 13 (.x 1 [13, 12, 11, 10, 9, 8, 7, 6, 5, 4, 3] (.v 2 (.v 14 (.done))))))))))))))))]
theorem F_impl_reader_runs {args : List SV} {Li : List Row} {mv : List Nat} {cl : Bool} {Post : SV → List Row → Prop} (h : wpE Try.prog (lk tyList) pl_impl_reader_runs (bodyOf Try.f148) ⟨argT args, Lof Li, []⟩ (retE (lk tyList) Try.f148.results.toList Li.length mv cl Post)) (hN : args.length ≤ Try.f148.ntmps := by simp [Try.ntmps148]) :
    CallM Try.prog id_impl_reader_runs args Li mv cl Post := CallM.ofE T pl_impl_reader_runs Try.func148 (by kernel_rfl) rfl (by kernel_rfl) (by kernel_rfl) hN h
abbrev id_spec_l01Src_oddVector : FuncId := 149
def pl_spec_l01Src_oddVector : Nat → Option PS := plk [(4, .v 0 (.v 1 (.v 2 (.x 3 [1, 0] (.v 4 (.v 5 (.x 6 [] (.done)))))))),
  (6, .v 0 (.v 1 (.v 2 (.v 5 (.or (.x 3 [5, 1, 0] (.or (.x 4 [5, 1, 0] (.x 6 [1, 0] (.v 7 (.v 8 (.v 9 (.x 10 [] (.done))))))) (.x 6 [1, 0] (.x 4 [1, 0] (.v 7 (.v 8 (.v 9 (.x 10 [] (.done))))))))) (.x 4 [5, 2, 1, 0] (.x 3 [5, 1, 0] (.x 6 [1, 0] (.v 7 (.v 8 (.v 9 (.x 10 [] (.done)))))))))))))]
theorem F_spec_l01Src_oddVector {args : List SV} {Li : List Row} {mv : List Nat} {cl : Bool} {Post : SV → List Row → Prop} (h : wpE Try.prog (lk tyList) pl_spec_l01Src_oddVector (bodyOf Try.f149) ⟨argT args, Lof Li, []⟩ (retE (lk tyList) Try.f149.results.toList Li.length mv cl Post)) (hN : args.length ≤ Try.f149.ntmps := by simp [Try.ntmps149]) :
    CallM Try.prog id_spec_l01Src_oddVector args Li mv cl Post := CallM.ofE T pl_spec_l01Src_oddVector Try.func149 (by kernel_rfl) rfl (by kernel_rfl) (by kernel_rfl) hN h
abbrev id_spec_l13Read : FuncId := 150
def pl_spec_l13Read : Nat → Option PS := plk [(8, .v 0 (.v 1 (.v 2 (.v 3 (.v 7 (.v 8 (.v 9 (.v 10 (.v 11 (.v 12 (.v 13 (.v 14 (.v 15 (.v 16 (.x 4 [16, 15, 14, 13, 12, 11, 10, 9, 8, 7] (.x 5 [16, 15, 14, 13, 12, 11, 10, 9, 8, 7] (.v 6 (.v 17 (.v 18 (.done))))))))))))))))))))]
theorem F_spec_l13Read {args : List SV} {Li : List Row} {mv : List Nat} {cl : Bool} {Post : SV → List Row → Prop} (h : wpE Try.prog (lk tyList) pl_spec_l13Read (bodyOf Try.f150) ⟨argT args, Lof Li, []⟩ (retE (lk tyList) Try.f150.results.toList Li.length mv cl Post)) (hN : args.length ≤ Try.f150.ntmps := by simp [Try.ntmps150]) :
    CallM Try.prog id_spec_l13Read args Li mv cl Post := CallM.ofE T pl_spec_l13Read Try.func150 (by kernel_rfl) rfl (by kernel_rfl) (by kernel_rfl) hN h
abbrev id_impl_reader_record : FuncId := 151
def pl_impl_reader_record : Nat → Option PS := plk [(13, .v 0 (.v 1 (.v 2 (.v 3 (.v 4 (.v 5 (.v 6 (.or (.x 7 [] (.x 8 [] (.x 9 [] (.done)))) (.x 8 [6, 5, 4, 3, 2, 1, 0] (.x 7 [] (.x 9 [] (.done))))))))))))]
theorem F_impl_reader_record {args : List SV} {Li : List Row} {mv : List Nat} {cl : Bool} {Post : SV → List Row → Prop} (h : wpE Try.prog (lk tyList) pl_impl_reader_record (bodyOf Try.f151) ⟨argT args, Lof Li, []⟩ (retE (lk tyList) Try.f151.results.toList Li.length mv cl Post)) (hN : args.length ≤ Try.f151.ntmps := by simp [Try.ntmps151]) :
    CallM Try.prog id_impl_reader_record args Li mv cl Post := CallM.ofE T pl_impl_reader_record Try.func151 (by kernel_rfl) rfl (by kernel_rfl) (by kernel_rfl) hN h
abbrev id_laws_markIntS : FuncId := 152
def pl_laws_markIntS : Nat → Option PS := plk []
theorem F_laws_markIntS {args : List SV} {Li : List Row} {mv : List Nat} {cl : Bool} {Post : SV → List Row → Prop} (h : wpE Try.prog (lk tyList) pl_laws_markIntS (bodyOf Try.f152) ⟨argT args, Lof Li, []⟩ (retE (lk tyList) Try.f152.results.toList Li.length mv cl Post)) (hN : args.length ≤ Try.f152.ntmps := by simp [Try.ntmps152]) :
    CallM Try.prog id_laws_markIntS args Li mv cl Post := CallM.ofE T pl_laws_markIntS Try.func152 (by kernel_rfl) rfl (by kernel_rfl) (by kernel_rfl) hN h
abbrev id_laws_heldIntS : FuncId := 153
def pl_laws_heldIntS : Nat → Option PS := plk []
theorem F_laws_heldIntS {args : List SV} {Li : List Row} {mv : List Nat} {cl : Bool} {Post : SV → List Row → Prop} (h : wpE Try.prog (lk tyList) pl_laws_heldIntS (bodyOf Try.f153) ⟨argT args, Lof Li, []⟩ (retE (lk tyList) Try.f153.results.toList Li.length mv cl Post)) (hN : args.length ≤ Try.f153.ntmps := by simp [Try.ntmps153]) :
    CallM Try.prog id_laws_heldIntS args Li mv cl Post := CallM.ofE T pl_laws_heldIntS Try.func153 (by kernel_rfl) rfl (by kernel_rfl) (by kernel_rfl) hN h
abbrev id_spec_l12DrawOp : FuncId := 154
def pl_spec_l12DrawOp : Nat → Option PS := plk []
theorem F_spec_l12DrawOp {args : List SV} {Li : List Row} {mv : List Nat} {cl : Bool} {Post : SV → List Row → Prop} (h : wpE Try.prog (lk tyList) pl_spec_l12DrawOp (bodyOf Try.f154) ⟨argT args, Lof Li, []⟩ (retE (lk tyList) Try.f154.results.toList Li.length mv cl Post)) (hN : args.length ≤ Try.f154.ntmps := by simp [Try.ntmps154]) :
    CallM Try.prog id_spec_l12DrawOp args Li mv cl Post := CallM.ofE T pl_spec_l12DrawOp Try.func154 (by kernel_rfl) rfl (by kernel_rfl) (by kernel_rfl) hN h
abbrev id_spec_l08Draw : FuncId := 155
def pl_spec_l08Draw : Nat → Option PS := plk []
theorem F_spec_l08Draw {args : List SV} {Li : List Row} {mv : List Nat} {cl : Bool} {Post : SV → List Row → Prop} (h : wpE Try.prog (lk tyList) pl_spec_l08Draw (bodyOf Try.f155) ⟨argT args, Lof Li, []⟩ (retE (lk tyList) Try.f155.results.toList Li.length mv cl Post)) (hN : args.length ≤ Try.f155.ntmps := by simp [Try.ntmps155]) :
    CallM Try.prog id_spec_l08Draw args Li mv cl Post := CallM.ofE T pl_spec_l08Draw Try.func155 (by kernel_rfl) rfl (by kernel_rfl) (by kernel_rfl) hN h
abbrev id_impl_readBook : FuncId := 156
def pl_impl_readBook : Nat → Option PS := plk [(7, .v 0 (.x 1 [] (.v 2 (.v 3 (.v 4 (.v 5 (.v 6 (.v 7 (.v 8 (.v 9 (.v 10 (.v 11 (.v 12 (.v 13 (.v 14 (.v 15 (.v 16 (.v 17 (.v 18 (.v 19 (.v 20 (.v 21 (.v 22 (.v 23 (.v 24 (.v 25 (.v 26 (.v 27 (.v 28 (.v 29 (.v 30 (.v 31 (.done))))))))))))))))))))))))))))))))),
  (9, .v 0 (.v 1 (.v 2 (.v 3 (.v 4 (.v 5 (.v 6 (.v 7 (.v 8 (.v 9 (.v 10 (.v 11 (.v 12 (.v 13 (.v 14 (.v 15 (.v 16 (.x 17 [15, 14, 13, 12, 11, 10, 9] (.v 18 (.v 19 (.done))))))))))))))))))))),
  (19, .v 0 (.v 1 (.v 2 (.v 3 (.v 4 (.v 5 (.v 6 (.v 7 (.v 8 (.v 9 (.v 10 (.v 11 (.v 12 (.v 13 (.v 14 (.v 15 (.v 16 (.v 17 (.v 18 (.v 19 (.v 20 (.v 21 (.v 22 (.v 24 (.x 23 [24] (.x 25 [] (.x 26 [] (.v 27 (.v 28 (.v 29 (.done)))))))))))))))))))))))))))))))]
theorem F_impl_readBook {args : List SV} {Li : List Row} {mv : List Nat} {cl : Bool} {Post : SV → List Row → Prop} (h : wpE Try.prog (lk tyList) pl_impl_readBook (bodyOf Try.f156) ⟨argT args, Lof Li, []⟩ (retE (lk tyList) Try.f156.results.toList Li.length mv cl Post)) (hN : args.length ≤ Try.f156.ntmps := by simp [Try.ntmps156]) :
    CallM Try.prog id_impl_readBook args Li mv cl Post := CallM.ofE T pl_impl_readBook Try.func156 (by kernel_rfl) rfl (by kernel_rfl) (by kernel_rfl) hN h
abbrev id_impl_opCopy : FuncId := 157
def pl_impl_opCopy : Nat → Option PS := plk []
theorem F_impl_opCopy {args : List SV} {Li : List Row} {mv : List Nat} {cl : Bool} {Post : SV → List Row → Prop} (h : wpE Try.prog (lk tyList) pl_impl_opCopy (bodyOf Try.f157) ⟨argT args, Lof Li, []⟩ (retE (lk tyList) Try.f157.results.toList Li.length mv cl Post)) (hN : args.length ≤ Try.f157.ntmps := by simp [Try.ntmps157]) :
    CallM Try.prog id_impl_opCopy args Li mv cl Post := CallM.ofE T pl_impl_opCopy Try.func157 (by kernel_rfl) rfl (by kernel_rfl) (by kernel_rfl) hN h
abbrev id_spec_LogOK : FuncId := 158
def pl_spec_LogOK : Nat → Option PS := plk [(8, .v 0 (.v 1 (.v 2 (.v 3 (.v 4 (.v 5 (.v 6 (.v 7 (.v 8 (.v 9 (.v 10 (.v 11 (.v 12 (.v 13 (.v 14 (.v 15 (.v 16 (.done)))))))))))))))))),
  (9, .v 0 (.v 1 (.v 2 (.v 3 (.v 4 (.v 5 (.v 6 (.v 7 (.v 8 (.v 9 (.v 10 (.v 11 (.v 12 (.v 13 (.v 14 (.v 15 (.v 16 (.v 17 (.v 18 (.v 19 (.v 20 (.v 21 (.v 22 (.v 23 (.v 24 (.v 25 (.v 26 (.v 27 (.v 28 (.v 29 (.v 30 (.v 31 (.v 32 (.v 33 (.v 34 (.v 35 (.v 36 (.v 37 (.v 38 (.v 39 (.v 40 (.v 41 (.v 42 (.v 43 (.v 44 (.v 45 (.done))))))))))))))))))))))))))))))))))))))))))))))),
  (16, .v 0 (.v 1 (.v 2 (.v 3 (.v 4 (.v 5 (.x 6 [] (.v 7 (.done)))))))))]
theorem F_spec_LogOK {args : List SV} {Li : List Row} {mv : List Nat} {cl : Bool} {Post : SV → List Row → Prop} (h : wpE Try.prog (lk tyList) pl_spec_LogOK (bodyOf Try.f158) ⟨argT args, Lof Li, []⟩ (retE (lk tyList) Try.f158.results.toList Li.length mv cl Post)) (hN : args.length ≤ Try.f158.ntmps := by simp [Try.ntmps158]) :
    CallM Try.prog id_spec_LogOK args Li mv cl Post := CallM.ofE T pl_spec_LogOK Try.func158 (by kernel_rfl) rfl (by kernel_rfl) (by kernel_rfl) hN h
abbrev id_spec_l08CopyOp : FuncId := 159
def pl_spec_l08CopyOp : Nat → Option PS := plk []
theorem F_spec_l08CopyOp {args : List SV} {Li : List Row} {mv : List Nat} {cl : Bool} {Post : SV → List Row → Prop} (h : wpE Try.prog (lk tyList) pl_spec_l08CopyOp (bodyOf Try.f159) ⟨argT args, Lof Li, []⟩ (retE (lk tyList) Try.f159.results.toList Li.length mv cl Post)) (hN : args.length ≤ Try.f159.ntmps := by simp [Try.ntmps159]) :
    CallM Try.prog id_spec_l08CopyOp args Li mv cl Post := CallM.ofE T pl_spec_l08CopyOp Try.func159 (by kernel_rfl) rfl (by kernel_rfl) (by kernel_rfl) hN h
abbrev id_laws_sameOp : FuncId := 160
def pl_laws_sameOp : Nat → Option PS := plk []
theorem F_laws_sameOp {args : List SV} {Li : List Row} {mv : List Nat} {cl : Bool} {Post : SV → List Row → Prop} (h : wpE Try.prog (lk tyList) pl_laws_sameOp (bodyOf Try.f160) ⟨argT args, Lof Li, []⟩ (retE (lk tyList) Try.f160.results.toList Li.length mv cl Post)) (hN : args.length ≤ Try.f160.ntmps := by simp [Try.ntmps160]) :
    CallM Try.prog id_laws_sameOp args Li mv cl Post := CallM.ofE T pl_laws_sameOp Try.func160 (by kernel_rfl) rfl (by kernel_rfl) (by kernel_rfl) hN h
abbrev id_impl_book_vector : FuncId := 161
def pl_impl_book_vector : Nat → Option PS := plk []
theorem F_impl_book_vector {args : List SV} {Li : List Row} {mv : List Nat} {cl : Bool} {Post : SV → List Row → Prop} (h : wpE Try.prog (lk tyList) pl_impl_book_vector (bodyOf Try.f161) ⟨argT args, Lof Li, []⟩ (retE (lk tyList) Try.f161.results.toList Li.length mv cl Post)) (hN : args.length ≤ Try.f161.ntmps := by simp [Try.ntmps161]) :
    CallM Try.prog id_impl_book_vector args Li mv cl Post := CallM.ofE T pl_impl_book_vector Try.func161 (by kernel_rfl) rfl (by kernel_rfl) (by kernel_rfl) hN h
abbrev id_impl_group_next : FuncId := 162
def pl_impl_group_next : Nat → Option PS := plk [(0, .v 0 (.v 1 (.v 2 (.v 3 (.v 4 (.v 5 (.v 6 (.x 7 [5, 4, 3, 2] (.v 8 (.v 9 (.v 10 (.v 11 (.done))))))))))))),
  (1, .v 0 (.v 1 (.v 2 (.v 3 (.v 4 (.v 5 (.v 6 (.v 7 (.v 8 (.x 9 [4, 3, 2, 1, 0] (.x 10 [0] (.v 11 (.v 12 (.x 13 [] (.done)))))))))))))))]
theorem F_impl_group_next {args : List SV} {Li : List Row} {mv : List Nat} {cl : Bool} {Post : SV → List Row → Prop} (h : wpE Try.prog (lk tyList) pl_impl_group_next (bodyOf Try.f162) ⟨argT args, Lof Li, []⟩ (retE (lk tyList) Try.f162.results.toList Li.length mv cl Post)) (hN : args.length ≤ Try.f162.ntmps := by simp [Try.ntmps162]) :
    CallM Try.prog id_impl_group_next args Li mv cl Post := CallM.ofE T pl_impl_group_next Try.func162 (by kernel_rfl) rfl (by kernel_rfl) (by kernel_rfl) hN h
abbrev id_impl_group_steal : FuncId := 163
def pl_impl_group_steal : Nat → Option PS := plk []
theorem F_impl_group_steal {args : List SV} {Li : List Row} {mv : List Nat} {cl : Bool} {Post : SV → List Row → Prop} (h : wpE Try.prog (lk tyList) pl_impl_group_steal (bodyOf Try.f163) ⟨argT args, Lof Li, []⟩ (retE (lk tyList) Try.f163.results.toList Li.length mv cl Post)) (hN : args.length ≤ Try.f163.ntmps := by simp [Try.ntmps163]) :
    CallM Try.prog id_impl_group_steal args Li mv cl Post := CallM.ofE T pl_impl_group_steal Try.func163 (by kernel_rfl) rfl (by kernel_rfl) (by kernel_rfl) hN h
abbrev id_spec_l01Src_byte : FuncId := 164
def pl_spec_l01Src_byte : Nat → Option PS := plk [(2, .v 0 (.v 1 (.v 2 (.v 3 (.v 4 (.v 5 (.v 6 (.v 7 (.v 8 (.v 9 (.done))))))))))),
  (3, .v 0 (.v 1 (.v 2 (.v 3 (.v 4 (.v 5 (.v 6 (.v 7 (.v 8 (.v 9 (.v 10 (.v 11 (.v 12 (.v 13 (.v 14 (.v 15 (.v 16 (.v 17 (.v 18 (.v 19 (.v 20 (.v 21 (.v 22 (.x 23 [] (.done))))))))))))))))))))))))),
  (4, .v 0 (.v 1 (.v 2 (.v 3 (.v 4 (.v 5 (.v 6 (.v 7 (.v 8 (.v 9 (.v 10 (.v 11 (.v 12 (.done)))))))))))))),
  (5, .v 0 (.v 1 (.v 2 (.v 3 (.v 4 (.v 5 (.v 6 (.v 7 (.v 8 (.v 9 (.v 10 (.v 11 (.done)))))))))))))]
theorem F_spec_l01Src_byte {args : List SV} {Li : List Row} {mv : List Nat} {cl : Bool} {Post : SV → List Row → Prop} (h : wpE Try.prog (lk tyList) pl_spec_l01Src_byte (bodyOf Try.f164) ⟨argT args, Lof Li, []⟩ (retE (lk tyList) Try.f164.results.toList Li.length mv cl Post)) (hN : args.length ≤ Try.f164.ntmps := by simp [Try.ntmps164]) :
    CallM Try.prog id_spec_l01Src_byte args Li mv cl Post := CallM.ofE T pl_spec_l01Src_byte Try.func164 (by kernel_rfl) rfl (by kernel_rfl) (by kernel_rfl) hN h
abbrev id_spec_l01Src_bytes : FuncId := 165
def pl_spec_l01Src_bytes : Nat → Option PS := plk []
theorem F_spec_l01Src_bytes {args : List SV} {Li : List Row} {mv : List Nat} {cl : Bool} {Post : SV → List Row → Prop} (h : wpE Try.prog (lk tyList) pl_spec_l01Src_bytes (bodyOf Try.f165) ⟨argT args, Lof Li, []⟩ (retE (lk tyList) Try.f165.results.toList Li.length mv cl Post)) (hN : args.length ≤ Try.f165.ntmps := by simp [Try.ntmps165]) :
    CallM Try.prog id_spec_l01Src_bytes args Li mv cl Post := CallM.ofE T pl_spec_l01Src_bytes Try.func165 (by kernel_rfl) rfl (by kernel_rfl) (by kernel_rfl) hN h
abbrev id_spec_l01Src_word : FuncId := 166
def pl_spec_l01Src_word : Nat → Option PS := plk []
theorem F_spec_l01Src_word {args : List SV} {Li : List Row} {mv : List Nat} {cl : Bool} {Post : SV → List Row → Prop} (h : wpE Try.prog (lk tyList) pl_spec_l01Src_word (bodyOf Try.f166) ⟨argT args, Lof Li, []⟩ (retE (lk tyList) Try.f166.results.toList Li.length mv cl Post)) (hN : args.length ≤ Try.f166.ntmps := by simp [Try.ntmps166]) :
    CallM Try.prog id_spec_l01Src_word args Li mv cl Post := CallM.ofE T pl_spec_l01Src_word Try.func166 (by kernel_rfl) rfl (by kernel_rfl) (by kernel_rfl) hN h
abbrev id_spec_KeySum : FuncId := 167
def pl_spec_KeySum : Nat → Option PS := plk []
theorem F_spec_KeySum {args : List SV} {Li : List Row} {mv : List Nat} {cl : Bool} {Post : SV → List Row → Prop} (h : wpE Try.prog (lk tyList) pl_spec_KeySum (bodyOf Try.f167) ⟨argT args, Lof Li, []⟩ (retE (lk tyList) Try.f167.results.toList Li.length mv cl Post)) (hN : args.length ≤ Try.f167.ntmps := by simp [Try.ntmps167]) :
    CallM Try.prog id_spec_KeySum args Li mv cl Post := CallM.ofE T pl_spec_KeySum Try.func167 (by kernel_rfl) rfl (by kernel_rfl) (by kernel_rfl) hN h
abbrev id_spec_l01Four : FuncId := 168
def pl_spec_l01Four : Nat → Option PS := plk []
theorem F_spec_l01Four {args : List SV} {Li : List Row} {mv : List Nat} {cl : Bool} {Post : SV → List Row → Prop} (h : wpE Try.prog (lk tyList) pl_spec_l01Four (bodyOf Try.f168) ⟨argT args, Lof Li, []⟩ (retE (lk tyList) Try.f168.results.toList Li.length mv cl Post)) (hN : args.length ≤ Try.f168.ntmps := by simp [Try.ntmps168]) :
    CallM Try.prog id_spec_l01Four args Li mv cl Post := CallM.ofE T pl_spec_l01Four Try.func168 (by kernel_rfl) rfl (by kernel_rfl) (by kernel_rfl) hN h
abbrev id_impl_KeySum : FuncId := 169
def pl_impl_KeySum : Nat → Option PS := plk []
theorem F_impl_KeySum {args : List SV} {Li : List Row} {mv : List Nat} {cl : Bool} {Post : SV → List Row → Prop} (h : wpE Try.prog (lk tyList) pl_impl_KeySum (bodyOf Try.f169) ⟨argT args, Lof Li, []⟩ (retE (lk tyList) Try.f169.results.toList Li.length mv cl Post)) (hN : args.length ≤ Try.f169.ntmps := by simp [Try.ntmps169]) :
    CallM Try.prog id_impl_KeySum args Li mv cl Post := CallM.ofE T pl_impl_KeySum Try.func169 (by kernel_rfl) rfl (by kernel_rfl) (by kernel_rfl) hN h
abbrev id_impl_append8 : FuncId := 170
def pl_impl_append8 : Nat → Option PS := plk []
theorem F_impl_append8 {args : List SV} {Li : List Row} {mv : List Nat} {cl : Bool} {Post : SV → List Row → Prop} (h : wpE Try.prog (lk tyList) pl_impl_append8 (bodyOf Try.f170) ⟨argT args, Lof Li, []⟩ (retE (lk tyList) Try.f170.results.toList Li.length mv cl Post)) (hN : args.length ≤ Try.f170.ntmps := by simp [Try.ntmps170]) :
    CallM Try.prog id_impl_append8 args Li mv cl Post := CallM.ofE T pl_impl_append8 Try.func170 (by kernel_rfl) rfl (by kernel_rfl) (by kernel_rfl) hN h
abbrev id_spec_l01Reader_count : FuncId := 171
def pl_spec_l01Reader_count : Nat → Option PS := plk []
theorem F_spec_l01Reader_count {args : List SV} {Li : List Row} {mv : List Nat} {cl : Bool} {Post : SV → List Row → Prop} (h : wpE Try.prog (lk tyList) pl_spec_l01Reader_count (bodyOf Try.f171) ⟨argT args, Lof Li, []⟩ (retE (lk tyList) Try.f171.results.toList Li.length mv cl Post)) (hN : args.length ≤ Try.f171.ntmps := by simp [Try.ntmps171]) :
    CallM Try.prog id_spec_l01Reader_count args Li mv cl Post := CallM.ofE T pl_spec_l01Reader_count Try.func171 (by kernel_rfl) rfl (by kernel_rfl) (by kernel_rfl) hN h
abbrev id_spec_l01Reader_num : FuncId := 172
def pl_spec_l01Reader_num : Nat → Option PS := plk [(3, .v 0 (.v 1 (.v 2 (.v 3 (.v 4 (.v 5 (.v 6 (.v 7 (.x 8 [] (.v 9 (.v 10 (.v 11 (.v 12 (.v 13 (.v 14 (.v 15 (.done)))))))))))))))))]
theorem F_spec_l01Reader_num {args : List SV} {Li : List Row} {mv : List Nat} {cl : Bool} {Post : SV → List Row → Prop} (h : wpE Try.prog (lk tyList) pl_spec_l01Reader_num (bodyOf Try.f172) ⟨argT args, Lof Li, []⟩ (retE (lk tyList) Try.f172.results.toList Li.length mv cl Post)) (hN : args.length ≤ Try.f172.ntmps := by simp [Try.ntmps172]) :
    CallM Try.prog id_spec_l01Reader_num args Li mv cl Post := CallM.ofE T pl_spec_l01Reader_num Try.func172 (by kernel_rfl) rfl (by kernel_rfl) (by kernel_rfl) hN h
abbrev id_spec_l01Reader_take : FuncId := 173
def pl_spec_l01Reader_take : Nat → Option PS := plk [(1, .v 0 (.v 1 (.v 2 (.v 3 (.v 4 (.v 5 (.v 6 (.v 7 (.v 8 (.v 9 (.v 10 (.v 11 (.v 12 (.v 13 (.v 14 (.v 15 (.v 16 (.v 17 (.done))))))))))))))))))),
  (5, .v 0 (.v 1 (.v 2 (.v 3 (.v 4 (.v 5 (.v 6 (.v 7 (.v 8 (.v 9 (.v 10 (.v 11 (.v 12 (.v 13 (.v 14 (.v 15 (.v 16 (.done))))))))))))))))))]
theorem F_spec_l01Reader_take {args : List SV} {Li : List Row} {mv : List Nat} {cl : Bool} {Post : SV → List Row → Prop} (h : wpE Try.prog (lk tyList) pl_spec_l01Reader_take (bodyOf Try.f173) ⟨argT args, Lof Li, []⟩ (retE (lk tyList) Try.f173.results.toList Li.length mv cl Post)) (hN : args.length ≤ Try.f173.ntmps := by simp [Try.ntmps173]) :
    CallM Try.prog id_spec_l01Reader_take args Li mv cl Post := CallM.ofE T pl_spec_l01Reader_take Try.func173 (by kernel_rfl) rfl (by kernel_rfl) (by kernel_rfl) hN h
abbrev id_spec_l01Alike : FuncId := 174
def pl_spec_l01Alike : Nat → Option PS := plk [(2, .v 0 (.v 1 (.v 2 (.v 3 (.v 4 (.v 5 (.v 6 (.v 7 (.v 8 (.v 9 (.v 10 (.v 11 (.v 12 (.v 13 (.v 14 (.v 15 (.v 16 (.v 17 (.v 18 (.done))))))))))))))))))))]
theorem F_spec_l01Alike {args : List SV} {Li : List Row} {mv : List Nat} {cl : Bool} {Post : SV → List Row → Prop} (h : wpE Try.prog (lk tyList) pl_spec_l01Alike (bodyOf Try.f174) ⟨argT args, Lof Li, []⟩ (retE (lk tyList) Try.f174.results.toList Li.length mv cl Post)) (hN : args.length ≤ Try.f174.ntmps := by simp [Try.ntmps174]) :
    CallM Try.prog id_spec_l01Alike args Li mv cl Post := CallM.ofE T pl_spec_l01Alike Try.func174 (by kernel_rfl) rfl (by kernel_rfl) (by kernel_rfl) hN h
abbrev id_impl_reader_text : FuncId := 175
def pl_impl_reader_text : Nat → Option PS := plk [(1, .v 0 (.v 1 (.v 2 (.v 3 (.v 4 (.v 5 (.v 6 (.v 7 (.v 8 (.v 9 (.v 10 (.v 11 (.v 12 (.v 13 (.v 14 (.v 15 (.v 16 (.v 17 (.v 18 (.v 19 (.v 20 (.v 21 (.done))))))))))))))))))))))),
  (4, .v 0 (.v 1 (.v 2 (.v 3 (.v 4 (.v 5 (.v 6 (.v 7 (.v 8 (.v 9 (.v 10 (.v 11 (.v 12 (.v 13 (.v 14 (.v 15 (.v 16 (.done))))))))))))))))))]
theorem F_impl_reader_text {args : List SV} {Li : List Row} {mv : List Nat} {cl : Bool} {Post : SV → List Row → Prop} (h : wpE Try.prog (lk tyList) pl_impl_reader_text (bodyOf Try.f175) ⟨argT args, Lof Li, []⟩ (retE (lk tyList) Try.f175.results.toList Li.length mv cl Post)) (hN : args.length ≤ Try.f175.ntmps := by simp [Try.ntmps175]) :
    CallM Try.prog id_impl_reader_text args Li mv cl Post := CallM.ofE T pl_impl_reader_text Try.func175 (by kernel_rfl) rfl (by kernel_rfl) (by kernel_rfl) hN h
abbrev id_impl_common : FuncId := 176
def pl_impl_common : Nat → Option PS := plk [(2, .v 0 (.v 1 (.v 2 (.v 3 (.v 4 (.v 5 (.v 6 (.v 7 (.v 8 (.v 9 (.v 10 (.v 11 (.v 12 (.v 13 (.v 14 (.v 15 (.v 16 (.v 17 (.v 18 (.done))))))))))))))))))))]
theorem F_impl_common {args : List SV} {Li : List Row} {mv : List Nat} {cl : Bool} {Post : SV → List Row → Prop} (h : wpE Try.prog (lk tyList) pl_impl_common (bodyOf Try.f176) ⟨argT args, Lof Li, []⟩ (retE (lk tyList) Try.f176.results.toList Li.length mv cl Post)) (hN : args.length ≤ Try.f176.ntmps := by simp [Try.ntmps176]) :
    CallM Try.prog id_impl_common args Li mv cl Post := CallM.ofE T pl_impl_common Try.func176 (by kernel_rfl) rfl (by kernel_rfl) (by kernel_rfl) hN h
abbrev id_laws_szIntS : FuncId := 177
def pl_laws_szIntS : Nat → Option PS := plk []
theorem F_laws_szIntS {args : List SV} {Li : List Row} {mv : List Nat} {cl : Bool} {Post : SV → List Row → Prop} (h : wpE Try.prog (lk tyList) pl_laws_szIntS (bodyOf Try.f177) ⟨argT args, Lof Li, []⟩ (retE (lk tyList) Try.f177.results.toList Li.length mv cl Post)) (hN : args.length ≤ Try.f177.ntmps := by simp [Try.ntmps177]) :
    CallM Try.prog id_laws_szIntS args Li mv cl Post := CallM.ofE T pl_laws_szIntS Try.func177 (by kernel_rfl) rfl (by kernel_rfl) (by kernel_rfl) hN h
abbrev id_laws_szEntry : FuncId := 178
def pl_laws_szEntry : Nat → Option PS := plk []
theorem F_laws_szEntry {args : List SV} {Li : List Row} {mv : List Nat} {cl : Bool} {Post : SV → List Row → Prop} (h : wpE Try.prog (lk tyList) pl_laws_szEntry (bodyOf Try.f178) ⟨argT args, Lof Li, []⟩ (retE (lk tyList) Try.f178.results.toList Li.length mv cl Post)) (hN : args.length ≤ Try.f178.ntmps := by simp [Try.ntmps178]) :
    CallM Try.prog id_laws_szEntry args Li mv cl Post := CallM.ofE T pl_laws_szEntry Try.func178 (by kernel_rfl) rfl (by kernel_rfl) (by kernel_rfl) hN h
abbrev id_spec_StampOK : FuncId := 179
def pl_spec_StampOK : Nat → Option PS := plk []
theorem F_spec_StampOK {args : List SV} {Li : List Row} {mv : List Nat} {cl : Bool} {Post : SV → List Row → Prop} (h : wpE Try.prog (lk tyList) pl_spec_StampOK (bodyOf Try.f179) ⟨argT args, Lof Li, []⟩ (retE (lk tyList) Try.f179.results.toList Li.length mv cl Post)) (hN : args.length ≤ Try.f179.ntmps := by simp [Try.ntmps179]) :
    CallM Try.prog id_spec_StampOK args Li mv cl Post := CallM.ofE T pl_spec_StampOK Try.func179 (by kernel_rfl) rfl (by kernel_rfl) (by kernel_rfl) hN h
abbrev id_spec_StampLess : FuncId := 180
def pl_spec_StampLess : Nat → Option PS := plk []
theorem F_spec_StampLess {args : List SV} {Li : List Row} {mv : List Nat} {cl : Bool} {Post : SV → List Row → Prop} (h : wpE Try.prog (lk tyList) pl_spec_StampLess (bodyOf Try.f180) ⟨argT args, Lof Li, []⟩ (retE (lk tyList) Try.f180.results.toList Li.length mv cl Post)) (hN : args.length ≤ Try.f180.ntmps := by simp [Try.ntmps180]) :
    CallM Try.prog id_spec_StampLess args Li mv cl Post := CallM.ofE T pl_spec_StampLess Try.func180 (by kernel_rfl) rfl (by kernel_rfl) (by kernel_rfl) hN h
abbrev id_laws_toIntS : FuncId := 181
def pl_laws_toIntS : Nat → Option PS := plk []
theorem F_laws_toIntS {args : List SV} {Li : List Row} {mv : List Nat} {cl : Bool} {Post : SV → List Row → Prop} (h : wpE Try.prog (lk tyList) pl_laws_toIntS (bodyOf Try.f181) ⟨argT args, Lof Li, []⟩ (retE (lk tyList) Try.f181.results.toList Li.length mv cl Post)) (hN : args.length ≤ Try.f181.ntmps := by simp [Try.ntmps181]) :
    CallM Try.prog id_laws_toIntS args Li mv cl Post := CallM.ofE T pl_laws_toIntS Try.func181 (by kernel_rfl) rfl (by kernel_rfl) (by kernel_rfl) hN h
abbrev id_laws_toEntry : FuncId := 182
def pl_laws_toEntry : Nat → Option PS := plk []
theorem F_laws_toEntry {args : List SV} {Li : List Row} {mv : List Nat} {cl : Bool} {Post : SV → List Row → Prop} (h : wpE Try.prog (lk tyList) pl_laws_toEntry (bodyOf Try.f182) ⟨argT args, Lof Li, []⟩ (retE (lk tyList) Try.f182.results.toList Li.length mv cl Post)) (hN : args.length ≤ Try.f182.ntmps := by simp [Try.ntmps182]) :
    CallM Try.prog id_laws_toEntry args Li mv cl Post := CallM.ofE T pl_laws_toEntry Try.func182 (by kernel_rfl) rfl (by kernel_rfl) (by kernel_rfl) hN h
abbrev id_impl_StampOK : FuncId := 183
def pl_impl_StampOK : Nat → Option PS := plk []
theorem F_impl_StampOK {args : List SV} {Li : List Row} {mv : List Nat} {cl : Bool} {Post : SV → List Row → Prop} (h : wpE Try.prog (lk tyList) pl_impl_StampOK (bodyOf Try.f183) ⟨argT args, Lof Li, []⟩ (retE (lk tyList) Try.f183.results.toList Li.length mv cl Post)) (hN : args.length ≤ Try.f183.ntmps := by simp [Try.ntmps183]) :
    CallM Try.prog id_impl_StampOK args Li mv cl Post := CallM.ofE T pl_impl_StampOK Try.func183 (by kernel_rfl) rfl (by kernel_rfl) (by kernel_rfl) hN h
abbrev id_impl_StampLess : FuncId := 184
def pl_impl_StampLess : Nat → Option PS := plk []
theorem F_impl_StampLess {args : List SV} {Li : List Row} {mv : List Nat} {cl : Bool} {Post : SV → List Row → Prop} (h : wpE Try.prog (lk tyList) pl_impl_StampLess (bodyOf Try.f184) ⟨argT args, Lof Li, []⟩ (retE (lk tyList) Try.f184.results.toList Li.length mv cl Post)) (hN : args.length ≤ Try.f184.ntmps := by simp [Try.ntmps184]) :
    CallM Try.prog id_impl_StampLess args Li mv cl Post := CallM.ofE T pl_impl_StampLess Try.func184 (by kernel_rfl) rfl (by kernel_rfl) (by kernel_rfl) hN h
abbrev id_laws_eqIntS : FuncId := 185
def pl_laws_eqIntS : Nat → Option PS := plk [(6, .v 0 (.v 1 (.v 2 (.v 3 (.v 4 (.v 5 (.v 6 (.v 7 (.v 8 (.done))))))))))]
theorem F_laws_eqIntS {args : List SV} {Li : List Row} {mv : List Nat} {cl : Bool} {Post : SV → List Row → Prop} (h : wpE Try.prog (lk tyList) pl_laws_eqIntS (bodyOf Try.f185) ⟨argT args, Lof Li, []⟩ (retE (lk tyList) Try.f185.results.toList Li.length mv cl Post)) (hN : args.length ≤ Try.f185.ntmps := by simp [Try.ntmps185]) :
    CallM Try.prog id_laws_eqIntS args Li mv cl Post := CallM.ofE T pl_laws_eqIntS Try.func185 (by kernel_rfl) rfl (by kernel_rfl) (by kernel_rfl) hN h
abbrev id_laws_eqEntry : FuncId := 186
def pl_laws_eqEntry : Nat → Option PS := plk []
theorem F_laws_eqEntry {args : List SV} {Li : List Row} {mv : List Nat} {cl : Bool} {Post : SV → List Row → Prop} (h : wpE Try.prog (lk tyList) pl_laws_eqEntry (bodyOf Try.f186) ⟨argT args, Lof Li, []⟩ (retE (lk tyList) Try.f186.results.toList Li.length mv cl Post)) (hN : args.length ≤ Try.f186.ntmps := by simp [Try.ntmps186]) :
    CallM Try.prog id_laws_eqEntry args Li mv cl Post := CallM.ofE T pl_laws_eqEntry Try.func186 (by kernel_rfl) rfl (by kernel_rfl) (by kernel_rfl) hN h
abbrev id_spec_l03Replicas : FuncId := 187
def pl_spec_l03Replicas : Nat → Option PS := plk [(13, .v 0 (.v 1 (.v 2 (.v 3 (.v 4 (.v 5 (.x 6 [4, 3, 2, 1, 0] (.x 7 [] (.v 8 (.v 9 (.v 10 (.x 11 [10] (.v 12 (.done)))))))))))))),
  (14, .v 0 (.v 1 (.v 2 (.v 3 (.v 4 (.v 5 (.v 6 (.v 7 (.v 8 (.v 9 (.v 10 (.v 11 (.v 12 (.or (.x 13 [11, 10, 9, 8, 7, 6, 5, 4, 3, 2, 1, 0] (.or (.x 14 [] (.v 15 (.v 16 (.v 17 (.x 18 [17, 16, 15] (.x 19 [17] (.v 20 (.done)))))))) (.x 18 [11, 10, 9, 8, 7, 6, 5, 4, 3, 2, 1, 0] (.x 14 [] (.v 15 (.v 16 (.v 17 (.x 19 [17] (.v 20 (.done)))))))))) (.x 18 [12, 11, 10, 9, 8, 7, 6, 5, 4, 3, 2, 1, 0] (.x 13 [11, 10, 9, 8, 7, 6, 5, 4, 3, 2, 1, 0] (.x 14 [] (.v 15 (.v 16 (.v 17 (.x 19 [17] (.v 20 (.done))))))))))))))))))))))),
  (19, .v 0 (.v 1 (.v 2 (.v 3 (.v 4 (.x 5 [3, 2, 1, 0] (.x 6 [] (.v 7 (.v 8 (.v 9 (.x 10 [9] (.v 11 (.done))))))))))))),
  (9, .v 0 (.v 1 (.v 2 (.v 3 (.v 4 (.v 5 (.x 6 [4, 3, 2, 1, 0] (.v 7 (.v 8 (.x 9 [] (.v 10 (.v 11 (.v 12 (.x 13 [12] (.v 14 (.done))))))))))))))))]
theorem F_spec_l03Replicas {args : List SV} {Li : List Row} {mv : List Nat} {cl : Bool} {Post : SV → List Row → Prop} (h : wpE Try.prog (lk tyList) pl_spec_l03Replicas (bodyOf Try.f187) ⟨argT args, Lof Li, []⟩ (retE (lk tyList) Try.f187.results.toList Li.length mv cl Post)) (hN : args.length ≤ Try.f187.ntmps := by simp [Try.ntmps187]) :
    CallM Try.prog id_spec_l03Replicas args Li mv cl Post := CallM.ofE T pl_spec_l03Replicas Try.func187 (by kernel_rfl) rfl (by kernel_rfl) (by kernel_rfl) hN h
abbrev id_spec_l03Bent : FuncId := 188
def pl_spec_l03Bent : Nat → Option PS := plk [(5, .v 0 (.v 1 (.v 2 (.v 4 (.x 3 [4, 1, 0] (.x 5 [1, 0] (.v 6 (.x 7 [1, 0] (.x 8 [] (.v 9 (.x 10 [] (.done)))))))))))),
  (8, .v 0 (.v 1 (.v 2 (.x 3 [1, 0] (.v 4 (.x 5 [1, 0] (.v 6 (.v 7 (.v 8 (.x 9 [] (.done))))))))))),
  (10, .v 0 (.v 1 (.v 2 (.v 3 (.x 4 [2, 1, 0] (.v 5 (.x 6 [] (.done))))))))]
theorem F_spec_l03Bent {args : List SV} {Li : List Row} {mv : List Nat} {cl : Bool} {Post : SV → List Row → Prop} (h : wpE Try.prog (lk tyList) pl_spec_l03Bent (bodyOf Try.f188) ⟨argT args, Lof Li, []⟩ (retE (lk tyList) Try.f188.results.toList Li.length mv cl Post)) (hN : args.length ≤ Try.f188.ntmps := by simp [Try.ntmps188]) :
    CallM Try.prog id_spec_l03Bent args Li mv cl Post := CallM.ofE T pl_spec_l03Bent Try.func188 (by kernel_rfl) rfl (by kernel_rfl) (by kernel_rfl) hN h
abbrev id_spec_l03Find : FuncId := 189
def pl_spec_l03Find : Nat → Option PS := plk [(4, .v 0 (.v 1 (.v 2 (.v 3 (.v 4 (.v 5 (.v 6 (.done))))))))]
theorem F_spec_l03Find {args : List SV} {Li : List Row} {mv : List Nat} {cl : Bool} {Post : SV → List Row → Prop} (h : wpE Try.prog (lk tyList) pl_spec_l03Find (bodyOf Try.f189) ⟨argT args, Lof Li, []⟩ (retE (lk tyList) Try.f189.results.toList Li.length mv cl Post)) (hN : args.length ≤ Try.f189.ntmps := by simp [Try.ntmps189]) :
    CallM Try.prog id_spec_l03Find args Li mv cl Post := CallM.ofE T pl_spec_l03Find Try.func189 (by kernel_rfl) rfl (by kernel_rfl) (by kernel_rfl) hN h
abbrev id_spec_l03Insert : FuncId := 190
def pl_spec_l03Insert : Nat → Option PS := plk [(2, .v 0 (.v 1 (.v 2 (.v 3 (.v 4 (.v 5 (.v 6 (.v 7 (.v 8 (.v 9 (.v 10 (.v 11 (.x 12 [] (.v 13 (.done)))))))))))))))]
theorem F_spec_l03Insert {args : List SV} {Li : List Row} {mv : List Nat} {cl : Bool} {Post : SV → List Row → Prop} (h : wpE Try.prog (lk tyList) pl_spec_l03Insert (bodyOf Try.f190) ⟨argT args, Lof Li, []⟩ (retE (lk tyList) Try.f190.results.toList Li.length mv cl Post)) (hN : args.length ≤ Try.f190.ntmps := by simp [Try.ntmps190]) :
    CallM Try.prog id_spec_l03Insert args Li mv cl Post := CallM.ofE T pl_spec_l03Insert Try.func190 (by kernel_rfl) rfl (by kernel_rfl) (by kernel_rfl) hN h
abbrev id_spec_l08Stamp : FuncId := 191
def pl_spec_l08Stamp : Nat → Option PS := plk []
theorem F_spec_l08Stamp {args : List SV} {Li : List Row} {mv : List Nat} {cl : Bool} {Post : SV → List Row → Prop} (h : wpE Try.prog (lk tyList) pl_spec_l08Stamp (bodyOf Try.f191) ⟨argT args, Lof Li, []⟩ (retE (lk tyList) Try.f191.results.toList Li.length mv cl Post)) (hN : args.length ≤ Try.f191.ntmps := by simp [Try.ntmps191]) :
    CallM Try.prog id_spec_l08Stamp args Li mv cl Post := CallM.ofE T pl_spec_l08Stamp Try.func191 (by kernel_rfl) rfl (by kernel_rfl) (by kernel_rfl) hN h
abbrev id_spec_l02None : FuncId := 192
def pl_spec_l02None : Nat → Option PS := plk []
theorem F_spec_l02None {args : List SV} {Li : List Row} {mv : List Nat} {cl : Bool} {Post : SV → List Row → Prop} (h : wpE Try.prog (lk tyList) pl_spec_l02None (bodyOf Try.f192) ⟨argT args, Lof Li, []⟩ (retE (lk tyList) Try.f192.results.toList Li.length mv cl Post)) (hN : args.length ≤ Try.f192.ntmps := by simp [Try.ntmps192]) :
    CallM Try.prog id_spec_l02None args Li mv cl Post := CallM.ofE T pl_spec_l02None Try.func192 (by kernel_rfl) rfl (by kernel_rfl) (by kernel_rfl) hN h
abbrev id_spec_l04Char : FuncId := 193
def pl_spec_l04Char : Nat → Option PS := plk []
theorem F_spec_l04Char {args : List SV} {Li : List Row} {mv : List Nat} {cl : Bool} {Post : SV → List Row → Prop} (h : wpE Try.prog (lk tyList) pl_spec_l04Char (bodyOf Try.f193) ⟨argT args, Lof Li, []⟩ (retE (lk tyList) Try.f193.results.toList Li.length mv cl Post)) (hN : args.length ≤ Try.f193.ntmps := by simp [Try.ntmps193]) :
    CallM Try.prog id_spec_l04Char args Li mv cl Post := CallM.ofE T pl_spec_l04Char Try.func193 (by kernel_rfl) rfl (by kernel_rfl) (by kernel_rfl) hN h
abbrev id_spec_l08Sign : FuncId := 194
def pl_spec_l08Sign : Nat → Option PS := plk []
theorem F_spec_l08Sign {args : List SV} {Li : List Row} {mv : List Nat} {cl : Bool} {Post : SV → List Row → Prop} (h : wpE Try.prog (lk tyList) pl_spec_l08Sign (bodyOf Try.f194) ⟨argT args, Lof Li, []⟩ (retE (lk tyList) Try.f194.results.toList Li.length mv cl Post)) (hN : args.length ≤ Try.f194.ntmps := by simp [Try.ntmps194]) :
    CallM Try.prog id_spec_l08Sign args Li mv cl Post := CallM.ofE T pl_spec_l08Sign Try.func194 (by kernel_rfl) rfl (by kernel_rfl) (by kernel_rfl) hN h
abbrev id_impl_Op_stamp : FuncId := 195
def pl_impl_Op_stamp : Nat → Option PS := plk []
theorem F_impl_Op_stamp {args : List SV} {Li : List Row} {mv : List Nat} {cl : Bool} {Post : SV → List Row → Prop} (h : wpE Try.prog (lk tyList) pl_impl_Op_stamp (bodyOf Try.f195) ⟨argT args, Lof Li, []⟩ (retE (lk tyList) Try.f195.results.toList Li.length mv cl Post)) (hN : args.length ≤ Try.f195.ntmps := by simp [Try.ntmps195]) :
    CallM Try.prog id_impl_Op_stamp args Li mv cl Post := CallM.ofE T pl_impl_Op_stamp Try.func195 (by kernel_rfl) rfl (by kernel_rfl) (by kernel_rfl) hN h
abbrev id_impl_charOK : FuncId := 196
def pl_impl_charOK : Nat → Option PS := plk []
theorem F_impl_charOK {args : List SV} {Li : List Row} {mv : List Nat} {cl : Bool} {Post : SV → List Row → Prop} (h : wpE Try.prog (lk tyList) pl_impl_charOK (bodyOf Try.f196) ⟨argT args, Lof Li, []⟩ (retE (lk tyList) Try.f196.results.toList Li.length mv cl Post)) (hN : args.length ≤ Try.f196.ntmps := by simp [Try.ntmps196]) :
    CallM Try.prog id_impl_charOK args Li mv cl Post := CallM.ofE T pl_impl_charOK Try.func196 (by kernel_rfl) rfl (by kernel_rfl) (by kernel_rfl) hN h
abbrev id_impl_Op_numbers : FuncId := 197
def pl_impl_Op_numbers : Nat → Option PS := plk [(1, .v 0 (.v 1 (.v 2 (.v 3 (.v 4 (.v 5 (.v 6 (.v 7 (.v 8 (.v 9 (.v 10 (.v 11 (.v 13 (.v 14 (.v 15 (.v 16 (.v 17 (.v 18 (.v 19 (.v 20 (.x 12 [20, 19, 18, 17, 16, 15, 14, 13, 9, 8, 7, 6, 5, 4, 3, 2, 1, 0] (.v 21 (.x 22 [] (.done))))))))))))))))))))))))]
theorem F_impl_Op_numbers {args : List SV} {Li : List Row} {mv : List Nat} {cl : Bool} {Post : SV → List Row → Prop} (h : wpE Try.prog (lk tyList) pl_impl_Op_numbers (bodyOf Try.f197) ⟨argT args, Lof Li, []⟩ (retE (lk tyList) Try.f197.results.toList Li.length mv cl Post)) (hN : args.length ≤ Try.f197.ntmps := by simp [Try.ntmps197]) :
    CallM Try.prog id_impl_Op_numbers args Li mv cl Post := CallM.ofE T pl_impl_Op_numbers Try.func197 (by kernel_rfl) rfl (by kernel_rfl) (by kernel_rfl) hN h
abbrev id_spec_l01Put : FuncId := 198
def pl_spec_l01Put : Nat → Option PS := plk []
theorem F_spec_l01Put {args : List SV} {Li : List Row} {mv : List Nat} {cl : Bool} {Post : SV → List Row → Prop} (h : wpE Try.prog (lk tyList) pl_spec_l01Put (bodyOf Try.f198) ⟨argT args, Lof Li, []⟩ (retE (lk tyList) Try.f198.results.toList Li.length mv cl Post)) (hN : args.length ≤ Try.f198.ntmps := by simp [Try.ntmps198]) :
    CallM Try.prog id_spec_l01Put args Li mv cl Post := CallM.ofE T pl_spec_l01Put Try.func198 (by kernel_rfl) rfl (by kernel_rfl) (by kernel_rfl) hN h
abbrev id_spec_Sum32 : FuncId := 199
def pl_spec_Sum32 : Nat → Option PS := plk []
theorem F_spec_Sum32 {args : List SV} {Li : List Row} {mv : List Nat} {cl : Bool} {Post : SV → List Row → Prop} (h : wpE Try.prog (lk tyList) pl_spec_Sum32 (bodyOf Try.f199) ⟨argT args, Lof Li, []⟩ (retE (lk tyList) Try.f199.results.toList Li.length mv cl Post)) (hN : args.length ≤ Try.f199.ntmps := by simp [Try.ntmps199]) :
    CallM Try.prog id_spec_Sum32 args Li mv cl Post := CallM.ofE T pl_spec_Sum32 Try.func199 (by kernel_rfl) rfl (by kernel_rfl) (by kernel_rfl) hN h
abbrev id_impl_append4 : FuncId := 200
def pl_impl_append4 : Nat → Option PS := plk []
theorem F_impl_append4 {args : List SV} {Li : List Row} {mv : List Nat} {cl : Bool} {Post : SV → List Row → Prop} (h : wpE Try.prog (lk tyList) pl_impl_append4 (bodyOf Try.f200) ⟨argT args, Lof Li, []⟩ (retE (lk tyList) Try.f200.results.toList Li.length mv cl Post)) (hN : args.length ≤ Try.f200.ntmps := by simp [Try.ntmps200]) :
    CallM Try.prog id_impl_append4 args Li mv cl Post := CallM.ofE T pl_impl_append4 Try.func200 (by kernel_rfl) rfl (by kernel_rfl) (by kernel_rfl) hN h
abbrev id_impl_sum32 : FuncId := 201
def pl_impl_sum32 : Nat → Option PS := plk []
theorem F_impl_sum32 {args : List SV} {Li : List Row} {mv : List Nat} {cl : Bool} {Post : SV → List Row → Prop} (h : wpE Try.prog (lk tyList) pl_impl_sum32 (bodyOf Try.f201) ⟨argT args, Lof Li, []⟩ (retE (lk tyList) Try.f201.results.toList Li.length mv cl Post)) (hN : args.length ≤ Try.f201.ntmps := by simp [Try.ntmps201]) :
    CallM Try.prog id_impl_sum32 args Li mv cl Post := CallM.ofE T pl_impl_sum32 Try.func201 (by kernel_rfl) rfl (by kernel_rfl) (by kernel_rfl) hN h
abbrev id_spec_l01Src_size : FuncId := 202
def pl_spec_l01Src_size : Nat → Option PS := plk []
theorem F_spec_l01Src_size {args : List SV} {Li : List Row} {mv : List Nat} {cl : Bool} {Post : SV → List Row → Prop} (h : wpE Try.prog (lk tyList) pl_spec_l01Src_size (bodyOf Try.f202) ⟨argT args, Lof Li, []⟩ (retE (lk tyList) Try.f202.results.toList Li.length mv cl Post)) (hN : args.length ≤ Try.f202.ntmps := by simp [Try.ntmps202]) :
    CallM Try.prog id_spec_l01Src_size args Li mv cl Post := CallM.ofE T pl_spec_l01Src_size Try.func202 (by kernel_rfl) rfl (by kernel_rfl) (by kernel_rfl) hN h
abbrev id_impl_runLen : FuncId := 203
def pl_impl_runLen : Nat → Option PS := plk [(3, .v 0 (.v 1 (.v 2 (.v 3 (.v 4 (.v 5 (.v 6 (.v 7 (.v 8 (.v 9 (.v 10 (.done)))))))))))),
  (5, .v 0 (.v 1 (.v 2 (.v 3 (.v 4 (.v 5 (.v 6 (.v 7 (.v 8 (.v 9 (.v 10 (.v 11 (.v 12 (.v 13 (.v 14 (.v 15 (.v 16 (.v 17 (.v 18 (.v 19 (.v 20 (.v 21 (.v 22 (.v 23 (.done)))))))))))))))))))))))))]
theorem F_impl_runLen {args : List SV} {Li : List Row} {mv : List Nat} {cl : Bool} {Post : SV → List Row → Prop} (h : wpE Try.prog (lk tyList) pl_impl_runLen (bodyOf Try.f203) ⟨argT args, Lof Li, []⟩ (retE (lk tyList) Try.f203.results.toList Li.length mv cl Post)) (hN : args.length ≤ Try.f203.ntmps := by simp [Try.ntmps203]) :
    CallM Try.prog id_impl_runLen args Li mv cl Post := CallM.ofE T pl_impl_runLen Try.func203 (by kernel_rfl) rfl (by kernel_rfl) (by kernel_rfl) hN h
abbrev id_impl_zig : FuncId := 204
def pl_impl_zig : Nat → Option PS := plk []
theorem F_impl_zig {args : List SV} {Li : List Row} {mv : List Nat} {cl : Bool} {Post : SV → List Row → Prop} (h : wpE Try.prog (lk tyList) pl_impl_zig (bodyOf Try.f204) ⟨argT args, Lof Li, []⟩ (retE (lk tyList) Try.f204.results.toList Li.length mv cl Post)) (hN : args.length ≤ Try.f204.ntmps := by simp [Try.ntmps204]) :
    CallM Try.prog id_impl_zig args Li mv cl Post := CallM.ofE T pl_impl_zig Try.func204 (by kernel_rfl) rfl (by kernel_rfl) (by kernel_rfl) hN h
abbrev id_spec_l01Signed : FuncId := 205
def pl_spec_l01Signed : Nat → Option PS := plk []
theorem F_spec_l01Signed {args : List SV} {Li : List Row} {mv : List Nat} {cl : Bool} {Post : SV → List Row → Prop} (h : wpE Try.prog (lk tyList) pl_spec_l01Signed (bodyOf Try.f205) ⟨argT args, Lof Li, []⟩ (retE (lk tyList) Try.f205.results.toList Li.length mv cl Post)) (hN : args.length ≤ Try.f205.ntmps := by simp [Try.ntmps205]) :
    CallM Try.prog id_spec_l01Signed args Li mv cl Post := CallM.ofE T pl_spec_l01Signed Try.func205 (by kernel_rfl) rfl (by kernel_rfl) (by kernel_rfl) hN h
abbrev id_impl_zag : FuncId := 206
def pl_impl_zag : Nat → Option PS := plk []
theorem F_impl_zag {args : List SV} {Li : List Row} {mv : List Nat} {cl : Bool} {Post : SV → List Row → Prop} (h : wpE Try.prog (lk tyList) pl_impl_zag (bodyOf Try.f206) ⟨argT args, Lof Li, []⟩ (retE (lk tyList) Try.f206.results.toList Li.length mv cl Post)) (hN : args.length ≤ Try.f206.ntmps := by simp [Try.ntmps206]) :
    CallM Try.prog id_impl_zag args Li mv cl Post := CallM.ofE T pl_impl_zag Try.func206 (by kernel_rfl) rfl (by kernel_rfl) (by kernel_rfl) hN h
abbrev id_spec_l01Src_vector : FuncId := 207
def pl_spec_l01Src_vector : Nat → Option PS := plk [(5, .v 0 (.v 1 (.v 2 (.v 3 (.x 4 [2, 1, 0] (.v 5 (.x 6 [] (.done))))))))]
theorem F_spec_l01Src_vector {args : List SV} {Li : List Row} {mv : List Nat} {cl : Bool} {Post : SV → List Row → Prop} (h : wpE Try.prog (lk tyList) pl_spec_l01Src_vector (bodyOf Try.f207) ⟨argT args, Lof Li, []⟩ (retE (lk tyList) Try.f207.results.toList Li.length mv cl Post)) (hN : args.length ≤ Try.f207.ntmps := by simp [Try.ntmps207]) :
    CallM Try.prog id_spec_l01Src_vector args Li mv cl Post := CallM.ofE T pl_spec_l01Src_vector Try.func207 (by kernel_rfl) rfl (by kernel_rfl) (by kernel_rfl) hN h
abbrev id_spec_l01Get : FuncId := 208
def pl_spec_l01Get : Nat → Option PS := plk []
theorem F_spec_l01Get {args : List SV} {Li : List Row} {mv : List Nat} {cl : Bool} {Post : SV → List Row → Prop} (h : wpE Try.prog (lk tyList) pl_spec_l01Get (bodyOf Try.f208) ⟨argT args, Lof Li, []⟩ (retE (lk tyList) Try.f208.results.toList Li.length mv cl Post)) (hN : args.length ≤ Try.f208.ntmps := by simp [Try.ntmps208]) :
    CallM Try.prog id_spec_l01Get args Li mv cl Post := CallM.ofE T pl_spec_l01Get Try.func208 (by kernel_rfl) rfl (by kernel_rfl) (by kernel_rfl) hN h
abbrev id_spec_l13Op : FuncId := 209
def pl_spec_l13Op : Nat → Option PS := plk [(6, .v 0 (.v 1 (.v 2 (.v 3 (.v 4 (.v 5 (.v 6 (.v 7 (.v 8 (.v 9 (.v 10 (.v 11 (.v 12 (.v 13 (.v 14 (.v 15 (.v 16 (.v 17 (.v 18 (.v 19 (.v 20 (.v 21 (.v 22 (.v 23 (.v 24 (.v 25 (.v 26 (.v 27 (.v 28 (.v 30 (.v 31 (.v 34 (.v 35 (.v 36 (.v 37 (.v 38 (.v 39 (.or (.x 29 [39, 38, 37, 36, 35, 34, 31, 30, 28, 27, 26, 25, 24, 23, 22, 21, 20, 19, 18, 17, 16, 15, 14, 13, 12, 11, 10, 9, 8, 7, 6, 5, 4, 3, 2, 1, 0] (.or (.x 32 [39, 38, 37, 36, 35, 34, 28, 27, 26, 25, 24, 23, 22, 21, 20, 19, 18, 17, 16, 15, 14, 13, 12, 11, 10, 9, 8, 7, 6, 5, 4, 3, 2, 1, 0] (.v 33 (.v 40 (.x 41 [40, 33, 39, 38, 37, 36, 35, 34, 28, 27, 26, 25, 24, 23, 22, 21, 20, 19, 18, 17, 16, 15, 14, 13, 12, 11, 10, 9, 8, 7, 6, 5, 4, 3, 2, 1, 0] (.x 42 [] (.done)))))) (.x 41 [39, 38, 37, 36, 35, 34, 31, 30, 28, 27, 26, 25, 24, 23, 22, 21, 20, 19, 18, 17, 16, 15, 14, 13, 12, 11, 10, 9, 8, 7, 6, 5, 4, 3, 2, 1, 0] (.x 32 [39, 38, 37, 36, 35, 34, 28, 27, 26, 25, 24, 23, 22, 21, 20, 19, 18, 17, 16, 15, 14, 13, 12, 11, 10, 9, 8, 7, 6, 5, 4, 3, 2, 1, 0] (.v 33 (.v 40 (.x 42 [] (.done)))))))) (.x 41 [39, 38, 37, 36, 35, 34, 31, 30, 28, 27, 26, 25, 24, 23, 22, 21, 20, 19, 18, 17, 16, 15, 14, 13, 12, 11, 10, 9, 8, 7, 6, 5, 4, 3, 2, 1, 0] (.x 29 [39, 38, 37, 36, 35, 34, 31, 30, 28, 27, 26, 25, 24, 23, 22, 21, 20, 19, 18, 17, 16, 15, 14, 13, 12, 11, 10, 9, 8, 7, 6, 5, 4, 3, 2, 1, 0] (.x 32 [39, 38, 37, 36, 35, 34, 28, 27, 26, 25, 24, 23, 22, 21, 20, 19, 18, 17, 16, 15, 14, 13, 12, 11, 10, 9, 8, 7, 6, 5, 4, 3, 2, 1, 0] (.v 33 (.v 40 (.x 42 [] (.done))))))))))))))))))))))))))))))))))))))))))))),
  (9, .v 0 (.v 1 (.x 2 [0] (.v 3 (.v 4 (.v 7 (.v 8 (.x 5 [8, 7, 0] (.v 6 (.v 9 (.v 10 (.x 11 [10, 9, 6, 8, 7] (.v 12 (.done))))))))))))))]
theorem F_spec_l13Op {args : List SV} {Li : List Row} {mv : List Nat} {cl : Bool} {Post : SV → List Row → Prop} (h : wpE Try.prog (lk tyList) pl_spec_l13Op (bodyOf Try.f209) ⟨argT args, Lof Li, []⟩ (retE (lk tyList) Try.f209.results.toList Li.length mv cl Post)) (hN : args.length ≤ Try.f209.ntmps := by simp [Try.ntmps209]) :
    CallM Try.prog id_spec_l13Op args Li mv cl Post := CallM.ofE T pl_spec_l13Op Try.func209 (by kernel_rfl) rfl (by kernel_rfl) (by kernel_rfl) hN h
abbrev id_impl_opFrom : FuncId := 210
def pl_impl_opFrom : Nat → Option PS := plk [(1, .v 0 (.v 1 (.v 2 (.v 3 (.v 4 (.v 5 (.v 6 (.v 7 (.v 8 (.v 9 (.v 10 (.v 11 (.v 12 (.v 13 (.v 14 (.v 15 (.v 16 (.v 17 (.v 19 (.v 20 (.v 21 (.v 22 (.v 23 (.v 24 (.v 25 (.v 26 (.v 27 (.v 28 (.v 29 (.v 30 (.v 31 (.v 32 (.v 33 (.x 18 [33, 32, 31, 30, 29, 28, 27, 26, 25, 24, 23, 22, 21, 20, 19, 14, 13, 12, 11, 10, 9, 8, 7, 6, 5, 4, 3, 2, 1, 0] (.v 34 (.x 35 [] (.done)))))))))))))))))))))))))))))))))))))]
theorem F_impl_opFrom {args : List SV} {Li : List Row} {mv : List Nat} {cl : Bool} {Post : SV → List Row → Prop} (h : wpE Try.prog (lk tyList) pl_impl_opFrom (bodyOf Try.f210) ⟨argT args, Lof Li, []⟩ (retE (lk tyList) Try.f210.results.toList Li.length mv cl Post)) (hN : args.length ≤ Try.f210.ntmps := by simp [Try.ntmps210]) :
    CallM Try.prog id_impl_opFrom args Li mv cl Post := CallM.ofE T pl_impl_opFrom Try.func210 (by kernel_rfl) rfl (by kernel_rfl) (by kernel_rfl) hN h
abbrev id_spec_l08Bent : FuncId := 211
def pl_spec_l08Bent : Nat → Option PS := plk [(10, .v 0 (.v 1 (.v 2 (.v 3 (.x 4 [2, 1, 0] (.v 5 (.v 6 (.v 7 (.v 8 (.x 9 [] (.done)))))))))))]
theorem F_spec_l08Bent {args : List SV} {Li : List Row} {mv : List Nat} {cl : Bool} {Post : SV → List Row → Prop} (h : wpE Try.prog (lk tyList) pl_spec_l08Bent (bodyOf Try.f211) ⟨argT args, Lof Li, []⟩ (retE (lk tyList) Try.f211.results.toList Li.length mv cl Post)) (hN : args.length ≤ Try.f211.ntmps := by simp [Try.ntmps211]) :
    CallM Try.prog id_spec_l08Bent args Li mv cl Post := CallM.ofE T pl_spec_l08Bent Try.func211 (by kernel_rfl) rfl (by kernel_rfl) (by kernel_rfl) hN h
abbrev id_spec_l08Grow : FuncId := 212
def pl_spec_l08Grow : Nat → Option PS := plk [(7, .v 0 (.v 1 (.v 2 (.v 3 (.v 4 (.v 5 (.x 6 [4, 3, 2, 1, 0] (.v 7 (.v 8 (.x 9 [] (.v 10 (.v 11 (.v 12 (.v 13 (.v 14 (.v 15 (.v 16 (.done)))))))))))))))))),
  (10, .v 0 (.v 1 (.v 2 (.v 3 (.v 4 (.v 5 (.v 6 (.v 7 (.v 8 (.v 9 (.v 10 (.v 11 (.x 12 [5, 4, 3, 2, 1, 0] (.x 13 [1, 0] (.v 14 (.x 15 [] (.done)))))))))))))))))]
theorem F_spec_l08Grow {args : List SV} {Li : List Row} {mv : List Nat} {cl : Bool} {Post : SV → List Row → Prop} (h : wpE Try.prog (lk tyList) pl_spec_l08Grow (bodyOf Try.f212) ⟨argT args, Lof Li, []⟩ (retE (lk tyList) Try.f212.results.toList Li.length mv cl Post)) (hN : args.length ≤ Try.f212.ntmps := by simp [Try.ntmps212]) :
    CallM Try.prog id_spec_l08Grow args Li mv cl Post := CallM.ofE T pl_spec_l08Grow Try.func212 (by kernel_rfl) rfl (by kernel_rfl) (by kernel_rfl) hN h
abbrev id_impl_Op_thing : FuncId := 213
def pl_impl_Op_thing : Nat → Option PS := plk []
theorem F_impl_Op_thing {args : List SV} {Li : List Row} {mv : List Nat} {cl : Bool} {Post : SV → List Row → Prop} (h : wpE Try.prog (lk tyList) pl_impl_Op_thing (bodyOf Try.f213) ⟨argT args, Lof Li, []⟩ (retE (lk tyList) Try.f213.results.toList Li.length mv cl Post)) (hN : args.length ≤ Try.f213.ntmps := by simp [Try.ntmps213]) :
    CallM Try.prog id_impl_Op_thing args Li mv cl Post := CallM.ofE T pl_impl_Op_thing Try.func213 (by kernel_rfl) rfl (by kernel_rfl) (by kernel_rfl) hN h
abbrev id_impl_book_put : FuncId := 214
def pl_impl_book_put : Nat → Option PS := plk [(1, .v 0 (.v 1 (.v 2 (.v 3 (.v 4 (.v 5 (.v 6 (.v 7 (.v 8 (.v 9 (.v 10 (.v 13 (.v 14 (.x 11 [14, 13, 9, 8, 7, 6, 5, 4, 3, 2, 1, 0] (.x 12 [14, 13, 2, 1, 0] (.v 15 (.x 16 [] (.done)))))))))))))))))),
  (2, .v 0 (.v 1 (.v 2 (.v 3 (.v 5 (.v 6 (.x 4 [6, 5, 2, 1, 0] (.v 7 (.x 8 [] (.done)))))))))),
  (4, .v 0 (.v 1 (.v 2 (.v 3 (.v 4 (.x 5 [3, 2, 1, 0] (.x 6 [] (.done))))))))]
theorem F_impl_book_put {args : List SV} {Li : List Row} {mv : List Nat} {cl : Bool} {Post : SV → List Row → Prop} (h : wpE Try.prog (lk tyList) pl_impl_book_put (bodyOf Try.f214) ⟨argT args, Lof Li, []⟩ (retE (lk tyList) Try.f214.results.toList Li.length mv cl Post)) (hN : args.length ≤ Try.f214.ntmps := by simp [Try.ntmps214]) :
    CallM Try.prog id_impl_book_put args Li mv cl Post := CallM.ofE T pl_impl_book_put Try.func214 (by kernel_rfl) rfl (by kernel_rfl) (by kernel_rfl) hN h
abbrev id_spec_l08Counts : FuncId := 215
def pl_spec_l08Counts : Nat → Option PS := plk [(5, .v 0 (.v 1 (.v 2 (.v 3 (.v 4 (.v 5 (.v 6 (.v 7 (.v 8 (.v 9 (.v 10 (.x 11 [] (.done)))))))))))))]
theorem F_spec_l08Counts {args : List SV} {Li : List Row} {mv : List Nat} {cl : Bool} {Post : SV → List Row → Prop} (h : wpE Try.prog (lk tyList) pl_spec_l08Counts (bodyOf Try.f215) ⟨argT args, Lof Li, []⟩ (retE (lk tyList) Try.f215.results.toList Li.length mv cl Post)) (hN : args.length ≤ Try.f215.ntmps := by simp [Try.ntmps215]) :
    CallM Try.prog id_spec_l08Counts args Li mv cl Post := CallM.ofE T pl_spec_l08Counts Try.func215 (by kernel_rfl) rfl (by kernel_rfl) (by kernel_rfl) hN h
abbrev id_spec_l08Causes : FuncId := 216
def pl_spec_l08Causes : Nat → Option PS := plk [(7, .v 0 (.v 1 (.v 2 (.v 3 (.v 4 (.v 5 (.v 6 (.v 11 (.x 7 [11, 3] (.v 8 (.v 9 (.x 10 [11] (.x 12 [] (.x 13 [] (.v 14 (.v 15 (.done)))))))))))))))))]
theorem F_spec_l08Causes {args : List SV} {Li : List Row} {mv : List Nat} {cl : Bool} {Post : SV → List Row → Prop} (h : wpE Try.prog (lk tyList) pl_spec_l08Causes (bodyOf Try.f216) ⟨argT args, Lof Li, []⟩ (retE (lk tyList) Try.f216.results.toList Li.length mv cl Post)) (hN : args.length ≤ Try.f216.ntmps := by simp [Try.ntmps216]) :
    CallM Try.prog id_spec_l08Causes args Li mv cl Post := CallM.ofE T pl_spec_l08Causes Try.func216 (by kernel_rfl) rfl (by kernel_rfl) (by kernel_rfl) hN h
abbrev id_spec_l08Thing : FuncId := 217
def pl_spec_l08Thing : Nat → Option PS := plk []
theorem F_spec_l08Thing {args : List SV} {Li : List Row} {mv : List Nat} {cl : Bool} {Post : SV → List Row → Prop} (h : wpE Try.prog (lk tyList) pl_spec_l08Thing (bodyOf Try.f217) ⟨argT args, Lof Li, []⟩ (retE (lk tyList) Try.f217.results.toList Li.length mv cl Post)) (hN : args.length ≤ Try.f217.ntmps := by simp [Try.ntmps217]) :
    CallM Try.prog id_spec_l08Thing args Li mv cl Post := CallM.ofE T pl_spec_l08Thing Try.func217 (by kernel_rfl) rfl (by kernel_rfl) (by kernel_rfl) hN h
abbrev id_spec_l01Join : FuncId := 218
def pl_spec_l01Join : Nat → Option PS := plk []
theorem F_spec_l01Join {args : List SV} {Li : List Row} {mv : List Nat} {cl : Bool} {Post : SV → List Row → Prop} (h : wpE Try.prog (lk tyList) pl_spec_l01Join (bodyOf Try.f218) ⟨argT args, Lof Li, []⟩ (retE (lk tyList) Try.f218.results.toList Li.length mv cl Post)) (hN : args.length ≤ Try.f218.ntmps := by simp [Try.ntmps218]) :
    CallM Try.prog id_spec_l01Join args Li mv cl Post := CallM.ofE T pl_spec_l01Join Try.func218 (by kernel_rfl) rfl (by kernel_rfl) (by kernel_rfl) hN h
abbrev id_impl_sumOn : FuncId := 219
def pl_impl_sumOn : Nat → Option PS := plk []
theorem F_impl_sumOn {args : List SV} {Li : List Row} {mv : List Nat} {cl : Bool} {Post : SV → List Row → Prop} (h : wpE Try.prog (lk tyList) pl_impl_sumOn (bodyOf Try.f219) ⟨argT args, Lof Li, []⟩ (retE (lk tyList) Try.f219.results.toList Li.length mv cl Post)) (hN : args.length ≤ Try.f219.ntmps := by simp [Try.ntmps219]) :
    CallM Try.prog id_impl_sumOn args Li mv cl Post := CallM.ofE T pl_impl_sumOn Try.func219 (by kernel_rfl) rfl (by kernel_rfl) (by kernel_rfl) hN h
abbrev id_spec_l02New : FuncId := 220
def pl_spec_l02New : Nat → Option PS := plk []
theorem F_spec_l02New {args : List SV} {Li : List Row} {mv : List Nat} {cl : Bool} {Post : SV → List Row → Prop} (h : wpE Try.prog (lk tyList) pl_spec_l02New (bodyOf Try.f220) ⟨argT args, Lof Li, []⟩ (retE (lk tyList) Try.f220.results.toList Li.length mv cl Post)) (hN : args.length ≤ Try.f220.ntmps := by simp [Try.ntmps220]) :
    CallM Try.prog id_spec_l02New args Li mv cl Post := CallM.ofE T pl_spec_l02New Try.func220 (by kernel_rfl) rfl (by kernel_rfl) (by kernel_rfl) hN h
abbrev id_spec_SetAdd : FuncId := 221
def pl_spec_SetAdd : Nat → Option PS := plk [(6, .v 0 (.v 1 (.v 2 (.v 4 (.x 3 [4] (.x 5 [] (.v 6 (.done))))))))]
theorem F_spec_SetAdd {args : List SV} {Li : List Row} {mv : List Nat} {cl : Bool} {Post : SV → List Row → Prop} (h : wpE Try.prog (lk tyList) pl_spec_SetAdd (bodyOf Try.f221) ⟨argT args, Lof Li, []⟩ (retE (lk tyList) Try.f221.results.toList Li.length mv cl Post)) (hN : args.length ≤ Try.f221.ntmps := by simp [Try.ntmps221]) :
    CallM Try.prog id_spec_SetAdd args Li mv cl Post := CallM.ofE T pl_spec_SetAdd Try.func221 (by kernel_rfl) rfl (by kernel_rfl) (by kernel_rfl) hN h
abbrev id_spec_SetRemove : FuncId := 222
def pl_spec_SetRemove : Nat → Option PS := plk [(5, .v 0 (.v 1 (.v 3 (.v 4 (.v 5 (.x 2 [5, 4, 3] (.x 6 [] (.v 7 (.x 8 [] (.v 9 (.done)))))))))))]
theorem F_spec_SetRemove {args : List SV} {Li : List Row} {mv : List Nat} {cl : Bool} {Post : SV → List Row → Prop} (h : wpE Try.prog (lk tyList) pl_spec_SetRemove (bodyOf Try.f222) ⟨argT args, Lof Li, []⟩ (retE (lk tyList) Try.f222.results.toList Li.length mv cl Post)) (hN : args.length ≤ Try.f222.ntmps := by simp [Try.ntmps222]) :
    CallM Try.prog id_spec_SetRemove args Li mv cl Post := CallM.ofE T pl_spec_SetRemove Try.func222 (by kernel_rfl) rfl (by kernel_rfl) (by kernel_rfl) hN h
abbrev id_spec_l01Src_oddStamp : FuncId := 223
def pl_spec_l01Src_oddStamp : Nat → Option PS := plk [(3, .v 1 (.v 5 (.or (.x 0 [5, 1] (.x 2 [5] (.v 3 (.v 4 (.x 6 [4, 3] (.v 7 (.x 8 [] (.done)))))))) (.x 2 [5] (.or (.x 0 [5] (.v 3 (.v 4 (.x 6 [4, 3] (.v 7 (.x 8 [] (.done))))))) (.x 6 [] (.x 0 [] (.v 3 (.v 4 (.v 7 (.x 8 [] (.done))))))))))))]
theorem F_spec_l01Src_oddStamp {args : List SV} {Li : List Row} {mv : List Nat} {cl : Bool} {Post : SV → List Row → Prop} (h : wpE Try.prog (lk tyList) pl_spec_l01Src_oddStamp (bodyOf Try.f223) ⟨argT args, Lof Li, []⟩ (retE (lk tyList) Try.f223.results.toList Li.length mv cl Post)) (hN : args.length ≤ Try.f223.ntmps := by simp [Try.ntmps223]) :
    CallM Try.prog id_spec_l01Src_oddStamp args Li mv cl Post := CallM.ofE T pl_spec_l01Src_oddStamp Try.func223 (by kernel_rfl) rfl (by kernel_rfl) (by kernel_rfl) hN h
abbrev id_spec_l01Reader_runs : FuncId := 224
def pl_spec_l01Reader_runs : Nat → Option PS := plk []
theorem F_spec_l01Reader_runs {args : List SV} {Li : List Row} {mv : List Nat} {cl : Bool} {Post : SV → List Row → Prop} (h : wpE Try.prog (lk tyList) pl_spec_l01Reader_runs (bodyOf Try.f224) ⟨argT args, Lof Li, []⟩ (retE (lk tyList) Try.f224.results.toList Li.length mv cl Post)) (hN : args.length ≤ Try.f224.ntmps := by simp [Try.ntmps224]) :
    CallM Try.prog id_spec_l01Reader_runs args Li mv cl Post := CallM.ofE T pl_spec_l01Reader_runs Try.func224 (by kernel_rfl) rfl (by kernel_rfl) (by kernel_rfl) hN h
abbrev id_spec_l08Copy : FuncId := 225
def pl_spec_l08Copy : Nat → Option PS := plk []
theorem F_spec_l08Copy {args : List SV} {Li : List Row} {mv : List Nat} {cl : Bool} {Post : SV → List Row → Prop} (h : wpE Try.prog (lk tyList) pl_spec_l08Copy (bodyOf Try.f225) ⟨argT args, Lof Li, []⟩ (retE (lk tyList) Try.f225.results.toList Li.length mv cl Post)) (hN : args.length ≤ Try.f225.ntmps := by simp [Try.ntmps225]) :
    CallM Try.prog id_spec_l08Copy args Li mv cl Post := CallM.ofE T pl_spec_l08Copy Try.func225 (by kernel_rfl) rfl (by kernel_rfl) (by kernel_rfl) hN h
abbrev id_spec_LogAdd : FuncId := 226
def pl_spec_LogAdd : Nat → Option PS := plk [(15, .v 0 (.v 1 (.v 2 (.v 3 (.v 4 (.v 5 (.v 6 (.v 7 (.v 8 (.v 9 (.v 10 (.x 11 [] (.v 12 (.done)))))))))))))),
  (17, .v 0 (.v 1 (.v 2 (.v 3 (.v 4 (.v 5 (.v 6 (.v 7 (.x 8 [] (.v 9 (.done))))))))))),
  (23, .v 0 (.v 1 (.v 2 (.v 3 (.v 4 (.v 5 (.v 6 (.v 7 (.v 8 (.v 9 (.v 10 (.v 11 (.v 12 (.v 13 (.v 14 (.v 15 (.v 16 (.v 17 (.v 18 (.v 19 (.v 20 (.v 21 (.v 22 (.v 23 (.done))))))))))))))))))))))))),
  (24, .v 0 (.v 1 (.v 2 (.v 3 (.v 4 (.v 5 (.v 6 (.v 7 (.x 8 [] (.v 9 (.done))))))))))),
  (34, .v 0 (.v 1 (.v 2 (.v 3 (.v 4 (.v 5 (.v 6 (.v 7 (.v 8 (.v 9 (.v 10 (.v 11 (.v 12 (.v 13 (.x 14 [] (.v 15 (.v 16 (.done))))))))))))))))))]
theorem F_spec_LogAdd {args : List SV} {Li : List Row} {mv : List Nat} {cl : Bool} {Post : SV → List Row → Prop} (h : wpE Try.prog (lk tyList) pl_spec_LogAdd (bodyOf Try.f226) ⟨argT args, Lof Li, []⟩ (retE (lk tyList) Try.f226.results.toList Li.length mv cl Post)) (hN : args.length ≤ Try.f226.ntmps := by simp [Try.ntmps226]) :
    CallM Try.prog id_spec_LogAdd args Li mv cl Post := CallM.ofE T pl_spec_LogAdd Try.func226 (by kernel_rfl) rfl (by kernel_rfl) (by kernel_rfl) hN h
abbrev id_spec_l08Insert : FuncId := 227
def pl_spec_l08Insert : Nat → Option PS := plk [(2, .v 0 (.v 1 (.v 2 (.v 3 (.v 4 (.v 5 (.v 6 (.v 7 (.v 8 (.v 9 (.v 10 (.v 11 (.v 12 (.v 13 (.v 14 (.v 15 (.v 16 (.v 17 (.v 18 (.v 19 (.v 20 (.v 21 (.v 22 (.v 23 (.v 24 (.v 25 (.v 26 (.v 27 (.v 28 (.v 29 (.v 30 (.v 31 (.v 32 (.v 33 (.done)))))))))))))))))))))))))))))))))))]
theorem F_spec_l08Insert {args : List SV} {Li : List Row} {mv : List Nat} {cl : Bool} {Post : SV → List Row → Prop} (h : wpE Try.prog (lk tyList) pl_spec_l08Insert (bodyOf Try.f227) ⟨argT args, Lof Li, []⟩ (retE (lk tyList) Try.f227.results.toList Li.length mv cl Post)) (hN : args.length ≤ Try.f227.ntmps := by simp [Try.ntmps227]) :
    CallM Try.prog id_spec_l08Insert args Li mv cl Post := CallM.ofE T pl_spec_l08Insert Try.func227 (by kernel_rfl) rfl (by kernel_rfl) (by kernel_rfl) hN h
abbrev id_spec_l08Some : FuncId := 228
def pl_spec_l08Some : Nat → Option PS := plk [(4, .v 0 (.v 1 (.v 2 (.v 6 (.v 10 (.or (.x 3 [10, 6, 1, 0] (.v 4 (.or (.x 5 [4, 10, 6, 1, 0] (.x 7 [4, 10, 1, 0] (.v 8 (.v 9 (.x 11 [9, 8, 4, 1, 0] (.v 12 (.x 13 [] (.x 14 [] (.done))))))))) (.x 7 [4, 10, 1, 0] (.or (.x 5 [4, 10, 1, 0] (.v 8 (.v 9 (.x 11 [9, 8, 4, 1, 0] (.v 12 (.x 13 [] (.x 14 [] (.done)))))))) (.x 11 [4, 1, 0] (.x 5 [4, 1, 0] (.v 8 (.v 9 (.v 12 (.x 13 [] (.x 14 [] (.done))))))))))))) (.x 5 [10, 6, 2, 1, 0] (.x 3 [10, 6, 1, 0] (.v 4 (.x 7 [4, 10, 1, 0] (.v 8 (.v 9 (.x 11 [9, 8, 4, 1, 0] (.v 12 (.x 13 [] (.x 14 [] (.done)))))))))))))))))]
theorem F_spec_l08Some {args : List SV} {Li : List Row} {mv : List Nat} {cl : Bool} {Post : SV → List Row → Prop} (h : wpE Try.prog (lk tyList) pl_spec_l08Some (bodyOf Try.f228) ⟨argT args, Lof Li, []⟩ (retE (lk tyList) Try.f228.results.toList Li.length mv cl Post)) (hN : args.length ≤ Try.f228.ntmps := by simp [Try.ntmps228]) :
    CallM Try.prog id_spec_l08Some args Li mv cl Post := CallM.ofE T pl_spec_l08Some Try.func228 (by kernel_rfl) rfl (by kernel_rfl) (by kernel_rfl) hN h
abbrev id_spec_l08Find : FuncId := 229
def pl_spec_l08Find : Nat → Option PS := plk []
theorem F_spec_l08Find {args : List SV} {Li : List Row} {mv : List Nat} {cl : Bool} {Post : SV → List Row → Prop} (h : wpE Try.prog (lk tyList) pl_spec_l08Find (bodyOf Try.f229) ⟨argT args, Lof Li, []⟩ (retE (lk tyList) Try.f229.results.toList Li.length mv cl Post)) (hN : args.length ≤ Try.f229.ntmps := by simp [Try.ntmps229]) :
    CallM Try.prog id_spec_l08Find args Li mv cl Post := CallM.ofE T pl_spec_l08Find Try.func229 (by kernel_rfl) rfl (by kernel_rfl) (by kernel_rfl) hN h
abbrev id_spec_l03Without : FuncId := 230
def pl_spec_l03Without : Nat → Option PS := plk []
theorem F_spec_l03Without {args : List SV} {Li : List Row} {mv : List Nat} {cl : Bool} {Post : SV → List Row → Prop} (h : wpE Try.prog (lk tyList) pl_spec_l03Without (bodyOf Try.f230) ⟨argT args, Lof Li, []⟩ (retE (lk tyList) Try.f230.results.toList Li.length mv cl Post)) (hN : args.length ≤ Try.f230.ntmps := by simp [Try.ntmps230]) :
    CallM Try.prog id_spec_l03Without args Li mv cl Post := CallM.ofE T pl_spec_l03Without Try.func230 (by kernel_rfl) rfl (by kernel_rfl) (by kernel_rfl) hN h
abbrev id_spec_l01Src_stamp : FuncId := 231
def pl_spec_l01Src_stamp : Nat → Option PS := plk []
theorem F_spec_l01Src_stamp {args : List SV} {Li : List Row} {mv : List Nat} {cl : Bool} {Post : SV → List Row → Prop} (h : wpE Try.prog (lk tyList) pl_spec_l01Src_stamp (bodyOf Try.f231) ⟨argT args, Lof Li, []⟩ (retE (lk tyList) Try.f231.results.toList Li.length mv cl Post)) (hN : args.length ≤ Try.f231.ntmps := by simp [Try.ntmps231]) :
    CallM Try.prog id_spec_l01Src_stamp args Li mv cl Post := CallM.ofE T pl_spec_l01Src_stamp Try.func231 (by kernel_rfl) rfl (by kernel_rfl) (by kernel_rfl) hN h
abbrev id_spec_l08SameOp : FuncId := 232
def pl_spec_l08SameOp : Nat → Option PS := plk []
theorem F_spec_l08SameOp {args : List SV} {Li : List Row} {mv : List Nat} {cl : Bool} {Post : SV → List Row → Prop} (h : wpE Try.prog (lk tyList) pl_spec_l08SameOp (bodyOf Try.f232) ⟨argT args, Lof Li, []⟩ (retE (lk tyList) Try.f232.results.toList Li.length mv cl Post)) (hN : args.length ≤ Try.f232.ntmps := by simp [Try.ntmps232]) :
    CallM Try.prog id_spec_l08SameOp args Li mv cl Post := CallM.ofE T pl_spec_l08SameOp Try.func232 (by kernel_rfl) rfl (by kernel_rfl) (by kernel_rfl) hN h
abbrev id_spec_l08KindFits : FuncId := 233
def pl_spec_l08KindFits : Nat → Option PS := plk [(4, .v 0 (.v 1 (.v 2 (.v 3 (.v 4 (.v 5 (.v 6 (.v 7 (.v 8 (.v 9 (.v 10 (.v 11 (.v 12 (.v 13 (.v 15 (.v 16 (.x 14 [16, 15] (.x 17 [] (.v 18 (.v 19 (.done)))))))))))))))))))))]
theorem F_spec_l08KindFits {args : List SV} {Li : List Row} {mv : List Nat} {cl : Bool} {Post : SV → List Row → Prop} (h : wpE Try.prog (lk tyList) pl_spec_l08KindFits (bodyOf Try.f233) ⟨argT args, Lof Li, []⟩ (retE (lk tyList) Try.f233.results.toList Li.length mv cl Post)) (hN : args.length ≤ Try.f233.ntmps := by simp [Try.ntmps233]) :
    CallM Try.prog id_spec_l08KindFits args Li mv cl Post := CallM.ofE T pl_spec_l08KindFits Try.func233 (by kernel_rfl) rfl (by kernel_rfl) (by kernel_rfl) hN h
abbrev id_spec_l08Make : FuncId := 234
def pl_spec_l08Make : Nat → Option PS := plk [(8, .v 0 (.v 1 (.v 2 (.v 3 (.v 4 (.v 5 (.v 6 (.v 7 (.v 8 (.x 9 [] (.done)))))))))))]
theorem F_spec_l08Make {args : List SV} {Li : List Row} {mv : List Nat} {cl : Bool} {Post : SV → List Row → Prop} (h : wpE Try.prog (lk tyList) pl_spec_l08Make (bodyOf Try.f234) ⟨argT args, Lof Li, []⟩ (retE (lk tyList) Try.f234.results.toList Li.length mv cl Post)) (hN : args.length ≤ Try.f234.ntmps := by simp [Try.ntmps234]) :
    CallM Try.prog id_spec_l08Make args Li mv cl Post := CallM.ofE T pl_spec_l08Make Try.func234 (by kernel_rfl) rfl (by kernel_rfl) (by kernel_rfl) hN h
abbrev id_spec_l05Same : FuncId := 235
def pl_spec_l05Same : Nat → Option PS := plk [(6, .v 0 (.v 1 (.v 2 (.v 3 (.v 4 (.v 5 (.v 6 (.v 7 (.v 8 (.done))))))))))]
theorem F_spec_l05Same {args : List SV} {Li : List Row} {mv : List Nat} {cl : Bool} {Post : SV → List Row → Prop} (h : wpE Try.prog (lk tyList) pl_spec_l05Same (bodyOf Try.f235) ⟨argT args, Lof Li, []⟩ (retE (lk tyList) Try.f235.results.toList Li.length mv cl Post)) (hN : args.length ≤ Try.f235.ntmps := by simp [Try.ntmps235]) :
    CallM Try.prog id_spec_l05Same args Li mv cl Post := CallM.ofE T pl_spec_l05Same Try.func235 (by kernel_rfl) rfl (by kernel_rfl) (by kernel_rfl) hN h
end Go.Proofs.Ytoklfidamhigcaa.D
