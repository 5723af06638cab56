/- For looking only: never part of a claim. 'stt' tells the state that the goal speaks of. -/
import Derived.Test.YtpapcelgdcbolaaED
open Lean Meta Elab Tactic
namespace Go.Proofs.Ytpapcelgdcbolaa.D
partial def nf (e : Lean.Expr) (d : Nat := 12) : MetaM Lean.Expr := do
  if d == 0 then return e
  let t ← inferType e
  let t ← whnf t
  if t.isForall then return e
  let go : MetaM Lean.Expr := do
    let e' ← whnf e
    let f := e'.getAppFn
    if let .const c _ := f then
      if let some (.ctorInfo ci) := (← getEnv).find? c then
        let mut args := e'.getAppArgs
        for i in [ci.numParams:args.size] do args := args.set! i (← nf args[i]! (d - 1))
        return mkAppN f args
    return e
  if t.isConstOf ``Nat then
    let e' ← whnf e
    if e'.isRawNatLit || e'.isLit then return mkNatLit (e'.rawNatLit?.getD 0) else return (← instantiateMVars e)
  if t.isConstOf ``Int || t.isConstOf ``ByteArray || t.isConstOf ``Bool then return e
  if t.isAppOf ``List || t.isAppOf ``Prod || t.isAppOf ``Option then
    let e' ← whnf e
    if e'.isAppOf ``List.cons || e'.isAppOf ``List.nil || e'.isAppOf ``Prod.mk || e'.isAppOf ``Option.some || e'.isAppOf ``Option.none then return (← go) else return e
  if t.isConstOf ``SV || t.isConstOf ``CV || t.isConstOf ``DV || t.isConstOf ``Go.Value || t.isConstOf ``Row then go else return e
elab "stt" : tactic => withMainContext do
  let g ← instantiateMVars (← getMainTarget)
  let some S := g.find? fun e => !e.hasLooseBVars && (e.isAppOf ``St.put || e.isAppOf ``St.mk || e.isAppOf ``D.mk || e.isAppOf ``St.new || e.isAppOf ``St.know) | throwError "no state in{indentExpr g}"
  let mut names : Array Nat := #[0, 1, 2, 3]
  let mut out : Array MessageData := #[]
  for t in [0:140] do
    let v ← nf (mkApp2 (mkConst ``St.T) S (mkNatLit t))
    let dead := (← ppExpr v).pretty == "SV.one CV.dead"
    unless dead do
      out := out.push m!"t{t} = {v}"
      let mut todo := #[v]
      for _ in [0:200] do
        if todo.size == 0 then break
        else
          let e := todo.back!
          todo := todo.pop
          if (e.isAppOf ``CV.os || e.isAppOf ``CV.ptr || e.isAppOf ``CV.ep) then
            if let some n := e.getAppArgs[0]!.nat? <|> e.getAppArgs[0]!.rawNatLit? then unless names.contains n do names := names.push n
          else todo := todo ++ e.getAppArgs.filter fun a => a.isApp
  let mut i := 0
  for _ in [0:300] do
    if i < names.size then
      let n := names[i]!
      i := i + 1
      let r ← nf (mkApp2 (mkConst ``St.L) S (mkNatLit n))
      unless r.isAppOf ``Option.none do
        out := out.push m!"row {n} = {r}"
        let mut todo := #[r]
        for _ in [0:300] do
          if todo.size == 0 then break
          let e := todo.back!
          todo := todo.pop
          if (e.isAppOf ``CV.os || e.isAppOf ``CV.ptr || e.isAppOf ``CV.ep) then
            if let some n := e.getAppArgs[0]!.nat? <|> e.getAppArgs[0]!.rawNatLit? then unless names.contains n do names := names.push n
          else todo := todo ++ e.getAppArgs.filter fun a => a.isApp
  logInfo (MessageData.joinSep out.toList "\n")
/-- The goal's head and first argument. -/
elab "hd" : tactic => withMainContext do
  let g ← instantiateMVars (← getMainTarget)
  let f := g.getAppFn
  let as := g.getAppArgs
  if f.isConstOf ``Need then logInfo m!"Need {as[0]!}"
  else if f.isConstOf ``br then logInfo m!"br {as[0]!}"
  else if f.isConstOf ``Pick then logInfo m!"Pick {as[1]!}"
  else if f.isConstOf ``CallW then logInfo m!"CallW {as[1]!} args {← nf as[2]! 20} rows {← nf as[3]! 20} lent {← whnf as[4]!}"
  else if f.isConstOf ``Done then logInfo m!"Done {as[0]!.headBeta}"
  else logInfo m!"{f}"
end Go.Proofs.Ytpapcelgdcbolaa.D
