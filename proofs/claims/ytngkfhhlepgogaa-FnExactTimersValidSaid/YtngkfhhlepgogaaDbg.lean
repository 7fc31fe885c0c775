import Derived.WalkKit
open Lean Elab Tactic Meta
/-- print the target of every goal, at most n signs each -/
elab "dbg" n:num : tactic => do
  let gs ← getGoals
  let mut i : Nat := 0
  for g in gs do
    g.withContext do
      let t ← instantiateMVars (← g.getType)
      let s ← ppExpr t
      logInfo m!"GOAL {toString i} [{← g.getTag}]: {(toString s).take n.getNat}"
    i := i + 1
/-- hypotheses: only short ones -/
elab "dbgh" n:num : tactic => do
  let gs ← getGoals
  let mut i : Nat := 0
  for g in gs do
    g.withContext do
      let mut out := ""
      for d in (← getLCtx) do
        unless d.isImplementationDetail do
          let s := toString (← ppExpr (← instantiateMVars d.type))
          if s.length ≤ n.getNat then out := out ++ s!"\n  {d.userName} : {s}" else out := out ++ s!"\n  {d.userName} : {s.take 120} .."
      let t ← instantiateMVars (← g.getType)
      logInfo m!"GOAL {toString i}: {out}\n ⊢ {(toString (← ppExpr t)).take 3000}"
    i := i + 1
/-- the target of the main goal from sign a on, n signs -/
elab "dbgt" a:num n:num : tactic => do
  let g ← getMainGoal
  g.withContext do
    let t ← instantiateMVars (← g.getType)
    let s := toString (← ppExpr t)
    logInfo m!"({s.length} signs) {((s.drop a.getNat).take n.getNat)}"
/-- head constant and the arguments' sizes; the last args -/
elab "dbgq" n:num : tactic => do
  let g ← getMainGoal
  g.withContext do
    let t := (← instantiateMVars (← g.getType)).consumeMData
    let args := t.getAppArgs
    let mut out := s!"{t.getAppFn}"
    for a in args do
      let s := toString (← ppExpr a)
      out := out ++ s!"\n  ARG: {s.take n.getNat}"
    logInfo m!"{out}"
