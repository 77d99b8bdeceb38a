/-
  The formula of a region whose order Go leaves open: one order, with what is read looked at again behind each operation that changes memory; the proof that it serves for every order.
-/
import Derived.Test.YtekfoaklfnldhaaGreatDoorCfD
namespace Go.Cf
open Go

def isUndef : Value → Bool
  | .tuple cs => Nat.beq cs.toList.length 0
  | _ => false

/-- .. where a guard that was passed over says no. -/
def gsat2 (ops : List Oper) (dec : List Nat) (ρ : Env) (g : Option (Nat × Bool)) : Option Bool :=
  match gsat ops dec ρ g with
  | some r => some r
  | none => match g with
    | none => none
    | some (j, _) => match dstOf ops j with
      | some d => bif has ρ d && isUndef (gv ρ d) then some false else none
      | none => none

def XChk (a : Addr) (v : Value) (K : WP) : WP := fun w => w.cell? a = some v ∧ K w

def dirDeps (o : Oper) : List Nat := (o.after.toList.filter fun e => Region.binds .any e).map (·.on)

def unionN : List Nat → List Nat → List Nat
  | [], s => s
  | x :: r, s => unionN r (insN x s)

def getN : List (List Nat) → Nat → List Nat
  | [], _ => []
  | x :: _, 0 => x
  | _ :: r, i + 1 => getN r i

def befStep (acc : List (List Nat)) : List Nat → List Nat
  | [] => []
  | m :: ms => unionN (m :: getN acc m) (befStep acc ms)

def befsOf : List Oper → List (List Nat) → List (List Nat)
  | [], acc => acc
  | o :: os, acc => befsOf os (acc ++ [befStep acc (dirDeps o)])

inductive St where
  | done
  | nul (i : Nat) (t : St)
  | eff (i : Nat) (cs : List Nat) (t : St)
  | alt (a b : St)

/-- What may be done next. -/
def heads : St → List Nat
  | .eff i _ _ => [i]
  | .alt a b => heads a ++ heads b
  | _ => []

def isNulAt (P : Program) (ops : List Oper) (i : Nat) : Bool :=
  match ops[i]? with
  | some o => isNul P o
  | none => false

def isLoadAt (ops : List Oper) (i : Nat) : Bool :=
  match ops[i]? with
  | some o => isLoadB o
  | none => false

def effsIn (P : Program) (ops : List Oper) (l : List Nat) : List Nat := l.filter fun m => !(isNulAt P ops m)

def nulsThen : List Nat → St → St
  | [], t => t
  | i :: r, t => .nul i (nulsThen r t)

def altOf : List St → St
  | [] => .done
  | t :: ts => match ts with
    | [] => t
    | _ => .alt t (altOf ts)

def isAllocAt (ops : List Oper) (i : Nat) : Bool :=
  match ops[i]? with
  | some o => isAllocB o
  | none => false

/-- All orders of what changes memory; what does not is done as soon as it may be. -/
def mkSteps (P : Program) (ops : List Oper) (befs : List (List Nat)) : Nat → List Nat → List Nat → List Nat → St
  | 0, _, _, _ => .done
  | f + 1, rem, did, placed =>
    let ns := (List.range ops.length).filter fun i => isNulAt P ops i && !(memN i placed) && (effsIn P ops (getN befs i)).all fun m => memN m did
    let placed' := ns ++ placed
    let ready := rem.filter fun e => (effsIn P ops (getN befs e)).all fun m => memN m did
    nulsThen ns (altOf ((bif Nat.ble ready.length 5 then ready else ready.take 1).map fun e =>
      .eff e (bif isAllocAt ops e then [] else placed'.reverse.filter fun r => isLoadAt ops r && !(memN r (getN befs e))) (mkSteps P ops befs f (rem.filter fun m => !(Nat.beq m e)) (e :: did) placed')))

def writerOf : List Oper → Nat → Nat → Option Nat
  | [], _, _ => none
  | o :: os, i, t => match o.dst with
    | some d => bif Nat.beq d t then some i else writerOf os (i + 1) t
    | none => writerOf os (i + 1) t

/-- A slot that an operation reads: written ahead of it, or behind it, or not at all. -/
def readOk (ops : List Oper) (befs : List (List Nat)) (i : Nat) : Operand → Bool
  | .tmp t => (match writerOf ops 0 t with
    | some u => !(Nat.beq u i) && (memN u (getN befs i) || memN i (getN befs u))
    | none => true)
  | _ => true

/-- .. and not written behind it. -/
def readFix (ops : List Oper) (befs : List (List Nat)) (i : Nat) : Operand → Bool
  | .tmp t => (match writerOf ops 0 t with
    | some u => memN u (getN befs i)
    | none => true)
  | _ => true

def nodupN : List Nat → Bool
  | [] => true
  | t :: r => !(memN t r) && nodupN r

def dsts : List Oper → List Nat
  | [] => []
  | o :: os => match o.dst with
    | some t => t :: dsts os
    | none => dsts os

def opChk (N : Nat) (ops : List Oper) (befs : List (List Nat)) : List Oper → Nat → Bool
  | [], _ => true
  | o :: os, i => o.op.operands.toList.all (readOk ops befs i) && (match o.dst with | some d => Nat.blt d N | none => true) &&
      (match o.op with | .select .. => false | _ => true) &&
      (match o.guard with | some (g, _) => memN g (dirDeps o) && (match dstOf ops g with | some _ => true | none => false) | none => true) && opChk N ops befs os (i + 1)

def addrOf (o : Oper) : Operand :=
  match o.op with
  | .load _ x => x
  | _ => .const undef

def nilB : List Nat → Bool
  | [] => true
  | _ => false

def stChk (P : Program) (ops : List Oper) (befs : List (List Nat)) : St → List Nat → List Nat → Bool
  | .done, X, H => nilB H && (List.range ops.length).all fun i => memN i X
  | .nul i S, X, H => nilB H && (match ops[i]? with
    | some o => !(memN i X) && isNul P o && (dirDeps o).all (fun m => memN m X) && stChk P ops befs S (i :: X) []
    | none => false)
  | .eff i cs S, X, H => (match ops[i]? with
    | some o => !(memN i X) && (dirDeps o).all (fun m => memN m X) &&
        (List.range ops.length).all (fun k => memN k X || memN k (i :: H) || (match ops[k]? with | some ok => (dirDeps ok).any fun m => !(memN m X) | none => true)) &&
        X.all (fun r => !(isLoadAt ops r) || memN r (getN befs i) || memN r cs || isAllocB o) &&
        cs.all (fun r => memN r X && (match ops[r]? with | some or => isLoadB or && readFix ops befs r (addrOf or) | none => false)) &&
        stChk P ops befs S (i :: X) []
    | none => false)
  | .alt a b, X, H => !(nilB (heads a)) && !(nilB (heads b)) && stChk P ops befs a X (heads b ++ H) && stChk P ops befs b X (heads a ++ H)

def drChk (P : Program) (N : Nat) (ops : List Oper) (befs : List (List Nat)) (S : St) : Bool :=
  nodupN (dsts ops) && opChk N ops befs ops 0 && stChk P ops befs S [] []

def chkCells : List Value → Addr → Nat → WP → WP
  | [], _, _, K => K
  | v :: vs, a, i, K => XChk (a.add i) v (chkCells vs a (i + 1) K)

def chkLoad (P : Program) (t : TypeId) (ad : Addr) (v : Value) (K : WP) : WP :=
  bif isAggB P t then (match v with
    | .agg cs => (match szOf P t with | some n => bif Nat.beq n cs.toList.length then chkCells cs.toList ad 0 K else bad | none => bad)
    | _ => bad)
  else (match P.underlying t with | some _ => XChk ad v K | none => bad)

def chkAll (P : Program) (ops : List Oper) (dec : List Nat) (ρ : Env) (K : WP) : List Nat → WP
  | [] => K
  | r :: cs => match ops[r]? with
    | some o => (match gsat2 ops dec ρ o.guard with
      | some true => (match o.op with
        | .load t x => (match o.dst, ev ρ x with
          | some d, .pointer (some ad) => bif hasOp ρ x && has ρ d then chkLoad P t ad (gv ρ d) (chkAll P ops dec ρ K cs) else bad
          | _, _ => bad)
        | _ => bad)
      | some false => chkAll P ops dec ρ K cs
      | none => bad)
    | none => bad

def stepOne (P : Program) (N : Nat) (ops : List Oper) (o : Oper) (dec : List Nat) (ρ : Env) (kR kS : List Nat → Env → WP) : WP :=
  match gsat2 ops dec ρ o.guard with
  | some true => bif opOk N ρ o then wpOp1 P o ρ (kR dec) else bad
  | some false => kS dec (put ρ o.dst undef)
  | none => match o.guard with
    | none => bad
    | some (j, b) => match dstOf ops j with
      | none => bad
      | some d => match has ρ d, gv ρ d with
        | true, .bool x =>
          let run (ρ : Env) : WP := bif opOk N ρ o then wpOp1 P o ρ (kR (j :: dec)) else bad
          let skip (ρ : Env) : WP := kS (j :: dec) (put ρ o.dst undef)
          XIf x (bif b then run ((d, .bool true) :: ρ) else skip ((d, .bool true) :: ρ)) (bif b then skip ((d, .bool false) :: ρ) else run ((d, .bool false) :: ρ))
        | _, _ => bad

def XAnd (A B : WP) : WP := fun w => A w ∧ B w

def wpSteps (P : Program) (N : Nat) (ops : List Oper) : St → List Nat → Env → (Env → WP) → WP
  | .done, _, ρ, K => K ρ
  | .nul i S, dec, ρ, K => (match ops[i]? with
    | some o => stepOne P N ops o dec ρ (fun dec' ρ' => wpSteps P N ops S dec' ρ' K) (fun dec' ρ' => wpSteps P N ops S dec' ρ' K)
    | none => bad)
  | .eff i cs S, dec, ρ, K => (match ops[i]? with
    | some o => stepOne P N ops o dec ρ (fun dec' ρ' => chkAll P ops dec' ρ' (wpSteps P N ops S dec' ρ' K) cs) (fun dec' ρ' => wpSteps P N ops S dec' ρ' K)
    | none => bad)
  | .alt a b, dec, ρ, K => XAnd (wpSteps P N ops a dec ρ K) (wpSteps P N ops b dec ρ K)

def isAltB : St → Bool
  | .alt _ _ => true
  | .nul _ t => isAltB t
  | .eff _ _ t => isAltB t
  | .done => false

/-! How often a slot is read. -/
def occX (t : Nat) : Operand → Nat
  | .tmp u => bif Nat.beq u t then 1 else 0
  | _ => 0

def occL (t : Nat) : List Operand → Nat
  | [] => 0
  | x :: r => occX t x + occL t r

def occO (t : Nat) : List Oper → Nat
  | [] => 0
  | o :: r => occL t o.op.operands.toList + occO t r

def occC (t : Nat) : Code → Nat
  | .region _ ops _ => occO t ops.toList
  | .seq a b => occC t a + occC t b
  | .cond c a b => occX t c + (occC t a + occC t b)
  | .block _ b => occC t b
  | .scope b => occC t b
  | .loop b => occC t b
  | .rangeFunc f _ a b => occX t f + (occC t a + occC t b)
  | _ => 0

def occR (t : Nat) : List ResultVar → Nat
  | [] => 0
  | .tmp u :: r => (bif Nat.beq u t then 1 else 0) + occR t r
  | .cell u _ :: r => (bif Nat.beq u t then 1 else 0) + occR t r

def liveOut (fn : Func) (ops : List Oper) : List Nat :=
  match fn.body with
  | some c => (dsts ops).filter fun t => Nat.blt (occO t ops) (occC t c + occR t fn.results.toList)
  | none => []

def shOut (P : Program) (ops : List Oper) (ρ : Env) (t : Nat) : Sh :=
  bif has ρ t then shOf (gv ρ t) else (match writerOf ops 0 t with
    | some i => (match ops[i]? with | some o => shOfType P o.type | none => .val)
    | none => .val)

/-- Does what lies behind a region begin at one place for all its orders? (Not where the region lays a variable: its place is then a new block's, in each order.) -/
def drJoin (ops : List Oper) (S : St) : Bool := ops.any (fun o => o.guard.isSome) || (isAltB S && !(ops.any fun o => match o.op with | .alloc _ => true | _ => false))

def wpDr (P : Program) (fn : Func) (N : Nat) (ops : List Oper) (ρ : Env) (KN : Env → WP) : WP :=
  let befs := befsOf ops []
  let S := mkSteps P ops befs (ops.length + 1) ((List.range ops.length).filter fun i => !(isNulAt P ops i)) [] []
  bif drChk P N ops befs S then
    bif drJoin ops S then
      (let cs := unionN (liveOut fn ops) (dstsOf (ops.filter fun o => match o.dst with | some t => has ρ t | none => false) [])
       let ss := cs.map (shOut P ops ρ)
       XJoin ss (fun K => wpSteps P N ops S [] ρ fun ρ' => bif allHas ρ' cs then Cur.appV ss K (cs.map (gv ρ')) else bad) (Cur.of ss fun vs => KN (zipE cs vs ρ)))
    else wpSteps P N ops S [] ρ KN
  else bad

end Go.Cf
