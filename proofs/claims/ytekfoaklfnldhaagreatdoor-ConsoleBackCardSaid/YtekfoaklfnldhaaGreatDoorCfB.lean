/-
  The formula of whole regions in the order of the text, of code, of a function; the proof that it gives a contract.
-/
import Derived.Test.YtekfoaklfnldhaaGreatDoorCfA
namespace Go.Cf
open Go

def dstOf (ops : List Oper) (j : Nat) : Option Nat :=
  match ops[j]? with
  | some o => o.dst
  | none => none

def memN (t : Nat) : List Nat → Bool
  | [] => false
  | u :: r => bif Nat.beq u t then true else memN t r

/-- Is a guard decided, and how? -/
def gsat (ops : List Oper) (dec : List Nat) (ρ : Env) : Option (Nat × Bool) → Option Bool
  | none => some true
  | some (j, b) => bif memN j dec then
      (match dstOf ops j with
        | some d => bif has ρ d then (match gv ρ d with | .bool x => some (bif x then b else !b) | _ => none) else none
        | none => none)
    else none

def splitPick (d : Nat) : List Oper → Option (List Oper × Oper × List Oper)
  | [] => none
  | o :: r => match o.op with
    | .pick (.tmp c) _ _ => bif Nat.beq c d then some ([], o, r) else (match splitPick d r with | some (g, p, r') => some (o :: g, p, r') | none => none)
    | _ => match splitPick d r with | some (g, p, r') => some (o :: g, p, r') | none => none

theorem splitPick_eq {d : Nat} : ∀ {l g : List Oper} {p : Oper} {r : List Oper}, splitPick d l = some (g, p, r) → l = g ++ p :: r ∧ ∃ x y, p.op = .pick (.tmp d) x y := by
  intro l
  induction l with
  | nil => intro g p r h; cases h
  | cons o l ih =>
    intro g p r h
    have step : (match splitPick d l with | some (g, p, r') => some (o :: g, p, r') | none => none) = some (g, p, r) → o :: l = g ++ p :: r ∧ ∃ x y, p.op = .pick (.tmp d) x y := by
      intro h
      cases hs : splitPick d l with
      | none => rw [hs] at h; cases h
      | some t =>
        obtain ⟨g', p', r'⟩ := t
        rw [hs] at h
        simp only [Option.some.injEq, Prod.mk.injEq] at h
        obtain ⟨rfl, rfl, rfl⟩ := h
        obtain ⟨e, hp⟩ := ih hs
        exact ⟨by rw [e]; rfl, hp⟩
    unfold splitPick at h
    split at h
    · rename_i c x y ho
      cases hb : Nat.beq c d with
      | false => rw [hb] at h; exact step h
      | true =>
        rw [hb] at h
        simp only [cond_true, Option.some.injEq, Prod.mk.injEq] at h
        obtain ⟨rfl, rfl, rfl⟩ := h
        obtain rfl := Nat.eq_of_beq_eq_true hb
        exact ⟨rfl, x, y, ho⟩
    · exact step h

/-- An operation that only reckons, and cannot fail. -/
def pureOpB (P : Program) (o : Oper) : Bool :=
  match o.op with
  | .move _ => true
  | .unOp .. => true
  | .binOp op xt _ _ _ =>
    (match op with | .quo | .rem | .shl | .shr => false | _ => true) && (match P.underlying xt with | some (.int _) => true | some .bool => true | _ => false)
  | .call c => (match c.callee with | .builtin .len => true | _ => false) && (match c.argTypes[0]? with | some t => (match P.underlying t with | some .string => true | some (.slice _) => true | _ => false) | none => false)
  | _ => false

def sameGuard (j : Nat) (b : Bool) : Option (Nat × Bool) → Bool
  | some (j', b') => Nat.beq j' j && (bif b' then b else !b)
  | none => false

def pureSeq (P : Program) (N : Nat) : List Oper → Env → Option Env
  | [], ρ => some ρ
  | o :: os, ρ => bif opOk N ρ o then (match pureRun P (execOp (ev ρ) o) with
      | some (.value v) => pureSeq P N os (put ρ o.dst v)
      | _ => none) else none

/-- Each operation of a group is passed over where its guard says no: its own guard, or one that was passed over itself. -/
def allSkip (ops : List Oper) (N j d : Nat) (b : Bool) : List Oper → List Nat → Bool
  | [], _ => true
  | o :: os, ds => (sameGuard j b o.guard || (match o.guard with | some (j', _) => (match dstOf ops j' with | some d' => memN d' ds | none => false) | none => false)) &&
      (match o.dst with | some t => Nat.blt t N && !(Nat.beq t d) | none => true) &&
      allSkip ops N j d b os (match o.dst with | some t => t :: ds | none => ds)

def noneIn (ρ : Env) : List Oper → Bool
  | [] => true
  | o :: os => (match o.dst with | some t => !(has ρ t) | none => true) && noneIn ρ os

def isConstB : Operand → Bool
  | .const _ => true
  | _ => false

def pickOps (o : Oper) : Operand × Operand :=
  match o.op with
  | .pick _ a b => (a, b)
  | _ => (.const undef, .const undef)

def shOfType (P : Program) (t : TypeId) : Sh :=
  match shapes P 20 t with
  | [s] => s
  | _ => .val

def wpSeq (P : Program) (N : Nat) (ops : List Oper) : Nat → List Nat → List Oper → Env → (Env → WP) → WP
  | _, _, [], ρ, K => K ρ
  | 0, _, _ :: _, _, _ => bad
  | f + 1, dec, o :: os, ρ, K => match gsat ops dec ρ o.guard with
    | some true => bif opOk N ρ o then wpOp1 P o ρ fun ρ' => wpSeq P N ops f dec os ρ' K else bad
    | some false => bif (match o.dst with | some d => Nat.blt d N | none => true) then wpSeq P N ops f dec os (put ρ o.dst undef) K else bad
    | none => match o.guard with
      | none => bad
      | some (j, b) => match dstOf ops j with
        | none => bad
        | some d => match has ρ d, gv ρ d, splitPick d (o :: os) with
          | true, .bool x, some (g, p, r) =>
            let ok := allSkip ops N j d b g [] && noneIn ρ g && opOk N ρ { p with op := .move (.tmp d) } && (match gsat ops dec ρ p.guard with | some true => true | _ => false) && !(memN j dec)
            let (pa, pb) := pickOps p
            bif ok then
              bif g.all (fun o => pureOpB P o && sameGuard j b o.guard) then
                (match pureSeq P N g ((d, .bool b) :: ρ) with
                  | some ρ' =>
                    bif b then (bif isConstB pb && hasOp ρ' pa then wpSeq P N ops f dec r (put ρ p.dst (pickv x (ev ρ' pa) (ev ρ pb))) K else bad)
                    else (bif isConstB pa && hasOp ρ' pb then wpSeq P N ops f dec r (put ρ p.dst (pickv x (ev ρ pa) (ev ρ' pb))) K else bad)
                  | none => bad)
              else
                let sh := shOfType P p.type
                bif b then (bif isConstB pb then
                    XJoin [sh] (fun K' => XIf x (wpSeq P N ops f (j :: dec) g ((d, .bool true) :: ρ) fun ρ' => bif hasOp ρ' pa && has ρ' d && (match gv ρ' d with | .bool true => true | _ => false) then Cur.appV [sh] K' [ev ρ' pa] else bad) (Cur.appV [sh] K' [ev ρ pb]))
                      (Cur.of [sh] fun vs => wpSeq P N ops f dec r (put ρ p.dst (vs.headD undef)) K) else bad)
                else (bif isConstB pa then
                    XJoin [sh] (fun K' => XIf x (Cur.appV [sh] K' [ev ρ pa]) (wpSeq P N ops f (j :: dec) g ((d, .bool false) :: ρ) fun ρ' => bif hasOp ρ' pb && has ρ' d && (match gv ρ' d with | .bool false => true | _ => false) then Cur.appV [sh] K' [ev ρ' pb] else bad))
                      (Cur.of [sh] fun vs => wpSeq P N ops f dec r (put ρ p.dst (vs.headD undef)) K) else bad)
            else bad
          | _, _, _ => bad

/-! Code. -/
def exits (id : Nat) : Code → Nat
  | .seq a b => exits id a + exits id b
  | .cond _ a b => exits id a + exits id b
  | .block _ b => exits id b
  | .scope b => exits id b
  | .loop b => exits id b
  | .exit i => bif Nat.beq i id then 1 else 0
  | _ => 0

def falls : Code → Bool
  | .skip => true
  | .region .. => true
  | .seq a b => falls a && falls b
  | .cond _ a b => falls a || falls b
  | .block id b => falls b || Nat.blt 0 (exits id b)
  | .label _ => true
  | .scope b => falls b
  | _ => false

def insN (t : Nat) (l : List Nat) : List Nat := bif memN t l then l else l ++ [t]

def dstsOf : List Oper → List Nat → List Nat
  | [], acc => acc
  | o :: os, acc => dstsOf os (match o.dst with | some t => insN t acc | none => acc)

/-- The slots that code writes, of those that are known ahead of it. -/
def wr (ρ : Env) : Code → List Nat → List Nat
  | .region _ ops _, acc => dstsOf (ops.toList.filter fun o => match o.dst with | some t => has ρ t | none => false) acc
  | .seq a b, acc => wr ρ b (wr ρ a acc)
  | .cond _ a b, acc => wr ρ b (wr ρ a acc)
  | .block _ b, acc => wr ρ b acc
  | .scope b, acc => wr ρ b acc
  | .loop b, acc => wr ρ b acc
  | _, acc => acc

def zipE : List Nat → List Value → Env → Env
  | t :: ts, v :: vs, ρ => (t, v) :: zipE ts vs ρ
  | _, _, ρ => ρ

def getX (id : Nat) : List (Nat × (Env → WP)) → Env → WP
  | [] => fun _ => bad
  | (i, k) :: r => bif Nat.beq i id then k else getX id r

/-- What is known, but of some slots. -/
def dropE (ws : List Nat) : Env → Env
  | [] => []
  | (u, v) :: r => bif memN u ws then dropE ws r else (u, v) :: dropE ws r

/-- Of the slots that code writes, those that are carried on. -/
def carry (dp : List Nat) : List Nat → List Nat
  | [] => []
  | t :: r => bif memN t dp then carry dp r else t :: carry dp r

def allHas (ρ : Env) (cs : List Nat) : Bool := cs.all (has ρ)

def wpC (P : Program) (N : Nat) (dp : List Nat) (dr : List Oper → Env → (Env → WP) → WP) : Code → Env → (Env → WP) → List (Nat × (Env → WP)) → (Env → WP) → WP
  | .skip, ρ, KN, _, _ => KN ρ
  | .label _, ρ, KN, _, _ => KN ρ
  | .region _ ops false, ρ, KN, _, _ => wpSeq P N ops.toList (ops.toList.length + 1) [] ops.toList ρ KN
  | .region _ ops true, ρ, KN, _, _ => XDraw (dr ops.toList ρ KN)
  | .seq a b, ρ, KN, KX, KR => wpC P N dp dr a ρ (fun ρ' => wpC P N dp dr b ρ' KN KX KR) KX KR
  | .cond c a b, ρ, KN, KX, KR => bif hasOp ρ c then (match ev ρ c with
    | .bool x => bif falls a && falls b then
        (let ws := wr ρ b (wr ρ a [])
         let cs := carry dp ws
         let ss := cs.map fun t => shOf (gv ρ t)
         XJoin ss (fun K => XIf x (wpC P N dp dr a ρ (fun ρ' => bif allHas ρ' cs then Cur.appV ss K (cs.map (gv ρ')) else bad) KX KR)
             (wpC P N dp dr b ρ (fun ρ' => bif allHas ρ' cs then Cur.appV ss K (cs.map (gv ρ')) else bad) KX KR))
           (Cur.of ss fun vs => KN (zipE cs vs (dropE ws ρ))))
      else XIf x (wpC P N dp dr a ρ KN KX KR) (wpC P N dp dr b ρ KN KX KR)
    | _ => bad) else bad
  | .block id b, ρ, KN, KX, KR =>
    bif Nat.blt 1 ((bif falls b then 1 else 0) + exits id b) then
      (let ws := wr ρ b []
       let cs := carry dp ws
       let ss := cs.map fun t => shOf (gv ρ t)
       XJoin ss (fun K => wpC P N dp dr b ρ (fun ρ' => bif allHas ρ' cs then Cur.appV ss K (cs.map (gv ρ')) else bad)
           ((id, fun ρ' => bif allHas ρ' cs then Cur.appV ss K (cs.map (gv ρ')) else bad) :: KX) KR)
         (Cur.of ss fun vs => KN (zipE cs vs (dropE ws ρ))))
    else wpC P N dp dr b ρ KN ((id, KN) :: KX) KR
  | .loop b, ρ, _, KX, KR =>
    let ws := wr ρ b []
    let cs := carry dp ws
    let ss := cs.map fun t => shOf (gv ρ t)
    bif allHas ρ cs then
      Cur.appV ss (XLoop ss fun K => Cur.of ss fun vs => wpC P N dp dr b (zipE cs vs (dropE ws ρ)) (fun ρ' => bif allHas ρ' cs then Cur.appV ss K (cs.map (gv ρ')) else bad) KX KR) (cs.map (gv ρ))
    else bad
  | .exit id, ρ, _, KX, _ => getX id KX ρ
  | .scope b, ρ, KN, KX, KR => wpC P N dp dr b ρ KN KX KR
  | .ret, ρ, _, _, KR => KR ρ
  | _, _, _, _, _ => bad

/-- A result's cells. -/
def resV (P : Program) (ty : TypeId) (v : Value) : Option (List Value) :=
  bif isAggB P ty then (match v with | .agg cs => bif Nat.beq cs.toList.length (shapes P 20 ty).length then some cs.toList else none | _ => none) else some [v]

def wpRes (P : Program) : List (ResultVar × TypeId) → Env → List Value → (List Value → WP) → WP
  | [], _, acc, K => K acc
  | (.tmp t, ty) :: r, ρ, acc, K => bif has ρ t then (match resV P ty (gv ρ t) with
    | some vs => wpRes P r ρ (acc ++ vs) K
    | none => bad) else bad
  | (.cell t u, ty) :: r, ρ, acc, K => bif has ρ t && Nat.beq u ty then (match gv ρ t with
    | .pointer (some a) => bif isAggB P ty then
        (match szOf P ty with | some n => bif Nat.beq n (shapes P 20 ty).length then getCells (shapes P 20 ty) a 0 [] fun vs => wpRes P r ρ (acc ++ vs) K else bad | none => bad)
      else (match shapes P 20 ty with
        | [s] => XGet s a fun x => wpRes P r ρ (acc ++ [s.mk x]) K
        | _ => bad)
    | _ => bad) else bad

def rsOfTypes (P : Program) : List TypeId → Rs × List Sh
  | [t] => bif isAggB P t then (.agg, shapes P 20 t) else (.one, shapes P 20 t)
  | ts => (.tup (ts.map fun u => bif isAggB P u then some (shapes P 20 u).length else none), ts.flatMap fun u => shapes P 20 u)

def argsE : List Value → Nat → Env
  | [], _ => []
  | v :: vs, i => (i, v) :: argsE vs (i + 1)

def wpF (P : Program) (dp : List Nat) (dr : Nat → List Oper → Env → (Env → WP) → WP) (fn : Func) (args : List Value) (ss : List Sh) (R : Cur ss) : WP :=
  match fn.body with
  | some c =>
    let ret : Env → WP := fun ρ => wpRes P (fn.results.toList.zip fn.resultTypes.toList) ρ [] fun vs => Cur.appV ss R vs
    bif Nat.beq fn.results.toList.length fn.resultTypes.toList.length && Nat.ble args.length fn.ntmps then wpC P fn.ntmps dp (dr fn.ntmps) c (argsE args 0) ret [] ret else bad
  | none => bad

end Go.Cf
