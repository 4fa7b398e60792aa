/- A part of the proof that CheckEnds returns true at every number: EvDef. Conditions: none. -/
import Derived.Calls
set_option linter.all false
set_option linter.unusedVariables false
set_option linter.unusedSectionVars false
set_option linter.unusedSimpArgs false
namespace Go.Ev
set_option autoImplicit false
set_option linter.unusedVariables false

inductive Pos where
  | one | a (p : Pos) | b (p : Pos) | c (p : Pos) | d (p : Pos) | e (p : Pos) | f (p : Pos) | g (p : Pos) | h (p : Pos)
  deriving Inhabited, DecidableEq

noncomputable def Pos.succ : Pos → Pos :=
  @Pos.rec (fun _ => Pos) (.a .one) (fun p _ => .b p) (fun p _ => .c p) (fun p _ => .d p) (fun p _ => .e p) (fun p _ => .f p) (fun p _ => .g p) (fun p _ => .h p) (fun _ ih => .a ih)

/-- a map: eight ways at each node -/
inductive PT (α : Type) where
  | e
  | n (v : Option α) (ta tb tc td te tf tg th : PT α)
namespace PT
noncomputable def get {α : Type} : Pos → PT α → Option α :=
  @Pos.rec (fun _ => PT α → Option α) (@PT.rec α (fun _ => Option α) none (fun v _ _ _ _ _ _ _ _ _ _ _ _ _ _ _ _ => v))
    (fun _ ih => @PT.rec α (fun _ => Option α) none (fun _ t _ _ _ _ _ _ _ _ _ _ _ _ _ _ _ => ih t))
    (fun _ ih => @PT.rec α (fun _ => Option α) none (fun _ _ t _ _ _ _ _ _ _ _ _ _ _ _ _ _ => ih t))
    (fun _ ih => @PT.rec α (fun _ => Option α) none (fun _ _ _ t _ _ _ _ _ _ _ _ _ _ _ _ _ => ih t))
    (fun _ ih => @PT.rec α (fun _ => Option α) none (fun _ _ _ _ t _ _ _ _ _ _ _ _ _ _ _ _ => ih t))
    (fun _ ih => @PT.rec α (fun _ => Option α) none (fun _ _ _ _ _ t _ _ _ _ _ _ _ _ _ _ _ => ih t))
    (fun _ ih => @PT.rec α (fun _ => Option α) none (fun _ _ _ _ _ _ t _ _ _ _ _ _ _ _ _ _ => ih t))
    (fun _ ih => @PT.rec α (fun _ => Option α) none (fun _ _ _ _ _ _ _ t _ _ _ _ _ _ _ _ _ => ih t))
    (fun _ ih => @PT.rec α (fun _ => Option α) none (fun _ _ _ _ _ _ _ _ t _ _ _ _ _ _ _ _ => ih t))
noncomputable def set {α : Type} (x : Option α) : Pos → PT α → PT α :=
  @Pos.rec (fun _ => PT α → PT α) (@PT.rec α (fun _ => PT α) (.n x .e .e .e .e .e .e .e .e) (fun _ a b c d e f g h _ _ _ _ _ _ _ _ => .n x a b c d e f g h))
    (fun _ ih => @PT.rec α (fun _ => PT α) (.n none (ih .e) .e .e .e .e .e .e .e) (fun v a b c d e f g h _ _ _ _ _ _ _ _ => .n v (ih a) b c d e f g h))
    (fun _ ih => @PT.rec α (fun _ => PT α) (.n none .e (ih .e) .e .e .e .e .e .e) (fun v a b c d e f g h _ _ _ _ _ _ _ _ => .n v a (ih b) c d e f g h))
    (fun _ ih => @PT.rec α (fun _ => PT α) (.n none .e .e (ih .e) .e .e .e .e .e) (fun v a b c d e f g h _ _ _ _ _ _ _ _ => .n v a b (ih c) d e f g h))
    (fun _ ih => @PT.rec α (fun _ => PT α) (.n none .e .e .e (ih .e) .e .e .e .e) (fun v a b c d e f g h _ _ _ _ _ _ _ _ => .n v a b c (ih d) e f g h))
    (fun _ ih => @PT.rec α (fun _ => PT α) (.n none .e .e .e .e (ih .e) .e .e .e) (fun v a b c d e f g h _ _ _ _ _ _ _ _ => .n v a b c d (ih e) f g h))
    (fun _ ih => @PT.rec α (fun _ => PT α) (.n none .e .e .e .e .e (ih .e) .e .e) (fun v a b c d e f g h _ _ _ _ _ _ _ _ => .n v a b c d e (ih f) g h))
    (fun _ ih => @PT.rec α (fun _ => PT α) (.n none .e .e .e .e .e .e (ih .e) .e) (fun v a b c d e f g h _ _ _ _ _ _ _ _ => .n v a b c d e f (ih g) h))
    (fun _ ih => @PT.rec α (fun _ => PT α) (.n none .e .e .e .e .e .e .e (ih .e)) (fun v a b c d e f g h _ _ _ _ _ _ _ _ => .n v a b c d e f g (ih h)))
end PT

inductive PM (α : Type) where
  | e
  | n (l : PM α) (v : Option α) (r : PM α)

namespace PM
/-- by a number: 0 is the root -/
noncomputable def getN {α : Type} : PM α → Nat → Option α :=
  @PM.rec α (fun _ => Nat → Option α) (fun _ => none)
    (fun _ v _ ihl ihr n => @Bool.rec (fun _ => Option α) (@Bool.rec (fun _ => Option α) (ihr (Nat.sub (Nat.div n 2) 1)) (ihl (Nat.div n 2)) (Nat.beq (Nat.mod n 2) 1)) v (Nat.beq n 0))
noncomputable def setN {α : Type} (x : α) : Nat → Nat → PM α → PM α :=
  @Nat.rec (fun _ => Nat → PM α → PM α) (fun _ t => t)
    (fun _ ih n => @PM.rec α (fun _ => PM α)
      (@Bool.rec (fun _ => PM α) (@Bool.rec (fun _ => PM α) (.n .e none (ih (Nat.sub (Nat.div n 2) 1) .e)) (.n (ih (Nat.div n 2) .e) none .e) (Nat.beq (Nat.mod n 2) 1)) (.n .e (some x) .e) (Nat.beq n 0))
      (fun l v r _ _ => @Bool.rec (fun _ => PM α) (@Bool.rec (fun _ => PM α) (.n l v (ih (Nat.sub (Nat.div n 2) 1) r)) (.n (ih (Nat.div n 2) l) v r) (Nat.beq (Nat.mod n 2) 1)) (.n l (some x) r) (Nat.beq n 0)))
end PM

inductive AV where
  | undef | tt | ff
  | nat (n : Nat) | neg (n : Nat) | byte (n : Nat) | int (k : IntKind) (n : Int)
  | str (n len : Nat)
  | nilptr | ptr (b : Pos) (e o : Nat)
  | nilslice | slice (b : Pos) (e len cap : Nat) (ex : Bool) (sz : Nat)
  | nilmap | map (b : Pos)
  | fn (f : Fn) (first captured : List AV) | nilfn
  | iface (t : Nat) (v : AV) | niliface
  | agg (n : Nat) (l : List AV) | tup (l : List AV)
  | miter (b : Pos) | siter (b : Pos) | tok (b : Pos) | yld (b : Pos) | sym (q p : Pos) (j : Nat)
  deriving Inhabited

inductive Obj where
  | dat (sz n : Nat) (t : PM (List AV))
  | mp (es : List (AV × AV)) (tk : Option (Pos × AV))
  | si (s len pos : Nat)
  | mi (m : Option Pos) (rest : List AV) (cur : AV)
  | lp (f : Nat) (vars : List AV) (busy : Bool)
  | dl
  | ms (m : Pos) (es : List (AV × AV)) (gs : List Pos) (left : Nat)
  deriving Inhabited

inductive AH where
  | mk (next : Pos) (t : PT Obj)

inductive CR where
  | ret (v : AV) (h : AH)
  | pan (v : AV) (h : AH)
  | fail (why : Nat)

inductive R where
  | ok (vars stk : List AV) (h : AH)
  | ex (id : Nat) (vars : List AV) (h : AH)
  | ret (vars : List AV) (h : AH)
  | pan (v : AV) (vars : List AV) (h : AH)
  | fail (why : Nat)

abbrev Rec := FuncId → List AV → AH → CR
abbrev K := AV → List AV → List AV → AH → R
abbrev Clos := Rec → List AV → List AV → AH → R

noncomputable def nth : Nat → List AV → AV :=
  @Nat.rec (fun _ => List AV → AV) (@List.rec AV (fun _ => AV) .undef (fun a _ _ => a))
    (fun _ ih => @List.rec AV (fun _ => AV) .undef (fun _ t _ => ih t))
noncomputable def upd (x : AV) : Nat → List AV → List AV :=
  @Nat.rec (fun _ => List AV → List AV) (@List.rec AV (fun _ => List AV) [] (fun _ t _ => x :: t))
    (fun _ ih => @List.rec AV (fun _ => List AV) [] (fun a t _ => a :: ih t))
noncomputable def len {α : Type} : List α → Nat := @List.rec α (fun _ => Nat) 0 (fun _ _ ih => Nat.succ ih)
noncomputable def app {α : Type} (y : List α) : List α → List α := @List.rec α (fun _ => List α) y (fun a _ ih => a :: ih)
noncomputable def dropL : Nat → List AV → List AV :=
  @Nat.rec (fun _ => List AV → List AV) (fun l => l) (fun _ ih => @List.rec AV (fun _ => List AV) [] (fun _ t _ => ih t))
noncomputable def takeL : Nat → List AV → List AV :=
  @Nat.rec (fun _ => List AV → List AV) (fun _ => []) (fun _ ih => @List.rec AV (fun _ => List AV) [] (fun a t _ => a :: ih t))

/-- an operand: on the stack, a variable, a constant -/
inductive G where
  | stk (i : Nat) | var (i : Nat) | cst (a : AV) | sub (i : Nat) (g : G) | bad
/-! strings: little-endian numbers -/
def strNat : List UInt8 → Nat
  | [] => 0
  | b :: l => b.toNat + 256 * strNat l
def sIdx (n i : Nat) : Nat := Nat.mod (Nat.shiftRight n (Nat.mul 8 i)) 256
def sSub (n l h : Nat) : Nat := Nat.mod (Nat.shiftRight n (Nat.mul 8 l)) (Nat.pow 2 (Nat.mul 8 (Nat.sub h l)))
def sCat (a la b : Nat) : Nat := Nat.add a (Nat.shiftLeft b (Nat.mul 8 la))
def sLtF : Nat → Nat → Nat → Nat → Nat → Bool
  | 0, _, _, _, _ => false
  | f + 1, a, la, b, lb =>
    if lb = 0 then false else if la = 0 then true else
    if a % 256 < b % 256 then true else if a % 256 = b % 256 then sLtF f (a / 256) (la - 1) (b / 256) (lb - 1) else false
def sLt (a la b lb : Nat) : Bool := if Nat.beq a b then Nat.blt la lb else sLtF (la + lb + 1) a la b lb
def sFind (c : Nat) : Nat → Nat → Nat → Nat → Option Nat
  | 0, _, _, _ => none
  | f + 1, a, la, i => if la = 0 then none else if a % 256 = c then some i else sFind c f (a / 256) (la - 1) (i + 1)

def big : Nat := 9223372036854775807
def conv1 : Value → AV
  | .bool true => .tt
  | .bool false => .ff
  | .int .i64 (.ofNat n) => if n ≤ big then .nat n else .undef
  | .int .i64 (.negSucc n) => if n ≤ big then .neg n else .undef
  | .int .u8 (.ofNat n) => if n < 256 then .byte n else .undef
  | .int k n => .int k n
  | .string s => if s.data.toList.length ≤ big then .str (strNat s.data.toList) s.data.toList.length else .undef
  | .pointer none => .nilptr
  | .slice none 0 0 => .nilslice
  | .map none => .nilmap
  | .nilFunc => .nilfn
  | .nilIface => .niliface
  | _ => .undef
def oneC : Value → Bool
  | .agg _ | .tuple _ => false
  | _ => true
def conv : Value → AV
  | .agg cs => if cs.toList.all oneC then .agg (cs.toList.map conv1).length (cs.toList.map conv1) else .undef
  | .tuple cs => .tup (cs.toList.map conv1)
  | v => conv1 v

/-! elimination of a value, towards the rest of an operation -/
noncomputable def onPtr : AV → (Pos → Nat → Nat → K → List AV → List AV → AH → R) → K → List AV → List AV → AH → R := @AV.rec (fun _ => (Pos → Nat → Nat → K → List AV → List AV → AH → R) → K → List AV → List AV → AH → R) (fun _ => Unit) (fun _ _ _ _ _ => R.fail 1) (fun _ _ _ _ _ => R.fail 1) (fun _ _ _ _ _ => R.fail 1) (fun _ => (fun _ _ _ _ _ => R.fail 1)) (fun _ => (fun _ _ _ _ _ => R.fail 1)) (fun _ => (fun _ _ _ _ _ => R.fail 1)) (fun _ _ => (fun _ _ _ _ _ => R.fail 1)) (fun _ _ => (fun _ _ _ _ _ => R.fail 1)) (fun _ _ _ _ _ => R.fail 1) (fun b e o => fun f => f b e o) (fun _ _ _ _ _ => R.fail 1) (fun _ _ _ _ _ _ => (fun _ _ _ _ _ => R.fail 1)) (fun _ _ _ _ _ => R.fail 1) (fun _ => (fun _ _ _ _ _ => R.fail 1)) (fun _ _ _ _ _ => (fun _ _ _ _ _ => R.fail 1)) (fun _ _ _ _ _ => R.fail 1) (fun _ _ _ => (fun _ _ _ _ _ => R.fail 1)) (fun _ _ _ _ _ => R.fail 1) (fun _ _ _ => (fun _ _ _ _ _ => R.fail 1)) (fun _ _ => (fun _ _ _ _ _ => R.fail 1)) (fun _ => (fun _ _ _ _ _ => R.fail 1)) (fun _ => (fun _ _ _ _ _ => R.fail 1)) (fun _ => (fun _ _ _ _ _ => R.fail 1)) (fun _ => (fun _ _ _ _ _ => R.fail 1)) (fun _ _ _ => (fun _ _ _ _ _ => R.fail 1)) () (fun _ _ _ _ => ())
noncomputable def onVal : AV → K → List AV → List AV → AH → R := @AV.rec (fun _ => K → List AV → List AV → AH → R) (fun _ => Unit) (fun _ _ _ _ => R.fail 2) (fun kk => kk (AV.tt)) (fun kk => kk (AV.ff)) (fun n => fun kk => kk (AV.nat n)) (fun n => fun kk => kk (AV.neg n)) (fun n => fun kk => kk (AV.byte n)) (fun k n => fun kk => kk (AV.int k n)) (fun n len => fun kk => kk (AV.str n len)) (fun kk => kk (AV.nilptr)) (fun b e o => fun kk => kk (AV.ptr b e o)) (fun kk => kk (AV.nilslice)) (fun b e len cap ex sz => fun kk => kk (AV.slice b e len cap ex sz)) (fun kk => kk (AV.nilmap)) (fun b => fun kk => kk (AV.map b)) (fun f a c _ _ => fun kk => kk (AV.fn f a c)) (fun kk => kk (AV.nilfn)) (fun t w _ => fun kk => kk (AV.iface t w)) (fun kk => kk (AV.niliface)) (fun m l _ => fun kk => kk (AV.agg m l)) (fun l _ => fun kk => kk (AV.tup l)) (fun b => fun kk => kk (AV.miter b)) (fun b => fun kk => kk (AV.siter b)) (fun b => fun kk => kk (AV.tok b)) (fun b => fun kk => kk (AV.yld b)) (fun q p j => fun kk => kk (AV.sym q p j)) () (fun _ _ _ _ => ())
noncomputable def onNat : AV → (Nat → K → List AV → List AV → AH → R) → K → List AV → List AV → AH → R := @AV.rec (fun _ => (Nat → K → List AV → List AV → AH → R) → K → List AV → List AV → AH → R) (fun _ => Unit) (fun _ _ _ _ _ => R.fail 3) (fun _ _ _ _ _ => R.fail 3) (fun _ _ _ _ _ => R.fail 3) (fun n => fun f => f n) (fun _ => (fun _ _ _ _ _ => R.fail 3)) (fun _ => (fun _ _ _ _ _ => R.fail 3)) (fun _ _ => (fun _ _ _ _ _ => R.fail 3)) (fun _ _ => (fun _ _ _ _ _ => R.fail 3)) (fun _ _ _ _ _ => R.fail 3) (fun _ _ _ => (fun _ _ _ _ _ => R.fail 3)) (fun _ _ _ _ _ => R.fail 3) (fun _ _ _ _ _ _ => (fun _ _ _ _ _ => R.fail 3)) (fun _ _ _ _ _ => R.fail 3) (fun _ => (fun _ _ _ _ _ => R.fail 3)) (fun _ _ _ _ _ => (fun _ _ _ _ _ => R.fail 3)) (fun _ _ _ _ _ => R.fail 3) (fun _ _ _ => (fun _ _ _ _ _ => R.fail 3)) (fun _ _ _ _ _ => R.fail 3) (fun _ _ _ => (fun _ _ _ _ _ => R.fail 3)) (fun _ _ => (fun _ _ _ _ _ => R.fail 3)) (fun _ => (fun _ _ _ _ _ => R.fail 3)) (fun _ => (fun _ _ _ _ _ => R.fail 3)) (fun _ => (fun _ _ _ _ _ => R.fail 3)) (fun _ => (fun _ _ _ _ _ => R.fail 3)) (fun _ _ _ => (fun _ _ _ _ _ => R.fail 3)) () (fun _ _ _ _ => ())
noncomputable def onIdx : AV → (Nat → K → List AV → List AV → AH → R) → K → List AV → List AV → AH → R := @AV.rec (fun _ => (Nat → K → List AV → List AV → AH → R) → K → List AV → List AV → AH → R) (fun _ => Unit) (fun _ _ _ _ _ => R.fail 3) (fun _ _ _ _ _ => R.fail 3) (fun _ _ _ _ _ => R.fail 3) (fun n => fun f => f n) (fun _ => (fun _ _ _ _ _ => R.fail 3)) (fun n => fun f => f n) (fun _ _ => (fun _ _ _ _ _ => R.fail 3)) (fun _ _ => (fun _ _ _ _ _ => R.fail 3)) (fun _ _ _ _ _ => R.fail 3) (fun _ _ _ => (fun _ _ _ _ _ => R.fail 3)) (fun _ _ _ _ _ => R.fail 3) (fun _ _ _ _ _ _ => (fun _ _ _ _ _ => R.fail 3)) (fun _ _ _ _ _ => R.fail 3) (fun _ => (fun _ _ _ _ _ => R.fail 3)) (fun _ _ _ _ _ => (fun _ _ _ _ _ => R.fail 3)) (fun _ _ _ _ _ => R.fail 3) (fun _ _ _ => (fun _ _ _ _ _ => R.fail 3)) (fun _ _ _ _ _ => R.fail 3) (fun _ _ _ => (fun _ _ _ _ _ => R.fail 3)) (fun _ _ => (fun _ _ _ _ _ => R.fail 3)) (fun _ => (fun _ _ _ _ _ => R.fail 3)) (fun _ => (fun _ _ _ _ _ => R.fail 3)) (fun _ => (fun _ _ _ _ _ => R.fail 3)) (fun _ => (fun _ _ _ _ _ => R.fail 3)) (fun _ _ _ => (fun _ _ _ _ _ => R.fail 3)) () (fun _ _ _ _ => ())
noncomputable def onStr : AV → (Nat → Nat → K → List AV → List AV → AH → R) → K → List AV → List AV → AH → R := @AV.rec (fun _ => (Nat → Nat → K → List AV → List AV → AH → R) → K → List AV → List AV → AH → R) (fun _ => Unit) (fun _ _ _ _ _ => R.fail 4) (fun _ _ _ _ _ => R.fail 4) (fun _ _ _ _ _ => R.fail 4) (fun _ => (fun _ _ _ _ _ => R.fail 4)) (fun _ => (fun _ _ _ _ _ => R.fail 4)) (fun _ => (fun _ _ _ _ _ => R.fail 4)) (fun _ _ => (fun _ _ _ _ _ => R.fail 4)) (fun n len => fun f => f n len) (fun _ _ _ _ _ => R.fail 4) (fun _ _ _ => (fun _ _ _ _ _ => R.fail 4)) (fun _ _ _ _ _ => R.fail 4) (fun _ _ _ _ _ _ => (fun _ _ _ _ _ => R.fail 4)) (fun _ _ _ _ _ => R.fail 4) (fun _ => (fun _ _ _ _ _ => R.fail 4)) (fun _ _ _ _ _ => (fun _ _ _ _ _ => R.fail 4)) (fun _ _ _ _ _ => R.fail 4) (fun _ _ _ => (fun _ _ _ _ _ => R.fail 4)) (fun _ _ _ _ _ => R.fail 4) (fun _ _ _ => (fun _ _ _ _ _ => R.fail 4)) (fun _ _ => (fun _ _ _ _ _ => R.fail 4)) (fun _ => (fun _ _ _ _ _ => R.fail 4)) (fun _ => (fun _ _ _ _ _ => R.fail 4)) (fun _ => (fun _ _ _ _ _ => R.fail 4)) (fun _ => (fun _ _ _ _ _ => R.fail 4)) (fun _ _ _ => (fun _ _ _ _ _ => R.fail 4)) () (fun _ _ _ _ => ())
noncomputable def onTup : AV → (List AV → K → List AV → List AV → AH → R) → K → List AV → List AV → AH → R := @AV.rec (fun _ => (List AV → K → List AV → List AV → AH → R) → K → List AV → List AV → AH → R) (fun _ => Unit) (fun _ _ _ _ _ => R.fail 5) (fun _ _ _ _ _ => R.fail 5) (fun _ _ _ _ _ => R.fail 5) (fun _ => (fun _ _ _ _ _ => R.fail 5)) (fun _ => (fun _ _ _ _ _ => R.fail 5)) (fun _ => (fun _ _ _ _ _ => R.fail 5)) (fun _ _ => (fun _ _ _ _ _ => R.fail 5)) (fun _ _ => (fun _ _ _ _ _ => R.fail 5)) (fun _ _ _ _ _ => R.fail 5) (fun _ _ _ => (fun _ _ _ _ _ => R.fail 5)) (fun _ _ _ _ _ => R.fail 5) (fun _ _ _ _ _ _ => (fun _ _ _ _ _ => R.fail 5)) (fun _ _ _ _ _ => R.fail 5) (fun _ => (fun _ _ _ _ _ => R.fail 5)) (fun _ _ _ _ _ => (fun _ _ _ _ _ => R.fail 5)) (fun _ _ _ _ _ => R.fail 5) (fun _ _ _ => (fun _ _ _ _ _ => R.fail 5)) (fun _ _ _ _ _ => R.fail 5) (fun _ _ _ => (fun _ _ _ _ _ => R.fail 5)) (fun l _ => fun f => f l) (fun _ => (fun _ _ _ _ _ => R.fail 5)) (fun _ => (fun _ _ _ _ _ => R.fail 5)) (fun _ => (fun _ _ _ _ _ => R.fail 5)) (fun _ => (fun _ _ _ _ _ => R.fail 5)) (fun _ _ _ => (fun _ _ _ _ _ => R.fail 5)) () (fun _ _ _ _ => ())
noncomputable def onAgg : AV → (Nat → List AV → K → List AV → List AV → AH → R) → K → List AV → List AV → AH → R := @AV.rec (fun _ => (Nat → List AV → K → List AV → List AV → AH → R) → K → List AV → List AV → AH → R) (fun _ => Unit) (fun _ _ _ _ _ => R.fail 6) (fun _ _ _ _ _ => R.fail 6) (fun _ _ _ _ _ => R.fail 6) (fun _ => (fun _ _ _ _ _ => R.fail 6)) (fun _ => (fun _ _ _ _ _ => R.fail 6)) (fun _ => (fun _ _ _ _ _ => R.fail 6)) (fun _ _ => (fun _ _ _ _ _ => R.fail 6)) (fun _ _ => (fun _ _ _ _ _ => R.fail 6)) (fun _ _ _ _ _ => R.fail 6) (fun _ _ _ => (fun _ _ _ _ _ => R.fail 6)) (fun _ _ _ _ _ => R.fail 6) (fun _ _ _ _ _ _ => (fun _ _ _ _ _ => R.fail 6)) (fun _ _ _ _ _ => R.fail 6) (fun _ => (fun _ _ _ _ _ => R.fail 6)) (fun _ _ _ _ _ => (fun _ _ _ _ _ => R.fail 6)) (fun _ _ _ _ _ => R.fail 6) (fun _ _ _ => (fun _ _ _ _ _ => R.fail 6)) (fun _ _ _ _ _ => R.fail 6) (fun m l _ => fun f => f m l) (fun _ _ => (fun _ _ _ _ _ => R.fail 6)) (fun _ => (fun _ _ _ _ _ => R.fail 6)) (fun _ => (fun _ _ _ _ _ => R.fail 6)) (fun _ => (fun _ _ _ _ _ => R.fail 6)) (fun _ => (fun _ _ _ _ _ => R.fail 6)) (fun _ _ _ => (fun _ _ _ _ _ => R.fail 6)) () (fun _ _ _ _ => ())
noncomputable def onBool : AV → (List AV → List AV → AH → R) → (List AV → List AV → AH → R) → List AV → List AV → AH → R := @AV.rec (fun _ => (List AV → List AV → AH → R) → (List AV → List AV → AH → R) → List AV → List AV → AH → R) (fun _ => Unit) (fun _ _ _ _ _ => R.fail 7) (fun f _ => f) (fun _ g => g) (fun _ => (fun _ _ _ _ _ => R.fail 7)) (fun _ => (fun _ _ _ _ _ => R.fail 7)) (fun _ => (fun _ _ _ _ _ => R.fail 7)) (fun _ _ => (fun _ _ _ _ _ => R.fail 7)) (fun _ _ => (fun _ _ _ _ _ => R.fail 7)) (fun _ _ _ _ _ => R.fail 7) (fun _ _ _ => (fun _ _ _ _ _ => R.fail 7)) (fun _ _ _ _ _ => R.fail 7) (fun _ _ _ _ _ _ => (fun _ _ _ _ _ => R.fail 7)) (fun _ _ _ _ _ => R.fail 7) (fun _ => (fun _ _ _ _ _ => R.fail 7)) (fun _ _ _ _ _ => (fun _ _ _ _ _ => R.fail 7)) (fun _ _ _ _ _ => R.fail 7) (fun _ _ _ => (fun _ _ _ _ _ => R.fail 7)) (fun _ _ _ _ _ => R.fail 7) (fun _ _ _ => (fun _ _ _ _ _ => R.fail 7)) (fun _ _ => (fun _ _ _ _ _ => R.fail 7)) (fun _ => (fun _ _ _ _ _ => R.fail 7)) (fun _ => (fun _ _ _ _ _ => R.fail 7)) (fun _ => (fun _ _ _ _ _ => R.fail 7)) (fun _ => (fun _ _ _ _ _ => R.fail 7)) (fun _ _ _ => (fun _ _ _ _ _ => R.fail 7)) () (fun _ _ _ _ => ())
noncomputable def onMap : AV → (K → List AV → List AV → AH → R) → (Pos → K → List AV → List AV → AH → R) → K → List AV → List AV → AH → R := @AV.rec (fun _ => (K → List AV → List AV → AH → R) → (Pos → K → List AV → List AV → AH → R) → K → List AV → List AV → AH → R) (fun _ => Unit) (fun _ _ _ _ _ _ => R.fail 8) (fun _ _ _ _ _ _ => R.fail 8) (fun _ _ _ _ _ _ => R.fail 8) (fun _ => (fun _ _ _ _ _ _ => R.fail 8)) (fun _ => (fun _ _ _ _ _ _ => R.fail 8)) (fun _ => (fun _ _ _ _ _ _ => R.fail 8)) (fun _ _ => (fun _ _ _ _ _ _ => R.fail 8)) (fun _ _ => (fun _ _ _ _ _ _ => R.fail 8)) (fun _ _ _ _ _ _ => R.fail 8) (fun _ _ _ => (fun _ _ _ _ _ _ => R.fail 8)) (fun _ _ _ _ _ _ => R.fail 8) (fun _ _ _ _ _ _ => (fun _ _ _ _ _ _ => R.fail 8)) (fun f _ => f) (fun b => fun _ g => g b) (fun _ _ _ _ _ => (fun _ _ _ _ _ _ => R.fail 8)) (fun _ _ _ _ _ _ => R.fail 8) (fun _ _ _ => (fun _ _ _ _ _ _ => R.fail 8)) (fun _ _ _ _ _ _ => R.fail 8) (fun _ _ _ => (fun _ _ _ _ _ _ => R.fail 8)) (fun _ _ => (fun _ _ _ _ _ _ => R.fail 8)) (fun _ => (fun _ _ _ _ _ _ => R.fail 8)) (fun _ => (fun _ _ _ _ _ _ => R.fail 8)) (fun _ => (fun _ _ _ _ _ _ => R.fail 8)) (fun _ => (fun _ _ _ _ _ _ => R.fail 8)) (fun _ _ _ => (fun _ _ _ _ _ _ => R.fail 8)) () (fun _ _ _ _ => ())
noncomputable def onSlice : AV → (K → List AV → List AV → AH → R) → (Pos → Nat → Nat → Nat → Bool → Nat → K → List AV → List AV → AH → R) → K → List AV → List AV → AH → R := @AV.rec (fun _ => (K → List AV → List AV → AH → R) → (Pos → Nat → Nat → Nat → Bool → Nat → K → List AV → List AV → AH → R) → K → List AV → List AV → AH → R) (fun _ => Unit) (fun _ _ _ _ _ _ => R.fail 9) (fun _ _ _ _ _ _ => R.fail 9) (fun _ _ _ _ _ _ => R.fail 9) (fun _ => (fun _ _ _ _ _ _ => R.fail 9)) (fun _ => (fun _ _ _ _ _ _ => R.fail 9)) (fun _ => (fun _ _ _ _ _ _ => R.fail 9)) (fun _ _ => (fun _ _ _ _ _ _ => R.fail 9)) (fun _ _ => (fun _ _ _ _ _ _ => R.fail 9)) (fun _ _ _ _ _ _ => R.fail 9) (fun _ _ _ => (fun _ _ _ _ _ _ => R.fail 9)) (fun f _ => f) (fun b e len cap ex sz => fun _ g => g b e len cap ex sz) (fun _ _ _ _ _ _ => R.fail 9) (fun _ => (fun _ _ _ _ _ _ => R.fail 9)) (fun _ _ _ _ _ => (fun _ _ _ _ _ _ => R.fail 9)) (fun _ _ _ _ _ _ => R.fail 9) (fun _ _ _ => (fun _ _ _ _ _ _ => R.fail 9)) (fun _ _ _ _ _ _ => R.fail 9) (fun _ _ _ => (fun _ _ _ _ _ _ => R.fail 9)) (fun _ _ => (fun _ _ _ _ _ _ => R.fail 9)) (fun _ => (fun _ _ _ _ _ _ => R.fail 9)) (fun _ => (fun _ _ _ _ _ _ => R.fail 9)) (fun _ => (fun _ _ _ _ _ _ => R.fail 9)) (fun _ => (fun _ _ _ _ _ _ => R.fail 9)) (fun _ _ _ => (fun _ _ _ _ _ _ => R.fail 9)) () (fun _ _ _ _ => ())
noncomputable def onFn : AV → (Fn → List AV → List AV → K → List AV → List AV → AH → R) → K → List AV → List AV → AH → R := @AV.rec (fun _ => (Fn → List AV → List AV → K → List AV → List AV → AH → R) → K → List AV → List AV → AH → R) (fun _ => Unit) (fun _ _ _ _ _ => R.fail 10) (fun _ _ _ _ _ => R.fail 10) (fun _ _ _ _ _ => R.fail 10) (fun _ => (fun _ _ _ _ _ => R.fail 10)) (fun _ => (fun _ _ _ _ _ => R.fail 10)) (fun _ => (fun _ _ _ _ _ => R.fail 10)) (fun _ _ => (fun _ _ _ _ _ => R.fail 10)) (fun _ _ => (fun _ _ _ _ _ => R.fail 10)) (fun _ _ _ _ _ => R.fail 10) (fun _ _ _ => (fun _ _ _ _ _ => R.fail 10)) (fun _ _ _ _ _ => R.fail 10) (fun _ _ _ _ _ _ => (fun _ _ _ _ _ => R.fail 10)) (fun _ _ _ _ _ => R.fail 10) (fun _ => (fun _ _ _ _ _ => R.fail 10)) (fun f a c _ _ => fun g => g f a c) (fun _ _ _ _ _ => R.fail 10) (fun _ _ _ => (fun _ _ _ _ _ => R.fail 10)) (fun _ _ _ _ _ => R.fail 10) (fun _ _ _ => (fun _ _ _ _ _ => R.fail 10)) (fun _ _ => (fun _ _ _ _ _ => R.fail 10)) (fun _ => (fun _ _ _ _ _ => R.fail 10)) (fun _ => (fun _ _ _ _ _ => R.fail 10)) (fun _ => (fun _ _ _ _ _ => R.fail 10)) (fun _ => (fun _ _ _ _ _ => R.fail 10)) (fun _ _ _ => (fun _ _ _ _ _ => R.fail 10)) () (fun _ _ _ _ => ())
noncomputable def onFnY : AV → (Fn → List AV → List AV → K → List AV → List AV → AH → R) → (Pos → K → List AV → List AV → AH → R) → K → List AV → List AV → AH → R := @AV.rec (fun _ => (Fn → List AV → List AV → K → List AV → List AV → AH → R) → (Pos → K → List AV → List AV → AH → R) → K → List AV → List AV → AH → R) (fun _ => Unit) (fun _ _ _ _ _ _ => R.fail 10) (fun _ _ _ _ _ _ => R.fail 10) (fun _ _ _ _ _ _ => R.fail 10) (fun _ => (fun _ _ _ _ _ _ => R.fail 10)) (fun _ => (fun _ _ _ _ _ _ => R.fail 10)) (fun _ => (fun _ _ _ _ _ _ => R.fail 10)) (fun _ _ => (fun _ _ _ _ _ _ => R.fail 10)) (fun _ _ => (fun _ _ _ _ _ _ => R.fail 10)) (fun _ _ _ _ _ _ => R.fail 10) (fun _ _ _ => (fun _ _ _ _ _ _ => R.fail 10)) (fun _ _ _ _ _ _ => R.fail 10) (fun _ _ _ _ _ _ => (fun _ _ _ _ _ _ => R.fail 10)) (fun _ _ _ _ _ _ => R.fail 10) (fun _ => (fun _ _ _ _ _ _ => R.fail 10)) (fun f a c _ _ => fun g _ => g f a c) (fun _ _ _ _ _ _ => R.fail 10) (fun _ _ _ => (fun _ _ _ _ _ _ => R.fail 10)) (fun _ _ _ _ _ _ => R.fail 10) (fun _ _ _ => (fun _ _ _ _ _ _ => R.fail 10)) (fun _ _ => (fun _ _ _ _ _ _ => R.fail 10)) (fun _ => (fun _ _ _ _ _ _ => R.fail 10)) (fun _ => (fun _ _ _ _ _ _ => R.fail 10)) (fun _ => (fun _ _ _ _ _ _ => R.fail 10)) (fun b => fun _ g => g b) (fun _ _ _ => (fun _ _ _ _ _ _ => R.fail 10)) () (fun _ _ _ _ => ())
noncomputable def onIface : AV → (Nat → AV → K → List AV → List AV → AH → R) → K → List AV → List AV → AH → R := @AV.rec (fun _ => (Nat → AV → K → List AV → List AV → AH → R) → K → List AV → List AV → AH → R) (fun _ => Unit) (fun _ _ _ _ _ => R.fail 11) (fun _ _ _ _ _ => R.fail 11) (fun _ _ _ _ _ => R.fail 11) (fun _ => (fun _ _ _ _ _ => R.fail 11)) (fun _ => (fun _ _ _ _ _ => R.fail 11)) (fun _ => (fun _ _ _ _ _ => R.fail 11)) (fun _ _ => (fun _ _ _ _ _ => R.fail 11)) (fun _ _ => (fun _ _ _ _ _ => R.fail 11)) (fun _ _ _ _ _ => R.fail 11) (fun _ _ _ => (fun _ _ _ _ _ => R.fail 11)) (fun _ _ _ _ _ => R.fail 11) (fun _ _ _ _ _ _ => (fun _ _ _ _ _ => R.fail 11)) (fun _ _ _ _ _ => R.fail 11) (fun _ => (fun _ _ _ _ _ => R.fail 11)) (fun _ _ _ _ _ => (fun _ _ _ _ _ => R.fail 11)) (fun _ _ _ _ _ => R.fail 11) (fun t w _ => fun f => f t w) (fun _ _ _ _ _ => R.fail 11) (fun _ _ _ => (fun _ _ _ _ _ => R.fail 11)) (fun _ _ => (fun _ _ _ _ _ => R.fail 11)) (fun _ => (fun _ _ _ _ _ => R.fail 11)) (fun _ => (fun _ _ _ _ _ => R.fail 11)) (fun _ => (fun _ _ _ _ _ => R.fail 11)) (fun _ => (fun _ _ _ _ _ => R.fail 11)) (fun _ _ _ => (fun _ _ _ _ _ => R.fail 11)) () (fun _ _ _ _ => ())
noncomputable def onMiter : AV → (Pos → K → List AV → List AV → AH → R) → K → List AV → List AV → AH → R := @AV.rec (fun _ => (Pos → K → List AV → List AV → AH → R) → K → List AV → List AV → AH → R) (fun _ => Unit) (fun _ _ _ _ _ => R.fail 12) (fun _ _ _ _ _ => R.fail 12) (fun _ _ _ _ _ => R.fail 12) (fun _ => (fun _ _ _ _ _ => R.fail 12)) (fun _ => (fun _ _ _ _ _ => R.fail 12)) (fun _ => (fun _ _ _ _ _ => R.fail 12)) (fun _ _ => (fun _ _ _ _ _ => R.fail 12)) (fun _ _ => (fun _ _ _ _ _ => R.fail 12)) (fun _ _ _ _ _ => R.fail 12) (fun _ _ _ => (fun _ _ _ _ _ => R.fail 12)) (fun _ _ _ _ _ => R.fail 12) (fun _ _ _ _ _ _ => (fun _ _ _ _ _ => R.fail 12)) (fun _ _ _ _ _ => R.fail 12) (fun _ => (fun _ _ _ _ _ => R.fail 12)) (fun _ _ _ _ _ => (fun _ _ _ _ _ => R.fail 12)) (fun _ _ _ _ _ => R.fail 12) (fun _ _ _ => (fun _ _ _ _ _ => R.fail 12)) (fun _ _ _ _ _ => R.fail 12) (fun _ _ _ => (fun _ _ _ _ _ => R.fail 12)) (fun _ _ => (fun _ _ _ _ _ => R.fail 12)) (fun b => fun f => f b) (fun _ => (fun _ _ _ _ _ => R.fail 12)) (fun _ => (fun _ _ _ _ _ => R.fail 12)) (fun _ => (fun _ _ _ _ _ => R.fail 12)) (fun _ _ _ => (fun _ _ _ _ _ => R.fail 12)) () (fun _ _ _ _ => ())
noncomputable def onSiter : AV → (Pos → K → List AV → List AV → AH → R) → K → List AV → List AV → AH → R := @AV.rec (fun _ => (Pos → K → List AV → List AV → AH → R) → K → List AV → List AV → AH → R) (fun _ => Unit) (fun _ _ _ _ _ => R.fail 13) (fun _ _ _ _ _ => R.fail 13) (fun _ _ _ _ _ => R.fail 13) (fun _ => (fun _ _ _ _ _ => R.fail 13)) (fun _ => (fun _ _ _ _ _ => R.fail 13)) (fun _ => (fun _ _ _ _ _ => R.fail 13)) (fun _ _ => (fun _ _ _ _ _ => R.fail 13)) (fun _ _ => (fun _ _ _ _ _ => R.fail 13)) (fun _ _ _ _ _ => R.fail 13) (fun _ _ _ => (fun _ _ _ _ _ => R.fail 13)) (fun _ _ _ _ _ => R.fail 13) (fun _ _ _ _ _ _ => (fun _ _ _ _ _ => R.fail 13)) (fun _ _ _ _ _ => R.fail 13) (fun _ => (fun _ _ _ _ _ => R.fail 13)) (fun _ _ _ _ _ => (fun _ _ _ _ _ => R.fail 13)) (fun _ _ _ _ _ => R.fail 13) (fun _ _ _ => (fun _ _ _ _ _ => R.fail 13)) (fun _ _ _ _ _ => R.fail 13) (fun _ _ _ => (fun _ _ _ _ _ => R.fail 13)) (fun _ _ => (fun _ _ _ _ _ => R.fail 13)) (fun _ => (fun _ _ _ _ _ => R.fail 13)) (fun b => fun f => f b) (fun _ => (fun _ _ _ _ _ => R.fail 13)) (fun _ => (fun _ _ _ _ _ => R.fail 13)) (fun _ _ _ => (fun _ _ _ _ _ => R.fail 13)) () (fun _ _ _ _ => ())
noncomputable def avCells : AV → List AV := @AV.rec (fun _ => List AV) (fun _ => Unit) ([AV.undef]) ([AV.tt]) ([AV.ff]) (fun n => [AV.nat n]) (fun n => [AV.neg n]) (fun n => [AV.byte n]) (fun k n => [AV.int k n]) (fun n len => [AV.str n len]) ([AV.nilptr]) (fun b e o => [AV.ptr b e o]) ([AV.nilslice]) (fun b e len cap ex sz => [AV.slice b e len cap ex sz]) ([AV.nilmap]) (fun b => [AV.map b]) (fun f a c _ _ => [AV.fn f a c]) ([AV.nilfn]) (fun t w _ => [AV.iface t w]) ([AV.niliface]) (fun m l _ => l) (fun l _ => [AV.tup l]) (fun b => [AV.miter b]) (fun b => [AV.siter b]) (fun b => [AV.tok b]) (fun b => [AV.yld b]) (fun q p j => [AV.sym q p j]) () (fun _ _ _ _ => ())
noncomputable def avSize : AV → Nat := @AV.rec (fun _ => Nat) (fun _ => Unit) 1 1 1 (fun _ => 1) (fun _ => 1) (fun _ => 1) (fun _ _ => 1) (fun _ _ => 1) 1 (fun _ _ _ => 1) 1 (fun _ _ _ _ _ _ => 1) 1 (fun _ => 1) (fun _ _ _ _ _ => 1) 1 (fun _ _ _ => 1) 1 (fun m _ _ => m) (fun _ _ => 1) (fun _ => 1) (fun _ => 1) (fun _ => 1) (fun _ => 1) (fun _ _ _ => 1) () (fun _ _ _ _ => ())
/-- a value of one cell -/
noncomputable def avOne : AV → Bool := @AV.rec (fun _ => Bool) (fun _ => Unit) (false) true true (fun _ => true) (fun _ => true) (fun _ => true) (fun _ _ => true) (fun _ _ => true) true (fun _ _ _ => true) true (fun _ _ _ _ _ _ => true) true (fun _ => true) (fun _ _ _ _ _ => true) true (fun _ _ _ => true) true (fun _ _ _ => false) (fun _ _ => false) (fun _ => true) (fun _ => true) (fun _ => true) (fun _ => true) (fun _ _ _ => true) () (fun _ _ _ _ => ())
/-- a value of so many cells -/
noncomputable def avOk (n : Nat) : AV → Bool := @AV.rec (fun _ => Bool) (fun _ => Unit) (false) (Nat.beq 1 n) (Nat.beq 1 n) (fun _ => (Nat.beq 1 n)) (fun _ => (Nat.beq 1 n)) (fun _ => (Nat.beq 1 n)) (fun _ _ => (Nat.beq 1 n)) (fun _ _ => (Nat.beq 1 n)) (Nat.beq 1 n) (fun _ _ _ => (Nat.beq 1 n)) (Nat.beq 1 n) (fun _ _ _ _ _ _ => (Nat.beq 1 n)) (Nat.beq 1 n) (fun _ => (Nat.beq 1 n)) (fun _ _ _ _ _ => (Nat.beq 1 n)) (Nat.beq 1 n) (fun _ _ _ => (Nat.beq 1 n)) (Nat.beq 1 n) (fun m _ _ => Nat.beq m n) (fun _ _ => false) (fun _ => (Nat.beq 1 n)) (fun _ => (Nat.beq 1 n)) (fun _ => (Nat.beq 1 n)) (fun _ => (Nat.beq 1 n)) (fun _ _ _ => (Nat.beq 1 n)) () (fun _ _ _ _ => ())
noncomputable def avSub (i : Nat) : AV → AV := @AV.rec (fun _ => AV) (fun _ => Unit) AV.undef AV.undef AV.undef (fun _ => AV.undef) (fun _ => AV.undef) (fun _ => AV.undef) (fun _ _ => AV.undef) (fun _ _ => AV.undef) AV.undef (fun _ _ _ => AV.undef) AV.undef (fun _ _ _ _ _ _ => AV.undef) AV.undef (fun _ => AV.undef) (fun _ _ _ _ _ => AV.undef) AV.undef (fun _ _ _ => AV.undef) AV.undef (fun _ l _ => nth i l) (fun _ _ => AV.undef) (fun _ => AV.undef) (fun _ => AV.undef) (fun _ => AV.undef) (fun _ => AV.undef) (fun _ _ _ => AV.undef) () (fun _ _ _ _ => ())
noncomputable def isAggN (n : Nat) : AV → Bool := @AV.rec (fun _ => Bool) (fun _ => Unit) false false false (fun _ => false) (fun _ => false) (fun _ => false) (fun _ _ => false) (fun _ _ => false) false (fun _ _ _ => false) false (fun _ _ _ _ _ _ => false) false (fun _ => false) (fun _ _ _ _ _ => false) false (fun _ _ _ => false) false (fun m _ _ => Nat.beq m n) (fun _ _ => false) (fun _ => false) (fun _ => false) (fun _ => false) (fun _ => false) (fun _ _ _ => false) () (fun _ _ _ _ => ())
noncomputable def avNat : AV → Nat → Nat := @AV.rec (fun _ => Nat → Nat) (fun _ => Unit) (fun d => d) (fun d => d) (fun d => d) (fun n => fun _ => n) (fun _ => (fun d => d)) (fun _ => (fun d => d)) (fun _ _ => (fun d => d)) (fun _ _ => (fun d => d)) (fun d => d) (fun _ _ _ => (fun d => d)) (fun d => d) (fun _ _ _ _ _ _ => (fun d => d)) (fun d => d) (fun _ => (fun d => d)) (fun _ _ _ _ _ => (fun d => d)) (fun d => d) (fun _ _ _ => (fun d => d)) (fun d => d) (fun _ _ _ => (fun d => d)) (fun _ _ => (fun d => d)) (fun _ => (fun d => d)) (fun _ => (fun d => d)) (fun _ => (fun d => d)) (fun _ => (fun d => d)) (fun _ _ _ => (fun d => d)) () (fun _ _ _ _ => ())
noncomputable def isNat : AV → Bool := @AV.rec (fun _ => Bool) (fun _ => Unit) false false false (fun _ => true) (fun _ => false) (fun _ => false) (fun _ _ => false) (fun _ _ => false) false (fun _ _ _ => false) false (fun _ _ _ _ _ _ => false) false (fun _ => false) (fun _ _ _ _ _ => false) false (fun _ _ _ => false) false (fun _ _ _ => false) (fun _ _ => false) (fun _ => false) (fun _ => false) (fun _ => false) (fun _ => false) (fun _ _ _ => false) () (fun _ _ _ _ => ())
noncomputable def natNat : AV → (Nat → Nat → Option AV) → (AV → Option AV) → Nat → Option AV := @AV.rec (fun _ => (Nat → Nat → Option AV) → (AV → Option AV) → Nat → Option AV) (fun _ => Unit) (fun _ oo _ => oo (AV.undef)) (fun _ oo _ => oo (AV.tt)) (fun _ oo _ => oo (AV.ff)) (fun n => fun g _ m => g m n) (fun n => fun _ oo _ => oo (AV.neg n)) (fun n => fun _ oo _ => oo (AV.byte n)) (fun k n => fun _ oo _ => oo (AV.int k n)) (fun n len => fun _ oo _ => oo (AV.str n len)) (fun _ oo _ => oo (AV.nilptr)) (fun b e o => fun _ oo _ => oo (AV.ptr b e o)) (fun _ oo _ => oo (AV.nilslice)) (fun b e len cap ex sz => fun _ oo _ => oo (AV.slice b e len cap ex sz)) (fun _ oo _ => oo (AV.nilmap)) (fun b => fun _ oo _ => oo (AV.map b)) (fun f a c _ _ => fun _ oo _ => oo (AV.fn f a c)) (fun _ oo _ => oo (AV.nilfn)) (fun t w _ => fun _ oo _ => oo (AV.iface t w)) (fun _ oo _ => oo (AV.niliface)) (fun m l _ => fun _ oo _ => oo (AV.agg m l)) (fun l _ => fun _ oo _ => oo (AV.tup l)) (fun b => fun _ oo _ => oo (AV.miter b)) (fun b => fun _ oo _ => oo (AV.siter b)) (fun b => fun _ oo _ => oo (AV.tok b)) (fun b => fun _ oo _ => oo (AV.yld b)) (fun q p j => fun _ oo _ => oo (AV.sym q p j)) () (fun _ _ _ _ => ())
noncomputable def bytByt : AV → (Nat → Nat → Option AV) → (AV → Option AV) → Nat → Option AV := @AV.rec (fun _ => (Nat → Nat → Option AV) → (AV → Option AV) → Nat → Option AV) (fun _ => Unit) (fun _ oo _ => oo (AV.undef)) (fun _ oo _ => oo (AV.tt)) (fun _ oo _ => oo (AV.ff)) (fun n => fun _ oo _ => oo (AV.nat n)) (fun n => fun _ oo _ => oo (AV.neg n)) (fun n => fun g _ m => g m n) (fun k n => fun _ oo _ => oo (AV.int k n)) (fun n len => fun _ oo _ => oo (AV.str n len)) (fun _ oo _ => oo (AV.nilptr)) (fun b e o => fun _ oo _ => oo (AV.ptr b e o)) (fun _ oo _ => oo (AV.nilslice)) (fun b e len cap ex sz => fun _ oo _ => oo (AV.slice b e len cap ex sz)) (fun _ oo _ => oo (AV.nilmap)) (fun b => fun _ oo _ => oo (AV.map b)) (fun f a c _ _ => fun _ oo _ => oo (AV.fn f a c)) (fun _ oo _ => oo (AV.nilfn)) (fun t w _ => fun _ oo _ => oo (AV.iface t w)) (fun _ oo _ => oo (AV.niliface)) (fun m l _ => fun _ oo _ => oo (AV.agg m l)) (fun l _ => fun _ oo _ => oo (AV.tup l)) (fun b => fun _ oo _ => oo (AV.miter b)) (fun b => fun _ oo _ => oo (AV.siter b)) (fun b => fun _ oo _ => oo (AV.tok b)) (fun b => fun _ oo _ => oo (AV.yld b)) (fun q p j => fun _ oo _ => oo (AV.sym q p j)) () (fun _ _ _ _ => ())
noncomputable def strStr : AV → (Nat → Nat → Nat → Nat → Option AV) → (AV → Option AV) → Nat → Nat → Option AV := @AV.rec (fun _ => (Nat → Nat → Nat → Nat → Option AV) → (AV → Option AV) → Nat → Nat → Option AV) (fun _ => Unit) (fun _ oo _ _ => oo (AV.undef)) (fun _ oo _ _ => oo (AV.tt)) (fun _ oo _ _ => oo (AV.ff)) (fun n => fun _ oo _ _ => oo (AV.nat n)) (fun n => fun _ oo _ _ => oo (AV.neg n)) (fun n => fun _ oo _ _ => oo (AV.byte n)) (fun k n => fun _ oo _ _ => oo (AV.int k n)) (fun n len => fun g _ a la => g a la n len) (fun _ oo _ _ => oo (AV.nilptr)) (fun b e o => fun _ oo _ _ => oo (AV.ptr b e o)) (fun _ oo _ _ => oo (AV.nilslice)) (fun b e len cap ex sz => fun _ oo _ _ => oo (AV.slice b e len cap ex sz)) (fun _ oo _ _ => oo (AV.nilmap)) (fun b => fun _ oo _ _ => oo (AV.map b)) (fun f a c _ _ => fun _ oo _ _ => oo (AV.fn f a c)) (fun _ oo _ _ => oo (AV.nilfn)) (fun t w _ => fun _ oo _ _ => oo (AV.iface t w)) (fun _ oo _ _ => oo (AV.niliface)) (fun m l _ => fun _ oo _ _ => oo (AV.agg m l)) (fun l _ => fun _ oo _ _ => oo (AV.tup l)) (fun b => fun _ oo _ _ => oo (AV.miter b)) (fun b => fun _ oo _ _ => oo (AV.siter b)) (fun b => fun _ oo _ _ => oo (AV.tok b)) (fun b => fun _ oo _ _ => oo (AV.yld b)) (fun q p j => fun _ oo _ _ => oo (AV.sym q p j)) () (fun _ _ _ _ => ())
/-- two operands: both numbers, both bytes, both strings, or else -/
noncomputable def onTwo : AV → (Nat → Nat → Option AV) → (Nat → Nat → Option AV) → (Nat → Nat → Nat → Nat → Option AV) → (AV → AV → Option AV) → AV → Option AV := @AV.rec (fun _ => (Nat → Nat → Option AV) → (Nat → Nat → Option AV) → (Nat → Nat → Nat → Nat → Option AV) → (AV → AV → Option AV) → AV → Option AV) (fun _ => Unit) (fun _ _ _ oo y => oo (AV.undef) y) (fun _ _ _ oo y => oo (AV.tt) y) (fun _ _ _ oo y => oo (AV.ff) y) (fun n => fun g _ _ oo y => natNat y g (oo (AV.nat n)) n) (fun n => fun _ _ _ oo y => oo (AV.neg n) y) (fun n => fun _ g _ oo y => bytByt y g (oo (AV.byte n)) n) (fun k n => fun _ _ _ oo y => oo (AV.int k n) y) (fun n len => fun _ _ g oo y => strStr y g (oo (AV.str n len)) n len) (fun _ _ _ oo y => oo (AV.nilptr) y) (fun b e o => fun _ _ _ oo y => oo (AV.ptr b e o) y) (fun _ _ _ oo y => oo (AV.nilslice) y) (fun b e len cap ex sz => fun _ _ _ oo y => oo (AV.slice b e len cap ex sz) y) (fun _ _ _ oo y => oo (AV.nilmap) y) (fun b => fun _ _ _ oo y => oo (AV.map b) y) (fun f a c _ _ => fun _ _ _ oo y => oo (AV.fn f a c) y) (fun _ _ _ oo y => oo (AV.nilfn) y) (fun t w _ => fun _ _ _ oo y => oo (AV.iface t w) y) (fun _ _ _ oo y => oo (AV.niliface) y) (fun m l _ => fun _ _ _ oo y => oo (AV.agg m l) y) (fun l _ => fun _ _ _ oo y => oo (AV.tup l) y) (fun b => fun _ _ _ oo y => oo (AV.miter b) y) (fun b => fun _ _ _ oo y => oo (AV.siter b) y) (fun b => fun _ _ _ oo y => oo (AV.tok b) y) (fun b => fun _ _ _ oo y => oo (AV.yld b) y) (fun q p j => fun _ _ _ oo y => oo (AV.sym q p j) y) () (fun _ _ _ _ => ())
noncomputable def onNat2 : AV → (Nat → Option Bool) → Option Bool → Option Bool := @AV.rec (fun _ => (Nat → Option Bool) → Option Bool → Option Bool) (fun _ => Unit) (fun _ d => d) (fun _ d => d) (fun _ d => d) (fun n => fun g _ => g n) (fun _ => (fun _ d => d)) (fun _ => (fun _ d => d)) (fun _ _ => (fun _ d => d)) (fun _ _ => (fun _ d => d)) (fun _ d => d) (fun _ _ _ => (fun _ d => d)) (fun _ d => d) (fun _ _ _ _ _ _ => (fun _ d => d)) (fun _ d => d) (fun _ => (fun _ d => d)) (fun _ _ _ _ _ => (fun _ d => d)) (fun _ d => d) (fun _ _ _ => (fun _ d => d)) (fun _ d => d) (fun _ _ _ => (fun _ d => d)) (fun _ _ => (fun _ d => d)) (fun _ => (fun _ d => d)) (fun _ => (fun _ d => d)) (fun _ => (fun _ d => d)) (fun _ => (fun _ d => d)) (fun _ _ _ => (fun _ d => d)) () (fun _ _ _ _ => ())
noncomputable def onStr2 : AV → (Nat → Nat → Option Bool) → Option Bool → Option Bool := @AV.rec (fun _ => (Nat → Nat → Option Bool) → Option Bool → Option Bool) (fun _ => Unit) (fun _ d => d) (fun _ d => d) (fun _ d => d) (fun _ => (fun _ d => d)) (fun _ => (fun _ d => d)) (fun _ => (fun _ d => d)) (fun _ _ => (fun _ d => d)) (fun n len => fun g _ => g n len) (fun _ d => d) (fun _ _ _ => (fun _ d => d)) (fun _ d => d) (fun _ _ _ _ _ _ => (fun _ d => d)) (fun _ d => d) (fun _ => (fun _ d => d)) (fun _ _ _ _ _ => (fun _ d => d)) (fun _ d => d) (fun _ _ _ => (fun _ d => d)) (fun _ d => d) (fun _ _ _ => (fun _ d => d)) (fun _ _ => (fun _ d => d)) (fun _ => (fun _ d => d)) (fun _ => (fun _ d => d)) (fun _ => (fun _ d => d)) (fun _ => (fun _ d => d)) (fun _ _ _ => (fun _ d => d)) () (fun _ _ _ _ => ())
noncomputable def G.ev : G → List AV → List AV → AV :=
  @G.rec (fun _ => List AV → List AV → AV) (fun i _ stk => nth i stk) (fun i vars _ => nth i vars) (fun a _ _ => a) (fun i _ ih vars stk => avSub i (ih vars stk)) (fun _ _ => .undef)
noncomputable def evs : List G → List AV → List AV → List AV :=
  @List.rec G (fun _ => List AV → List AV → List AV) (fun _ _ => []) (fun g _ ih vars stk => g.ev vars stk :: ih vars stk)

abbrev KS_ := K → List AV → List AV → AH → R
noncomputable def nilFn (f : Fn) (a c : List AV) : K → List AV → List AV → AH → R := @Fn.rec (fun _ => K → List AV → List AV → AH → R) (fun f k => k (.fn (.func f) a c)) (fun _ _ _ _ _ => R.fail 14) (fun _ _ _ _ _ _ => R.fail 14) (fun _ _ _ _ _ _ _ _ => R.fail 14) (fun _ _ _ _ _ => R.fail 14) f
noncomputable def onNilck : AV → K → List AV → List AV → AH → R := @AV.rec (fun _ => K → List AV → List AV → AH → R) (fun _ => Unit) (fun _ _ _ _ => R.fail 14) (fun _ _ _ _ => R.fail 14) (fun _ _ _ _ => R.fail 14) (fun _ => (fun _ _ _ _ => R.fail 14)) (fun _ => (fun _ _ _ _ => R.fail 14)) (fun _ => (fun _ _ _ _ => R.fail 14)) (fun _ _ => (fun _ _ _ _ => R.fail 14)) (fun _ _ => (fun _ _ _ _ => R.fail 14)) (fun _ _ _ _ => R.fail 14) (fun b e o => fun k => k (.ptr b e o)) (fun _ _ _ _ => R.fail 14) (fun _ _ _ _ _ _ => (fun _ _ _ _ => R.fail 14)) (fun _ _ _ _ => R.fail 14) (fun _ => (fun _ _ _ _ => R.fail 14)) (fun f a c _ _ => nilFn f a c) (fun _ _ _ _ => R.fail 14) (fun t w _ => fun k => k (.iface t w)) (fun _ _ _ _ => R.fail 14) (fun _ _ _ => (fun _ _ _ _ => R.fail 14)) (fun _ _ => (fun _ _ _ _ => R.fail 14)) (fun _ => (fun _ _ _ _ => R.fail 14)) (fun _ => (fun _ _ _ _ => R.fail 14)) (fun _ => (fun _ _ _ _ => R.fail 14)) (fun _ => (fun _ _ _ _ => R.fail 14)) (fun _ _ _ => (fun _ _ _ _ => R.fail 14)) () (fun _ _ _ _ => ())


/-! heap -/
noncomputable def AH.obj (b : Pos) : AH → Option Obj := @AH.rec (fun _ => Option Obj) (fun _ t => t.get b)
noncomputable def AH.nx : AH → Pos := @AH.rec (fun _ => Pos) (fun n _ => n)
noncomputable def AH.bump : AH → AH := @AH.rec (fun _ => AH) (fun n t => .mk n.succ t)
noncomputable def AH.put (b : Pos) (o : Obj) : AH → AH := @AH.rec (fun _ => AH) (fun n t => .mk n (t.set (some o) b))
noncomputable def AH.del (b : Pos) : AH → AH := @AH.rec (fun _ => AH) (fun n t => .mk n (t.set none b))
noncomputable def AH.new (o : Obj) : AH → AH := @AH.rec (fun _ => AH) (fun n t => .mk n.succ (t.set (some o) n))
noncomputable def chunkOf (e : Nat) : Option Obj → Option (List AV) :=
  @Option.rec Obj (fun _ => Option (List AV)) none (@Obj.rec (fun _ => Option (List AV)) (fun _ _ t => t.getN e) (fun _ _ => none) (fun _ _ _ => none) (fun _ _ _ => none) (fun _ _ _ => none) none (fun _ _ _ _ => none))
noncomputable def rd (b : Pos) (e : Nat) (h : AH) : Option (List AV) := chunkOf e (h.obj b)
noncomputable def onDat (f : Nat → Nat → PM (List AV) → R) : Option Obj → R :=
  @Option.rec Obj (fun _ => R) (.fail 20) (@Obj.rec (fun _ => R) f (fun _ _ => .fail 21) (fun _ _ _ => .fail 21) (fun _ _ _ => .fail 21) (fun _ _ _ => .fail 21) (.fail 21) (fun _ _ _ _ => .fail 21))
noncomputable def onMp (f : List (AV × AV) → R) : Option Obj → R :=
  @Option.rec Obj (fun _ => R) (.fail 22) (@Obj.rec (fun _ => R) (fun _ _ _ => .fail 23) (fun es _ => f es) (fun _ _ _ => .fail 23) (fun _ _ _ => .fail 23) (fun _ _ _ => .fail 23) (.fail 23) (fun _ _ _ _ => .fail 23))
noncomputable def onSi (f : Nat → Nat → Nat → R) : Option Obj → R :=
  @Option.rec Obj (fun _ => R) (.fail 24) (@Obj.rec (fun _ => R) (fun _ _ _ => .fail 25) (fun _ _ => .fail 25) f (fun _ _ _ => .fail 25) (fun _ _ _ => .fail 25) (.fail 25) (fun _ _ _ _ => .fail 25))
noncomputable def onMi (f : Option Pos → List AV → AV → R) : Option Obj → R :=
  @Option.rec Obj (fun _ => R) (.fail 26) (@Obj.rec (fun _ => R) (fun _ _ _ => .fail 27) (fun _ _ => .fail 27) (fun _ _ _ => .fail 27) f (fun _ _ _ => .fail 27) (.fail 27) (fun _ _ _ _ => .fail 27))
noncomputable def optR {α : Type} (f : α → R) : Option α → R := @Option.rec α (fun _ => R) (.fail 28) f
noncomputable def ifR (c : Bool) (t : R) : R := @Bool.rec (fun _ => R) (.fail 29) t c
noncomputable def splice (o : Nat) (new l : List AV) : List AV := app (app (dropL (Nat.add o (len new)) l) new) (takeL o l)
noncomputable def dat1 (n : Nat) (l : List AV) : Obj := .dat n 1 (.n .e (some l) .e)

/-! integers -/
noncomputable def ofBool : Bool → AV := @Bool.rec (fun _ => AV) .ff .tt
def AV.asInt : AV → Option (IntKind × Int)
  | .nat n => some (.i64, n)
  | .neg n => some (.i64, .negSucc n)
  | .byte n => some (.u8, n)
  | .int k n => some (k, n)
  | _ => none
def mkInt (k : IntKind) (n : Int) : AV :=
  match k, n with
  | .i64, .ofNat n => cond (Nat.ble n big) (.nat n) (.int .i64 n)
  | .i64, .negSucc n => cond (Nat.ble n big) (.neg n) (.int .i64 (.negSucc n))
  | .u8, .ofNat n => cond (Nat.ble n 255) (.byte n) (.int .u8 n)
  | k, n => .int k n
noncomputable def arith (op : BinOp) (k : IntKind) (a b : Int) : Option AV :=
  match op with
  | .add => some (mkInt k (k.wrap (a + b)))
  | .sub => some (mkInt k (k.wrap (a - b)))
  | .mul => some (mkInt k (k.wrap (a * b)))
  | .quo => if b = 0 then none else some (mkInt k (k.wrap (a.tdiv b)))
  | .rem => if b = 0 then none else some (mkInt k (a.tmod b))
  | .eql => some (ofBool (a == b))
  | .neq => some (ofBool (a != b))
  | .lss => some (ofBool (a < b))
  | .leq => some (ofBool (a ≤ b))
  | .gtr => some (ofBool (a > b))
  | .geq => some (ofBool (a ≥ b))
  | .and => some (mkInt k (k.wrap (BitVec.ofInt k.bits a &&& BitVec.ofInt k.bits b).toNat))
  | .or => some (mkInt k (k.wrap (BitVec.ofInt k.bits a ||| BitVec.ofInt k.bits b).toNat))
  | .xor => some (mkInt k (k.wrap (BitVec.ofInt k.bits a ^^^ BitVec.ofInt k.bits b).toNat))
  | _ => none
def shiftA (op : BinOp) (k : IntKind) (a : Int) (b : Int) : Option AV :=
  if b < 0 then none else
  let n := min b.toNat k.bits
  match op with
  | .shl => some (mkInt k (k.wrap (a * 2 ^ n)))
  | .shr => some (mkInt k (a.fdiv (2 ^ n)))
  | _ => none
noncomputable def otherInt (op : BinOp) (k : IntKind) (a b : Int) : Option AV :=
  match op with
  | .shl | .shr => shiftA op k a b
  | op => arith op k a b
noncomputable def nAdd (a b : Nat) : Option AV := @Bool.rec (fun _ => Option AV) none (some (.nat (Nat.add a b))) (Nat.ble (Nat.add a b) big)
noncomputable def nSub (a b : Nat) : Option AV := @Bool.rec (fun _ => Option AV) (arith .sub .i64 a b) (some (.nat (Nat.sub a b))) (Nat.ble b a)
noncomputable def nEql (a b : Nat) : Option AV := some (ofBool (Nat.beq a b))
noncomputable def nNeq (a b : Nat) : Option AV := some (@Bool.rec (fun _ => AV) .tt .ff (Nat.beq a b))
noncomputable def nLss (a b : Nat) : Option AV := some (ofBool (Nat.ble (Nat.succ a) b))
noncomputable def nLeq (a b : Nat) : Option AV := some (ofBool (Nat.ble a b))
noncomputable def nGtr (a b : Nat) : Option AV := some (ofBool (Nat.ble (Nat.succ b) a))
noncomputable def nGeq (a b : Nat) : Option AV := some (ofBool (Nat.ble b a))
noncomputable def natOp (op : BinOp) : Nat → Nat → Option AV :=
  @BinOp.rec (fun _ => Nat → Nat → Option AV) nAdd nSub (fun a b => otherInt .mul .i64 a b) (fun a b => otherInt .quo .i64 a b) (fun a b => otherInt .rem .i64 a b)
    (fun a b => otherInt .and .i64 a b) (fun a b => otherInt .or .i64 a b) (fun a b => otherInt .xor .i64 a b) (fun a b => otherInt .shl .i64 a b) (fun a b => otherInt .shr .i64 a b) (fun _ _ => none)
    nEql nNeq nLss nLeq nGtr nGeq op
noncomputable def byteOp (op : BinOp) : Nat → Nat → Option AV :=
  @BinOp.rec (fun _ => Nat → Nat → Option AV) (fun a b => otherInt .add .u8 a b) (fun a b => otherInt .sub .u8 a b) (fun a b => otherInt .mul .u8 a b) (fun a b => otherInt .quo .u8 a b) (fun a b => otherInt .rem .u8 a b)
    (fun a b => otherInt .and .u8 a b) (fun a b => otherInt .or .u8 a b) (fun a b => otherInt .xor .u8 a b) (fun a b => otherInt .shl .u8 a b) (fun a b => otherInt .shr .u8 a b) (fun _ _ => none)
    nEql nNeq nLss nLeq nGtr nGeq op
noncomputable def sEq (a la b lb : Nat) : Bool := @Bool.rec (fun _ => Bool) false (Nat.beq a b) (Nat.beq la lb)
noncomputable def strOp (op : BinOp) : Nat → Nat → Nat → Nat → Option AV :=
  @BinOp.rec (fun _ => Nat → Nat → Nat → Nat → Option AV) (fun a la b lb => @Bool.rec (fun _ => Option AV) none (some (.str (sCat a la b) (Nat.add la lb))) (Nat.ble (Nat.add la lb) big)) (fun _ _ _ _ => none) (fun _ _ _ _ => none) (fun _ _ _ _ => none) (fun _ _ _ _ => none)
    (fun _ _ _ _ => none) (fun _ _ _ _ => none) (fun _ _ _ _ => none) (fun _ _ _ _ => none) (fun _ _ _ _ => none) (fun _ _ _ _ => none)
    (fun a la b lb => some (ofBool (sEq a la b lb))) (fun a la b lb => some (@Bool.rec (fun _ => AV) .tt .ff (sEq a la b lb)))
    (fun a la b lb => some (ofBool (sLt a la b lb))) (fun a la b lb => some (ofBool (not (sLt b lb a la)))) (fun a la b lb => some (ofBool (sLt b lb a la))) (fun a la b lb => some (ofBool (not (sLt a la b lb)))) op
def posEq (a b : Pos) : Bool := decide (a = b)
/-- equality of simple values; none: not known -/
noncomputable def eq1 : AV → AV → Option Bool
  | .tt, .tt | .ff, .ff => some true
  | .tt, .ff | .ff, .tt => some false
  | .nat a, .nat b | .byte a, .byte b | .neg a, .neg b => some (Nat.beq a b)
  | .nat _, .neg _ | .neg _, .nat _ => some false
  | .str a la, .str b lb => some (sEq a la b lb)
  | .int k a, .int k' b => if k = k' then some (decide (a = b)) else none
  | _, _ => none
noncomputable def eqs : List AV → List AV → Option Bool
  | [], [] => some true
  | a :: x, b :: y => match eq1 a b with
    | some true => eqs x y
    | some false => some false
    | none => none
  | _, _ => none
/-- whatever the type -/
noncomputable def eqU : AV → AV → Option Bool
  | .agg _ x, .agg _ y => eqs x y
  | a, b => eq1 a b
/-- a key's type: a number, a string, a truth value, a struct of such -/
inductive KK where
  | int | str | bool | st (l : List Nat)
def isI : AV → Bool
  | .nat _ | .neg _ | .byte _ | .int _ _ => true
  | _ => false
def isB : AV → Bool
  | .tt | .ff => true
  | _ => false
def isS : AV → Bool
  | .str _ _ => true
  | _ => false
def isC (c : Nat) (a : AV) : Bool := match c with
  | 0 => isI a
  | 1 => isS a
  | 2 => isB a
  | _ => false
def allC : List Nat → List AV → Bool
  | [], [] => true
  | c :: l, a :: x => and (isC c a) (allC l x)
  | _, _ => false
noncomputable def eqSt (l : List Nat) : AV → AV → Option Bool
  | .agg _ x, .agg _ y => cond (and (allC l x) (allC l y)) (eqs x y) none
  | _, _ => none
noncomputable def eqInt (a b : AV) : Option Bool := cond (and (isI a) (isI b)) (eq1 a b) none
noncomputable def eqBool (a b : AV) : Option Bool := cond (and (isB a) (isB b)) (eq1 a b) none
noncomputable def eqNat (a b : AV) : Option Bool := onNat2 a (fun n => onNat2 b (fun m => some (Nat.beq n m)) (eqInt a b)) (eqInt a b)
noncomputable def eqStr (a b : AV) : Option Bool := onStr2 a (fun n l => onStr2 b (fun m lm => some (sEq n l m lm)) none) none
noncomputable def eqK : KK → AV → AV → Option Bool :=
  @KK.rec (fun _ => AV → AV → Option Bool) eqNat eqStr eqBool eqSt
noncomputable def otherOp (op : BinOp) (x y : AV) : Option AV :=
  match x.asInt, y.asInt with
  | some (k, a), some (k', b) => match op with
    | .shl | .shr => shiftA op k a b
    | _ => if k = k' then arith op k a b else none
  | _, _ => none
noncomputable def binA (op : BinOp) (x y : AV) : Option AV := onTwo x (natOp op) (byteOp op) (strOp op) (otherOp op) y

/-! operations -/
variable (P : Program)

/-- a type's cells: none: not known; some none: one cell; some (some n): an aggregate of n -/
def kindT (t : TypeId) : Option (Option Nat) :=
  match P.info? t, P.underlying t with
  | some i, some (.struct _) => some (some i.size)
  | some i, some (.array _ _) => some (some i.size)
  | some i, some _ => if i.size = 1 then some none else none
  | _, _ => none
def zeroA (t : TypeId) : Option AV := ((P.info? t).bind (·.zero)).map conv
def elemT (t : TypeId) : Option TypeId := match P.underlying t with | some (.slice e) => some e | _ => none

noncomputable def ldOne3 (o : Nat) (k : K) (vars stk : List AV) (h : AH) (l : List AV) : R := onVal (nth o l) k vars stk h
noncomputable def ldOne2 (b : Pos) (e o : Nat) (k : K) (vars stk : List AV) (h : AH) : R := optR (ldOne3 o k vars stk h) (rd b e h)
noncomputable def ldOne (x : G) (k : K) (vars stk : List AV) (h : AH) : R := onPtr (x.ev vars stk) ldOne2 k vars stk h
/-- n cells from o on: the whole chunk, or a part -/
noncomputable def ldAgg5 (n o : Nat) (k : K) (vars stk : List AV) (h : AH) (l : List AV) : R := k (.agg n (takeL n (dropL o l))) vars stk h
noncomputable def ldAgg4 (n e o : Nat) (k : K) (vars stk : List AV) (h : AH) (sz m : Nat) (t : PM (List AV)) : R := ifR (Nat.ble (Nat.add o n) sz) (optR (ldAgg5 n o k vars stk h) (t.getN e))
noncomputable def ldAggW (n : Nat) (k : K) (vars stk : List AV) (h : AH) (l : List AV) : R := k (.agg n l) vars stk h
noncomputable def ldAgg3 (n e o : Nat) (k : K) (vars stk : List AV) (h : AH) (sz m : Nat) (t : PM (List AV)) : R :=
  @Bool.rec (fun _ => R) (ldAgg4 n e o k vars stk h sz m t) (optR (ldAggW n k vars stk h) (t.getN e)) (and (Nat.beq sz n) (Nat.beq o 0))
noncomputable def ldAgg2 (n : Nat) (b : Pos) (e o : Nat) (k : K) (vars stk : List AV) (h : AH) : R := onDat (ldAgg3 n e o k vars stk h) (h.obj b)
noncomputable def ldAgg (n : Nat) (x : G) (k : K) (vars stk : List AV) (h : AH) : R := onPtr (x.ev vars stk) (ldAgg2 n) k vars stk h
noncomputable def stOne4 (b : Pos) (e o : Nat) (v : AV) (k : K) (vars stk : List AV) (h : AH) (sz n : Nat) (t : PM (List AV)) (l : List AV) : R :=
  ifR (Nat.ble (Nat.succ o) (len l)) (k .undef vars stk (h.put b (.dat sz n (t.setN (upd v o l) 40 e))))
noncomputable def stOne3 (b : Pos) (e o : Nat) (v : AV) (k : K) (vars stk : List AV) (h : AH) (sz n : Nat) (t : PM (List AV)) : R := optR (stOne4 b e o v k vars stk h sz n t) (t.getN e)
noncomputable def stOne2 (v : AV) (b : Pos) (e o : Nat) (k : K) (vars stk : List AV) (h : AH) : R := onDat (stOne3 b e o v k vars stk h) (h.obj b)
noncomputable def stOne (x v : G) (k : K) (vars stk : List AV) (h : AH) : R := ifR (avOne (v.ev vars stk)) (onPtr (x.ev vars stk) (stOne2 (v.ev vars stk)) k vars stk h)
noncomputable def stAgg4 (b : Pos) (e o : Nat) (v : List AV) (k : K) (vars stk : List AV) (h : AH) (sz n : Nat) (t : PM (List AV)) (l : List AV) : R := k .undef vars stk (h.put b (.dat sz n (t.setN (splice o v l) 40 e)))
noncomputable def stAgg3 (b : Pos) (e o m : Nat) (v : List AV) (k : K) (vars stk : List AV) (h : AH) (sz n : Nat) (t : PM (List AV)) : R :=
  @Bool.rec (fun _ => R) (ifR (Nat.ble (Nat.add o m) sz) (optR (stAgg4 b e o v k vars stk h sz n t) (t.getN e)))
    (ifR (Nat.ble (Nat.succ e) n) (k .undef vars stk (h.put b (.dat sz n (t.setN v 40 e))))) (and (Nat.beq m sz) (Nat.beq o 0))
noncomputable def stAgg2 (m : Nat) (v : List AV) (b : Pos) (e o : Nat) (k : K) (vars stk : List AV) (h : AH) : R := onDat (stAgg3 b e o m v k vars stk h) (h.obj b)
noncomputable def stAgg1 (n : Nat) (p : AV) (m : Nat) (v : List AV) (k : K) (vars stk : List AV) (h : AH) : R := ifR (Nat.beq m n) (onPtr p (stAgg2 m v) k vars stk h)
noncomputable def stAgg (n : Nat) (x v : G) (k : K) (vars stk : List AV) (h : AH) : R := onAgg (v.ev vars stk) (stAgg1 n (x.ev vars stk)) k vars stk h
noncomputable def boxO (v : G) (k : K) (vars stk : List AV) (h : AH) : R := ifR (avOne (v.ev vars stk)) <| k (.ptr h.nx 0 0) vars stk (h.new (dat1 1 [v.ev vars stk]))
noncomputable def boxA1 (n m : Nat) (l : List AV) (k : K) (vars stk : List AV) (h : AH) : R := ifR (Nat.beq m n) (k (.ptr h.nx 0 0) vars stk (h.new (dat1 n l)))
noncomputable def boxA (n : Nat) (v : G) (k : K) (vars stk : List AV) (h : AH) : R := onAgg (v.ev vars stk) (boxA1 n) k vars stk h
noncomputable def fieldAddr2 (off : Nat) (b : Pos) (e o : Nat) (k : K) : List AV → List AV → AH → R := k (.ptr b e (Nat.add o off))
noncomputable def fieldAddrC (off : Nat) (x : G) (k : K) (vars stk : List AV) (h : AH) : R := onPtr (x.ev vars stk) (fieldAddr2 off) k vars stk h
noncomputable def failK : KS_ := fun _ _ _ _ => R.fail 30
noncomputable def indexAddrS2 (sz j : Nat) (b : Pos) (e l c : Nat) (ex : Bool) (sz₂ : Nat) (k : K) (vars stk : List AV) (h : AH) : R :=
  ifR (Nat.beq sz₂ sz) (ifR (Nat.ble (Nat.succ j) l) (k (.ptr b (Nat.add e j) 0) vars stk h))
noncomputable def indexAddrS1 (sz : Nat) (s : AV) (j : Nat) (k : K) (vars stk : List AV) (h : AH) : R := onSlice s failK (indexAddrS2 sz j) k vars stk h
noncomputable def indexAddrS (sz : Nat) (x i : G) (k : K) (vars stk : List AV) (h : AH) : R := onNat (i.ev vars stk) (indexAddrS1 sz (x.ev vars stk)) k vars stk h
noncomputable def indexAddrA2 (n sz j : Nat) (b : Pos) (e o : Nat) (k : K) (vars stk : List AV) (h : AH) : R := ifR (Nat.ble (Nat.succ j) n) (k (.ptr b e (Nat.add o (Nat.mul j sz))) vars stk h)
noncomputable def indexAddrA1 (n sz : Nat) (p : AV) (j : Nat) (k : K) (vars stk : List AV) (h : AH) : R := onPtr p (indexAddrA2 n sz j) k vars stk h
noncomputable def indexAddrA (n sz : Nat) (x i : G) (k : K) (vars stk : List AV) (h : AH) : R := onNat (i.ev vars stk) (indexAddrA1 n sz (x.ev vars stk)) k vars stk h
noncomputable def nilCheckC (x : G) (k : K) (vars stk : List AV) (h : AH) : R := onNilck (x.ev vars stk) k vars stk h
noncomputable def extract2 (i : Nat) (l : List AV) (k : K) : List AV → List AV → AH → R := onVal (nth i l) k
noncomputable def extractC (i : Nat) (x : G) (k : K) (vars stk : List AV) (h : AH) : R := onTup (x.ev vars stk) (extract2 i) k vars stk h
noncomputable def binK (k : K) (vars stk : List AV) (h : AH) (v : AV) : R := k v vars stk h
noncomputable def binC (op : BinOp) (x y : G) (k : K) (vars stk : List AV) (h : AH) : R := optR (binK k vars stk h) (binA op (x.ev vars stk) (y.ev vars stk))
/-- which comparison: of truth values, pointers, slices, maps, functions, interface values, structs -/
inductive EK where
  | bool | ptr | slice | map | fn | iface | st (l : List Nat)
noncomputable def eqPtr (x y : AV) (h : AH) : Option Bool :=
  match x, y with
  | .nilptr, .nilptr => some true
  | .nilptr, .ptr _ _ _ | .ptr _ _ _, .nilptr => some false
  | .ptr b e o, .ptr b' e' o' => match posEq b b' with
    | true => cond (Nat.beq e e') (some (Nat.beq o o')) none
    | false => match h.obj b, h.obj b' with
      | some (.dat _ _ _), some (.dat _ _ _) => some false
      | _, _ => none
  | _, _ => none
noncomputable def eqNil : EK → AV → AV → Option Bool
  | .slice, .nilslice, .nilslice | .map, .nilmap, .nilmap | .fn, .nilfn, .nilfn | .iface, .niliface, .niliface => some true
  | .slice, .nilslice, .slice .. | .slice, .slice .., .nilslice | .map, .nilmap, .map _ | .map, .map _, .nilmap
  | .fn, .nilfn, .fn .. | .fn, .fn .., .nilfn | .iface, .niliface, .iface .. | .iface, .iface .., .niliface => some false
  | _, _, _ => none
noncomputable def eqEK (ek : EK) (x y : AV) (h : AH) : Option Bool :=
  match ek with
  | .bool => eqBool x y
  | .ptr => eqPtr x y h
  | .st l => eqSt l x y
  | ek => eqNil ek x y
noncomputable def eqC2 (neg : Bool) (k : K) (vars stk : List AV) (h : AH) (b : Bool) : R := k (@Bool.rec (fun _ => AV) (ofBool b) (@Bool.rec (fun _ => AV) .tt .ff b) neg) vars stk h
noncomputable def eqC (ek : EK) (neg : Bool) (x y : G) (k : K) (vars stk : List AV) (h : AH) : R := optR (eqC2 neg k vars stk h) (eqEK ek (x.ev vars stk) (y.ev vars stk) h)
noncomputable def pickC (c a b : G) (k : K) (vars stk : List AV) (h : AH) : R := onBool (c.ev vars stk) (k (a.ev vars stk)) (k (b.ev vars stk)) vars stk h
noncomputable def moveC (x : G) (k : K) (vars stk : List AV) (h : AH) : R := k (x.ev vars stk) vars stk h
/-- a struct's or an array's literal, a cell each; chk: what must be an aggregate of so many cells -/
noncomputable def allAgg (vars stk : List AV) : List (Nat × G) → Bool :=
  @List.rec (Nat × G) (fun _ => Bool) true (fun p _ ih => @Bool.rec (fun _ => Bool) false ih (isAggN p.1 (p.2.ev vars stk)))
noncomputable def allOne (vars stk : List AV) : List G → Bool :=
  @List.rec G (fun _ => Bool) true (fun p _ ih => @Bool.rec (fun _ => Bool) false ih (avOne (p.ev vars stk)))
noncomputable def tupleC (n : Nat) (gs : List G) (chk : List (Nat × G)) (ones : List G) (k : K) (vars stk : List AV) (h : AH) : R :=
  ifR (allAgg vars stk chk) (ifR (allOne vars stk ones) (k (.agg n (evs gs vars stk)) vars stk h))
/-- chunks of a slice literal -/
noncomputable def chunkG (vars stk : List AV) : List G → Nat → PM (List AV) → PM (List AV) :=
  @List.rec G (fun _ => Nat → PM (List AV) → PM (List AV)) (fun _ t => t) (fun g _ ih i t => ih (Nat.succ i) (t.setN (avCells (g.ev vars stk)) 40 i))
noncomputable def allSz (sz : Nat) (vars stk : List AV) : List G → Bool :=
  @List.rec G (fun _ => Bool) true (fun g _ ih => @Bool.rec (fun _ => Bool) false ih (avOk sz (g.ev vars stk)))
noncomputable def buildSliceC (sz n : Nat) (parts : List G) (k : K) (vars stk : List AV) (h : AH) : R :=
  ifR (allSz sz vars stk parts) (k (.slice h.nx 0 n n true sz) vars stk (h.new (.dat sz n (chunkG vars stk parts 0 .e))))
noncomputable def zeroChunks (z : List AV) : Nat → Nat → PM (List AV) → PM (List AV) :=
  @Nat.rec (fun _ => Nat → PM (List AV) → PM (List AV)) (fun _ t => t) (fun _ ih i t => ih (Nat.succ i) (t.setN z 40 i))
noncomputable def makeSlice2 (sz : Nat) (z : List AV) (m n : Nat) (k : K) (vars stk : List AV) (h : AH) : R :=
  ifR (and (Nat.ble n m) (Nat.ble m 100000)) (k (.slice h.nx 0 n m true sz) vars stk (h.new (.dat sz m (zeroChunks z m 0 .e))))
noncomputable def makeSlice1 (sz : Nat) (z : List AV) (l : AV) (m : Nat) (k : K) (vars stk : List AV) (h : AH) : R := onNat l (makeSlice2 sz z m) k vars stk h
noncomputable def makeSliceC (sz : Nat) (z : List AV) (l c : G) (k : K) (vars stk : List AV) (h : AH) : R := onNat (c.ev vars stk) (makeSlice1 sz z (l.ev vars stk)) k vars stk h
noncomputable def unC (op : UnOp) (x : G) (k : K) (vars stk : List AV) (h : AH) : R :=
  match op with
  | .not => onBool (x.ev vars stk) (k .ff) (k .tt) vars stk h
  | .neg => match (x.ev vars stk).asInt with
    | some (kd, n) => k (mkInt kd (kd.wrap (0 - n))) vars stk h
    | none => .fail 31
  | _ => .fail 32
noncomputable def ifaceC (t : TypeId) (x : G) (k : K) (vars stk : List AV) (h : AH) : R := k (.iface t (x.ev vars stk)) vars stk h
noncomputable def funcC (f : Fn) (a c : List G) (k : K) (vars stk : List AV) (h : AH) : R := k (.fn f (evs a vars stk) (evs c vars stk)) vars stk h
noncomputable def convC (d : IntKind) (x : G) (k : K) (vars stk : List AV) (h : AH) : R :=
  match (x.ev vars stk).asInt with
  | some (_, n) => k (mkInt d (d.wrap n)) vars stk h
  | none => .fail 33
noncomputable def rdBytes (b : Pos) (h : AH) : Nat → Nat → Option Nat
  | 0, _ => some 0
  | n + 1, e => match rd b e h with
    | some [.byte c] => (rdBytes b h n (e + 1)).map fun r => c + 256 * r
    | _ => none
noncomputable def bytesStrC (x : G) (k : K) (vars stk : List AV) (h : AH) : R :=
  match x.ev vars stk with
  | .nilslice => k (.str 0 0) vars stk h
  | .slice b e len _ _ _ => match rdBytes b h len e with
    | some n => k (.str n len) vars stk h
    | none => .fail 34
  | _ => .fail 35
noncomputable def strStr2 (n ln : Nat) (k : K) (vars stk : List AV) (h : AH) : R := k (.str n ln) vars stk h
noncomputable def strStrC (x : G) (k : K) (vars stk : List AV) (h : AH) : R := onStr (x.ev vars stk) strStr2 k vars stk h
noncomputable def boundLow (o : Option G) (vars stk : List AV) : AV := @Option.rec G (fun _ => AV) (.nat 0) (fun g => g.ev vars stk) o
noncomputable def boundHigh (d : Nat) (o : Option G) (vars stk : List AV) : AV := @Option.rec G (fun _ => AV) (.nat d) (fun g => g.ev vars stk) o
noncomputable def sliceStr4 (n ln l u : Nat) (k : K) (vars stk : List AV) (h : AH) : R :=
  ifR (and (Nat.ble l u) (Nat.ble u ln)) (k (.str (sSub n l u) (Nat.sub u l)) vars stk h)
noncomputable def sliceStr3 (n ln : Nat) (hi : AV) (l : Nat) (k : K) (vars stk : List AV) (h : AH) : R := onNat hi (sliceStr4 n ln l) k vars stk h
noncomputable def sliceStr2 (lo hi : Option G) (n ln : Nat) (k : K) (vars stk : List AV) (h : AH) : R := onNat (boundLow lo vars stk) (sliceStr3 n ln (boundHigh ln hi vars stk)) k vars stk h
noncomputable def sliceStr (x : G) (lo hi : Option G) (k : K) (vars stk : List AV) (h : AH) : R := onStr (x.ev vars stk) (sliceStr2 lo hi) k vars stk h
noncomputable def bnds3 (f : Nat → Nat → Nat → R) (l u : Nat) (m : Nat) (_ : K) (_ _ : List AV) (_ : AH) : R := f l u m
noncomputable def bnds2 (f : Nat → Nat → Nat → R) (mx : AV) (l u : Nat) (k : K) (vars stk : List AV) (h : AH) : R := onNat mx (bnds3 f l u) k vars stk h
noncomputable def bnds1 (f : Nat → Nat → Nat → R) (hi mx : AV) (l : Nat) (k : K) (vars stk : List AV) (h : AH) : R := onNat hi (bnds2 f mx l) k vars stk h
noncomputable def bnds (f : Nat → Nat → Nat → R) (lo hi mx : AV) (k : K) (vars stk : List AV) (h : AH) : R := onNat lo (bnds1 f hi mx) k vars stk h
noncomputable def sliceNil (lo hi mx : Option G) (k : K) (vars stk : List AV) (h : AH) : R :=
  bnds (fun l u m => ifR (and (Nat.beq l 0) (and (Nat.beq u 0) (Nat.beq m 0))) (k .nilslice vars stk h)) (boundLow lo vars stk) (boundHigh 0 hi vars stk) (boundHigh 0 mx vars stk) k vars stk h
noncomputable def sliceSl1 (sz : Nat) (lo hi mx : Option G) (b : Pos) (e ln cap : Nat) (ex : Bool) (sz₂ : Nat) (k : K) (vars stk : List AV) (h : AH) : R :=
  bnds (fun l u m => ifR (and (Nat.beq sz₂ sz) (and (Nat.ble l u) (and (Nat.ble u m) (Nat.ble m cap)))) (k (.slice b (Nat.add e l) (Nat.sub u l) (Nat.sub m l) (or ex mx.isSome) sz) vars stk h))
    (boundLow lo vars stk) (boundHigh ln hi vars stk) (boundHigh cap mx vars stk) k vars stk h
noncomputable def sliceSl (sz : Nat) (x : G) (lo hi mx : Option G) (k : K) (vars stk : List AV) (h : AH) : R :=
  onSlice (x.ev vars stk) (sliceNil lo hi mx) (sliceSl1 sz lo hi mx) k vars stk h
noncomputable def indexStr2 (n ln j : Nat) (k : K) (vars stk : List AV) (h : AH) : R := ifR (Nat.ble (Nat.succ j) ln) (k (.byte (sIdx n j)) vars stk h)
noncomputable def indexStr1 (i : AV) (n ln : Nat) (k : K) (vars stk : List AV) (h : AH) : R := onIdx i (indexStr2 n ln) k vars stk h
noncomputable def indexStr (x i : G) (k : K) (vars stk : List AV) (h : AH) : R := onStr (x.ev vars stk) (indexStr1 (i.ev vars stk)) k vars stk h
noncomputable def field2 (off n : Nat) (isAgg : Bool) (m : Nat) (l : List AV) (k : K) (vars stk : List AV) (h : AH) : R :=
  @Bool.rec (fun _ => R) (onVal (nth off l) k vars stk h) (ifR (Nat.ble (Nat.add off n) (len l)) (k (.agg n (takeL n (dropL off l))) vars stk h)) isAgg
noncomputable def fieldC (off n : Nat) (isAgg : Bool) (x : G) (k : K) (vars stk : List AV) (h : AH) : R := onAgg (x.ev vars stk) (field2 off n isAgg) k vars stk h
def isSt (l : List Nat) : AV → Bool
  | .agg _ x => allC l x
  | _ => false
/-- a key of a struct's type must be one: the model looks at it whatever the map -/
noncomputable def chkK : KK → AV → Bool := @KK.rec (fun _ => AV → Bool) (fun _ => true) (fun _ => true) (fun _ => true) isSt
noncomputable def findKey (f : AV → Option Bool) : List (AV × AV) → Option (Option AV) :=
  @List.rec (AV × AV) (fun _ => Option (Option AV)) (some none)
    (fun p _ ih => @Option.rec Bool (fun _ => Option (Option AV)) none (fun b => @Bool.rec (fun _ => Option (Option AV)) ih (some (some p.2)) b) (f p.1))
noncomputable def putKey (f : AV → Option Bool) (key val : AV) : List (AV × AV) → List (AV × AV) :=
  @List.rec (AV × AV) (fun _ => List (AV × AV)) [(key, val)]
    (fun p r ih => @Option.rec Bool (fun _ => List (AV × AV)) (p :: ih) (fun b => @Bool.rec (fun _ => List (AV × AV)) (p :: ih) ((key, val) :: r) b) (f p.1))
noncomputable def delKey (f : AV → Option Bool) : List (AV × AV) → List (AV × AV) :=
  @List.rec (AV × AV) (fun _ => List (AV × AV)) []
    (fun p r ih => @Option.rec Bool (fun _ => List (AV × AV)) (p :: ih) (fun b => @Bool.rec (fun _ => List (AV × AV)) (p :: ih) r b) (f p.1))
noncomputable def lookNone (zero : AV) (ok : Bool) (k : K) (vars stk : List AV) (h : AH) : R := k (@Bool.rec (fun _ => AV) zero (.tup [zero, .ff]) ok) vars stk h
noncomputable def lookSome (ok : Bool) (k : K) (vars stk : List AV) (h : AH) (v : AV) : R := k (@Bool.rec (fun _ => AV) v (.tup [v, .tt]) ok) vars stk h
noncomputable def look3 (zero : AV) (ok : Bool) (k : K) (vars stk : List AV) (h : AH) : Option AV → R := @Option.rec AV (fun _ => R) (lookNone zero ok k vars stk h) (lookSome ok k vars stk h)
noncomputable def look2 (zero : AV) (ok : Bool) (f : AV → Option Bool) (k : K) (vars stk : List AV) (h : AH) (es : List (AV × AV)) : R := optR (look3 zero ok k vars stk h) (findKey f es)
noncomputable def look1 (zero : AV) (ok : Bool) (f : AV → Option Bool) (b : Pos) (k : K) (vars stk : List AV) (h : AH) : R := onMp (look2 zero ok f k vars stk h) (h.obj b)
noncomputable def lookupC (kk : KK) (zero : AV) (ok : Bool) (m key : G) (k : K) (vars stk : List AV) (h : AH) : R :=
  ifR (chkK kk (key.ev vars stk)) (onMap (m.ev vars stk) (fun k => lookNone zero ok k) (look1 zero ok (eqK kk (key.ev vars stk))) k vars stk h)
noncomputable def mapUpdate3 (b : Pos) (f : AV → Option Bool) (key v : AV) (k : K) (vars stk : List AV) (h : AH) (es : List (AV × AV)) (_ : Option AV) : R := k .undef vars stk (h.put b (.mp (putKey f key v es) none))
noncomputable def mapUpdate2 (b : Pos) (f : AV → Option Bool) (key v : AV) (k : K) (vars stk : List AV) (h : AH) (es : List (AV × AV)) : R := optR (mapUpdate3 b f key v k vars stk h es) (findKey f es)
noncomputable def mapUpdate1 (f : AV → Option Bool) (key v : AV) (b : Pos) (k : K) (vars stk : List AV) (h : AH) : R := onMp (mapUpdate2 b f key v k vars stk h) (h.obj b)
noncomputable def mapUpdateC (kk : KK) (m key v : G) (k : K) (vars stk : List AV) (h : AH) : R :=
  ifR (chkK kk (key.ev vars stk)) (onMap (m.ev vars stk) failK (mapUpdate1 (eqK kk (key.ev vars stk)) (key.ev vars stk) (v.ev vars stk)) k vars stk h)
noncomputable def makeMapC (k : K) (vars stk : List AV) (h : AH) : R := k (.map h.nx) vars stk (h.new (.mp [] none))
noncomputable def mapEntryC (kk : KK) (zero : AV) (m key : G) (k : K) (vars stk : List AV) (h : AH) : R :=
  match m.ev vars stk with
  | .map b => match h.obj b with
    | some (.mp es _) => cond (chkK kk (key.ev vars stk)) (match findKey (eqK kk (key.ev vars stk)) es with
      | some (some v) => k (.tup [v, .tok h.nx]) vars stk (h.bump.put b (.mp (putKey (eqK kk (key.ev vars stk)) (key.ev vars stk) v es) (some (h.nx, key.ev vars stk))))
      | some none => k (.tup [zero, .tok h.nx]) vars stk (h.bump.put b (.mp (putKey (eqK kk (key.ev vars stk)) (key.ev vars stk) zero es) (some (h.nx, key.ev vars stk))))
      | none => .fail 43) (.fail 43)
    | _ => .fail 44
  | _ => .fail 45
noncomputable def entryStoreC (kk : KK) (m s v : G) (k : K) (vars stk : List AV) (h : AH) : R :=
  match m.ev vars stk, s.ev vars stk with
  | .map b, .tok p => match h.obj b with
    | some (.mp es (some (q, key))) => ifR (posEq p q) (match findKey (eqK kk key) es with
      | some (some _) => k .undef vars stk (h.put b (.mp (putKey (eqK kk key) key (v.ev vars stk) es) none))
      | _ => .fail 46)
    | _ => .fail 46
  | _, _ => .fail 49
/-- of one form: one cell each, or structs of as many cells -/
noncomputable def sameSh (a b : AV) : Bool :=
  match a, b with
  | .agg n l, .agg m l' => and (Nat.beq n m) (and (Nat.beq (len l) n) (Nat.beq (len l') n))
  | .agg _ _, _ | _, .agg _ _ => false
  | a, b => and (avOne a) (avOne b)
noncomputable def shapes : List (AV × AV) → Bool
  | [] => false
  | (k, v) :: es => ((k, v) :: es).all fun p => and (sameSh k p.1) (sameSh v p.2)
noncomputable def symL (q p : Pos) : Nat → Nat → List AV
  | 0, _ => []
  | n + 1, j => .sym q p j :: symL q p n (j + 1)
noncomputable def symAV (q p : Pos) (j : Nat) : AV → AV
  | .agg n _ => .agg n (symL q p n j)
  | _ => .sym q p j
noncomputable def lastP : List Pos → Option Pos
  | [] => none
  | [g] => some g
  | _ :: gs => lastP gs
noncomputable def rangeStr2 (n len : Nat) (k : K) (vars stk : List AV) (h : AH) : R := k (.siter h.nx) vars stk (h.new (.si n len 0))
noncomputable def rangeStr (x : G) (k : K) (vars stk : List AV) (h : AH) : R := onStr (x.ev vars stk) rangeStr2 k vars stk h
noncomputable def rangeMap (x : G) (k : K) (vars stk : List AV) (h : AH) : R :=
  match x.ev vars stk with
  | .nilmap => k (.miter h.nx) vars stk (h.new (.mi none [] .undef))
  | .map b => match h.obj b with
    | some (.mp [] _) => k (.miter h.nx) vars stk (h.new (.mi (some b) [.undef] .undef))
    | some (.mp [(key, v)] _) => k (.miter h.nx) vars stk ((h.new (.mi (some b) [key] .undef)).put b (.mp [(key, v)] (some (h.nx, .undef))))
    | some (.mp es _) => ifR (shapes es) (k (.miter h.nx) vars stk ((h.new (.ms b es [] (len es))).put b (.mp es (some (h.nx, .tup [])))))
    | _ => .fail 47
  | _ => .fail 48
noncomputable def nextStr3 (b : Pos) (k : K) (vars stk : List AV) (h : AH) (n ln pos : Nat) : R :=
  @Bool.rec (fun _ => R) (k (.tup [.ff]) vars stk h)
    (ifR (Nat.ble (Nat.succ (sIdx n pos)) 128) (k (.tup [.tt, .nat pos, .int .i32 (sIdx n pos)]) vars stk (h.put b (.si n ln (Nat.add pos 1))))) (Nat.ble (Nat.succ pos) ln)
noncomputable def nextStr2 (b : Pos) (k : K) (vars stk : List AV) (h : AH) : R := onSi (nextStr3 b k vars stk h) (h.obj b)
noncomputable def nextStr (x : G) (k : K) (vars stk : List AV) (h : AH) : R := onSiter (x.ev vars stk) nextStr2 k vars stk h
noncomputable def nextMap (x : G) (k : K) (vars stk : List AV) (h : AH) : R :=
  match x.ev vars stk with
  | .miter b => match h.obj b with
    | some (.mi none _ _) => k (.tup [.ff]) vars stk h
    | some (.mi (some m) rest _) => match h.obj m with
      | some (.mp [] _) => k (.tup [.ff]) vars stk h
      | some (.mp [(key, v)] (some (p, .undef))) => ifR (posEq p b) (onVal key (fun _ vars stk h => match rest with
        | [] => k (.tup [.ff]) vars stk h
        | _ :: _ => k (.tup [.tt, key, v]) vars stk (h.put b (.mi (some m) [] key))) vars stk h)
      | _ => .fail 50
    | some (.ms m es gs 0) => match h.obj m with
      | some (.mp (_ :: _ :: _) (some (p, .tup []))) => ifR (posEq p b) (k (.tup [.ff]) vars stk h)
      | _ => .fail 51
    | some (.ms m ((key, v) :: es) gs (n + 1)) => match h.obj m with
      | some (.mp (_ :: _ :: _) (some (p, .tup []))) => ifR (posEq p b) (k (.tup [.tt, symAV b h.nx 0 key, symAV b h.nx (avSize key) v]) vars stk (h.bump.put b (.ms m ((key, v) :: es) (gs ++ [h.nx]) n)))
      | _ => .fail 51
    | _ => .fail 52
  | _ => .fail 53
noncomputable def entryC (x : G) (k : K) (vars stk : List AV) (h : AH) : R :=
  match x.ev vars stk with
  | .miter b => match h.obj b with
    | some (.mi (some m) [] _) => match h.obj m with
      | some (.mp [(key, v)] (some (p, .undef))) => ifR (posEq p b) (onVal key (fun _ vars stk h => k (.tup [key, v]) vars stk h) vars stk h)
      | _ => .fail 54
    | some (.ms m ((key, v) :: es) gs n) => match h.obj m, lastP gs with
      | some (.mp (_ :: _ :: _) (some (p, .tup []))), some g => ifR (posEq p b) (k (.tup [symAV b g 0 key, symAV b g (avSize key) v]) vars stk h)
      | _, _ => .fail 55
    | _ => .fail 56
  | _ => .fail 57
noncomputable def assertC (a : TypeId) (zero : AV) (ok : Bool) (x : G) (k : K) (vars stk : List AV) (h : AH) : R :=
  match x.ev vars stk with
  | .iface t v => cond (Nat.beq t a) (k (cond ok (.tup [v, .tt]) v) vars stk h) (cond ok (k (.tup [zero, .ff]) vars stk h) (.fail 58))
  | .niliface => cond ok (k (.tup [zero, .ff]) vars stk h) (.fail 59)
  | _ => .fail 60
noncomputable def panicC (x : G) (vars stk : List AV) (h : AH) : R :=
  match x.ev vars stk with
  | .iface t v => .pan (.iface t v) vars h
  | _ => .fail 61
/-- what onGuard does at a bool, and at a value that was never given -/
noncomputable def onGuard : AV → (List AV → List AV → AH → R) → (List AV → List AV → AH → R) → (List AV → List AV → AH → R) → List AV → List AV → AH → R := @AV.rec (fun _ => (List AV → List AV → AH → R) → (List AV → List AV → AH → R) → (List AV → List AV → AH → R) → List AV → List AV → AH → R) (fun _ => Unit) (fun _ _ _ _ _ _ => R.fail 121) (fun f _ _ => f) (fun _ g _ => g) (fun _ => (fun _ _ _ _ _ _ => R.fail 121)) (fun _ => (fun _ _ _ _ _ _ => R.fail 121)) (fun _ => (fun _ _ _ _ _ _ => R.fail 121)) (fun _ _ => (fun _ _ _ _ _ _ => R.fail 121)) (fun _ _ => (fun _ _ _ _ _ _ => R.fail 121)) (fun _ _ _ _ _ _ => R.fail 121) (fun _ _ _ => (fun _ _ _ _ _ _ => R.fail 121)) (fun _ _ _ _ _ _ => R.fail 121) (fun _ _ _ _ _ _ => (fun _ _ _ _ _ _ => R.fail 121)) (fun _ _ _ _ _ _ => R.fail 121) (fun _ => (fun _ _ _ _ _ _ => R.fail 121)) (fun _ _ _ _ _ => (fun _ _ _ _ _ _ => R.fail 121)) (fun _ _ _ _ _ _ => R.fail 121) (fun _ _ _ => (fun _ _ _ _ _ _ => R.fail 121)) (fun _ _ _ _ _ _ => R.fail 121) (fun _ _ _ => (fun _ _ _ _ _ _ => R.fail 121)) (fun _ _ => fun _ _ u => u) (fun _ => (fun _ _ _ _ _ _ => R.fail 121)) (fun _ => (fun _ _ _ _ _ _ => R.fail 121)) (fun _ => (fun _ _ _ _ _ _ => R.fail 121)) (fun _ => (fun _ _ _ _ _ _ => R.fail 121)) (fun _ _ _ => (fun _ _ _ _ _ _ => R.fail 121)) () (fun _ _ _ _ => ())
inductive LK where
  | str | slice | map
noncomputable def lenStr2 (_ ln : Nat) (k : K) : List AV → List AV → AH → R := k (.nat ln)
noncomputable def lenNil (k : K) : List AV → List AV → AH → R := k (.nat 0)
noncomputable def lenSl2 (_ : Pos) (_ ln _ : Nat) (_ : Bool) (_ : Nat) (k : K) : List AV → List AV → AH → R := k (.nat ln)
noncomputable def lenMp2 (k : K) (vars stk : List AV) (h : AH) (es : List (AV × AV)) : R := ifR (Nat.ble (len es) big) (k (.nat (len es)) vars stk h)
noncomputable def lenMp (b : Pos) (k : K) (vars stk : List AV) (h : AH) : R := onMp (lenMp2 k vars stk h) (h.obj b)
noncomputable def lenC : LK → G → K → List AV → List AV → AH → R :=
  @LK.rec (fun _ => G → K → List AV → List AV → AH → R) (fun x k vars stk h => onStr (x.ev vars stk) lenStr2 k vars stk h)
    (fun x k vars stk h => onSlice (x.ev vars stk) lenNil lenSl2 k vars stk h) (fun x k vars stk h => onMap (x.ev vars stk) lenNil lenMp k vars stk h)
/-- n chunks from e on -/
noncomputable def rdChunks (t : PM (List AV)) : Nat → Nat → Option (List (List AV)) :=
  @Nat.rec (fun _ => Nat → Option (List (List AV))) (fun _ => some [])
    (fun _ ih e => @Option.rec (List AV) (fun _ => Option (List (List AV))) none (fun l => @Option.rec (List (List AV)) (fun _ => Option (List (List AV))) none (fun r => some (l :: r)) (ih (Nat.succ e))) (t.getN e))
noncomputable def putChunks : List (List AV) → Nat → PM (List AV) → PM (List AV) :=
  @List.rec (List AV) (fun _ => Nat → PM (List AV) → PM (List AV)) (fun _ t => t) (fun l _ ih i t => ih (Nat.succ i) (t.setN l 40 i))
noncomputable def datOf : Option Obj → PM (List AV) :=
  @Option.rec Obj (fun _ => PM (List AV)) .e (@Obj.rec (fun _ => PM (List AV)) (fun _ _ t => t) (fun _ _ => .e) (fun _ _ _ => .e) (fun _ _ _ => .e) (fun _ _ _ => .e) .e (fun _ _ _ _ => .e))
noncomputable def strChunks : Nat → Nat → List (List AV)
  | 0, _ => []
  | n + 1, s => [.byte (s % 256)] :: strChunks n (s / 256)
noncomputable def srcChunks (sz : Nat) (x : AV) (h : AH) : Option (List (List AV)) :=
  match x with
  | .nilslice => some []
  | .slice b e len _ _ z => cond (Nat.beq z sz) (rdChunks (datOf (h.obj b)) len e) none
  | .str n len => cond (Nat.beq 1 sz) (some (strChunks len n)) none
  | _ => none
noncomputable def appNil (sz : Nat) (new : List (List AV)) (k : K) (vars stk : List AV) (h : AH) : R :=
  @List.rec (List AV) (fun _ => R) (k .nilslice vars stk h) (fun _ _ _ => ifR (Nat.ble (len new) 100000000) <| k (.slice h.nx 0 (len new) (len new) false sz) vars stk (h.new (.dat sz (len new) (putChunks new 0 .e)))) new
noncomputable def appCopy (sz n : Nat) (ln : Nat) (new : List (List AV)) (k : K) (vars stk : List AV) (h : AH) (old : List (List AV)) : R :=
  ifR (Nat.ble n 100000000) <| k (.slice h.nx 0 n n false sz) vars stk (h.new (.dat sz n (putChunks new ln (putChunks old 0 .e))))
noncomputable def appSl2 (sz n m : Nat) (b : Pos) (e ln : Nat) (ex : Bool) (new : List (List AV)) (k : K) (vars stk : List AV) (h : AH) (t : PM (List AV)) : R :=
  @Bool.rec (fun _ => R)
    (@Bool.rec (fun _ => R) (optR (appCopy sz n ln new k vars stk (h.del b)) (rdChunks t ln e))
      (ifR (and (Nat.ble m n) (Nat.ble n 100000000)) (k (.slice h.nx 0 n n false sz) vars stk ((h.del b).new (.dat sz n (putChunks new ln t))))) (Nat.beq e 0))
    (optR (appCopy sz n ln new k vars stk h) (rdChunks t ln e)) ex
noncomputable def appSl1 (sz : Nat) (b : Pos) (e ln cap : Nat) (ex : Bool) (new : List (List AV)) (k : K) (vars stk : List AV) (h : AH) (sz' m : Nat) (t : PM (List AV)) : R :=
  @Bool.rec (fun _ => R) (appSl2 sz (Nat.add ln (len new)) m b e ln ex new k vars stk h t)
    (ifR (Nat.ble (Nat.add (Nat.add e ln) (len new)) m) (k (.slice b e (Nat.add ln (len new)) cap ex sz) vars stk (h.put b (.dat sz' m (putChunks new (Nat.add e ln) t))))) (Nat.ble (Nat.add ln (len new)) cap)
noncomputable def appSl (sz : Nat) (new : List (List AV)) (b : Pos) (e ln cap : Nat) (ex : Bool) (sz₂ : Nat) (k : K) (vars stk : List AV) (h : AH) : R := ifR (Nat.beq sz₂ sz) (onDat (appSl1 sz b e ln cap ex new k vars stk h) (h.obj b))
noncomputable def append1 (sz : Nat) (s : AV) (k : K) (vars stk : List AV) (h : AH) (new : List (List AV)) : R := onSlice s (fun k => appNil sz new k) (appSl sz new) k vars stk h
noncomputable def appendC (sz : Nat) (s x : G) (k : K) (vars stk : List AV) (h : AH) : R := optR (append1 sz (s.ev vars stk) k vars stk h) (srcChunks sz (x.ev vars stk) h)
noncomputable def maxK (a b : Nat) (k : K) : List AV → List AV → AH → R := k (.nat (@Bool.rec (fun _ => Nat) a b (Nat.ble a b)))
noncomputable def minK (a b : Nat) (k : K) : List AV → List AV → AH → R := k (.nat (@Bool.rec (fun _ => Nat) b a (Nat.ble a b)))
noncomputable def max1 (y : AV) (a : Nat) (k : K) (vars stk : List AV) (h : AH) : R := onNat y (maxK a) k vars stk h
noncomputable def min1 (y : AV) (a : Nat) (k : K) (vars stk : List AV) (h : AH) : R := onNat y (minK a) k vars stk h
noncomputable def maxC (x y : G) (k : K) (vars stk : List AV) (h : AH) : R := onNat (x.ev vars stk) (max1 (y.ev vars stk)) k vars stk h
noncomputable def minC (x y : G) (k : K) (vars stk : List AV) (h : AH) : R := onNat (x.ev vars stk) (min1 (y.ev vars stk)) k vars stk h
noncomputable def clearC (sz₁ : Nat) (zero : List AV) (x : G) (k : K) (vars stk : List AV) (h : AH) : R :=
  match x.ev vars stk with
  | .nilslice => k (.tup []) vars stk h
  | .slice b e ln _ _ z => match h.obj b with
    | some (.dat sz n t) => ifR (and (Nat.beq z sz₁) (Nat.ble (Nat.add e ln) n)) (k (.tup []) vars stk (h.put b (.dat sz n (zeroChunks zero ln e t))))
    | _ => .fail 71
  | _ => .fail 72
noncomputable def delete3 (b : Pos) (f : AV → Option Bool) (k : K) (vars stk : List AV) (h : AH) (es : List (AV × AV)) (_ : Option AV) : R := k (.tup []) vars stk (h.put b (.mp (delKey f es) none))
noncomputable def delete2 (b : Pos) (f : AV → Option Bool) (k : K) (vars stk : List AV) (h : AH) (es : List (AV × AV)) : R := optR (delete3 b f k vars stk h es) (findKey f es)
noncomputable def delete1 (f : AV → Option Bool) (b : Pos) (k : K) (vars stk : List AV) (h : AH) : R := onMp (delete2 b f k vars stk h) (h.obj b)
noncomputable def deleteC (kk : KK) (m key : G) (k : K) (vars stk : List AV) (h : AH) : R := ifR (chkK kk (key.ev vars stk)) (onMap (m.ev vars stk) failK (delete1 (eqK kk (key.ev vars stk))) k vars stk h)
noncomputable def afterCall (k : K) (vars stk : List AV) : CR → R := @CR.rec (fun _ => R) (fun v h => k v vars stk h) (fun v h => .pan v vars h) R.fail
noncomputable def callS (f : FuncId) (args : List G) (rec : Rec) (k : K) (vars stk : List AV) (h : AH) : R := afterCall k vars stk (rec f (evs args vars stk) h)
/-- not a function's number: a loop body that is called -/
def baseY : Nat := 1000001
noncomputable def noY (f : Nat) (r : R) : R := @Bool.rec (fun _ => R) r (.fail 157) (Nat.beq f baseY)
noncomputable def callFn (args : List G) (rec : Rec) (f : Fn) (a c : List AV) (k : K) (vars stk : List AV) (h : AH) : R :=
  match f with
  | .func f => noY f (afterCall k vars stk (rec f (app (app c (evs args vars stk)) a) h))
  | _ => .fail 73
noncomputable def callB (args : List G) (rec : Rec) (b : Pos) (k : K) (vars stk : List AV) (h : AH) : R := afterCall k vars stk (rec baseY (.yld b :: evs args vars stk) h)
noncomputable def callY (g : G) (args : List G) (rec : Rec) (k : K) (vars stk : List AV) (h : AH) : R := onFnY (g.ev vars stk) (callFn args rec) (callB args rec) k vars stk h
noncomputable def callV (g : G) (args : List G) (rec : Rec) (k : K) (vars stk : List AV) (h : AH) : R := onFn (g.ev vars stk) (callFn args rec) k vars stk h
def isPtrT (P : Program) (t : TypeId) : Bool := match P.underlying t with
  | some (.pointer _) => true
  | _ => false
/-- the methods of a name: type, function, whether it takes a pointer's type as it is -/
def methodsOf (name : String) : List (Nat × FuncId) :=
  (List.range P.types.size).filterMap fun t => match P.info? t with
    | some i => match i.methods.find? (·.name == name) with
      | some m => match m.path.size, m.func with
        | 0, some (f, p) => cond (and (not (Nat.beq f baseY)) (and (p == isPtrT P t) (P.underlying t).isSome)) (some (t, f)) none
        | _, _ => none
      | none => none
    | none => none
noncomputable def pickM (f : FuncId → CR) (t : Nat) : List (Nat × FuncId) → CR :=
  @List.rec (Nat × FuncId) (fun _ => CR) (.fail 74) (fun p _ ih => @Bool.rec (fun _ => CR) ih (f p.2) (Nat.beq p.1 t))
noncomputable def callM2 (tbl : List (Nat × FuncId)) (args : List G) (rec : Rec) (t : Nat) (v : AV) (k : K) (vars stk : List AV) (h : AH) : R :=
  afterCall k vars stk (pickM (fun f => rec f (v :: evs args vars stk) h) t tbl)
noncomputable def callM (tbl : List (Nat × FuncId)) (g : G) (args : List G) (rec : Rec) (k : K) (vars stk : List AV) (h : AH) : R := onIface (g.ev vars stk) (callM2 tbl args rec) k vars stk h
def failC (n : Nat) : List AV → List AV → AH → R := fun _ _ _ => .fail n
def slotD : Nat := 1000000
def slotP : Nat := 1000001
noncomputable def deferC (i : Nat) (x : G) (k : K) (vars stk : List AV) (h : AH) : R :=
  match nth i vars, x.ev vars stk with
  | .undef, .fn (.func f) a c => k .undef (upd (.fn (.func f) a c) i vars) stk h
  | _, _ => .fail 124
noncomputable def recoverC (i : Nat) (k : K) (vars stk : List AV) (h : AH) : R :=
  match nth i vars with
  | .niliface => k .niliface vars stk h
  | .iface t v => k (.iface t v) (upd .tt i vars) stk h
  | _ => .fail 125
/-! static environment -/
inductive SL where
  | st (d : Nat)
  | var (i : Nat)
  | cst (a : AV)
structure SEnv where
  depth : Nat
  m : List (Nat × SL)
def lookupS (t : Nat) : List (Nat × SL) → Option SL
  | [] => none
  | (s, l) :: r => if Nat.beq s t then some l else lookupS t r
def idxOf (t : Nat) : List Nat → Nat → Option Nat
  | [], _ => none
  | s :: r, i => if Nat.beq s t then some i else idxOf t r (i + 1)
def resT (L : List Nat) (e : SEnv) (t : Nat) : G :=
  match lookupS t e.m with
  | some (.st d) => .stk (e.depth - 1 - d)
  | some (.var i) => .var i
  | some (.cst a) => .cst a
  | none => match idxOf t L 0 with
    | some i => .var i
    | none => .bad
def res (L : List Nat) (e : SEnv) : Operand → G
  | .tmp t => resT L e t
  | .const v => .cst (conv v)
  | .global _ => .bad
  | .func f => .cst (.fn (.func f) [] [])
def SEnv.push (e : SEnv) (t : Nat) : SEnv := ⟨e.depth + 1, (t, .st e.depth) :: e.m⟩
def SEnv.noVar (e : SEnv) (i : Nat) : SEnv := ⟨e.depth, e.m.map fun p => match p.2 with | .var j => cond (Nat.beq i j) (p.1, .cst .undef) p | _ => p⟩

/-- compiled operations -/
inductive COp where
  | move (x : G) | pick (c a b : G) | boxO (x : G) | boxA (n : Nat) (x : G) | tuple (n : Nat) (l : List G) (chk : List (Nat × G)) (ones : List G) | buildSlice (sz n : Nat) (parts : List G)
  | ldAgg (n : Nat) (x : G) | ldOne (x : G) | stAgg (n : Nat) (x v : G) | stOne (x v : G) | nilCheck (x : G) | bin (op : BinOp) (x y : G) | eq (ek : EK) (neg : Bool) (x y : G) | un (op : UnOp) (x : G)
  | conv (k : IntKind) (x : G) | bytesStr (x : G) | strStr (x : G) | iface (t : TypeId) (x : G) | func (f : Fn) (a c : List G) | makeMap | makeSlice (sz : Nat) (zero : List AV) (l c : G)
  | sliceStr (x : G) (lo hi : Option G) | sliceSl (sz : Nat) (x : G) (lo hi mx : Option G) | fieldAddr (off : Nat) (x : G) | field (off n : Nat) (isAgg : Bool) (x : G)
  | indexAddrS (sz : Nat) (x i : G) | indexAddrA (n sz : Nat) (x i : G) | indexStr (x i : G) | lookup (kk : KK) (zero : AV) (ok : Bool) (m key : G) | mapUpdate (kk : KK) (m key v : G) | mapEntry (kk : KK) (zero : AV) (m key : G) | entryStore (kk : KK) (m s v : G)
  | rangeStr (x : G) | rangeMap (x : G) | nextStr (x : G) | nextMap (x : G) | entry (x : G) | assert (a : TypeId) (zero : AV) (ok : Bool) (x : G) | extract (i : Nat) (x : G)
  | callS (f : FuncId) (args : List G) | callV (g : G) (args : List G) | callM (tbl : List (Nat × FuncId)) (g : G) (args : List G)
  | len (lk : LK) (x : G) | append (sz : Nat) (s x : G) | max (x y : G) | min (x y : G) | clear (sz : Nat) (zero : List AV) (x : G) | delete (kk : KK) (m key : G) | panic (x : G) | defer (i : Nat) (x : G) | recover (i : Nat) | bad (n : Nat) | callY (g : G) (args : List G)

def isAggT (t : TypeId) : Bool := match P.underlying t with | some (.struct _) => true | some (.array _ _) => true | _ => false
/-- the cells of a literal: of a part, or of the zero value -/
def cellG (z : List AV) (l : List (Nat × Nat × Bool × G)) (i : Nat) : G :=
  match l.find? fun p => and (Nat.ble p.1 i) (Nat.blt i (p.1 + p.2.1)) with
  | some p => cond p.2.2.1 (.sub (i - p.1) p.2.2.2) p.2.2.2
  | none => .cst (z.getD i .undef)
def needsAgg (n : Nat) : G → Bool
  | .cst (.agg m _) => !(Nat.beq m n)
  | _ => true
def needsOne : G → Bool
  | .cst .undef | .cst (.agg _ _) | .cst (.tup _) => true
  | .cst _ => false
  | _ => true
noncomputable def cTuple (n : Nat) (z : AV) (l : List (Nat × Nat × Bool × G)) : COp :=
  if avOk n z = true ∧ (l.all fun p => and (Nat.ble (p.1 + p.2.1) n) (or p.2.2.1 (Nat.beq p.2.1 1))) = true then
    .tuple n ((List.range n).map (cellG (avCells z) l.reverse)) (l.filterMap fun p => cond (and p.2.2.1 (needsAgg p.2.1 p.2.2.2)) (some (p.2.1, p.2.2.2)) none)
      (l.filterMap fun p => cond (and (not p.2.2.1) (needsOne p.2.2.2)) (some p.2.2.2) none)
  else .bad 130
/-- a struct's fields: places and sizes -/
def placesOf (P : Program) (fs : List Field) : Option (List (Nat × Nat × Bool)) := fs.mapM fun f => (P.info? f.type).map fun i => (f.offset, i.size, isAggT P f.type)
/-- indices that go up, below n -/
def ascG (n : Nat) : Nat → List (Nat × G) → Bool
  | _, [] => true
  | lo, (j, _) :: r => and (Nat.ble lo j) (and (Nat.blt j n) (ascG n (j + 1) r))
def mergeG (z : G) : Nat → Nat → List (Nat × G) → List G
  | 0, _, _ => []
  | k + 1, i, [] => z :: mergeG z k (i + 1) []
  | k + 1, i, (j, g) :: r => if Nat.beq i j then g :: mergeG z k (i + 1) r else z :: mergeG z k (i + 1) ((j, g) :: r)
def baseC (t : TypeId) : Option Nat := match P.underlying t with
  | some (.int _) => some 0
  | some .string => some 1
  | some .bool => some 2
  | _ => none
/-- a struct of numbers, strings, truth values, a cell each -/
def flatOf : Nat → List Field → Option (List Nat)
  | _, [] => some []
  | i, f :: fs => if f.offset = i ∧ f.name ≠ "_" ∧ kindT P f.type = some none then
      match baseC P f.type, flatOf (i + 1) fs with
      | some c, some l => some (c :: l)
      | _, _ => none
    else none
def kkOf (t : TypeId) : Option KK := match P.underlying t with
  | some (.int _) => some .int
  | some .string => some .str
  | some .bool => some .bool
  | some (.struct fs) => if P.stoodInHeld t = false then (flatOf P 0 fs.toList).map .st else none
  | _ => none
def isConst : Operand → Bool
  | .const _ => true
  | _ => false
/-- a comparison that is not of numbers or strings -/
def ekOf (t : TypeId) (x y : Operand) : Option EK := match P.underlying t with
  | some .bool => some .bool
  | some (.pointer e) => if P.cellsOf e = 0 then none else some .ptr
  | some (.slice _) => some .slice
  | some (.map _ _) => some .map
  | some (.func _ _ _) => some .fn
  | some (.interface _) => if (or (isConst x) (isConst y)) = true then some .iface else none
  | some (.struct fs) => if P.stoodInHeld t = false ∧ P.eqGuardType P.depth t = false then (flatOf P 0 fs.toList).map .st else none
  | _ => none
noncomputable def cBin (op : BinOp) (t : TypeId) (x y : Operand) (gx gy : G) : COp :=
  match P.underlying t with
  | some (.int _) | some .string => .bin op gx gy
  | _ => match op, ekOf P t x y with
    | .eql, some ek => .eq ek false gx gy
    | .neq, some ek => .eq ek true gx gy
    | _, _ => .bad 121
def noIntT : Option TypeDesc → Bool
  | some (.slice _) | some .string => true
  | _ => false
noncomputable def cBuiltin (L : List Nat) (b : Builtin) (ts : Array TypeId) (args : List G) : COp :=
  match b, args with
  | .len, [x] => match ts[0]?.bind P.underlying with
    | some .string => .len .str x
    | some (.slice _) => .len .slice x
    | some (.map _ _) => .len .map x
    | _ => .bad 75
  | .append, [s, x] => match ts[0]?.bind (elemT P) with
    | some e => match zeroA P e, P.info? e with
      | some z, some i => if i.bytes ≤ 1000000 ∧ avOk i.size z = true ∧ noIntT (ts[1]?.bind P.underlying) = true then .append i.size s x else .bad 76
      | _, _ => .bad 76
    | none => .bad 76
  | .max, [x, y] => .max x y
  | .min, [x, y] => .min x y
  | .clear, [x] => match ts[0]?.bind (elemT P) with
    | some e => match zeroA P e with
      | some z => if avOk (P.cellsOf e) z = true then .clear (P.cellsOf e) (avCells z) x else .bad 77
      | none => .bad 77
    | none => .bad 78
  | .delete, [m, k] => match ts[0]?.bind P.underlying with
    | some (.map kt _) => match kkOf P kt with
      | some kk => .delete kk m k
      | none => .bad 79
    | _ => .bad 79
  | _, _ => .bad 79
def mkCallS (f : Nat) (l : List G) : COp := cond (Nat.beq f baseY) (.bad 157) (.callS f l)
noncomputable def cOp (L : List Nat) (e : SEnv) (o : Op) : COp :=
  let g : Operand → G := res L e
  match o with
  | .move x | .assign x => .move (g x)
  | .pick c a b => .pick (g c) (g a) (g b)
  | .alloc t => match zeroA P t, kindT P t with
    | some z, some (some n) => .boxA n (.cst z)
    | some z, some none => .boxO (.cst z)
    | _, _ => .bad 100
  | .box t x => match kindT P t with
    | some (some n) => .boxA n (g x)
    | some none => .boxO (g x)
    | none => .bad 100
  | .build t ps => match P.underlying t, zeroA P t with
    | some (.struct fs), some z => match placesOf P fs.toList with
      | some pl => match ps.toList.mapM (fun (i, x) => (pl[i]?).map fun p => ((p.1, p.2.1, p.2.2, g x) : Nat × Nat × Bool × G)) with
        | some l => cTuple (P.cellsOf t) z l
        | none => .bad 101
      | none => .bad 101
    | some (.array _ el), some z => match P.info? el with
      | some i => cTuple (P.cellsOf t) z (ps.toList.map fun (j, x) => (j * i.size, i.size, isAggT P el, g x))
      | none => .bad 101
    | _, _ => .bad 102
  | .buildSlice t n ps => match elemT P t with
    | some el => match zeroA P el, P.info? el with
      | some z, some i => if avOk i.size z = true ∧ n * i.size ≤ 16777216 ∧ n ≤ 100000000 ∧ ascG n 0 (ps.toList.map fun p => (p.1, g p.2)) = true then
          .buildSlice i.size n (mergeG (.cst z) n 0 (ps.toList.map fun p => (p.1, g p.2)))
        else .bad 131
      | _, _ => .bad 103
    | none => .bad 104
  | .load t a => match kindT P t with
    | some (some n) => .ldAgg n (g a)
    | some none => .ldOne (g a)
    | none => .bad 127
  | .store t a x => match kindT P t with
    | some (some n) => .stAgg n (g a) (g x)
    | some none => .stOne (g a) (g x)
    | none => .bad 128
  | .nilCheck x => .nilCheck (g x)
  | .binOp op t x y _ => cBin P op t x y (g x) (g y)
  | .unOp op _ x => .un op (g x)
  | .convert s d x => match P.underlying s, P.underlying d with
    | some (.int _), some (.int kd) => .conv kd (g x)
    | some .string, some .string => .strStr (g x)
    | some (.slice el), some .string => match P.underlying el with
      | some (.int .u8) => .bytesStr (g x)
      | _ => .bad 105
    | _, _ => .bad 105
  | .makeInterface t x => match P.underlying t with
    | some (.interface _) => .bad 105
    | some _ => .iface t (g x)
    | none => .bad 105
  | .makeFunc f a c => .func f (a.toList.map g) (c.toList.map g)
  | .makeMap _ none => .makeMap
  | .makeSlice t l c => match elemT P t with
    | some el => match zeroA P el, P.info? el with
      | some z, some i => if avOk i.size z = true ∧ i.bytes ≤ 1000000000 then .makeSlice i.size (avCells z) (g l) (g c) else .bad 106
      | _, _ => .bad 106
    | none => .bad 106
  | .slice t x lo hi mx => match P.underlying t with
    | some .string => match mx with
      | none => .sliceStr (g x) (lo.map g) (hi.map g)
      | some _ => .bad 107
    | some (.slice el) => if (P.info? el).isSome ∧ (mx.isNone ∨ hi.isSome) then .sliceSl (P.cellsOf el) (g x) (lo.map g) (hi.map g) (mx.map g) else .bad 107
    | some (.pointer _) => .bad 107 -- (lo.map g) (hi.map g) (mx.map g)
    | _ => .bad 107
  | .fieldAddr s x f => match P.underlying s with
    | some (.struct fs) => match fs[f]? with
      | some fd => if P.cellsOf fd.type = 0 then .bad 108 else .fieldAddr fd.offset (g x)
      | none => .bad 108
    | _ => .bad 109
  | .field s x f => match P.underlying s with
    | some (.struct fs) => match fs[f]? with
      | some fd => match kindT P fd.type with
        | some (some n) => .field fd.offset n true (g x)
        | some none => .field fd.offset 1 false (g x)
        | none => .bad 129
      | none => .bad 110
    | _ => .bad 111
  | .indexAddr t x i => match P.underlying t with
    | some (.slice el) => if (P.info? el).isSome then .indexAddrS (P.cellsOf el) (g x) (g i) else .bad 112
    | some (.array n el) => if (P.info? el).isSome then .indexAddrA n (P.cellsOf el) (g x) (g i) else .bad 112
    | _ => .bad 112
  | .index t x i => match P.underlying t with
    | some .string => .indexStr (g x) (g i)
    | _ => .bad 113
  | .lookup t m key ok => match P.underlying t with
    | some (.map kt el) => match zeroA P el, kkOf P kt with
      | some z, some kk => .lookup kk z ok (g m) (g key)
      | _, _ => .bad 114
    | _ => .bad 115
  | .mapUpdate t m key v | .insert t m key v => match P.underlying t with
    | some (.map kt _) => match kkOf P kt with
      | some kk => .mapUpdate kk (g m) (g key) (g v)
      | none => .bad 114
    | _ => .bad 115
  | .mapEntry t m key => match P.underlying t with
    | some (.map kt el) => match zeroA P el, kkOf P kt with
      | some z, some kk => .mapEntry kk z (g m) (g key)
      | _, _ => .bad 116
    | _ => .bad 117
  | .entryStore t m s v => match P.underlying t with
    | some (.map kt _) => match kkOf P kt with
      | some kk => .entryStore kk (g m) (g s) (g v)
      | none => .bad 116
    | _ => .bad 117
  | .range t x => match P.underlying t with
    | some .string => .rangeStr (g x)
    | some (.map _ _) => .rangeMap (g x)
    | _ => .bad 118
  | .next it s => cond s (.nextStr (g it)) (.nextMap (g it))
  | .entry it => .entry (g it)
  | .typeAssert x _ a ok => match zeroA P a, P.underlying a with
    | some z, some (.interface _) => .bad 119
    | some z, some _ => .assert a z ok (g x)
    | _, _ => .bad 119
  | .extract x i => .extract i (g x)
  | .call c => match c.callee with
    | .value (.func f) => mkCallS f (c.args.toList.map g)
    | .value x => .callV (g x) (c.args.toList.map g)
    | .invoke r m => .callM (methodsOf P m) (g r) (c.args.toList.map g)
    | .builtin b => if c.argTypes.size = c.args.size then cBuiltin P L b c.argTypes (c.args.toList.map g) else .bad 135
  | .panic x => .panic (g x)
  | .defer c => match c.callee, c.args.size, idxOf slotD L 0 with
    | .value x, 0, some i => .defer i (g x)
    | _, _, _ => .bad 123
  | _ => .bad 120

noncomputable def runOp : COp → Rec → K → List AV → List AV → AH → R :=
  @COp.rec (fun _ => Rec → K → List AV → List AV → AH → R)
    (fun x _ => moveC x) (fun c a b _ => pickC c a b) (fun x _ => Go.Ev.boxO x) (fun n x _ => Go.Ev.boxA n x) (fun n l chk ones _ => tupleC n l chk ones) (fun z n l _ => buildSliceC z n l)
    (fun n x _ => Go.Ev.ldAgg n x) (fun x _ => Go.Ev.ldOne x) (fun n x v _ => Go.Ev.stAgg n x v) (fun x v _ => Go.Ev.stOne x v) (fun x _ => nilCheckC x) (fun op x y _ => binC op x y) (fun ek neg x y _ => eqC ek neg x y) (fun op x _ => unC op x)
    (fun k x _ => convC k x) (fun x _ => bytesStrC x) (fun x _ => strStrC x) (fun t x _ => ifaceC t x) (fun f a c _ => funcC f a c) (fun _ => makeMapC) (fun sz z l c _ => makeSliceC sz z l c)
    (fun x lo hi _ => Go.Ev.sliceStr x lo hi) (fun sz x lo hi mx _ => Go.Ev.sliceSl sz x lo hi mx) (fun off x _ => fieldAddrC off x) (fun off n b x _ => fieldC off n b x)
    (fun sz x i _ => Go.Ev.indexAddrS sz x i) (fun n sz x i _ => Go.Ev.indexAddrA n sz x i) (fun x i _ => Go.Ev.indexStr x i) (fun kk z ok m key _ => lookupC kk z ok m key) (fun kk m key v _ => mapUpdateC kk m key v) (fun kk z m key _ => mapEntryC kk z m key) (fun kk m s v _ => entryStoreC kk m s v)
    (fun x _ => Go.Ev.rangeStr x) (fun x _ => Go.Ev.rangeMap x) (fun x _ => Go.Ev.nextStr x) (fun x _ => Go.Ev.nextMap x) (fun x _ => entryC x) (fun a z ok x _ => assertC a z ok x) (fun i x _ => extractC i x)
    (fun f args rec => Go.Ev.callS f args rec) (fun g args rec => Go.Ev.callV g args rec) (fun tbl g args rec => Go.Ev.callM tbl g args rec)
    (fun lk x _ => lenC lk x) (fun sz s x _ => appendC sz s x) (fun x y _ => maxC x y) (fun x y _ => minC x y) (fun sz z x _ => clearC sz z x) (fun kk m k _ => deleteC kk m k) (fun x _ _ => panicC x) (fun i x _ => deferC i x) (fun i _ => recoverC i) (fun n _ _ => failC n) (fun g args rec => Go.Ev.callY g args rec)

inductive Dst where
  | push (t : Nat) | var (i : Nat) | none
def dstOf (L : List Nat) : Option Tmp → Dst
  | some t => match idxOf t L 0 with
    | some i => .var i
    | none => .push t
  | none => .none
def SEnv.after (e : SEnv) : Dst → SEnv
  | .push t => e.push t
  | .var i => e.noVar i
  | .none => e
noncomputable def pushK (c : Clos) (rec : Rec) : K := fun v vars stk h => c rec vars (v :: stk) h
noncomputable def varK (i : Nat) (c : Clos) (rec : Rec) : K := fun v vars stk h => c rec (upd v i vars) stk h
def dropK (c : Clos) (rec : Rec) : K := fun _ vars stk h => c rec vars stk h
noncomputable def Dst.k : Dst → Clos → Rec → K := @Dst.rec (fun _ => Clos → Rec → K) (fun _ => pushK) varK dropK
noncomputable def guardC (g : G) (want : Bool) (yes no : List AV → List AV → AH → R) (vars stk : List AV) (h : AH) : R :=
  onGuard (g.ev vars stk) (@Bool.rec (fun _ => List AV → List AV → AH → R) no yes want) (@Bool.rec (fun _ => List AV → List AV → AH → R) yes no want) no vars stk h
/-- an unguarded move into a temporary: no operation at run time -/
def aliasOf (L : List Nat) (e : SEnv) (o : Oper) : Option SEnv :=
  match o.guard, o.op, dstOf L o.dst with
  | none, .move x, .push t => match res L e x with
    | .stk i => some ⟨e.depth, (t, .st (e.depth - 1 - i)) :: e.m⟩
    | .var i => some ⟨e.depth, (t, .var i) :: e.m⟩
    | .cst a => some ⟨e.depth, (t, .cst a) :: e.m⟩
    | _ => none
  | _, _, _ => none
def envOf (L : List Nat) (e : SEnv) (o : Oper) : SEnv :=
  match aliasOf L e o with
  | some e' => e'
  | none => e.after (dstOf L o.dst)
def gslot (ops : Array Oper) (j : Nat) : Option Nat := (ops[j]?).bind (·.dst)
def all2 (f : AV → AV → Bool) : List AV → List AV → Bool
  | [], [] => true
  | a :: x, b :: y => f a b && all2 f x y
  | _, _ => false
def sameFn : Fn → Fn → Bool
  | .func f, .func g => Nat.beq f g
  | _, _ => false
/-- the same value, for certain -/
def sameF : Nat → AV → AV → Bool
  | 0, _, _ => false
  | k + 1, a, b => match a, b with
    | .tt, .tt | .ff, .ff | .nilptr, .nilptr | .nilslice, .nilslice | .nilmap, .nilmap | .nilfn, .nilfn | .niliface, .niliface => true
    | .nat n, .nat m => Nat.beq n m
    | .neg n, .neg m => Nat.beq n m
    | .byte n, .byte m => Nat.beq n m
    | .int i n, .int j m => decide (i = j ∧ n = m)
    | .str n l, .str m r => Nat.beq l r && Nat.beq n m
    | .ptr b e o, .ptr b' e' o' => posEq b b' && (Nat.beq e e' && Nat.beq o o')
    | .slice b e l c x z, .slice b' e' l' c' x' z' => posEq b b' && (Nat.beq e e' && (Nat.beq l l' && (Nat.beq c c' && (Nat.beq z z' && x == x'))))
    | .map b, .map b' => posEq b b'
    | .fn f x y, .fn g x' y' => sameFn f g && (all2 (sameF k) x x' && all2 (sameF k) y y')
    | .iface t v, .iface u w => Nat.beq t u && sameF k v w
    | .agg n l, .agg m r => Nat.beq n m && all2 (sameF k) l r
    | .tup l, .tup r => all2 (sameF k) l r
    | _, _ => false
/-- compiled regions -/
inductive CI where
  | nil
  | op (o : COp) (d : Dst) (r : CI)
  | gop (g : G) (want : Bool) (o : COp) (d : Dst) (r : CI)
  | chk (o : COp) (s : G) (r : CI)
  | gchk (g : G) (want : Bool) (o : COp) (s : G) (r : CI)
  | bad (n : Nat)
/-- a call of a value may be one of a loop's body -/
def yop : COp → COp
  | .callV g args => .callY g args
  | c => c
noncomputable def cOps (L : List Nat) (all : Array Oper) : List Oper → SEnv → CI
  | [], _ => .nil
  | o :: os, e => match aliasOf L e o with
    | some e' => cOps L all os e'
    | none => match o.guard with
      | none => .op (yop (cOp P L e o.op)) (dstOf L o.dst) (cOps L all os (e.after (dstOf L o.dst)))
      | some (j, want) => match gslot all j with
        | some t => .gop (resT L e t) want (yop (cOp P L e o.op)) (dstOf L o.dst) (cOps L all os (e.after (dstOf L o.dst)))
        | none => .bad 122
/-- operations that may wait: they give a value, or a new block -/
def isFloat : Op → Bool
  | .move _ | .pick .. | .alloc _ | .box .. | .build .. | .buildSlice .. | .load .. | .nilCheck _ | .binOp .. | .unOp .. | .convert .. | .makeInterface .. | .makeFunc .. | .makeMap .. | .makeSlice ..
  | .slice .. | .fieldAddr .. | .field .. | .indexAddr .. | .index .. | .lookup .. | .typeAssert .. | .extract .. => true
  | .call c => match c.callee with
    | .builtin .len | .builtin .max | .builtin .min => true
    | _ => false
  | _ => false
/-- compiled operations that give a value and leave the heap -/
def floatC : COp → Bool
  | .move _ | .pick .. | .tuple .. | .ldAgg .. | .ldOne _ | .nilCheck _ | .bin .. | .eq .. | .un .. | .conv .. | .bytesStr _ | .strStr _ | .iface .. | .func .. | .sliceStr .. | .sliceSl .. | .fieldAddr ..
  | .field .. | .indexAddrS .. | .indexAddrA .. | .indexStr .. | .lookup .. | .assert .. | .extract .. | .len .. | .max .. | .min .. => true
  | _ => false
/-- operations that the theorem on operations speaks of -/
def stepC : COp → Bool
  | .defer .. | .recover _ | .bad _ | .callY .. => false
  | _ => true
/-- those that look at the heap -/
def memC : COp → Bool
  | .ldAgg .. | .ldOne _ | .eq .. | .bytesStr _ | .lookup .. | .len .. => true
  | _ => false
/-- those that make a block -/
def allocC : COp → Bool
  | .boxO _ | .boxA .. | .buildSlice .. | .makeMap | .makeSlice .. => true
  | _ => false
noncomputable def guarded (L : List Nat) (all : Array Oper) (e : SEnv) (o : Oper) (c : COp) (r : CI) : CI :=
  match o.guard with
  | none => .op c (dstOf L o.dst) r
  | some (j, want) => match gslot all j with
    | some t => .gop (resT L e t) want c (dstOf L o.dst) r
    | none => .bad 122
/-- what was read ahead of an operation with an effect, and may be read behind it, gives the same still -/
noncomputable def cChks (L : List Nat) (all : Array Oper) (e : SEnv) (r : CI) : List Nat → CI
  | [] => r
  | j :: js => match all[j]? with
    | some o => match o.dst with
      | some t => if floatC (cOp P L e o.op) = true then
          match o.guard with
          | none => .chk (cOp P L e o.op) (resT L e t) (cChks L all e r js)
          | some (g, want) => match gslot all g with
            | some u => .gchk (resT L e u) want (cOp P L e o.op) (resT L e t) (cChks L all e r js)
            | none => .bad 151
        else .bad 152
      | none => .bad 153
    | none => .bad 154
/-- a region whose order is drawn; an: what stands ahead of each operation; pend: what reads and may wait -/
noncomputable def cOpsD (L : List Nat) (all : Array Oper) (an : Array Nat) : List Nat → List Nat → SEnv → CI
  | [], _, _ => .nil
  | i :: is, pend, e => match all[i]? with
    | none => .bad 150
    | some o => match aliasOf L e o with
      | some e' => cOpsD L all an is pend e'
      | none => match isFloat o.op with
        | true => match floatC (cOp P L e o.op), allocC (cOp P L e o.op) with
          | true, _ => guarded L all e o (cOp P L e o.op) (cOpsD L all an is (cond (memC (cOp P L e o.op)) (i :: pend) pend) (e.after (dstOf L o.dst)))
          | _, true => guarded L all e o (cOp P L e o.op) (cOpsD L all an is pend (e.after (dstOf L o.dst)))
          | _, _ => .bad 155
        | false => match stepC (cOp P L e o.op) with
          | true => guarded L all e o (cOp P L e o.op) (cChks P L all (e.after (dstOf L o.dst)) (cOpsD L all an is (pend.filter fun j => !(an.getD i 0).testBit j) (e.after (dstOf L o.dst))) (pend.filter fun j => !(an.getD i 0).testBit j))
          | false => .bad 156
def opsED (L : List Nat) (all : Array Oper) : List Nat → SEnv → SEnv
  | [], e => e
  | i :: is, e => match all[i]? with
    | none => e
    | some o => opsED L all is (envOf L e o)
def orderOf (od : Nat → Option (List Nat)) (id n : Nat) : List Nat := match od id with
  | some l => l
  | none => List.range n
def opsE (L : List Nat) : List Oper → SEnv → SEnv
  | [], e => e
  | o :: os, e => opsE L os (envOf L e o)
def env0 : SEnv := ⟨0, []⟩
def okC : Clos := fun _ vars stk h => .ok vars stk h
noncomputable def sameK (s : G) (nx : List AV → List AV → AH → R) : K := fun v vars stk h => ifR (sameF 9 v (s.ev vars stk)) (nx vars stk h)
noncomputable def CI.run : CI → Clos :=
  @CI.rec (fun _ => Clos) okC (fun o d _ ih rec => runOp o rec (d.k ih rec))
    (fun g want o d _ ih rec => guardC g want (runOp o rec (d.k ih rec)) (d.k ih rec (.tup [])))
    (fun o s _ ih rec => runOp o rec (sameK s (ih rec)))
    (fun g want o s _ ih rec => guardC g want (runOp o rec (sameK s (ih rec))) (ih rec))
    (fun n _ _ _ _ => .fail n)

/-- compiled code -/
inductive CCode where
  | skip
  | ops (c : CI)
  | seq (a b : CCode)
  | cond (c : G) (a b : CCode)
  | block (id : Nat) (a : CCode)
  | loop (a : CCode)
  | exit (id : Nat)
  | ret
  | bad (n : Nat)
  | range (f i : Nat) (g : G) (gs : List Nat)
def codeEnv (L : List Nat) (od : Nat → Option (List Nat)) : Code → SEnv → SEnv
  | .skip, e => e
  | .region _ ops false, e => opsE L ops.toList e
  | .region id ops true, e => opsED L ops (orderOf od id ops.size) e
  | .seq a b, e => codeEnv L od b (codeEnv L od a e)
  | .label _, e => e
  | _, _ => env0
noncomputable def cCode (L : List Nat) (od : Nat → Option (List Nat)) : Code → SEnv → CCode
  | .skip, _ => .skip
  | .region _ ops false, e => .ops (cOps P L ops ops.toList e)
  | .region id ops true, e => .ops (cOpsD P L ops (Region.before ops) (orderOf od id ops.size) [] e)
  | .seq a b, e => .seq (cCode L od a e) (cCode L od b (codeEnv L od a e))
  | .cond c a b, e => .cond (res L e c) (cCode L od a e) (cCode L od b e)
  | .block id a, _ => .block id (cCode L od a env0)
  | .loop a, _ => .loop (cCode L od a env0)
  | .exit id, _ => .exit id
  | .scope a, e => cCode L od a e
  | .label _, _ => .skip
  | .ret, _ => .ret
  | .rangeFunc g _ _ _, e => match od slotD, idxOf slotD L 0 with
    | some (f :: gs), some i => .range f i (res L e g) gs
    | _, _ => .bad 132
  | .goto _, _ => .bad 133
  | .refuse _, _ => .bad 134

noncomputable def seqK (g : List AV → List AV → AH → R) : R → R := @R.rec (fun _ => R) g R.ex R.ret R.pan R.fail
noncomputable def seqC (f g : Clos) : Clos := fun rec vars stk h => seqK (g rec) (f rec vars stk h)
noncomputable def condC (c : G) (f g : Clos) : Clos := fun rec vars stk h =>
  onBool (c.ev vars stk) (f rec) (g rec) vars stk h
noncomputable def exK (id i : Nat) (vars : List AV) (h : AH) : R := @Bool.rec (fun _ => R) (.ex i vars h) (.ok vars [] h) (Nat.beq i id)
noncomputable def blockK (id : Nat) : R → R := @R.rec (fun _ => R) R.ok (exK id) R.ret R.pan R.fail
noncomputable def blockC (id : Nat) (f : Clos) : Clos := fun rec vars stk h => blockK id (f rec vars stk h)
noncomputable def loopK (again : List AV → AH → R) : R → R := @R.rec (fun _ => R) (fun vars _ h => again vars h) R.ex R.ret R.pan R.fail
noncomputable def loopN (f : List AV → List AV → AH → R) : Nat → List AV → AH → R :=
  @Nat.rec (fun _ => List AV → AH → R) (fun _ _ => .fail 131) (fun _ ih vars h => loopK ih (f vars [] h))
noncomputable def loopC (f : Clos) : Clos := fun rec vars _ h => loopN (f rec) 100000 vars h
def exitC (id : Nat) : Clos := fun _ vars _ h => .ex id vars h
def retC : Clos := fun _ vars _ h => .ret vars h
def badC (n : Nat) : Clos := fun _ _ _ _ => .fail n
/-- behind the function that was ranged over -/
noncomputable def afterRange (i : Nat) (bD bL : Pos) (vars : List AV) : CR → R
  | .ret _ h => match h.obj bL with
    | some (.lp _ _ false) => .ok (upd (.tok bD) i vars) [] (h.del bL)
    | _ => .fail 158
  | .pan _ _ => .fail 159
  | .fail n => .fail n
/-- one of the functions that are known to be entered -/
def inGs (gf : Nat) (gs : List Nat) (r : R) : R := cond (gs.any (Nat.beq gf)) r (.fail 170)
noncomputable def rangeC (f i : Nat) (g : G) (gs : List Nat) : Clos := fun rec vars stk h =>
  match nth i vars, g.ev vars stk with
  | .undef, .fn (.func gf) fa c => inGs gf gs (afterRange i h.nx (h.new .dl).nx vars (rec gf (app (app c [.yld (h.new .dl).nx]) fa) ((h.new .dl).new (.lp f vars false))))
  | _, _ => .fail 160
noncomputable def CCode.run : CCode → Clos :=
  @CCode.rec (fun _ => Clos) okC (fun c => c.run) (fun _ _ => seqC) (fun c _ _ => condC c) (fun id _ => blockC id) (fun _ => loopC) exitC retC badC rangeC

/-- a result: a variable's value, or what lies in its cell -/
inductive CRes where
  | val (g : G) | one (g : G) | many (n : Nat) (g : G)
def cRes (L : List Nat) : ResultVar → CRes
  | .tmp t => .val (resT L env0 t)
  | .cell a t => match kindT P t with
    | some (some n) => .many n (resT L env0 a)
    | some none => .one (resT L env0 a)
    | none => .one .bad
def kTell : K := fun v vars stk h => .ok (v :: vars) stk h
noncomputable def tell : R → Option AV := @R.rec (fun _ => Option AV) (fun vars _ _ => @List.rec AV (fun _ => Option AV) none (fun v _ _ => some v) vars) (fun _ _ _ => none) (fun _ _ => none) (fun _ _ _ => none) (fun _ => none)
noncomputable def CRes.ev (vars : List AV) (h : AH) : CRes → Option AV :=
  @CRes.rec (fun _ => Option AV) (fun g => some (g.ev vars [])) (fun g => tell (ldOne g kTell vars [] h)) (fun n g => tell (ldAgg n g kTell vars [] h))
noncomputable def allRes (vars : List AV) (h : AH) : List CRes → Option (List AV) :=
  @List.rec CRes (fun _ => Option (List AV)) (some []) (fun r _ ih => @Option.rec AV (fun _ => Option (List AV)) none (fun v => @Option.rec (List AV) (fun _ => Option (List AV)) none (fun l => some (v :: l)) ih) (r.ev vars h))
noncomputable def oneOf (l : List AV) : AV := @List.rec AV (fun _ => AV) (.tup []) (fun v t _ => @List.rec AV (fun _ => AV) v (fun _ _ _ => .tup (v :: t)) t) l
noncomputable def resultsOf (rs : List CRes) (vars : List AV) (h : AH) : Option AV := @Option.rec (List AV) (fun _ => Option AV) none (fun l => some (oneOf l)) (allRes vars h rs)
noncomputable def giveBack (rs : List CRes) (vars : List AV) (h : AH) : CR := @Option.rec AV (fun _ => CR) (.fail 141) (fun v => .ret v h) (resultsOf rs vars h)
noncomputable def padTo : Nat → List AV → List AV :=
  @Nat.rec (fun _ => List AV → List AV) (fun _ => []) (fun _ ih => @List.rec AV (fun _ => List AV) (.undef :: ih []) (fun a t _ => a :: ih t))
/-- the first slots are the parameters -/
def leadOk (k : Nat) : Nat → List Nat → Bool
  | _, [] => true
  | i, s :: l => and (or (Nat.ble k i) (Nat.beq s i)) (leadOk k (i + 1) l)
structure CFn where
  n : Nat
  k : Nat
  body : CCode
  rs : List CRes
  dslot : Option Nat
noncomputable def cFn (hint : FuncId → List Nat) (od : FuncId → Nat → Option (List Nat)) (f : FuncId) : Option CFn :=
  match P.funcs[f]? with
  | some fn => match fn.body with
    | some c => cond (and (leadOk (fn.params.size + fn.nfree) 0 (hint f)) (Nat.ble (fn.params.size + fn.nfree) fn.ntmps)) (some ⟨(hint f).length, fn.params.size + fn.nfree, cCode P (hint f) (od f) c env0, fn.results.toList.map (cRes P (hint f)), idxOf slotD (hint f) 0⟩) none
    | none => none
  | none => none
inductive DR where
  | ret (h : AH)
  | fail (n : Nat)
/-- a deferred function: it asks for the panic's value at once, and puts it into a variable -/
noncomputable def cFnD (hint : FuncId → List Nat) (od : FuncId → Nat → Option (List Nat)) (f : FuncId) : Option (Nat × Nat × Nat × CCode) :=
  match P.funcs[f]? with
  | some fn => match fn.body with
    | some (.seq (.region _ ops false) c) => match ops.toList with
      | [o, p] => match o.dst, o.op, o.guard, p.dst, p.op, p.guard with
        | some r, .call cl, none, some v, .assign (.tmp r'), none => match cl.callee, cl.args.size with
          | .builtin .recover, 0 => match idxOf v (hint f) 0 with
            | some i => cond (and (Nat.beq r r') (and (leadOk (fn.params.size + fn.nfree) 0 (hint f)) (and (Nat.ble (fn.params.size + fn.nfree) fn.ntmps) (and (Nat.ble (fn.params.size + fn.nfree) v) (and (Nat.ble (fn.params.size + fn.nfree) r) (and (Nat.beq fn.results.size 0) (idxOf slotD (hint f) 0).isNone)))))) (some ((hint f).length, fn.params.size + fn.nfree, i, cCode P (hint f) (od f) c env0)) none
            | none => none
          | _, _ => none
        | _, _, _, _, _, _ => none
      | _ => none
    | _ => none
  | none => none
def finishP : R → DR
  | .ok _ _ h | .ret _ h => .ret h
  | .pan _ _ _ => .fail 145
  | .ex _ _ _ => .fail 144
  | .fail n => .fail n
/-- the deferred function g, in a frame whose value of panic is pv (niliface: none) -/
noncomputable def runD (codeD : FuncId → Option (Nat × Nat × Nat × CCode)) (g : AV) (pv : AV) (rec : Rec) (h : AH) : DR :=
  match g with
  | .fn (.func f) a c => match codeD f with
    | some (n, k, i, body) => cond (Nat.ble (len (app c a)) k) (finishP (body.run rec (upd pv i (padTo n (app c a))) [] h)) (.fail 148)
    | none => .fail 146
  | _ => .fail 147
noncomputable def leaveRet (rs : List CRes) (vars : List AV) : DR → CR
  | .ret h => giveBack rs vars h
  | .fail n => .fail n
noncomputable def finish (rs : List CRes) : R → CR :=
  @R.rec (fun _ => CR) (fun vars _ h => giveBack rs vars h) (fun _ _ _ => .fail 140) (fun vars h => giveBack rs vars h) (fun v _ h => .pan v h) CR.fail
/-- the block for the deferred calls of a loop's rounds is shut -/
noncomputable def shutD (b : Pos) (rs : List CRes) (vars : List AV) (h : AH) : CR := match h.obj b with
  | some .dl => giveBack rs vars (h.del b)
  | _ => .fail 162
noncomputable def finishD (codeD : FuncId → Option (Nat × Nat × Nat × CCode)) (i : Nat) (rs : List CRes) (rec : Rec) : R → CR
  | .ok vars _ h | .ret vars h => match nth i vars with
    | .undef => giveBack rs vars h
    | .tok b => shutD b rs vars h
    | g => leaveRet rs vars (runD codeD g .niliface rec h)
  | .pan v vars h => match nth i vars with
    | .undef => .pan v h
    | .tok _ => .fail 161
    | g => leaveRet rs vars (runD codeD g v rec h)
  | .ex _ _ _ => .fail 140
  | .fail n => .fail n
noncomputable def ifC (c : Bool) (t : CR) : CR := @Bool.rec (fun _ => CR) (.fail 149) t c
noncomputable def runPlain (n k : Nat) (body : CCode) (rs : List CRes) : Rec → List AV → AH → CR := fun rec args h => ifC (Nat.ble (len args) k) (finish rs (body.run rec (padTo n args) [] h))
noncomputable def runDefer (codeD : FuncId → Option (Nat × Nat × Nat × CCode)) (n k : Nat) (body : CCode) (rs : List CRes) (i : Nat) : Rec → List AV → AH → CR := fun rec args h => ifC (Nat.ble (len args) k) (finishD codeD i rs rec (body.run rec (padTo n args) [] h))
noncomputable def CFn.run (codeD : FuncId → Option (Nat × Nat × Nat × CCode)) : CFn → Rec → List AV → AH → CR :=
  @CFn.rec (fun _ => Rec → List AV → AH → CR) (fun n k body rs d => @Option.rec Nat (fun _ => Rec → List AV → AH → CR) (runPlain n k body rs) (runDefer codeD n k body rs) d)
/-- a function: one of those that are known by their answers, or its code -/
inductive Fun where
  | prim (p : Rec → List AV → AH → CR)
  | code (c : CFn)
  | none
noncomputable def cFun (code : FuncId → Option CFn) (prim : FuncId → Option (Rec → List AV → AH → CR)) (f : FuncId) : Fun :=
  match prim f with
  | some p => .prim p
  | none => match code f with
    | some c => .code c
    | none => .none
noncomputable def Fun.run (codeD : FuncId → Option (Nat × Nat × Nat × CCode)) : Fun → Rec → List AV → AH → CR :=
  @Fun.rec (fun _ => Rec → List AV → AH → CR) (fun p => p) (fun c => c.run codeD) (fun _ _ _ => .fail 142)
/-- what of a loop over a function is in code: the function, the variables, the assignments to them, the body -/
def rangesOf : Code → List (Array Tmp × Code × Code)
  | .rangeFunc _ ps a b => [(ps, a, b)]
  | .seq a b => rangesOf a ++ rangesOf b
  | .cond _ a b => rangesOf a ++ rangesOf b
  | .block _ a | .loop a | .scope a => rangesOf a
  | _ => []
def noDefer (o : Oper) : Bool := match o.op with
  | .defer _ => false
  | _ => true
/-- the operations of a body that is one plain region -/
def opsOf : Code → Option (Array Oper)
  | .region _ ops false => some ops
  | .block _ (.region _ ops false) => some ops
  | _ => none
noncomputable def cRnd (hint : FuncId → List Nat) (f : FuncId) : Option (List Nat × CI × CI) :=
  match P.funcs[f]? with
  | some fn => match fn.body with
    | some c => match rangesOf c with
      | [(ps, .region _ oa false, .block _ (.region _ ob false))] => match ps.toList.mapM fun p => idxOf p (hint f) 0 with
        | some is => cond (and (and (oa.toList.all noDefer) (ob.toList.all noDefer)) (and (Nat.ble fn.ntmps slotD) (ps.toList.all fun p => Nat.blt p fn.ntmps))) (some (is, cOps P (hint f) oa oa.toList env0, cOps P (hint f) ob ob.toList env0)) none
        | none => none
      | _ => none
    | none => none
  | none => none
noncomputable def round3 (b : Pos) : R → CR
  | .ok _ _ h => match h.obj b with
    | some (.lp f vs true) => .ret .tt (h.put b (.lp f vs false))
    | _ => .fail 163
  | .fail n => .fail n
  | _ => .fail 164
noncomputable def round2 (b : Pos) (rec : Rec) (c : CI) : R → CR
  | .ok vars _ h => match h.obj b with
    | some (.lp f vs false) => round3 b (c.run rec vars [] (h.put b (.lp f vs true)))
    | _ => .fail 165
  | .fail n => .fail n
  | _ => .fail 166
noncomputable def setAll : List Nat → List AV → List AV → List AV
  | i :: is, x :: xs, vars => setAll is xs (upd x i vars)
  | _, _, vars => vars
/-- a round of a loop over a function -/
noncomputable def roundC (codeR : FuncId → Option (List Nat × CI × CI)) (rec : Rec) (args : List AV) (h : AH) : CR :=
  match args with
  | .yld b :: xs => match h.obj b with
    | some (.lp f vars false) => match codeR f with
      | some (is, c1, c2) => ifC (Nat.beq (len xs) (len is)) (round2 b rec c2 (c1.run rec (setAll is xs vars) [] h))
      | none => .fail 167
    | _ => .fail 168
  | _ => .fail 169
noncomputable def runN (code : FuncId → Option CFn) (codeD : FuncId → Option (Nat × Nat × Nat × CCode)) (codeR : FuncId → Option (List Nat × CI × CI)) (prim : FuncId → Option (Rec → List AV → AH → CR)) : Nat → Rec :=
  @Nat.rec (fun _ => Rec) (fun _ _ _ => .fail 143) (fun _ ih f args h => @Bool.rec (fun _ => CR) ((cFun code prim f).run codeD ih args h) (roundC codeR ih args h) (Nat.beq f baseY))
/-! slices.SortFunc on a row of symbols: all entries of one range, in some order -/
noncomputable def eqSyms (q g : Pos) : List Nat → List AV → Bool
  | [], [] => true
  | j :: js, .sym q' g' j' :: r => and (and (posEq q q') (posEq g g')) (and (Nat.beq j j') (eqSyms q g js r))
  | _, _ => false
noncomputable def rowSyms (q : Pos) (js : List Nat) : List Pos → List (List AV) → Bool
  | [], [] => true
  | g :: gs, c :: cs => and (eqSyms q g js c) (rowSyms q js gs cs)
  | _, _ => false
noncomputable def symJ : AV → Nat
  | .sym _ _ j => j
  | _ => 0
noncomputable def pickJ (l : List AV) : List Nat → List AV
  | [] => []
  | j :: js => nth j l :: pickJ l js
noncomputable def rowsJ (js : List Nat) : List (AV × AV) → List (List AV)
  | [] => []
  | (k, v) :: es => pickJ (app (avCells v) (avCells k)) js :: rowsJ js es
noncomputable def cmpAV (rec : Rec) (g : FuncId) (nx : Pos) (a b : List AV) : Option Int :=
  match rec g [.agg (len a) a, .agg (len b) b] (.mk nx .e) with
  | .ret (.nat n) _ => some (.ofNat n)
  | .ret (.neg n) _ => some (.negSucc n)
  | _ => none
noncomputable def ltRow (rec : Rec) (g : FuncId) (nx : Pos) (a : List AV) : List (List AV) → Option (List Bool)
  | [] => some []
  | b :: r => match cmpAV rec g nx a b with
    | some (.ofNat _) => match ltRow rec g nx a r with
      | some l => some (false :: l)
      | none => none
    | some (.negSucc _) => match ltRow rec g nx a r with
      | some l => some (true :: l)
      | none => none
    | none => none
noncomputable def ltRows (rec : Rec) (g : FuncId) (nx : Pos) (all : List (List AV)) : List (List AV) → Option (List (List Bool))
  | [] => some []
  | a :: r => match ltRow rec g nx a all with
    | some l => match ltRows rec g nx all r with
      | some m => some (l :: m)
      | none => none
    | none => none
noncomputable def cntB : List Bool → Nat
  | [] => 0
  | true :: l => Nat.succ (cntB l)
  | false :: l => cntB l
noncomputable def cntsB : List (List Bool) → List Nat
  | [] => []
  | l :: m => cntB l :: cntsB m
noncomputable def chkRow (k : Nat) : List Bool → List Nat → Bool
  | [], [] => true
  | b :: l, n :: ns => and (@Bool.rec (fun _ => Bool) (not b) b (Nat.ble (Nat.succ n) k)) (chkRow k l ns)
  | _, _ => false
noncomputable def chkRows (ns : List Nat) : List (List Bool) → List Nat → Bool
  | [], [] => true
  | l :: m, k :: ks => and (chkRow k l ns) (chkRows ns m ks)
  | _, _ => false
noncomputable def idxN (x : Nat) : List Nat → Nat → Option Nat
  | [], _ => none
  | y :: l, i => @Bool.rec (fun _ => Option Nat) (idxN x l (Nat.succ i)) (some i) (Nat.beq x y)
noncomputable def ordN (ks : List Nat) : Nat → Option (List Nat)
  | 0 => some []
  | n + 1 => match idxN n ks 0 with
    | some i => match ordN ks n with
      | some l => some (i :: l)
      | none => none
    | none => none
noncomputable def nthL : Nat → List (List AV) → List AV
  | _, [] => []
  | 0, a :: _ => a
  | n + 1, _ :: l => nthL n l
noncomputable def rowsAt (rows : List (List AV)) : List Nat → List (List AV)
  | [] => []
  | i :: l => nthL i rows :: rowsAt rows l
noncomputable def allOneA : List AV → Bool
  | [] => true
  | a :: l => and (avOne a) (allOneA l)
noncomputable def allOneR : List (List AV) → Bool
  | [] => true
  | a :: l => and (allOneA a) (allOneR l)
noncomputable def pSort3 (b : Pos) (e sz n : Nat) (t : PM (List AV)) (rows : List (List AV)) (h : AH) (m : List (List Bool)) : CR :=
  ifC (chkRows (cntsB m) m (cntsB m)) (match ordN (cntsB m) (len m) with
    | some o => .ret (.tup []) (h.put b (.dat sz n (putChunks (rowsAt rows o) e t)))
    | none => .fail 171)
noncomputable def pSort2 (b : Pos) (e ln sz n : Nat) (t : PM (List AV)) (g : FuncId) (rec : Rec) (h : AH) (chunks : List (List AV)) : CR :=
  match chunks with
  | (.sym q p j :: r) :: _ => match h.obj q with
    | some (.ms _ es gs 0) => ifC (and (rowSyms q (j :: r.map symJ) gs chunks) (and (and (Nat.beq (len (.sym q p j :: r)) sz) (Nat.ble (Nat.add e ln) n)) (and (allOneR (rowsJ (j :: r.map symJ) es)) (Nat.ble (Nat.add e ln) 100000000))))
        (match ltRows rec g h.nx (rowsJ (j :: r.map symJ) es) (rowsJ (j :: r.map symJ) es) with
        | some m => pSort3 b e sz n t (rowsJ (j :: r.map symJ) es) h m
        | none => .fail 172)
    | _ => .fail 173
  | _ => .fail 174
/-- slices.SortFunc of structs -/
noncomputable def pSort (sz : Nat) (cmp : FuncId) (rec : Rec) (args : List AV) (h : AH) : CR :=
  match args with
  | [.slice b e ln _ _ z, .fn (.func g) [] []] => match h.obj b with
    | some (.dat sz' n t) => ifC (and (and (Nat.beq z sz) (Nat.beq sz' sz)) (Nat.beq g cmp)) (match rdChunks t ln e with
      | some chunks => pSort2 b e ln sz n t g rec h chunks
      | none => .fail 175)
    | _ => .fail 176
  | _ => .fail 177
end Go.Ev
