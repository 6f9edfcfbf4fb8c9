/- The functional machine: kinds, slots, nodes, and what an operation does to them. -/
import Derived.RowKit
import Derived.Calls
import Derived.Still
import Derived.StillTail
set_option autoImplicit true
set_option linter.unusedVariables false
namespace Go.Fm

inductive Kind where
  | unit | int (k : IntKind) | bool | str
  | pair (a b : Kind) | struct (a : Kind)
  | slice (e : Kind) | arr (n : Nat) (e : Kind)
  | clo (g : Nat) (c : Kind) | ref (a : Kind)
  | mpk (a b : Kind)
  | mbx (a b : Kind)
  | recB (g p : Nat) (c : Kind)
  | err
  | fnk
  deriving DecidableEq, Inhabited

@[reducible] def Kind.T : Kind → Type
  | .unit => Unit | .int _ => Int | .bool => Bool | .str => ByteArray
  | .pair a b => a.T × b.T | .struct a => a.T
  | .slice e => List e.T | .arr _ e => List e.T
  | .clo _ c => c.T | .ref a => a.T
  | .mpk a b => List (a.T × b.T)
  | .mbx a b => List (a.T × b.T)
  | .recB _ _ c => c.T
  | .err => Bool
  | .fnk => Unit

def zeroT : (k : Kind) → k.T
  | .unit => () | .int _ => (0 : Int) | .bool => false | .str => (⟨#[]⟩ : ByteArray)
  | .pair a b => (zeroT a, zeroT b) | .struct a => zeroT a
  | .slice e => ([] : List e.T) | .arr n e => List.replicate n (zeroT e)
  | .clo _ c => zeroT c | .ref a => zeroT a
  | .mpk a b => ([] : List (a.T × b.T))
  | .mbx a b => ([] : List (a.T × b.T))
  | .recB _ _ c => zeroT c
  | .err => false
  | .fnk => ()

def beqL {α : Type} (f : α → α → Bool) : List α → List α → Bool
  | [], [] => true | x :: xs, y :: ys => f x y && beqL f xs ys | _, _ => false
def beqT : (k : Kind) → k.T → k.T → Bool
  | .unit, _, _ => true | .int _, x, y => decide ((x : Int) = y) | .bool, x, y => BEq.beq (α := Bool) x y | .str, x, y => decide ((x : ByteArray) = y)
  | .pair a b, x, y => beqT a x.1 y.1 && beqT b x.2 y.2 | .struct a, x, y => beqT a x y
  | .slice _, _, _ => false | .arr _ e, x, y => beqL (beqT e) x y
  | .clo _ _, _, _ => false | .ref _, _, _ => false
  | .mpk _ _, _, _ => false
  | .mbx _ _, _, _ => false
  | .recB _ _ _, _, _ => false
  | .err, _, _ => false
  | .fnk, _, _ => false

/-- kinds that point to no memory -/
def flat : Kind → Bool
  | .slice _ | .clo _ _ | .ref _ | .mpk _ _ | .mbx _ _ | .recB _ _ _ | .err | .fnk => false
  | .pair a b => flat a && flat b | .struct a => flat a | .arr _ e => flat e
  | _ => true
def aggB : Kind → Bool
  | .struct _ | .arr _ _ => true
  | _ => false

def width : Kind → Nat
  | .unit => 0 | .pair a b => width a + width b | .struct a => width a | .arr n e => n * width e | _ => 1
/-- kinds of variables that are loaded and stored -/
def plain : Kind → Bool
  | .int _ | .bool | .str | .slice _ | .fnk => true
  | .struct a => Nat.ble 1 (width a)
  | .arr n e => Nat.ble 1 (Nat.mul n (width e))
  | _ => false

def cast? (k k' : Kind) (v : k.T) : Option k'.T := if h : k = k' then some (h ▸ v) else none

/-- a part of a struct's value -/
def projP : (k : Kind) → Nat → k.T → Option (Sigma Kind.T)
  | .unit, _, _ => none
  | .pair a _, 0, v => some ⟨a, v.1⟩
  | .pair _ b, n + 1, v => projP b n v.2
  | k, 0, v => some ⟨k, v⟩
  | _, _ + 1, _ => none
def proj : (k : Kind) → Nat → k.T → Option (Sigma Kind.T)
  | .struct a, f, v => projP a f v
  | _, _, _ => none
def updP : (k : Kind) → Nat → (Sigma Kind.T) → k.T → Option k.T
  | .unit, _, _, _ => none
  | .pair a _, 0, x, v => (match cast? x.1 a x.2 with | some y => some (y, v.2) | none => none)
  | .pair _ b, n + 1, x, v => (match updP b n x v.2 with | some y => some (v.1, y) | none => none)
  | k, 0, x, _ => cast? x.1 k x.2
  | _, _ + 1, _, _ => none
def upd1 : (k : Kind) → Nat → (Sigma Kind.T) → k.T → Option k.T
  | .struct a, f, x, v => updP a f x v
  | _, _, _, _ => none
def projs : List Nat → (Sigma Kind.T) → Option (Sigma Kind.T)
  | [], x => some x
  | f :: p, x => match proj x.1 f x.2 with | some y => projs p y | none => none
def upds : List Nat → (Sigma Kind.T) → (k : Kind) → k.T → Option k.T
  | [], x, k, _ => cast? x.1 k x.2
  | f :: p, x, k, v => match proj k f v with
    | some ⟨k', v'⟩ => (match upds p x k' v' with | some v'' => upd1 k f ⟨k', v''⟩ v | none => none)
    | none => none
/-- where a field lies, in cells, and its kind -/
def fieldOff : Kind → Nat → Option (Nat × Kind)
  | .unit, _ => none
  | .pair a _, 0 => some (0, a)
  | .pair a b, n + 1 => (match fieldOff b n with | some (o, k) => some (width a + o, k) | none => none)
  | k, 0 => some (0, k)
  | _, _ + 1 => none
def pathOff : Kind → List Nat → Option (Nat × Kind)
  | k, [] => some (0, k)
  | .struct a, f :: p => (match fieldOff a f with
    | some (o, k) => (match pathOff k p with | some (o', k') => some (o + o', k') | none => none)
    | none => none)
  | _, _ :: _ => none

inductive Slot : Type where
  | dead
  | val (k : Kind) (v : k.T)
  | prop (p : Prop) (d : Decidable p)
  | nils
  | root (r : Nat)
  | sub (r : Nat) (lo hi : Int)
  | box (b : Nat) (path : List Nat)
  | elem (r : Nat) (i : Int) (path : List Nat)
  | cell (b : Nat) (i : Int)
  | mref (r : Nat)
  | undef
  | droot (r : Nat)
  | delem (r : Nat) (e : Kind) (i : Int) (path : List Nat)
  | part (r : Nat) (i : Int) (f j : Nat)
  | agg (k : Kind) (l : List Slot)
  | tup (l : List Slot)
  | fbox (b : Nat) (rs : List Nat)   -- a variable that holds a function value that looks at it; rs: what is looked at
  | fn (g : Nat) (l : List Slot) (rs : List Nat)   -- a function value that is lent: it looks at rows of the call's own
  | zero (k : Kind)   -- a kind's zero value, as it is
  deriving Inhabited

inductive Node : Type where
  | row (ty : Nat) (e : Kind) (l : List e.T)
  | var (k : Kind) (c : Slot)
  | mp (kk kv : Kind) (l : List (kk.T × kv.T))
  | deep (ty : Nat) (e : Kind) (ts : List Nat) (l : List e.T)   -- a row of structs with rows of their own
  | hole (ty : Nat) (e : Kind) (ts : List Nat) (l : List e.T) (i : Int) (j : Nat)   -- and one of its elements' rows is by itself

structure St where
  slots : Nat → Slot
  nodes : Nat → Option Node
  used : Nat → Bool
  gen : Nat

def upd {α : Type} (f : Nat → α) (i : Nat) (x : α) : Nat → α := fun j => cond (Nat.beq j i) x (f j)
def St.put (st : St) (dst : Option Nat) (x : Slot) : St :=
  match dst with | some d => { st with slots := upd st.slots d x } | none => st
def fresh (g : Nat) (dst : Option Nat) (j : Nat) : Nat := Nat.add (Nat.add (Nat.mul g 16384) (Nat.mul (dst.getD 1023) 16)) j
/-- a new node -/
def St.make (st : St) (i : Nat) (x : Node) : Option St := match st.used i with
  | false => some { st with nodes := upd st.nodes i (some x), used := upd st.used i true }
  | true => none
def St.setNode (st : St) (i : Nat) (x : Option Node) : St := { st with nodes := upd st.nodes i x }

/-- a struct's fields that are rows; which structs a deep row may have -/
def nsl : Kind → Nat
  | .pair a b => Nat.add (nsl a) (nsl b)
  | .slice _ => 1
  | _ => 0
def leafOK : Kind → Bool
  | .slice e => flat e && (aggB e || Nat.beq (width e) 1) && Nat.ble 1 (width e)
  | .pair _ _ => false
  | .unit => false
  | k => flat k && (aggB k || Nat.beq (width k) 1)
def dOK : Kind → Bool
  | .pair a b => leafOK a && dOK b
  | k => leafOK k
def deepB (e : Kind) (ts : List Nat) : Bool := match e with
  | .struct a => dOK a && Nat.beq (nsl a) ts.length && Nat.ble 1 (nsl a)
  | _ => false
/-- how many rows stand before a field -/
def rankP : Kind → Nat → Nat
  | .pair a b, f + 1 => Nat.add (nsl a) (rankP b f)
  | _, _ => 0
def rankE : Kind → Nat → Nat
  | .struct a, f => rankP a f
  | _, _ => 0
/-- the rows of a struct -/
def partsP : (k : Kind) → k.T → List (Sigma fun e : Kind => List e.T)
  | .pair a b, v => partsP a v.1 ++ partsP b v.2
  | .slice e, v => [⟨e, v⟩]
  | _, _ => []
def partsE : (e : Kind) → e.T → List (Sigma fun e : Kind => List e.T)
  | .struct a, v => partsP a v
  | _, _ => []
/-- whether a slot may stand at a place of that kind -/
def fits (k : Kind) : Slot → Bool
  | .val k' _ => decide (k' = k)
  | .prop _ _ => decide (k = .bool)
  | .nils | .root _ | .droot _ | .part _ _ _ _ => (match k with | .slice _ => true | _ => false)
  | .agg k' _ => decide (k' = k)
  | .fn _ _ _ => decide (k = .fnk)
  | _ => false

/-- the rows that a slot names -/
def roots : Nat → Slot → List Nat
  | 0, _ => []
  | _ + 1, .root r => [r]
  | _ + 1, .sub r _ _ => [r]
  | _ + 1, .droot r => [r]
  | _ + 1, .part r _ _ _ => [r]
  | n + 1, .agg _ l => l.flatMap (roots n)
  | _ + 1, .mref r => [r]
  | _ + 1, .fbox b rs => b :: rs
  | n + 1, .fn _ l rs => rs ++ l.flatMap (roots n)
  | _ + 1, .box b [] => [b]
  | _ + 1, _ => []
/-- rows of rows are told as rows of structs of one field -/
def dk : Kind → Kind
  | .slice e => .struct (.slice e)
  | e => e
def rdT (e : Kind) (l : List e.T) (i : Int) : e.T := l.getD i.toNat (zeroT e)
section
variable (nodes : Nat → Option Node)
/-- fields told as a struct's value -/
def fieldsT (f : Slot → (k : Kind) → Option k.T) : (k : Kind) → List Slot → Option k.T
  | .pair a b, x :: l => (match f x a with | some u => (match fieldsT f b l with | some v => some (u, v) | none => none) | none => none)
  | .unit, [] => some ()
  | .pair _ _, [] => none
  | k, [x] => f x k
  | _, _ => none
/-- what a lent function value looks at -/
def capV (f : Slot → (k : Kind) → Option k.T) (ro : Slot → List Nat) (rs : List Nat) : Slot → (k : Kind) → Option k.T
  | .box b [], .ref k => (match nodes b with | some (.var k' c) => if k' = k then cond ((ro c).all rs.contains) (f c k) none else none | _ => none)
  | .val k' v, .ref k => cast? k' (.ref k) v
  | _, _ => none
/-- what a lent function value looks at: its rows, its variables -/
def boxId : Slot → Option Nat
  | .box b [] => some b
  | _ => none
def capAll (rs : List Nat) (l : List Slot) : List Nat := rs ++ l.filterMap boxId
def isBox (b : Nat) : Option Slot → Bool
  | some (.box b' []) => Nat.beq b' b
  | _ => false
/-- a slot told as a value of a kind -/
def asVal : Nat → Slot → (k : Kind) → Option k.T
  | 0, _, _ => none
  | _ + 1, .val k' v, k => cast? k' k v
  | _ + 1, .prop p d, k => cast? .bool k (@decide p d)
  | _ + 1, .nils, .slice _ => some []
  | _ + 1, .root r, k => (match nodes r with | some (.row _ e l) => cast? (.slice e) k l | _ => none)
  | _ + 1, .sub r lo hi, k => (match nodes r with | some (.row _ e l) => cast? (.slice e) k ((l.take hi.toNat).drop lo.toNat) | _ => none)
  | _ + 1, .droot r, k => (match nodes r with | some (.deep _ e _ l) => cast? (.slice e) k l | _ => none)
  | _ + 1, .part r i f j, k => (match nodes r with | some (.deep _ e _ l) => (match (partsE e (rdT e l i))[j]? with | some ⟨e', v⟩ => cast? (.slice e') k v | none => none) | _ => none)
  | n + 1, .agg k' l, .struct a => if k' = .struct a then fieldsT (asVal n) a l else none
  | _ + 1, .mref r, k => (match nodes r with | some (.mp kk kv l) => cast? (.mpk kk kv) k l | _ => none)
  | n + 1, .fbox b rs, .recB g p c => (match nodes b with
    | some (.var _ (.fn g' l rs')) => if g' = g then cond (isBox b l[p]? && (rs.all (fun r => (nodes r).isSome) && (capAll rs' l).all rs.contains)) (fieldsT (capV nodes (asVal n) (roots n) rs') c (l.eraseIdx p)) none else none
    | _ => none)
  | n + 1, .fbox b rs, .ref k => (match nodes b with
    | some (.var k' c) => if k' = k then cond ((rs.all fun r => (nodes r).isSome) && (roots n c).all rs.contains) (asVal n c k) none else none
    | _ => none)
  | n + 1, .fn g l rs, .clo g' c => if g = g' then cond (rs.all fun r => (nodes r).isSome) (fieldsT (capV nodes (asVal n) (roots n) rs) c l) none else none
  | _ + 1, .box b [], .ref k => (match nodes b with | some (.var k' (.val k'' v)) => if k' = k then cast? k'' k v else none | _ => none)
  | _ + 1, _, _ => none
end
/-- a variable that is lent: it is only read -/
def lendBox (nodes : Nat → Option Node) : Slot → Slot
  | .box b [] => (match nodes b with | some (.var _ (.agg k l)) => .fbox b (roots 7 (.agg k l)) | _ => .box b [])
  | x => x
def kills (nodes : Nat → Option Node) : List Nat → Option (Nat → Option Node)
  | [] => some nodes
  | r :: l => (match nodes r with | some (.row _ _ _) => kills (upd nodes r none) l | some (.deep _ _ _ _) => kills (upd nodes r none) l | _ => none)

/-- what an argument is handed over as -/
inductive PS where
  | val (k : Kind)
  | own (ty : Nat) (e : Kind)
  | deep (ty : Nat) (e : Kind) (ts : List Nat)
@[reducible] def PS.T : PS → Type
  | .val k => k.T | .own _ e => List e.T | .deep _ e _ => List e.T
@[reducible] def ArgsT : List PS → Type
  | [] => Unit | p :: ps => p.T × ArgsT ps
/-- what a result is handed over as -/
inductive RS where
  | val (k : Kind)
  | own (ty : Nat) (e : Kind)
  | deep (ty : Nat) (e : Kind) (ts : List Nat)
  | pair (a b : RS)
  | agg (a : RS)
  | tup (a : RS)
  | back (i : Nat) (ty : Nat) (e : Kind) (a : RS)
  | dback (i : Nat) (ty : Nat) (e : Kind) (ts : List Nat) (a : RS)
  | nil
@[reducible] def RS.T : RS → Type
  | .val k => k.T | .own _ e => List e.T | .deep _ e _ => List e.T | .pair a b => a.T × b.T | .agg a => a.T | .tup a => a.T | .back _ _ e a => List e.T × a.T | .dback _ _ e _ a => List e.T × a.T | .nil => Unit
def RS.kind : RS → Kind
  | .val k => k | .own _ e => .slice e | .deep _ e _ => .slice e | .pair a b => .pair a.kind b.kind | .agg a => .struct a.kind | .tup a => a.kind | .back _ _ _ a => a.kind | .dback _ _ _ _ a => a.kind | .nil => .unit
/-- the parameters that are given back -/
def RS.backs : RS → List Nat
  | .val _ => [] | .own _ _ => [] | .deep _ _ _ => [] | .pair a b => a.backs ++ b.backs | .agg a => a.backs | .tup a => a.backs | .back i _ _ a => i :: a.backs | .dback i _ _ _ a => i :: a.backs | .nil => []
/-- what may be a field of a struct that is handed back, and the fields -/
def RS.one : RS → Bool
  | .val (.pair _ _) => false | .val .unit => false | .val _ => true | .own _ _ => true | .deep _ _ _ => true | .agg _ => true | _ => false
def RS.chain : RS → Bool
  | .pair a b => a.one && b.chain | r => r.one
/-- kinds without memory, and without arrays -/
def scal : Kind → Bool
  | .slice _ | .clo _ _ | .ref _ | .mpk _ _ | .mbx _ _ | .recB _ _ _ | .err | .fnk | .arr _ _ => false
  | .pair a b => scal a && scal b | .struct a => scal a
  | _ => true
/-- no memory in it -/
def RS.still : RS → Bool
  | .val k => scal k && (aggB k || decide (width k = 1)) | .own _ _ => false | .deep _ _ _ => false | .pair a b => a.still && b.still | .agg _ => false | .tup a => a.still | .back _ _ _ _ => false | .dback _ _ _ _ _ => false | .nil => false
/-- no rows in it, but the rows that are handed over -/
def RS.flatR : RS → Bool
  | .val k => flat k | .own _ e => flat e | .deep _ _ _ => true | .pair a b => a.flatR && b.flatR | .agg a => a.flatR | .tup a => a.flatR | .back _ _ e a => flat e && a.flatR | .dback _ _ _ _ a => a.flatR | .nil => true
structure Fn where
  ps : List PS
  res : RS
  f : ArgsT ps → Option res.T
  sh : List Nat   -- how the arguments are put together: 0 one register, n + 1 a struct of n + 1 fields; [] all are registers
/-- a function that is handed a pointer to a struct, and turns it -/
structure PFn where
  k : Kind
  ps : List PS   -- the struct's fields
  res : RS
  out : RS   -- the struct behind
  f : ArgsT ps → Option (RS.pair res (.agg out)).T
def PS.kind : PS → Kind
  | .val k => k | .own _ e => .slice e | .deep _ e _ => .slice e
/-- the fields of a struct -/
def chainK : List Kind → Kind
  | [] => .unit | [k] => k | k :: l => .pair k (chainK l)
/-- arguments, field by field -/
def flatS : List Nat → List Slot → Option (List Slot)
  | [], xs => some xs
  | 0 :: sh, x :: xs => (match flatS sh xs with | some l => some (x :: l) | none => none)
  | (n + 1) :: sh, .agg _ l :: xs => cond (Nat.beq l.length (Nat.succ n)) (match flatS sh xs with | some l' => some (l ++ l') | none => none) none
  | _, _ => none
/-- slots put together -/
def packL : List Nat → List Kind → List Slot → List Slot
  | [], _, xs => xs
  | 0 :: sh, ks, xs => xs.headD .dead :: packL sh ks.tail xs.tail
  | (n + 1) :: sh, ks, xs => .agg (.struct (chainK (ks.take (n + 1)))) (xs.take (n + 1)) :: packL sh (ks.drop (n + 1)) (xs.drop (n + 1))
/-- slots taken apart again -/
def flatB : List Nat → List Kind → List Slot → Option (List Slot)
  | [], _, xs => some xs
  | 0 :: sh, ks, x :: xs => (match flatB sh ks.tail xs with | some l => some (x :: l) | none => none)
  | (n + 1) :: sh, ks, .agg k l :: xs => cond (Nat.beq l.length (Nat.succ n)) (if k = .struct (chainK (ks.take (n + 1))) then (match flatB sh (ks.drop (n + 1)) xs with | some l' => some (l ++ l') | none => none) else none) none
  | (n + 1) :: sh, ks, .dead :: xs => (match flatB sh (ks.drop (n + 1)) xs with | some l' => some (List.replicate (n + 1) .dead ++ l') | none => none)
  | _, _, _ => none
/-- the register that holds a flattened argument -/
def realOf : List Nat → Nat → Nat
  | [], i => i
  | 0 :: _, 0 => 0
  | 0 :: sh, i + 1 => realOf sh i + 1
  | (n + 1) :: sh, i => cond (Nat.ble i n) 0 (realOf sh (i - (n + 1)) + 1)
def totSh : List Nat → Nat
  | [] => 0 | 0 :: sh => totSh sh + 1 | (n + 1) :: sh => totSh sh + (n + 1)
def oneK : Kind → Bool | .pair _ _ => false | .unit => false | _ => true
/-- the shape fits the parameters -/
def shB : List Nat → List PS → Bool
  | sh, ps => (match sh with | [] => true | _ => Nat.beq (totSh sh) ps.length && ps.all fun p => oneK p.kind)
/-- the rows that the values among the arguments lean on -/
def lentA : List PS → List Slot → List Nat
  | .val _ :: ps, x :: xs => roots 8 x ++ lentA ps xs
  | .own _ _ :: ps, _ :: xs => lentA ps xs
  | .deep _ _ _ :: ps, _ :: xs => lentA ps xs
  | _, _ => []
def drops (nodes : Nat → Option Node) (l : List Nat) : Nat → Option Node := fun q => cond (l.contains q) none (nodes q)
/-- the rows behind a call: what a result may lean on is no one's -/
def behind (F : Fn) (nd : Nat → Option Node) (xs : List Slot) : Nat → Option Node := cond F.res.flatR nd (drops nd (lentA F.ps xs))

/-- the rows that are handed away -/
def takeOwn (nodes : Nat → Option Node) : List PS → List Slot → Option (Nat → Option Node)
  | [], [] => some nodes
  | .val _ :: ps, _ :: xs => takeOwn nodes ps xs
  | .own _ _ :: ps, .root r :: xs => (match nodes r with | some (.row _ _ _) => takeOwn (upd nodes r none) ps xs | _ => none)
  | .own _ _ :: ps, .nils :: xs => takeOwn nodes ps xs
  | .deep _ _ _ :: ps, .droot r :: xs => (match nodes r with | some (.deep _ _ _ _) => takeOwn (upd nodes r none) ps xs | _ => none)
  | _, _ => none
/-- the arguments: rows handed away are told by the nodes before -/
def argsT (before behind : Nat → Option Node) : (ps : List PS) → List Slot → Option (ArgsT ps)
  | [], [] => some ()
  | .val k :: ps, x :: xs => (match asVal behind 8 x k with
    | some v => (match argsT before behind ps xs with | some vs => some (v, vs) | none => none)
    | none => none)
  | .own ty e :: ps, .root r :: xs => (match before r with
    | some (.row ty' e' l) => if ty = ty' then (match cast? (.slice e') (.slice e) l with
      | some v => (match argsT before behind ps xs with | some vs => some (v, vs) | none => none)
      | none => none) else none
    | _ => none)
  | .own _ e :: ps, .nils :: xs => (match argsT before behind ps xs with | some vs => some (([] : List e.T), vs) | none => none)
  | .deep ty e ts :: ps, .droot r :: xs => (match before r with
    | some (.deep ty' e' ts' l) => if ty = ty' then (if ts = ts' then (match cast? (.slice e') (.slice e) l with
      | some v => (match argsT before behind ps xs with | some vs => some (v, vs) | none => none)
      | none => none) else none) else none
    | _ => none)
  | _, _ => none
/-- a result laid: its slots, and the nodes behind it -/
def layRes (base : Nat) (before : Nat → Option Node) (xs : List Slot) : (r : RS) → r.T → (j : Nat) → (st : St) → Option (List Slot × Nat × St × List (Nat × Nat))
  | .val k, v, j, st => some ([.val k v], j, st, [])
  | .own ty e, v, j, st => (match st.make (Nat.add base j) (.row ty e v) with | some st' => some ([.root (Nat.add base j)], Nat.succ j, st', []) | none => none)
  | .deep ty e ts, v, j, st => (match st.make (Nat.add base j) (.deep ty e ts v) with | some st' => some ([.droot (Nat.add base j)], Nat.succ j, st', []) | none => none)
  | .pair a b, v, j, st => (match layRes base before xs a v.1 j st with
    | some (x, j, st, l) => (match layRes base before xs b v.2 j st with | some (y, j, st, l') => some (x ++ y, j, st, l ++ l') | none => none)
    | none => none)
  | .agg a, v, j, st => cond a.chain (match layRes base before xs a v j st with | some (x, j, st, l) => some ([.agg (.struct a.kind) x], j, st, l) | none => none) none
  | .tup a, v, j, st => (match layRes base before xs a v j st with | some (x, j, st, l) => some ([.tup x], j, st, l) | none => none)
  | .back i ty e a, v, j, st => (match xs[i]? with
    | some (.root q) => (match before q with
      | some (.row _ _ _) => (match st.make (Nat.add base j) (.row ty e v.1) with
        | some st' => (match layRes base before xs a v.2 (Nat.succ j) st' with | some (x, j', st'', l) => some (x, j', st'', (q, Nat.add base j) :: l) | none => none)
        | none => none)
      | _ => none)
    | some .nils => layRes base before xs a v.2 j st
    | _ => none)
  | .dback i ty e ts a, v, j, st => (match xs[i]? with
    | some (.droot q) => (match before q with
      | some (.deep _ _ _ _) => (match st.make (Nat.add base j) (.deep ty e ts v.1) with
        | some st' => (match layRes base before xs a v.2 (Nat.succ j) st' with | some (x, j', st'', l) => some (x, j', st'', (q, Nat.add base j) :: l) | none => none)
        | none => none)
      | _ => none)
    | _ => none)
  | .nil, _, j, st => some ([], j, st, [])
/-- rows that came back go on under a new name -/
def renR : List (Nat × Nat) → Slot → Slot
  | [], x => x
  | (q, n) :: l, .root q' => cond (Nat.beq q' q) (.root n) (renR l (.root q'))
  | (q, n) :: l, .droot q' => cond (Nat.beq q' q) (.droot n) (renR l (.droot q'))
  | _ :: _, x => x
def renS (l : List (Nat × Nat)) : Slot → Slot
  | .agg k xs => .agg k (xs.map (renR l))
  | x => renR l x
/-- and in what variables hold -/
def renN (l : List (Nat × Nat)) : Option Node → Option Node
  | some (.var k c) => some (.var k (renS l c))
  | x => x
def St.ren (st : St) : List (Nat × Nat) → St
  | [] => st
  | l => { st with slots := fun t => renS l (st.slots t), nodes := fun q => renN l (st.nodes q) }
/-- a result in which there is no memory -/
def stillRes : (r : RS) → r.T → List Slot
  | .val k, v => [.val k v]
  | .own _ _, _ => []
  | .deep _ _ _, _ => []
  | .pair a b, v => stillRes a v.1 ++ stillRes b v.2
  | .agg a, v => [.agg (.struct a.kind) (stillRes a v)]
  | .tup a, v => [.tup (stillRes a v)]
  | .back _ _ _ _, _ => []
  | .dback _ _ _ _ _, _ => []
  | .nil, _ => []

def elemB (n : Nat) : List Nat → Bool
  | [] => false | m :: l => cond (Nat.beq n m) true (elemB n l)
/-- what is told of a function: its types, the functions that it calls -/
structure Ctx where
  kd : Nat → Kind
  fn : Nat → Option Fn
  most : Nat → Nat   -- by type of a slice: how many elements at most
  elem : Nat → Nat   -- by type of a slice: its elements' type
  eqs : Nat → Bool   -- types of structs and arrays that compare by their parts
  dp : Nat → Option (List Nat) := fun _ => none   -- types of slices that are deep rows: their elements' slices' types
  mp : Nat → Option (Nat × Nat) := fun _ => none   -- types of maps: their keys' and elements' types
  fx : List Nat := []   -- parameters that are never assigned: rows that are given back
  ld : List Nat := []   -- function literals that are lent: they look at rows of the call's own
  pf : Nat → Option PFn := fun _ => none   -- functions that are handed a pointer to a struct, and turn it
  more : Nat → List Fn := fun _ => []   -- a function that is told more than once: by the function values that it takes

/-- an array of rows -/
def arrD (cx : Ctx) (t : Nat) : Bool := match cx.kd t with
  | .arr _ (.slice _) => (cx.dp t).isSome
  | _ => false
def constS : Value → Slot
  | .bool b => .val .bool b
  | .int k n => .val (.int k) n
  | .string s => .val .str s
  | .slice none 0 0 => .nils
  | _ => .dead
def evalS (st : St) : Operand → Slot
  | .tmp t => st.slots t
  | .const v => constS v
  | .global _ => .dead
  | .func f => .val (.clo f .unit) ()

def hasSlice : Kind → Bool
  | .slice _ => true | .pair a b => hasSlice a || hasSlice b | .struct a => hasSlice a | .arr _ e => hasSlice e | _ => false
/-- a variable's first content -/
def zeroB : Kind → Slot × List Slot
  | .slice _ => (.nils, [.nils])
  | .pair a b => (.dead, (zeroB a).1 :: (zeroB b).2)
  | .unit => (.dead, [])
  | .struct a => (fun s => (s, [s])) (cond (hasSlice a) (.agg (.struct a) (zeroB a).2) (.val (.struct a) (zeroT a)))
  | .clo _ _ => (.dead, [.dead])
  | .ref _ => (.dead, [.dead])
  | .mpk _ _ => (.dead, [.dead])
  | .mbx _ _ => (.dead, [.dead])
  | .recB _ _ _ => (.dead, [.dead])
  | .err => (.dead, [.dead])
  | .arr n e => (fun s => (s, [s])) (cond (hasSlice e) .dead (.val (.arr n e) (List.replicate n (zeroT e))))
  | k => (.val k (zeroT k), [.val k (zeroT k)])
def wfB : Kind → Bool × Bool
  | .pair a b => (false, (wfB a).1 && (wfB b).2 && (match b with | .unit => false | _ => true))
  | .unit => (false, true)
  | .struct a => ((wfB a).2, (wfB a).2)
  | .arr _ e => ((wfB e).1, (wfB e).1)
  | .int _ | .bool | .str | .slice _ | .fnk => (true, true)
  | _ => (false, false)
def zeroS (k : Kind) : Slot := (zeroB k).1
def zeroF (k : Kind) : List Slot := (zeroB k).2

def wrapK (k : IntKind) (n : Int) : Int := if k = .i64 then RowKit.wrap64 n else k.wrap n

/-- a part of what a slot holds -/
def getP : List Nat → Slot → Option Slot
  | [], x => some x
  | f :: p, .val k v => (match projs (f :: p) ⟨k, v⟩ with | some ⟨k', v'⟩ => some (.val k' v') | none => none)
  | f :: p, .agg _ l => (match l[f]? with | some x => getP p x | none => none)
  | _ :: _, _ => none
/-- a struct's value, field by field -/
def explode : (a : Kind) → a.T → List Slot
  | .pair a b, v => .val a v.1 :: explode b v.2
  | .unit, _ => []
  | k, v => [.val k v]
def exB : Kind → Bool
  | .pair a b => (aggB a || Nat.beq (width a) 1) && exB b
  | .unit => false
  | k => aggB k || Nat.beq (width k) 1
def setP : List Nat → Kind → Slot → Slot → Option Slot
  | [], k, y, _ => if fits k y then some y else none
  | f :: p, _, y, .val k v => (match y with
    | .val ky w => (match upds (f :: p) ⟨ky, w⟩ k v with | some v' => some (.val k v') | none => none)
    | .prop q d => (match upds (f :: p) ⟨.bool, @decide q d⟩ k v with | some v' => some (.val k v') | none => none)
    | y => (match k, v with
      | .struct a, v => cond (exB a) (match (explode a v)[f]?, fieldOff a f with
        | some x, some (_, k') => (match setP p k' y x with | some x' => some (.agg (.struct a) ((explode a v).set f x')) | none => none)
        | _, _ => none) none
      | _, _ => none))
  | f :: p, _, y, .agg (.struct a) l => (match l[f]?, fieldOff a f with
    | some x, some (_, k') => (match setP p k' y x with | some x' => some (.agg (.struct a) (l.set f x')) | none => none)
    | _, _ => none)
  | _ :: _, _, _, _ => none

/-- a struct's fields, some of them given -/
def buildF (a : Kind) : List Slot → List (Nat × Slot) → Option (List Slot)
  | fs, [] => some fs
  | fs, (i, x) :: ps => (match fieldOff a i with
    | some (_, k) => cond (fits k x) (buildF a (fs.set i x) ps) none
    | none => none)
def justVal (x : Slot) (k : Kind) : Option k.T := match x with | .val k' v => cast? k' k v | .prop p d => cast? .bool k (@decide p d) | _ => none
def bt (s : ByteArray) (i : Int) : Int := if h : i.toNat < s.size then ((s[i.toNat]'h).toNat : Int) else 0
def catP : List Nat → Nat → List Nat
  | [], f => [f] | x :: p, f => x :: catP p f
theorem catP_eq : ∀ (p : List Nat) (f : Nat), catP p f = p ++ [f]
  | [], _ => rfl
  | x :: p, f => by rw [catP, catP_eq p f]; rfl
/-- a part of an element stored: kept so by the print -/
def upDef (e : Kind) (path : List Nat) (k : Kind) (y : k.T) (l : List e.T) (i : Int) : List e.T := match upds path ⟨k, y⟩ e (rdT e l i) with | some z => l.set i.toNat z | none => l
noncomputable def upBox : {f : (e : Kind) → List Nat → (k : Kind) → k.T → List e.T → Int → List e.T // f = upDef} := Classical.choice ⟨⟨upDef, rfl⟩⟩
noncomputable def upAt (e : Kind) (path : List Nat) (k : Kind) (y : k.T) (l : List e.T) (i : Int) : List e.T := upBox.1 e path k y l i
theorem upAt_def (e : Kind) (path : List Nat) (k : Kind) (y : k.T) (l : List e.T) (i : Int) : upAt e path k y l i = match upds path ⟨k, y⟩ e (rdT e l i) with | some z => l.set i.toNat z | none => l := by
  unfold upAt
  rw [upBox.2]
  rfl
noncomputable def setAt (e : Kind) (path : List Nat) (k : Kind) (y : k.T) (l : List e.T) (i : Int) (z : e.T) : List e.T := match path with | [] => l.set i.toNat z | f :: p => upAt e (f :: p) k y l i
theorem setAt_eq {e : Kind} {path : List Nat} {k : Kind} {y : k.T} {l : List e.T} {i : Int} {z : e.T} (h : upds path ⟨k, y⟩ e (rdT e l i) = some z) : setAt e path k y l i z = l.set i.toNat z := by
  unfold setAt
  split
  · rfl
  · rw [upAt_def, h]
/-- a part of a row made zero -/
def clrT (e : Kind) (l : List e.T) (lo hi : Int) : List e.T := l.take lo.toNat ++ (List.replicate (hi - lo).toNat (zeroT e) ++ l.drop hi.toNat)
def lessS (a b : ByteArray) : Bool := Op.bytesLess a.toList b.toList
def sameS (a b : ByteArray) : Bool := decide (a = b)
def catS (a b : ByteArray) : ByteArray := ⟨⟨a.data.toList ++ b.data.toList⟩⟩
theorem catS_eq (a b : ByteArray) : catS a b = a ++ b := by
  apply ByteArray.ext
  apply Array.toList_inj.1
  simp [catS]
def addS (op : BinOp) (x y : Slot) : Option (ByteArray × ByteArray) :=
  match op, x, y with
  | .add, .val .str a, .val .str b => some (a, b)
  | _, _, _ => none
def binS (op : BinOp) (x y : Slot) : Option Slot :=
  match op, x, y with
  | .add, .val (.int k) a, .val (.int k') b => if k = k' then some (.val (.int k) (wrapK k (HAdd.hAdd (α := Int) (β := Int) (γ := Int) a b))) else none
  | .sub, .val (.int k) a, .val (.int k') b => if k = k' then some (.val (.int k) (wrapK k (HSub.hSub (α := Int) (β := Int) (γ := Int) a b))) else none
  | .mul, .val (.int k) a, .val (.int k') b => if k = k' then some (.val (.int k) (wrapK k (HMul.hMul (α := Int) (β := Int) (γ := Int) a b))) else none
  | .lss, .val (.int k) a, .val (.int k') b => if k = k' then some (.prop (LT.lt (α := Int) a b) inferInstance) else none
  | .leq, .val (.int k) a, .val (.int k') b => if k = k' then some (.prop (LE.le (α := Int) a b) inferInstance) else none
  | .gtr, .val (.int k) a, .val (.int k') b => if k = k' then some (.prop (LT.lt (α := Int) b a) inferInstance) else none
  | .geq, .val (.int k) a, .val (.int k') b => if k = k' then some (.prop (LE.le (α := Int) b a) inferInstance) else none
  | .eql, .val (.int k) a, .val (.int k') b => if k = k' then some (.prop (Eq (α := Int) a b) inferInstance) else none
  | .neq, .val (.int k) a, .val (.int k') b => if k = k' then some (.prop (¬ Eq (α := Int) a b) inferInstance) else none
  | .eql, .val .str a, .val .str b => some (.prop (Eq (α := ByteArray) a b) inferInstance)
  | .neq, .val .str a, .val .str b => some (.prop (¬ Eq (α := ByteArray) a b) inferInstance)
  | .lss, .val .str a, .val .str b => some (.val .bool (lessS a b))
  | .leq, .val .str a, .val .str b => some (.val .bool (lessS a b || sameS a b))
  | .gtr, .val .str a, .val .str b => some (.val .bool (!(lessS a b || sameS a b)))
  | .geq, .val .str a, .val .str b => some (.val .bool (!(lessS a b)))
  | _, _, _ => none
def notS : Slot → Option Slot
  | .prop p d => some (.prop (¬ p) (@instDecidableNot p d))
  | .val .bool b => some (.val .bool (!b))
  | _ => none
/-- split by a Bool -/
def split {R : Type} (x : Slot) (A B : Option R) : Option R :=
  match x with
  | .val .bool b => if (b : Bool) = true then A else B
  | .prop p d => @ite _ p d A B
  | _ => none
def known (st : St) (t : Nat) (b : Bool) : St := st.put (some t) (.val .bool b)

/-- equal one by one -/
def eqL {α : Type} (f : α → α → Bool) : List α → List α → Bool
  | [], [] => true
  | a :: l, b :: m => f a b && eqL f l m
  | _, _ => false
/-- equal by parts -/
def eqT : (k : Kind) → k.T → k.T → Bool
  | .unit, _, _ => true
  | .int _, a, b => decide (Eq (α := Int) a b)
  | .bool, a, b => decide (Eq (α := Bool) a b)
  | .str, a, b => decide (Eq (α := ByteArray) a b)
  | .pair k l, a, b => eqT k a.1 b.1 && eqT l a.2 b.2
  | .struct k, a, b => eqT k a b
  | .arr _ e, a, b => eqL (eqT e) a b
  | _, _, _ => false
def boolS : Slot → Option Bool
  | .val .bool b => some b
  | .prop p d => some (@decide p d)
  | _ => none
def bitsI (op : BinOp) (k : IntKind) (x y : Int) : Int :=
  let a := BitVec.ofInt k.bits x
  let b := BitVec.ofInt k.bits y
  match op with
  | .and => k.wrap (a &&& b).toNat
  | .or => k.wrap (a ||| b).toNat
  | .xor => k.wrap (a ^^^ b).toNat
  | _ => k.wrap (a &&& ~~~b).toNat
def shiftI (op : BinOp) (k : IntKind) (x y : Int) : Int :=
  match op with | .shl => k.wrap (x * 2 ^ (min y.toNat k.bits)) | _ => x.fdiv (2 ^ (min y.toNat k.bits))
/-- captures with one put back in its place -/
def insC : Nat → (c : Kind) → Sigma Kind.T → c.T → Option (Sigma Kind.T)
  | 0, c, x, v => some ⟨.pair x.1 c, (x.2, v)⟩
  | p + 1, .pair a b, x, v => cond (Nat.beq (width a) 1) (match insC p b x v.2 with | some y => some ⟨.pair a y.1, (v.1, y.2)⟩ | none => none) none
  | _ + 1, _, _, _ => none
/-- an error beside nil -/
def nilE (cx : Ctx) (t : Nat) (y : Operand) (x : Slot) : Option Bool := match y, x with
  | .const .nilIface, .val .err b => if cx.kd t = .err then some b else none
  | _, _ => none
/-- more operators -/
def moreB {R : Type} (cx : Ctx) (op : BinOp) (t : Nat) (x y : Slot) (C : Slot → Option R) : Option R :=
  match boolS x, boolS y with
  | some a, some b => (match cx.kd t with
    | .bool => (match op with
      | .eql => C (.prop (Eq (α := Bool) a b) inferInstance)
      | .neq => C (.prop (¬ Eq (α := Bool) a b) inferInstance)
      | _ => none)
    | _ => none)
  | _, _ =>
  match x, y with
  | .val (.int k) a, .val (.int k') b => (match op with
    | .quo => if k = k' then (if Eq (α := Int) b 0 then none else C (.val (.int k) (k.wrap (Int.tdiv a b)))) else none
    | .rem => if k = k' then (if Eq (α := Int) b 0 then none else C (.val (.int k) (Int.tmod a b))) else none
    | .and | .or | .xor | .andNot => if k = k' then C (.val (.int k) (bitsI op k a b)) else none
    | .shl | .shr => if LT.lt (α := Int) b 0 then none else C (.val (.int k) (shiftI op k a b))
    | _ => none)
  | _, _ => cond (cx.eqs t && aggB (cx.kd t)) (match justVal x (cx.kd t), justVal y (cx.kd t) with
    | some a, some b => (match op with
      | .eql => C (.val .bool (eqT (cx.kd t) a b))
      | .neq => C (.val .bool (!eqT (cx.kd t) a b))
      | _ => none)
    | _, _ => none) none

/-! maps, told by their entries in the order in which they came -/
def mfind (kk kv : Kind) : List (kk.T × kv.T) → kk.T → Option kv.T
  | [], _ => none
  | p :: l, k => cond (eqT kk k p.1) (some p.2) (mfind kk kv l k)
def mgetT (kk kv : Kind) (l : List (kk.T × kv.T)) (k : kk.T) : kv.T := (mfind kk kv l k).getD (zeroT kv)
def mhasT (kk kv : Kind) (l : List (kk.T × kv.T)) (k : kk.T) : Bool := (mfind kk kv l k).isSome
def mputT (kk kv : Kind) : List (kk.T × kv.T) → kk.T → kv.T → List (kk.T × kv.T)
  | [], k, v => [(k, v)]
  | p :: l, k, v => cond (eqT kk k p.1) ((k, v) :: l) (p :: mputT kk kv l k v)
def keyK : Kind → Bool | .int _ | .str => true | _ => false
def elemK : Kind → Bool | .int _ | .str | .bool => true | _ => false
/-- bytes told as a text, a text as bytes -/
def bytesOf (l : List Int) : ByteArray := ⟨(l.map fun n => UInt8.ofNat n.toNat).toArray⟩
def byteL (s : ByteArray) : List Int := s.data.toList.map fun b => (b.toNat : Int)

/-- how long a deep row is -/
def lenD : Node → Option (Kind × Nat)
  | .deep _ e _ l => some (e, l.length)
  | .hole _ e _ l _ _ => some (e, l.length)
  | _ => none
section
variable {R : Type} (cx : Ctx) (st : St)
def onInt (x : Slot) (C : Int → Option R) : Option R := match x with | .val (.int .i64) n => C n | _ => none
def boundE (y : Option Operand) (C : Option Int → Option R) : Option R := match y with | none => C none | some y => onInt (evalS st y) fun i => C (some i)
def cutE (lo hi : Option Int) (n : Int) (C : Int → Int → Option R) : Option R :=
  match hi with
  | none => (match lo with | none => C 0 n | some l => if 0 ≤ l then (if l ≤ n then C l n else none) else none)
  | some h => if 0 ≤ h then (if h ≤ n then (match lo with | none => C 0 h | some l => if 0 ≤ l then (if l ≤ h then C l h else none) else none) else none) else none
/-- an element of a deep row told field by field -/
def partS (r : Nat) (i : Int) : (a : Kind) → Nat → Nat → a.T → List Slot
  | .pair (.slice _) b, f, j, v => .part r i f j :: partS r i b (Nat.succ f) (Nat.succ j) v.2
  | .pair a b, f, j, v => .val a v.1 :: partS r i b (Nat.succ f) j v.2
  | .slice _, f, j, _ => [.part r i f j]
  | .unit, _, _, _ => []
  | k, _, _, v => [.val k v]
/-- operations that leave memory alone: what they yield -/
def softC (op : Op) (C : Slot → Option R) : Option R :=
  let ev := evalS st
  let ret (x : Option Slot) : Option R := match x with | some x => C x | none => none
  match op with
  | .move x | .assign x => C (ev x)
  | .pick c a b => split (ev c) (C (ev a)) (C (ev b))
  | .build t ps =>
    (match cx.kd t with
    | .struct a =>
      (match buildF a (zeroF a) (ps.toList.map fun q => (q.1, ev q.2)) with
      | some fs => (match fieldsT justVal a fs with
        | some v => C (.val (.struct a) v)
        | none => C (.agg (.struct a) fs))
      | none => none)
    | .arr n e => (match ps.toList with | [] => cond (hasSlice e) (C (.zero (.arr n e))) (C (.val (.arr n e) (List.replicate n (zeroT e)))) | _ => none)
    | _ => none)
  | .load t p => cond (plain (cx.kd t))
    (match ev p with
    | .box b path => (match st.nodes b with
      | some (.var k c) => (match pathOff k path with
        | some (_, k') => if k' = cx.kd t then ret (getP path c) else none
        | none => none)
      | _ => none)
    | .elem r i path => (match st.nodes r with
      | some (.row _ e l) => (match projs path ⟨e, rdT e l i⟩ with
        | some ⟨k', v⟩ => if k' = cx.kd t then C (.val k' v) else none
        | none => none)
      | _ => none)
    | .delem r e0 i path => (match st.nodes r with
      | some (.deep _ e _ l) => if e0 = e then cond (flat (cx.kd t)) (match projs path ⟨e, rdT e l i⟩ with
        | some ⟨k', v⟩ => if k' = cx.kd t then C (.val k' v) else none
        | none => none) (match path, e with
        | [f], .struct a => (match fieldOff a f with
          | some (_, .slice e') => if .slice e' = cx.kd t then C (.part r i f (rankP a f)) else none
          | _ => none)
        | [], .struct a => if .struct a = cx.kd t then C (.agg (.struct a) (partS r i a 0 0 (rdT (.struct a) l i))) else (match a with
          | .slice e' => if .slice e' = cx.kd t then C (.part r i 0 0) else none
          | _ => none)
        | _, _ => none) else none
      | _ => none)
    | .val (.ref k) v => if k = cx.kd t then C (.val k v) else none
    | .val (.recB g p c) v => if Kind.fnk = cx.kd t then (match insC p c ⟨.recB g p c, v⟩ v with | some ⟨c', v'⟩ => C (.val (.clo g c') v') | none => none) else none
    | .cell b i => (match st.nodes b with
      | some (.var (.arr n e) c) => (match justVal c (.arr n e) with
        | some l => if e = cx.kd t then C (.val e (rdT e l i)) else none
        | none => none)
      | _ => none)
    | _ => none) (match p, cx.kd t with | .global _, .struct .unit => C (.val (.struct .unit) ()) | _, _ => none)
  | .fieldAddr t p f =>
    (match ev p with
    | .box b path => (match st.nodes b with
      | some (.var k _) => (match pathOff k path with
        | some (_, k') => if k' = cx.kd t then (match pathOff k (path ++ [f]) with | some _ => C (.box b (catP path f)) | none => none) else none
        | none => none)
      | _ => none)
    | .elem r i path => (match st.nodes r with
      | some (.row _ e _) => (match pathOff e path with
        | some (_, k') => if k' = cx.kd t then (match pathOff e (path ++ [f]) with | some _ => C (.elem r i (catP path f)) | none => none) else none
        | none => none)
      | _ => none)
    | .delem r e i path => (match st.nodes r with
      | some (.deep _ _ _ _) => (match pathOff e path with
        | some (_, k') => if k' = cx.kd t then (match pathOff e (path ++ [f]) with | some _ => C (.delem r e i (catP path f)) | none => none) else none
        | none => none)
      | _ => none)
    | .val (.ref k) v => if k = cx.kd t then (match proj k f v with | some ⟨k', v'⟩ => C (.val (.ref k') v') | none => none) else none
    | _ => none)
  | .field t x f =>
    (match ev x with
    | .val k v => if k = cx.kd t then (match proj k f v with | some ⟨k', v'⟩ => C (.val k' v') | none => none) else none
    | .agg k l => if k = cx.kd t then ret l[f]? else none
    | _ => none)
  | .indexAddr t x i => onInt (ev i) fun i =>
    (match ev x with
    | .val (.slice e) l => if .slice e = cx.kd t then (if 0 ≤ i then (if i < (List.length l : Int) then C (.val (.ref e) (rdT e l i)) else none) else none) else none
    | .root r => (match st.nodes r with
      | some (.row _ e l) => if .slice e = cx.kd t then (if 0 ≤ i then (if i < (l.length : Int) then C (.elem r i []) else none) else none) else none
      | _ => none)
    | .droot r => (match st.nodes r with
      | some nd => (match lenD nd, cx.kd t with
        | some ⟨e, len⟩, .slice e0 => if e = dk e0 then (if 0 ≤ i then (if i < (len : Int) then C (.delem r e i []) else none) else none) else none
        | _, _ => none)
      | none => none)
    | .delem r e i0 [] => (match st.nodes r with
      | some nd => (match lenD nd, cx.kd t with
        | some ⟨_, len⟩, .arr n e0 => if e = dk e0 then (if i0 = 0 then (if len = n then (if 0 ≤ i then (if i < (n : Int) then C (.delem r e i []) else none) else none) else none) else none) else none
        | _, _ => none)
      | none => none)
    | .sub r lo hi => (match st.nodes r with
      | some (.row _ e _) => if .slice e = cx.kd t then (if 0 ≤ i then (if i < hi - lo then C (.elem r (lo + i) []) else none) else none) else none
      | _ => none)
    | .box b [] => (match st.nodes b with
      | some (.var (.arr n e) _) => if .arr n e = cx.kd t then (if 0 ≤ i then (if i < (n : Int) then C (.cell b i) else none) else none) else none
      | _ => none)
    | _ => none)
  | .index t x i => onInt (ev i) fun i =>
    (match ev x with
    | .val .str s => if .str = cx.kd t then (if 0 ≤ i then (if i < (ByteArray.size s : Int) then C (.val (.int .u8) (bt s i)) else none) else none) else none
    | .val (.arr n e) l => if .arr n e = cx.kd t then (if 0 ≤ i then (if i < (n : Int) then C (.val e (rdT e l i)) else none) else none) else none
    | _ => none)
  | .slice t x lo hi mx =>
    (match mx with
    | some _ => none
    | none =>
      boundE st lo fun lo => boundE st hi fun hi =>
      (match ev x with
      | .val .str s => if .str = cx.kd t then cutE lo hi (ByteArray.size s : Int) (fun l h => C (.val .str (ByteArray.extract s l.toNat h.toNat))) else none
      | .val (.slice e) s => if .slice e = cx.kd t then cutE lo hi (List.length s : Int) (fun l h => C (.val (.slice e) ((List.take h.toNat s).drop l.toNat))) else none
      | .root r => (match st.nodes r with
        | some (.row _ e l) => if .slice e = cx.kd t then cutE lo hi (l.length : Int) (fun a b => C (.sub r a b)) else none
        | _ => none)
      | _ => none))
  | .binOp op t x y _ =>
    (match addS op (ev x) (ev y) with
    | some (a, b) => if ByteArray.size a + ByteArray.size b ≤ 9223372036854775807 then C (.val .str (catS a b)) else none
    | none => (match binS op (ev x) (ev y) with | some x => C x | none => (match nilE cx t y (ev x) with
      | some b => (match op with | .eql => C (.val .bool (!b)) | .neq => C (.val .bool b) | _ => none)
      | none => moreB cx op t (ev x) (ev y) C)))
  | .unOp .not _ x => ret (notS (ev x))
  | .nilCheck x => (match ev x with
    | .val (.ref k) v => C (.val (.ref k) v)
    | .box b path => (match st.nodes b with | some (.var _ _) => C (.box b path) | _ => none)
    | _ => none)
  | .unOp .neg _ x => (match ev x with | .val (.int k) a => C (.val (.int k) (wrapK k (HSub.hSub (α := Int) (β := Int) (γ := Int) 0 a))) | _ => none)
  | .convert s d x => (match cx.kd s, cx.kd d with
    | .int _, .int k => (match ev x with | .val (.int _) a => C (.val (.int k) (IntKind.wrap k a)) | _ => none)
    | .slice (.int .u8), .str => (match asVal st.nodes 8 (ev x) (.slice (.int .u8)) with | some l => C (.val .str (bytesOf l)) | none => none)
    | _, _ => none)
  | .lookup t x i ok => (match cx.mp t with
    | some (kt, et) => (match ev x with
      | .mref r => (match st.nodes r with
        | some (.mp kk kv l) => if kk = cx.kd kt then (if kv = cx.kd et then (match justVal (ev i) kk with
          | some k => cond ok (C (.tup [.val kv (mgetT kk kv l k), .val .bool (mhasT kk kv l k)])) (C (.val kv (mgetT kk kv l k)))
          | none => none) else none) else none
        | _ => none)
      | .val (.mpk kk kv) l => if kk = cx.kd kt then (if kv = cx.kd et then (match justVal (ev i) kk with
          | some k => cond ok (C (.tup [.val kv (mgetT kk kv l k), .val .bool (mhasT kk kv l k)])) (C (.val kv (mgetT kk kv l k)))
          | none => none) else none) else none
      | _ => none)
    | none => none)
  | .extract x i => (match ev x with | .tup l => ret l[i]? | _ => none)
  | .call { callee := .builtin .len, args, argTypes } =>
    (match args.toList, argTypes.toList with
    | [x], [t] => (match ev x with
      | .val .str s => if .str = cx.kd t then C (.val (.int .i64) (ByteArray.size s : Int)) else none
      | .val (.slice e) l => if .slice e = cx.kd t then C (.val (.int .i64) (List.length l : Int)) else none
      | .nils => (match cx.kd t with | .slice _ => C (.val (.int .i64) (0 : Int)) | _ => none)
      | .root r => (match st.nodes r with | some (.row _ e l) => if .slice e = cx.kd t then C (.val (.int .i64) (l.length : Int)) else none | _ => none)
      | .sub r lo hi => (match st.nodes r with | some (.row _ e l) => if .slice e = cx.kd t then C (.val (.int .i64) (hi - lo)) else none | _ => none)
      | .droot r => (match st.nodes r with | some (.deep _ e _ l) => (match cx.kd t with | .slice e0 => if e = dk e0 then C (.val (.int .i64) (l.length : Int)) else none | _ => none) | _ => none)
      | _ => none)
    | _, _ => none)
  | .call { callee := .builtin .max, args, .. } => (match args.toList with | [x, y] => (match ev x, ev y with | .val (.int k) a, .val (.int _) b => C (.val (.int k) (if (GT.gt (α := Int) b a) then b else a)) | _, _ => none) | _ => none)
  | .call { callee := .builtin .min, args, .. } => (match args.toList with | [x, y] => (match ev x, ev y with | .val (.int k) a, .val (.int _) b => C (.val (.int k) (if (LT.lt (α := Int) b a) then b else a)) | _, _ => none) | _ => none)
  | .call { callee := .value (.func f), args, .. } =>
    (match cx.fn f with
    | some F => cond F.sh.isEmpty (match argsT st.nodes st.nodes F.ps ((args.toList.map ev).map (lendBox st.nodes)) with
      | some v => (F.f v).bind fun r => (match stillRes F.res r with | [x] => C x | _ => none)
      | none => none) none
    | none => none)
  | _ => none
end
/-- whether an operation leaves memory alone -/
def soft (cx : Ctx) : Op → Bool
  | .load t _ => !(arrD cx t)
  | .move _ | .assign _ | .pick .. | .build .. | .fieldAddr .. | .field .. | .indexAddr .. | .index .. | .slice .. | .binOp .. | .unOp .. | .extract .. | .nilCheck .. => true
  | .convert s d _ => (match cx.kd s, cx.kd d with | .int _, .int _ => true | .slice (.int .u8), .str => true | _, _ => false)
  | .lookup .. => true
  | .call { callee := .builtin .len, .. } | .call { callee := .builtin .max, .. } | .call { callee := .builtin .min, .. } => true
  | .call { callee := .value (.func f), .. } => (match cx.fn f with
    | some F => F.res.still && F.ps.all fun p => match p with | .val _ => true | _ => false
    | none => false)
  | _ => false

section
variable {R : Type} (cx : Ctx) (st : St) (o : Oper) (K : St → Option R)
def partsS : List Slot → List (Nat × Slot) → List Slot
  | xs, [] => xs
  | xs, (i, x) :: ps => partsS (xs.set i x) ps
/-- what is laid in a row: its values, the rows in it are no one's from now on -/
def listT (nodes : Nat → Option Node) (e : Kind) : List Slot → Option (List e.T)
  | [] => some []
  | x :: xs => (match asVal nodes 8 x e with | some v => (match listT nodes e xs with | some vs => some (v :: vs) | none => none) | none => none)
def laid {α : Type} (xs : List Slot) (told : (Nat → Option Node) → Option α) (C : α → St → Option R) : Option R :=
  match told st.nodes with
  | some v => (match kills st.nodes (xs.flatMap (roots 8)) with | some nd => C v { st with nodes := nd } | none => none)
  | none => none
/-- a struct given away into a deep row: with the rows that it holds -/
def giveL (nodes : Nat → Option Node) : (a : Kind) → (ts : List Nat) → Slot → Option (a.T × (Nat → Option Node))
  | .slice e, ty :: _, .root q => (match nodes q with
    | some (.row ty' e' l) => if ty = ty' then (match cast? (.slice e') (.slice e) l with | some v => some (v, upd nodes q none) | none => none) else none
    | _ => none)
  | .slice e, _ :: _, .nils => some (([] : List e.T), nodes)
  | .slice _, _, _ => none
  | k, _, x => (match asVal nodes 8 x k with | some v => some (v, nodes) | none => none)
def giveP (nodes : Nat → Option Node) : (a : Kind) → (ts : List Nat) → List Slot → Option (a.T × (Nat → Option Node))
  | .pair a b, ts, x :: xs => (match giveL nodes a ts x with
    | some (v, nd) => (match giveP nd b (ts.drop (nsl a)) xs with | some (w, nd') => some ((v, w), nd') | none => none)
    | none => none)
  | .pair _ _, _, [] => none
  | k, ts, [x] => giveL nodes k ts x
  | _, _, _ => none
def giveE (nodes : Nat → Option Node) : (e : Kind) → (ts : List Nat) → Slot → Option (e.T × (Nat → Option Node))
  | .struct a, ts, .agg k xs => if k = .struct a then giveP nodes a ts xs else none
  | _, _, _ => none
def giveW (nodes : Nat → Option Node) (e : Kind) (ts : List Nat) (k : Kind) (x : Slot) : Option (e.T × (Nat → Option Node)) :=
  if e = k then giveE nodes e ts x else (match e with | .struct (.slice e1) => if .slice e1 = k then giveL nodes (.slice e1) ts x else none | _ => none)
def isZero : Slot → Bool
  | .zero _ => true
  | _ => false
/-- a deep row under a new name -/
def rend (q n : Nat) : Slot → Slot
  | .droot q' => cond (Nat.beq q' q) (.droot n) (.droot q')
  | .delem q' e i p => cond (Nat.beq q' q) (.delem n e i p) (.delem q' e i p)
  | x => x
/-- a node of the operation's own -/
def born (st : St) (x : Node) (y : Nat → Slot) : Option R :=
  match st.make (fresh st.gen o.dst 0) x with
  | some st' => K (st'.put o.dst (y (fresh st.gen o.dst 0)))
  | none => none
def notDeep : Slot → Bool
  | .droot _ => false
  | _ => true
def appendGo (t : Nat) (e : Kind) (y : Slot) (l : List e.T) (st : St) : Option R :=
  match cond (notDeep y) (asVal st.nodes 8 y (.slice e)) none with
  | some m => if l.length + List.length m ≤ cx.most t then born o K st (.row (cx.elem t) e (l ++ m)) .root else none
  | none => none
/-- a text's bytes -/
def appendT (t : Nat) (x : Slot) (s : ByteArray) : Option R :=
  cond (Nat.beq (cx.most t) 140737488355328) (match x with
  | .nils => if 0 + s.size ≤ cx.most t then born o K st (.row (cx.elem t) (.int .u8) (byteL s)) .root else none
  | .root r => (match st.nodes r with
    | some (.row ty e' l) => if ty = cx.elem t then (match cast? (.slice e') (.slice (.int .u8)) l with | some l => if List.length l + s.size ≤ cx.most t then born o K (st.setNode r none) (.row (cx.elem t) (.int .u8) (l ++ byteL s)) .root else none | none => none) else none
    | _ => none)
  | _ => none) none
def appendS (t : Nat) (e : Kind) (x y : Slot) : Option R :=
  match x with
  | .nils => appendGo cx o K t e y [] st
  | .root r => (match st.nodes r with
    | some (.row ty e' l) => if ty = cx.elem t then (match cast? (.slice e') (.slice e) l with | some l => appendGo cx o K t e y l (st.setNode r none) | none => none) else none
    | _ => none)
  | _ => none
def isPart : Slot → Bool
  | .part _ _ _ _ => true
  | _ => false
/-- a row of an element is taken out -/
def takeS (st : St) (d : Option Nat) (t : Nat) : Option St :=
  match st.slots t with
  | .part r i f j => (match st.nodes r with
    | some (.deep ty e ts l) => (match (partsE e (rdT e l i))[j]?, ts[j]? with
      | some ⟨e', v⟩, some ty' => (match ({ st with nodes := upd st.nodes r none } : St).make (fresh st.gen d 15) (.row ty' e' v) with
        | some st1 => (match st1.make (fresh st.gen d 14) (.hole ty e ts l i j) with
          | some st2 => some { st2 with slots := upd (fun t => rend r (fresh st.gen d 14) (st2.slots t)) t (.root (fresh st.gen d 15)) }
          | none => none)
        | none => none)
      | _, _ => none)
    | _ => none)
  | _ => none
/-- a deep row behind another -/
def appendD (t : Nat) (e : Kind) (ts : List Nat) (x y : Slot) : Option R :=
  match y with
  | .droot r2 => (match st.nodes r2 with
    | some (.deep ty2 e2 ts2 l2) => if ty2 = cx.elem t then if ts2 = ts then (match cast? (.slice e2) (.slice e) l2 with
      | some l2 => (match x with
        | .nils => if 0 + List.length l2 ≤ cx.most t then born o K (st.setNode r2 none) (.deep (cx.elem t) e ts ([] ++ l2)) .droot else none
        | .droot r => (match upd st.nodes r2 none r with
          | some (.deep ty1 e1 ts1 l1) => if ty1 = cx.elem t then if ts1 = ts then (match cast? (.slice e1) (.slice e) l1 with
            | some l1 => if List.length l1 + List.length l2 ≤ cx.most t then born o K ((st.setNode r2 none).setNode r none) (.deep (cx.elem t) e ts (l1 ++ l2)) .droot else none
            | none => none) else none else none
          | _ => none)
        | _ => none)
      | none => none) else none else none
    | _ => none)
  | _ => none
/-- what a closure's variables are -/
def closC : (c : Kind) → c.T → Option (List Slot)
  | .unit, _ => some []
  | .pair a b, v => (match closC b v.2 with | some l => cond (Nat.beq (width a) 1 && !aggB a) (some (.val a v.1 :: l)) none | none => none)
  | _, _ => none
def selfBox (nodes : Nat → Option Node) (g : Nat) : Slot → Slot
  | .box b [] => (match nodes b with | some (.var _ (.fn g' l rs)) => cond (Nat.beq g' g) (.fbox b (capAll rs l)) (.box b []) | _ => .box b [])
  | x => x
def calleeS (nodes : Nat → Option Node) : Slot → Option (Nat × List Slot)
  | .val (.clo g c) v => (match closC c v with | some l => some (g, l) | none => none)
  | .fn g l _ => some (g, l.map (selfBox nodes g))
  | _ => none
/-- variables that a literal takes: they stay as they are from there on -/
def capsT (nodes : Nat → Option Node) : List Slot → Option (Sigma Kind.T)
  | [] => some ⟨.unit, ()⟩
  | .box b [] :: l => (match nodes b with
    | some (.var k c) => (match asVal nodes 8 c k, capsT nodes l with | some v, some ⟨c', v'⟩ => some ⟨.pair (.ref k) c', (v, v')⟩ | _, _ => none)
    | _ => none)
  | .val (.ref k) v :: l => (match capsT nodes l with | some ⟨c', v'⟩ => some ⟨.pair (.ref k) c', (v, v')⟩ | none => none)
  | _ => none
def capIds (nodes : Nat → Option Node) : List Slot → List Nat
  | [] => []
  | .box b [] :: l => b :: ((match nodes b with | some (.var _ c) => roots 8 c | _ => []) ++ capIds nodes l)
  | _ :: l => capIds nodes l
/-- the rows in captured variables -/
def capRoots (nodes : Nat → Option Node) : List Slot → List Nat
  | [] => []
  | .box b [] :: l => (match nodes b with | some (.var _ (.root q)) => q :: capRoots nodes l | _ => capRoots nodes l)
  | _ :: l => capRoots nodes l
def closedB (nodes : Nat → Option Node) (ids : List Nat) : Bool := ids.all fun b => match nodes b with | some (.var _ c) => (roots 8 c).all fun q => ids.contains q | _ => true
def iceS (nodes : Nat → Option Node) (ids : List Nat) : Slot → Slot
  | .box b [] => cond (ids.contains b) (match nodes b with | some (.var k c) => (match asVal nodes 8 c k with | some v => .val (.ref k) v | none => .dead) | _ => .dead) (.box b [])
  | x => x
def freeze (st : St) (ids : List Nat) : St := { st with slots := fun t => iceS st.nodes ids (st.slots t), nodes := drops st.nodes ids }
/-- whether the function values that come in are those that a telling is for -/
def fitsF : List PS → List Slot → Bool
  | .val (.clo g _) :: ps, .val (.clo g' _) _ :: xs => cond (Nat.beq g g') (fitsF ps xs) false
  | _ :: ps, _ :: xs => fitsF ps xs
  | _, _ => true
def firstF (xs : List Slot) : List Fn → Option Fn
  | [] => none
  | F :: l => cond (fitsF F.ps xs) (some F) (firstF xs l)
def pickF (f : Nat) (xs : List Slot) : Option Fn :=
  match cx.fn f with
  | some F => some F
  | none => firstF xs (cx.more f)
def noOwn : List PS → Bool
  | [] => true
  | .val _ :: ps => noOwn ps
  | _ :: _ => false
/-- the function that is handed a pointer -/
def pfOf (cx : Ctx) : Operand → Option (Nat × PFn)
  | .func f => (match cx.pf f with | some F => some (f, F) | none => none)
  | _ => none
def growFn (cx : Ctx) (f : Nat) : Bool := match cx.fn f with
  | some F => noOwn F.ps
  | none => (cx.more f).all fun F => noOwn F.ps
/-- an operation that only makes memory -/
def growOp (cx : Ctx) : Op → Bool
  | .alloc _ | .box .. | .buildSlice .. | .makeSlice .. => true
  | .call { callee := .value (.func f), .. } => (pfOf cx (.func f)).isNone && growFn cx f
  | _ => false
/-- a call -/
def callH (f : Nat) (xs0 : List Slot) : Option R :=
  match pickF cx f xs0 with
  | some F => (match flatS F.sh xs0 with
    | some xs => (match takeOwn st.nodes F.ps xs with
      | some nd => (match argsT st.nodes nd F.ps xs with
        | some v => (F.f v).bind fun r => (match layRes (fresh st.gen o.dst 0) st.nodes xs F.res r 0 { st with nodes := behind F nd xs } with
          | some ([x], _, st', rn) => K ((st'.ren rn).put o.dst x)
          | _ => none)
        | none => none)
      | none => none)
    | none => none)
  | none => none
/-- a call of a function that is handed a pointer to a variable, and turns it -/
def callQ (F : PFn) (b : Nat) : Option R :=
  match st.nodes b with
  | some (.var k (.agg k' l)) => if k = F.k then (match takeOwn (upd st.nodes b none) F.ps l with
    | some nd => (match argsT st.nodes nd F.ps l with
      | some v => (F.f v).bind fun r => (match layRes (fresh st.gen o.dst 0) st.nodes [] (.pair F.res (.agg F.out)) r 0 { st with nodes := drops nd (lentA F.ps l) } with
        | some ([x, y], _, st', []) => cond (fits F.k y) (K ((st'.setNode b (some (.var F.k y))).put o.dst x)) none
        | _ => none)
      | none => none)
    | none => none) else none
  | _ => none
/-- a row's front that is stored goes on as a row of its own -/
def frontS (i : Nat) : Slot → Option (Slot × St)
  | .sub r lo hi => if lo = 0 then (match st.nodes r with
    | some (.row ty e l) => (match ({ st with nodes := upd st.nodes r none } : St).make i (.row ty e (l.take hi.toNat)) with
      | some st' => some (.root i, st')
      | none => none)
    | _ => none) else none
  | x => some (x, st)
/-- the argument that is a row of a deep row's element -/
def partAt (st : St) : List PS → List Operand → Option (Nat × Nat × Int × Nat × Nat)
  | .own _ _ :: ps, .tmp t :: xs => (match st.slots t with | .part r i f j => some (t, r, i, f, j) | _ => partAt st ps xs)
  | _ :: ps, _ :: xs => partAt st ps xs
  | _, _ => none
/-- a row of an element, by itself for a while, is put back -/
def closeS (st : St) (t r : Nat) (i : Int) (f j : Nat) (ty : Nat) (e : Kind) (ts : List Nat) (ty' : Nat) (l : List e.T) : Option St :=
  match st.slots t, st.nodes r, st.used r with
  | .root n, none, true => (match st.nodes n with
    | some (.row ty2 e2 v) => if ty2 = ty' then if j = rankE e f then (match upd1 e f ⟨.slice e2, v⟩ (rdT e l i) with
      | some z => some { st with slots := upd st.slots t (.part r i f j), nodes := upd (upd st.nodes n none) r (some (.deep ty e ts (l.set i.toNat z))) }
      | none => none) else none else none
    | _ => none)
  | _, _, _ => none
def callP (f : Nat) (args : List Operand) (ex : List Slot) : Option R :=
  match pickF cx f (args.map (evalS st) ++ ex) with
  | some F => (match partAt st F.ps args with
    | none => callH cx st o K f (args.map (evalS st) ++ ex)
    | some (t, r, i, f', j) => (match st.nodes r with
      | some (.deep ty e ts l) => (match (partsE e (rdT e l i))[j]?, ts[j]? with
        | some ⟨e', v⟩, some ty' => cond (o.dst.any (Nat.beq t)) none (match ({ st with nodes := upd st.nodes r none } : St).make (fresh st.gen o.dst 15) (.row ty' e' v) with
          | some st1 => callH cx { st1 with slots := upd st1.slots t (.root (fresh st.gen o.dst 15)) } o (fun st' => match closeS st' t r i f' j ty e ts ty' l with | some st'' => K st'' | none => none) f (args.map (evalS { st1 with slots := upd st1.slots t (.root (fresh st.gen o.dst 15)) }) ++ ex)
          | none => none)
        | _, _ => none)
      | _ => none))
  | none => none
noncomputable def hardC : Option R :=
  let ev := evalS st
  match o.op with
  | .alloc t => cond (arrD cx t) (match cx.kd t, cx.dp t with
      | .arr n (.slice e), some ts => cond (deepB (.struct (.slice e)) ts && (Nat.ble 1 n && Nat.ble n maxLen)) (born o K st (.deep t (.struct (.slice e)) ts (List.replicate n (zeroT (.struct (.slice e))))) fun r => .delem r (.struct (.slice e)) 0 []) none
      | _, _ => none)
    (if plain (cx.kd t) then born o K st (.var (cx.kd t) (zeroS (cx.kd t))) fun b => .box b [] else none)
  | .load t p => (match cx.kd t, ev p with
    | .arr n (.slice e), .delem r _ i0 [] => (match st.nodes r with
      | some (.deep _ e1 _ l) => if i0 = 0 then (match cast? (.slice e1) (.slice (.struct (.slice e))) l with
        | some l' => if List.length l' = n then K ((st.setNode r none).put o.dst (.val (.arr n (.slice e)) l')) else none
        | none => none) else none
      | _ => none)
    | _, _ => none)
  | .box t x => if plain (cx.kd t) && fits (cx.kd t) (ev x) then born o K st (.var (cx.kd t) (ev x)) fun b => .box b [] else (if cx.kd t = .struct .unit then K (st.put o.dst .dead) else none)
  | .buildSlice t n ps =>
    (match cx.kd t with
    | .slice e =>
      match cx.dp t with
      | some ts => (match ps.toList with
        | [(0, x)] => cond (Nat.beq n 1 && deepB e ts && (wfB e).1 && Nat.ble (width e) 16777216) (match giveE st.nodes e ts (ev x) with
          | some (v, nd) => born o K { st with nodes := nd } (.deep (cx.elem t) e ts [v]) .droot
          | none => none) none
        | [] => cond (Nat.beq n 0 && deepB e ts) (born o K st (.deep (cx.elem t) e ts []) .droot) none
        | _ => none)
      | none =>
      let xs := partsS (List.replicate n (.val e (zeroT e))) (ps.toList.map fun q => (q.1, ev q.2))
      if (wfB e).1 && Nat.ble (Nat.mul n (width e)) 16777216 && ps.toList.all (fun q => Nat.ble (Nat.succ q.1) n && fits e (ev q.2)) then laid st xs (fun nd => listT nd e xs) fun l st => born o K st (.row (cx.elem t) e l) .root else none
    | _ => none)
  | .makeSlice t x y =>
    (match cx.kd t with
    | .slice e => if (wfB e).1 then onInt (ev x) fun n => onInt (ev y) fun m => if m = n then (if 0 ≤ n then (if n ≤ (cx.most t : Int) then match cx.dp t with
      | some ts => cond (deepB (dk e) ts) (born o K st (.deep (cx.elem t) (dk e) ts (List.replicate n.toNat (zeroT (dk e)))) .droot) none
      | none => born o K st (.row (cx.elem t) e (List.replicate n.toNat (zeroT e))) .root else none) else none) else none else none
    | _ => none)
  | .store t p x => cond (plain (cx.kd t))
    (match ev p with
    | .box b path => (match st.nodes b with
      | some (.var k c) => (match pathOff k path with
        | some (_, k') => if k' = cx.kd t then (match frontS st (fresh st.gen o.dst 0) (ev x) with
          | some (y, st1) => (match setP path k y c with | some c' => K ((st1.setNode b (some (.var k c'))).put o.dst .dead) | none => none)
          | none => none) else none
        | none => none)
      | _ => none)
    | .cell b i => (match st.nodes b with
      | some (.var (.arr n e) c) => (match justVal c (.arr n e), justVal (ev x) e with
        | some l, some y => if e = cx.kd t then K ((st.setNode b (some (.var (.arr n e) (.val (.arr n e) (List.set l i.toNat y))))).put o.dst .dead) else none
        | _, _ => none)
      | _ => none)
    | .elem r i path => laid st [ev x] (fun nd => asVal nd 8 (ev x) (cx.kd t)) fun y st =>
      (match st.nodes r with
      | some (.row ty e l) => (match upds path ⟨cx.kd t, y⟩ e (rdT e l i) with
        | some z => K ((st.setNode r (some (.row ty e (setAt e path (cx.kd t) y l i z)))).put o.dst .dead)
        | none => none)
      | _ => none)
    | .delem r e0 i path => (match st.nodes r with
      | some (.deep ty e ts l) => if e0 = e then cond (flat (cx.kd t))
        (match path, asVal st.nodes 8 (ev x) (cx.kd t) with
        | f :: p, some y => (match upds (f :: p) ⟨cx.kd t, y⟩ e (rdT e l i) with
          | some z => K ((st.setNode r (some (.deep ty e ts (setAt e (f :: p) (cx.kd t) y l i z)))).put o.dst .dead)
          | none => none)
        | _, _ => none)
        (match path with
        | [] => cond (isZero (ev x)) (match cx.kd t, ev x with
            | .arr n (.slice e'), .zero k => if k = .arr n (.slice e') then (if e = .struct (.slice e') then (if i = 0 then (if l.length = n then (match ({ st with nodes := upd st.nodes r none } : St).make (fresh st.gen o.dst 0) (.deep ty e ts (List.replicate n (zeroT e))) with
              | some st' => K (({ st' with slots := fun t => rend r (fresh st.gen o.dst 0) (st'.slots t) } : St).put o.dst .dead)
              | none => none) else none) else none) else none) else none
            | _, _ => none)
          (match giveW (upd st.nodes r none) e ts (cx.kd t) (ev x) with
          | some (v, nd) => (match ({ st with nodes := nd } : St).make (fresh st.gen o.dst 0) (.deep ty e ts (l.set i.toNat v)) with
            | some st' => K (({ st' with slots := fun t => rend r (fresh st.gen o.dst 0) (st'.slots t) } : St).put o.dst .dead)
            | none => none)
          | none => none)
        | _ => none) else none
      | some (.hole ty e ts l i' _) => if e0 = e then (if i = i' then cond (flat (cx.kd t)) none (match path with
        | [] => (match giveW (upd st.nodes r none) e ts (cx.kd t) (ev x) with
          | some (v, nd) => (match ({ st with nodes := nd } : St).make (fresh st.gen o.dst 0) (.deep ty e ts (l.set i.toNat v)) with
            | some st' => K (({ st' with slots := fun t => rend r (fresh st.gen o.dst 0) (st'.slots t) } : St).put o.dst .dead)
            | none => none)
          | none => none)
        | _ => none) else none) else none
      | _ => none)
    | _ => none) none
  | .call { callee := .builtin .append, args, argTypes } =>
    (match args.toList, argTypes.toList with
    | [x, y], [t, t'] =>
      if t = t' then
      (match cx.kd t with
      | .slice e => match cx.dp t with
        | some ts => appendD cx st o K t e ts (ev x) (ev y)
        | none => (match x with
          | .tmp s => cond (isPart (st.slots s)) (cond (o.dst.any (Nat.beq s)) none (match takeS st o.dst s with
            | some st1 => appendS cx st1 o K t e (evalS st1 x) (evalS st1 y)
            | none => none)) (appendS cx st o K t e (ev x) (ev y))
          | _ => appendS cx st o K t e (ev x) (ev y))
      | _ => none) else (match cx.kd t, cx.kd t', ev y with | .slice (.int .u8), .str, .val .str s => appendT cx st o K t (ev x) s | _, _, _ => none)
    | _, _ => none)
  | .call { callee := .builtin .clear, args, argTypes } =>
    (match args.toList, argTypes.toList with
    | [x], [t] => (match cx.kd t, ev x with
      | .slice e, .sub r lo hi => (match st.nodes r with
        | some (.row ty e' l) => if e = e' then cond (wfB e).1 (K ((st.setNode r (some (.row ty e' (clrT e' l lo hi)))).put o.dst .dead)) none else none
        | _ => none)
      | _, _ => none)
    | _, _ => none)
  | .makeFunc (.func g) first caps => cond (elemB g cx.ld && first.isEmpty) (K (st.put o.dst (.fn g (caps.toList.map ev) (capRoots st.nodes (caps.toList.map ev))))) <|
    (match first.toList, capsT st.nodes (caps.toList.map ev) with
    | [], some ⟨c, v⟩ => cond (closedB st.nodes (capIds st.nodes (caps.toList.map ev))) (K ((freeze st (capIds st.nodes (caps.toList.map ev))).put o.dst (.val (.clo g c) v))) none
    | _, _ => none)
  | .call { callee := .value x, args, .. } =>
    (match pfOf cx x with
    | some (_, F) => (match args.toList.map ev with | [.box b []] => callQ st o K F b | _ => none)
    | none => (match calleeS st.nodes (ev x) with
      | some (f, ex) => callP cx st o K f args.toList ex
      | none => none))
  | .convert s d x => (match cx.kd s, cx.kd d, ev x with
    | .str, .slice (.int .u8), .val .str v => K (st.put o.dst (.val (.slice (.int .u8)) (byteL v)))
    | _, _, _ => none)
  | .makeMap t none => (match cx.mp t with
    | some (kt, et) => if keyK (cx.kd kt) && elemK (cx.kd et) then born o K st (.mp (cx.kd kt) (cx.kd et) []) .mref else none
    | none => none)
  | .mapUpdate t x i y => (match cx.mp t with
    | some (kt, et) => (match ev x with
      | .mref r => (match st.nodes r with
        | some (.mp kk kv l) => if kk = cx.kd kt then (if kv = cx.kd et then (match justVal (ev i) kk, justVal (ev y) kv with
          | some k, some v => K ((st.setNode r (some (.mp kk kv (mputT kk kv l k v)))).put o.dst .dead)
          | _, _ => none) else none) else none
        | _ => none)
      | _ => none)
    | none => none)
  | _ => none
/-- what an operation does; then K -/
noncomputable def opS : Option R := cond (soft cx o.op) (softC cx st o.op fun x => K (st.put o.dst x)) (hardC cx st o K)
end

/-- a region, in the order of the text -/
noncomputable def regionS {R : Type} (cx : Ctx) (all : Array Oper) : List Oper → St → (St → Option R) → Option R
  | [], st, K => K st
  | o :: l, st, K =>
    match o.guard with
    | none => opS cx st o fun st => regionS cx all l st K
    | some (j, want) =>
      (match (all[j]?).bind (·.dst) with
      | none => none
      | some g =>
        let run (b : Bool) : Option R :=
          cond (b == want) (opS cx (known st g b) o fun st => regionS cx all l st K) (regionS cx all l ((known st g b).put o.dst .undef) K)
        (match st.slots g with
        | .undef => regionS cx all l (st.put o.dst .undef) K
        | x => split x (run true) (run false)))

/-- the operations at the head that only read -/
def softPre (cx : Ctx) : List Oper → Nat
  | [] => 0
  | o :: l => cond (soft cx o.op) (Nat.succ (softPre cx l)) 0
/-- a region that draws its order: one whose operations only read; one whose head does so; else what only reads, and waits for nothing else, is taken first -/
def quietB (cx : Ctx) (ops : Array Oper) : Bool := ops.toList.all (fun o => soft cx o.op) && Region.lexB .any ops
def headTailB (cx : Ctx) (ops : Array Oper) : Bool := Region.lexTailB .any ops (softPre cx ops.toList)
def floatsL (cx : Ctx) (ops : Array Oper) : List Nat → List Nat → List Nat
  | [], acc => acc
  | i :: l, acc => (match ops[i]? with
    | some o => cond (o.guard.isNone && soft cx o.op && o.after.toList.all fun e => !Region.binds .any e || acc.contains e.on) (floatsL cx ops l (acc ++ [i])) (floatsL cx ops l acc)
    | none => acc)
def floatH (cx : Ctx) (ops : Array Oper) : List Nat := floatsL cx ops (List.range ops.size) []
def floatT (cx : Ctx) (ops : Array Oper) : List Nat := (List.range ops.size).filter fun i => !(floatH cx ops).contains i
def pickL (ops : Array Oper) (l : List Nat) : List Oper := l.filterMap fun i => ops[i]?
def reachB (ops : Array Oper) : Nat → Nat → Nat → Bool
  | 0, _, _ => false
  | f + 1, j, i => match ops[j]? with
    | some o => o.after.any fun e => Region.binds .any e && (e.on == i || reachB ops f e.on i)
    | none => false
/-- what a reading operation reads: 2 no memory; 1 a variable of the call's own; 0 any -/
def floatK (R : Bool) : Op → Nat
  | .move _ | .assign _ | .extract .. | .slice .. => 2
  | .fieldAddr .. => cond R 2 0
  | .load .. => cond R 1 0
  | _ => 0
/-- taken first, it must be seen to read no more -/
def looseB (st : St) : Op → Bool
  | .load _ p | .fieldAddr _ p _ => (match evalS st p with | .box .. => true | _ => false)
  | _ => true
def appendB : Op → Bool
  | .call { callee := .builtin .append, .. } => true
  | _ => false
def buildB : Op → Bool
  | .buildSlice .. => true
  | _ => false
/-- whether rows may be written while a reading operation is still to come -/
def looseR (cx : Ctx) (ops : Array Oper) (H T : List Nat) : Bool := T.any fun j => match ops[j]? with | some o => appendB o.op && H.any (fun i => !reachB ops ops.size j i) | none => false
/-- every operation that appends waits for it -/
def boundB (ops : Array Oper) (i : Nat) : Bool := (List.range ops.size).all fun j => match ops[j]? with | some o => !(appendB o.op) || reachB ops ops.size j i | none => true
def kindOf (ops : Array Oper) (R : Bool) (i : Nat) : Nat := match ops[i]? with | some o => floatK (R && !(boundB ops i)) o.op | none => 0
def floatTailB (cx : Ctx) (ops : Array Oper) (R : Bool) (H : List Nat) : List Nat → Array Bool → Bool
  | [], listed => decide (Region.ready .any ops listed = [])
  | j :: T, listed => decide (Region.ready .any ops listed = [j]) && (match ops[j]? with
    | some o => o.guard.isNone && (soft cx o.op || growOp cx o.op || H.all fun i => reachB ops ops.size j i || Nat.beq (kindOf ops R i) 2 || (appendB o.op && Nat.beq (kindOf ops R i) 1)) && (!R || soft cx o.op || appendB o.op || buildB o.op || (j :: T).all fun j' => H.all fun i => reachB ops ops.size j' i)
    | none => false) && floatTailB cx ops R H T (listed.setIfInBounds j true)
def floatHeadB (cx : Ctx) (ops : Array Oper) (R : Bool) (H0 T : List Nat) : List Nat → Array Bool → Bool
  | [], listed => floatTailB cx ops R H0 T listed
  | i :: H, listed => (Region.ready .any ops listed).contains i && Region.free .any ops listed i && (match ops[i]? with
    | some o => o.guard.isNone && soft cx o.op
    | none => false) && H0.contains i && floatHeadB cx ops R H0 T H (listed.setIfInBounds i true)
def floatR (cx : Ctx) (ops : Array Oper) : Bool := looseR cx ops (floatH cx ops) (floatT cx ops)
def floatB (cx : Ctx) (ops : Array Oper) : Bool :=
  Region.noSelect ops && decide ((floatH cx ops).length + (floatT cx ops).length = ops.size) && floatHeadB cx ops (floatR cx ops) (floatH cx ops) (floatT cx ops) (floatH cx ops) (Array.replicate ops.size false)

noncomputable def floatS {R : Type} (cx : Ctx) (ops : Array Oper) (loose : Bool) : List Nat → St → (St → Option R) → Option R
  | [], st, K => K st
  | i :: l, st, K => (match ops[i]? with
    | some o => cond (!(loose && !(boundB ops i)) || looseB st o.op) (opS cx st o fun st => floatS cx ops loose l st K) none
    | none => none)
/-- a reading operation that may come at any time: it reads no row -/
def looseM (st : St) : Op → Bool
  | .move _ | .assign _ | .extract .. => true
  | .load _ p => (match evalS st p with | .box .. => true | .val (.ref _) _ => true | _ => false)
  | .call { callee := .builtin .len, .. } => true
  | _ => false
def looseK : Op → Bool
  | .move _ | .assign _ | .extract .. | .load .. => true
  | .call { callee := .builtin .len, .. } => true
  | _ => false
/-- an operation that writes nothing but rows -/
def mixOp (cx : Ctx) (o : Op) : Bool := soft cx o || (match o with
  | .buildSlice .. | .call { callee := .builtin .append, .. } | .makeFunc (.func _) .. => true
  | .call { callee := .value x, .. } => (pfOf cx x).isNone
  | _ => false)
/-- an order for a region with guards: what is the only one ready, or else what only reads -/
def mixL (cx : Ctx) (ops : Array Oper) : Nat → Array Bool → Option (List (Nat × Bool))
  | 0, listed => (match Region.ready .any ops listed with | [] => some [] | _ => none)
  | f + 1, listed => (match Region.ready .any ops listed with
    | [] => some []
    | [j] => (match ops[j]? with
      | some o => cond (mixOp cx o.op) (match mixL cx ops f (listed.setIfInBounds j true) with | some l => some ((j, false) :: l) | none => none) none
      | none => none)
    | l => (match l.find? fun i => Region.free .any ops listed i && (match ops[i]? with | some o => soft cx o.op && looseK o.op | none => false) with
      | some i => (match mixL cx ops f (listed.setIfInBounds i true) with | some l => some ((i, true) :: l) | none => none)
      | none => none))
noncomputable def opM {R : Type} (cx : Ctx) (st : St) (b : Bool) (o : Oper) (K : St → Option R) : Option R := cond (!b || looseM st o.op) (opS cx st o K) none
noncomputable def mixS {R : Type} (cx : Ctx) (all : Array Oper) : List (Nat × Bool) → St → (St → Option R) → Option R
  | [], st, K => K st
  | (i, fl) :: l, st, K =>
    (match all[i]? with
    | none => none
    | some o =>
      (match o.guard with
      | none => opM cx st fl o fun st => mixS cx all l st K
      | some (j, want) =>
        (match (all[j]?).bind (·.dst) with
        | none => none
        | some g =>
          let run (b : Bool) : Option R :=
            cond (b == want) (opM cx (known st g b) fl o fun st => mixS cx all l st K) (mixS cx all l ((known st g b).put o.dst .undef) K)
          (match st.slots g with
          | .undef => mixS cx all l (st.put o.dst .undef) K
          | x => split x (run true) (run false)))))
/-- a region that draws, and is told by such an order -/
def guardsB (ops : Array Oper) : Bool := ops.toList.any fun o => o.guard.isSome
def mixB (cx : Ctx) (ops : Array Oper) : Bool := guardsB ops && Region.noSelect ops && (mixL cx ops ops.size (Array.replicate ops.size false)).isSome
/-- a variable that is made for itself: it may be made at any time -/
def earlyOp (cx : Ctx) : Op → Bool
  | .alloc t => plain (cx.kd t) && !(arrD cx t)
  | .buildSlice t k ps => Nat.beq k 0 && ps.toList.isEmpty && (match cx.kd t with
    | .slice e => (wfB e).1 && (match cx.dp t with | some ts => deepB e ts | none => true)
    | _ => false)
  | _ => false
def allocO (cx : Ctx) (o : Oper) : Bool := o.guard.isNone && o.dst.isSome && earlyOp cx o.op && o.after.toList.all fun e => !(Region.binds .any e)
def allocB (cx : Ctx) (ops : Array Oper) (i : Nat) : Bool := match ops[i]? with | some o => allocO cx o | none => false
def allocL (cx : Ctx) (ops : Array Oper) : List Nat := (List.range ops.size).filter (allocB cx ops)
def markL : List Nat → Array Bool → Array Bool
  | [], s => s
  | i :: l, s => markL l (s.setIfInBounds i true)
def dstB (cx : Ctx) (ops : Array Oper) : Bool := (allocL cx ops).all fun i => (List.range ops.size).all fun k => Nat.beq k i || (match ops[i]?, ops[k]? with | some o, some o' => (match o.dst, o'.dst with | some x, some y => !(Nat.beq x y) | _, _ => true) | _, _ => true)
/-- the made variable that the rest waits for -/
def waitA (ops : Array Oper) (A : List Nat) (listed : Array Bool) : Option Nat :=
  A.find? fun i => !(listed.getD i true) && decide (Region.ready .any ops (markL (A.erase i) listed) = [i])
/-- it reads no memory -/
def pureK : Op → Bool
  | .move _ | .assign _ | .extract .. | .fieldAddr .. => true
  | _ => false
def looseA (st : St) : Op → Bool
  | .fieldAddr t p f => looseB st (.fieldAddr t p f)
  | o => looseM st o
def pureB (ops : Array Oper) (i : Nat) : Bool := match ops[i]? with | some o => pureK o.op | none => false
/-- an order for a region in which variables are made: 0 what is the only one ready, 1 what only reads, 2 a variable, made by then. z: whether more than rows has been written -/
def mixAL (cx : Ctx) (ops : Array Oper) (A : List Nat) : Nat → Array Bool → List Nat → Bool → Option (List (Nat × Nat))
  | 0, listed, _, _ => (match Region.ready .any ops listed with | [] => some [] | _ => none)
  | f + 1, listed, H, z => (match Region.ready .any ops listed with
    | [] => some []
    | rd => (match Region.ready .any ops (markL A listed) with
      | [] => (match waitA ops A listed with
        | some i => (match mixAL cx ops A f (listed.setIfInBounds i true) H z with | some l => some ((2, i) :: l) | none => none)
        | none => none)
      | [j] => cond (rd.contains j) (match ops[j]? with
          | some o => cond (o.guard.isNone && !(allocB cx ops j) && ((!z && mixOp cx o.op) || H.all fun i => reachB ops ops.size j i)) (match mixAL cx ops A f (listed.setIfInBounds j true) H (z || !(mixOp cx o.op)) with | some l => some ((0, j) :: l) | none => none) none
          | none => none)
        (match waitA ops A listed with
        | some i => (match mixAL cx ops A f (listed.setIfInBounds i true) H z with | some l => some ((2, i) :: l) | none => none)
        | none => none)
      | l => (match l.find? fun i => (!z || pureB ops i) && rd.contains i && Region.free .any ops listed i && (match ops[i]? with | some o => o.guard.isNone && soft cx o.op && (looseK o.op || pureK o.op) | none => false) with
        | some i => (match mixAL cx ops A f (listed.setIfInBounds i true) (cond (pureB ops i) H (i :: H)) z with | some l => some ((1, i) :: l) | none => none)
        | none => none)))
def dstAt (ops : Array Oper) (t : Nat) (p : Nat × Nat) : Bool := Nat.beq p.1 2 && (match ops[p.2]? with | some o => (match o.dst with | some x => Nat.beq x t | none => false) | none => false)
def killS (ops : Array Oper) (S : List (Nat × Nat)) (st : St) : St := cond (S.any fun p => Nat.beq p.1 2) { st with slots := fun t => cond (S.any (dstAt ops t)) .dead (st.slots t) } st
noncomputable def mixAS {R : Type} (cx : Ctx) (all : Array Oper) : List (Nat × Nat) → St → (St → Option R) → Option R
  | [], st, K => K st
  | (c, i) :: l, st, K =>
    (match all[i]? with
    | none => none
    | some o => cond (Nat.beq c 1 && !(looseA st o.op)) none (opS cx st o fun st => mixAS cx all l (killS all l st) K))
def mixAB (cx : Ctx) (ops : Array Oper) : Bool := Region.noSelect ops && dstB cx ops && (mixAL cx ops (allocL cx ops) ops.size (Array.replicate ops.size false) [] false).isSome
noncomputable def regionE {R : Type} (cx : Ctx) (ops : Array Oper) (draw : Bool) (st : St) (K : St → Option R) : Option R :=
  cond (!draw || (quietB cx ops || headTailB cx ops)) (regionS cx ops ops.toList st K) <| cond (guardsB ops) (match mixL cx ops ops.size (Array.replicate ops.size false) with | some l => mixS cx ops l st K | none => none) <|
    cond (floatB cx ops) (floatS cx ops (floatR cx ops) (floatH cx ops) st fun st => regionS cx ops (pickL ops (floatT cx ops)) st K)
      (match mixAL cx ops (allocL cx ops) ops.size (Array.replicate ops.size false) [] false with | some l => mixAS cx ops l (killS ops l st) K | none => none)

/-- what a variable holds at a place: a value, or a row that lives at a place of its own -/
inductive VF where
  | v (k : Kind)
  | r (s : Nat)
  | d (s : Nat)
@[reducible] def VT : List VF → Type
  | [] => Unit | .v k :: cs => k.T × VT cs | .r _ :: cs => VT cs | .d _ :: cs => VT cs
/-- what lives at a place: the slot, and how it is told -/
inductive LM where
  | val (t : Nat) (k : Kind)
  | own (t : Nat) (ty : Nat) (e : Kind)
  | var (t : Nat) (k : Kind)
  | mp (t : Nat) (kk kv : Kind)
  | sub (t t0 : Nat)   -- a part of the row that t0 is
  | deep (t : Nat) (ty : Nat) (e : Kind) (ts : List Nat)
  | arr (t : Nat) (ty : Nat) (e : Kind) (ts : List Nat)   -- an array of rows
  | vat (t : Nat) (k : Kind) (cs : List VF)   -- a variable that holds rows: these live at names of their own
  deriving Inhabited
@[reducible] def LM.T : LM → Type
  | .val _ k => k.T | .own _ _ e => List e.T | .var _ k => k.T | .mp _ kk kv => List (kk.T × kv.T) | .sub _ _ => Int × Int | .deep _ _ e _ => List e.T | .arr _ _ e _ => List e.T | .vat _ _ cs => VT cs
@[reducible] def LT : List LM → Type
  | [] => Unit | [m] => m.T | m :: ms => m.T × LT ms
def LM.slot : LM → Nat | .val t _ => t | .own t _ _ => t | .var t _ => t | .mp t _ _ => t | .sub t _ => t | .deep t _ _ _ => t | .arr t _ _ _ => t | .vat t _ _ => t
def nodeOf (st : St) : LM → Option Nat
  | .own t _ _ => (match st.slots t with | .root r => some r | _ => none)
  | .var t _ => (match st.slots t with | .box b _ => some b | _ => none)
  | .mp t _ _ => (match st.slots t with | .mref r => some r | _ => none)
  | .deep t _ _ _ => (match st.slots t with | .droot r => some r | _ => none)
  | .arr t _ _ _ => (match st.slots t with | .delem r _ _ _ => some r | _ => none)
  | .vat t _ _ => (match st.slots t with | .box b _ => some b | _ => none)
  | _ => none
/-- what a variable holds, told -/
def toldV (st : St) : (cs : List VF) → List Slot → Option (VT cs)
  | [], [] => some ()
  | .v k :: cs, x :: l => (match asVal st.nodes 8 x k with | some v => (match toldV st cs l with | some vs => some (v, vs) | none => none) | none => none)
  | .r s :: cs, .root q :: l => (match st.slots s with | .root q' => if q = q' then toldV st cs l else none | _ => none)
  | .r s :: cs, .nils :: l => (match st.slots s with | .nils => toldV st cs l | _ => none)
  | .d s :: cs, .droot q :: l => (match st.slots s with | .droot q' => if q = q' then toldV st cs l else none | _ => none)
  | .d s :: cs, .nils :: l => (match st.slots s with | .nils => toldV st cs l | _ => none)
  | _, _ => none
/-- a variable's fields: of a struct, or itself -/
def fieldsV (k : Kind) (c : Slot) : Option (List Slot) := match k, c with
  | .struct a, .agg k' l => if k' = .struct a then some l else none
  | .slice _, c => some [c]
  | _, _ => none
def layV : (cs : List VF) → VT cs → List Slot
  | [], _ => []
  | .v k :: cs, w => .val k w.1 :: layV cs w.2
  | .r s :: cs, w => .root s :: layV cs w
  | .d s :: cs, w => .droot s :: layV cs w
def contV (k : Kind) (cs : List VF) (w : VT cs) : Slot := match k with
  | .struct a => .agg (.struct a) (layV cs w)
  | _ => (layV cs w).headD .dead
def rootsV : List VF → List Slot → List Nat
  | .v _ :: cs, x :: l => roots 8 x ++ rootsV cs l
  | .r _ :: cs, _ :: l => rootsV cs l
  | .d _ :: cs, _ :: l => rootsV cs l
  | _, _ => []
def told1 (st : St) : (m : LM) → Option m.T
  | .val t k => asVal st.nodes 8 (st.slots t) k
  | .own t ty e => (match st.slots t with
    | .nils => some []
    | .root r => (match st.nodes r with | some (.row ty' e' l) => if ty = ty' then cast? (.slice e') (.slice e) l else none | _ => none)
    | _ => none)
  | .var t k => (match st.slots t with
    | .box b [] => (match st.nodes b with | some (.var k' c) => if k' = k then asVal st.nodes 8 c k else none | _ => none)
    | _ => none)
  | .mp t kk kv => (match st.slots t with
    | .mref r => (match st.nodes r with | some (.mp kk' kv' l) => cast? (.slice (.pair kk' kv')) (.slice (.pair kk kv)) l | _ => none)
    | _ => none)
  | .deep t ty e ts => (match st.slots t with
    | .droot r => (match st.nodes r with | some (.deep ty' e' ts' l) => if ty = ty' then (if ts = ts' then cast? (.slice e') (.slice e) l else none) else none | _ => none)
    | .nils => cond (deepB e ts) (some []) none
    | _ => none)
  | .arr t ty e ts => (match st.slots t with
    | .delem r e0 i [] => if e0 = e then (if i = 0 then (match st.nodes r with | some (.deep ty' e' ts' l) => if ty = ty' then (if ts = ts' then (match cast? (.slice e') (.slice e) l with | some l' => some l' | none => none) else none) else none | _ => none) else none) else none
    | _ => none)
  | .vat t k cs => (match st.slots t with
    | .box b [] => (match st.nodes b with | some (.var k' c) => if k' = k then (match fieldsV k c with | some l => toldV st cs l | none => none) else none | _ => none)
    | _ => none)
  | .sub t t0 => (match st.slots t, st.slots t0 with
    | .sub r lo hi, .root r' => if r = r' then (match st.nodes r with | some (.row _ _ _) => some (lo, hi) | _ => none) else none
    | _, _ => none)
/-- the values are told at the fields' kinds -/
def vkB : Kind → List VF → Bool
  | .pair a b, .v k :: cs => decide (k = a) && vkB b cs
  | .pair _ b, _ :: cs => vkB b cs
  | a, [.v k] => decide (k = a)
  | _, [_] => true
  | _, _ => false
def vkV (k : Kind) (cs : List VF) : Bool := match k with | .struct a => vkB a cs | .slice e => vkB (.slice e) cs | _ => false
def subB (l : List LM) : LM → Bool
  | .sub _ t0 => l.any fun m => match m with | .own t' _ _ => Nat.beq t' t0 | _ => false
  | .vat _ k cs => vkV k cs && cs.all fun c => match c with
    | .r s => l.any fun m => match m with | .own t' _ _ => Nat.beq t' s | _ => false
    | .d s => l.any fun m => match m with | .deep t' _ _ _ => Nat.beq t' s | _ => false
    | .v _ => true
  | _ => true
def toldL (st : St) : (l : List LM) → Option (LT l)
  | [] => some ()
  | [m] => told1 st m
  | m :: m' :: l => (match told1 st m with | some v => (match toldL st (m' :: l) with | some vs => some (v, vs) | none => none) | none => none)
/-- rows that a told value leans on: they are no one's from there on -/
def lent (st : St) : LM → List Nat
  | .val t _ => roots 8 (st.slots t)
  | .var t _ => (match st.slots t with | .box b _ => (match st.nodes b with | some (.var _ c) => roots 8 c | _ => []) | _ => [])
  | .vat t k cs => (match st.slots t with | .box b _ => (match st.nodes b with | some (.var _ c) => (match fieldsV k c with | some l => rootsV cs l | none => []) | _ => []) | _ => [])
  | _ => []
def apartB : List Nat → Bool
  | [] => true | a :: l => !(l.contains a) && apartB l
def lay1 (st : St) : (m : LM) → m.T → St
  | .val t k, v => { st with slots := upd st.slots t (.val k v) }
  | .own t ty e, v => { st with slots := upd st.slots t (.root t), nodes := upd st.nodes t (some (.row ty e v)), used := upd st.used t true }
  | .var t k, v => { st with slots := upd st.slots t (.box t []), nodes := upd st.nodes t (some (.var k (.val k v))), used := upd st.used t true }
  | .mp t kk kv, v => { st with slots := upd st.slots t (.mref t), nodes := upd st.nodes t (some (.mp kk kv v)), used := upd st.used t true }
  | .sub t t0, v => { st with slots := upd st.slots t (.sub t0 v.1 v.2) }
  | .deep t ty e ts, v => { st with slots := upd st.slots t (.droot t), nodes := upd st.nodes t (some (.deep ty e ts v)), used := upd st.used t true }
  | .arr t ty e ts, v => { st with slots := upd st.slots t (.delem t e 0 []), nodes := upd st.nodes t (some (.deep ty e ts v)), used := upd st.used t true }
  | .vat t k cs, v => { st with slots := upd st.slots t (.box t []), nodes := upd st.nodes t (some (.var k (contV k cs v))), used := upd st.used t true }
def layAll (st : St) : (l : List LM) → LT l → St
  | [], _ => st
  | [m], v => lay1 st m v
  | m :: m' :: l, v => layAll (lay1 st m v.1) (m' :: l) v.2
def St.empty : St := { slots := fun _ => .dead, nodes := fun _ => none, used := fun _ => false, gen := 1 }
def enc (l : List LM) (v : LT l) : St := layAll St.empty l v
def dec (l : List LM) (st : St) : Option (LT l) :=
  cond (apartB (l.filterMap (nodeOf st)) && ((l.flatMap (lent st)).all fun q => !((l.filterMap (nodeOf st)).contains q)) && apartB (l.map LM.slot) && l.all (subB l)) (toldL st l) none
def VF.name : VF → Option Nat | .v _ => none | .r s => some s | .d s => some s
def vnames : List LM → List Nat
  | [] => []
  | .vat _ _ cs :: l => cs.filterMap VF.name ++ vnames l
  | _ :: l => vnames l
/-- the row that a variable holds under a name -/
def findV (q : Nat) : List VF → List Slot → Option Slot
  | .v _ :: cs, _ :: l => findV q cs l
  | .r s :: cs, x :: l => cond (Nat.beq q s) (some x) (findV q cs l)
  | .d s :: cs, x :: l => cond (Nat.beq q s) (some x) (findV q cs l)
  | _, _ => none
def virt1 (st : St) (q : Nat) : List LM → Option Slot
  | [] => none
  | .vat t k cs :: l => (match (match st.slots t with | .box b [] => (match st.nodes b with | some (.var k' c) => if k' = k then (match fieldsV k c with | some xs => findV q cs xs | none => none) else none | _ => none) | _ => none) with
    | some x => some x
    | none => virt1 st q l)
  | _ :: l => virt1 st q l
/-- the rows in variables, as if they lay in slots of their own -/
def virt (st : St) (l : List LM) : St := { st with slots := fun q => match virt1 st q l with | some x => x | none => st.slots q }
def hasV : List LM → Bool
  | [] => false | .vat _ _ _ :: _ => true | _ :: l => hasV l
def hide (ns : List Nat) (st : St) : St := { st with slots := fun q => cond (ns.contains q) .dead (st.slots q) }
def encV (l : List LM) (v : LT l) : St := cond (hasV l) (hide (vnames l) (enc l v)) (enc l v)
def decV (l : List LM) (st : St) : Option (LT l) := cond (hasV l) (dec l (virt st l)) (dec l st)

/-- whether a region lies in a code -/
def hasR (n : Nat) : Code → Bool
  | .region m _ _ => Nat.beq m n
  | .seq a b => hasR n a || hasR n b
  | .cond _ a b => hasR n a || hasR n b
  | .block _ a => hasR n a
  | .loop a => hasR n a
  | _ => false
inductive Ext where | norm | exit (n : Nat) | ret

section
variable {R : Type} (cx : Ctx) (pl : List Nat) (L : Nat → List LM) (H : (n : Nat) → LT (L n) → Option R)
/-- into a place -/
def into (n : Nat) (st : St) (run : Unit → Option R) : Option R :=
  cond (elemB n pl) (match decV (L n) st with | some v => H n v | none => none) (run ())
noncomputable def headOf : Code → St → Option R
  | .region n _ _, st => into pl L H n st fun _ => none
  | .seq a _, st => headOf a st
  | .block _ a, st => headOf a st
  | _, _ => none
noncomputable def codeS : Code → (Ext → St → Option R) → St → Option R
  | .skip, K, st => K .norm st
  | .label _, K, st => K .norm st
  | .region n ops d, K, st => into pl L H n st fun _ => regionE cx ops d { st with gen := Nat.succ st.gen } fun st => K .norm st
  | .seq a b, K, st => codeS a (fun e st => match e with | .norm => codeS b K st | e => K e st) st
  | .cond c a b, K, st => split (evalS st c) (codeS a K st) (codeS b K st)
  | .block n a, K, st => codeS a (fun e st => match e with | .exit m => cond (Nat.beq m n) (K .norm st) (K (.exit m) st) | e => K e st) st
  | .loop a, _, st => headOf pl L H a st
  | .exit n, K, st => K (.exit n) st
  | .ret, K, st => K .ret st
  | _, _, _ => none
/-- from a place on -/
noncomputable def atS (n : Nat) : Code → (Ext → St → Option R) → Option (LT (L n) → Option R)
  | .region m ops d, K => cond (Nat.beq m n) (some fun v => regionE cx ops d (encV (L n) v) fun st => K .norm st) none
  | .seq a b, K => cond (hasR n a) (atS n a (fun e st => match e with | .norm => codeS cx pl L H b K st | e => K e st)) (atS n b K)
  | .cond _ a b, K => cond (hasR n a) (atS n a K) (atS n b K)
  | .block n' a, K => atS n a (fun e st => match e with | .exit m => cond (Nat.beq m n') (K .norm st) (K (.exit m) st) | e => K e st)
  | .loop a, K => atS n a (fun e st => match e with | .norm => headOf pl L H a st | e => K e st)
  | _, _ => none
end

def argsSt : (i : Nat) → (ps : List PS) → ArgsT ps → St → St
  | _, [], _, st => st
  | i, .val k :: ps, v, st => argsSt (i + 1) ps v.2 { st with slots := upd st.slots i (.val k v.1) }
  | i, .own ty e :: ps, v, st => argsSt (i + 1) ps v.2 { st with slots := upd st.slots i (.root i), nodes := upd st.nodes i (some (.row ty e v.1)), used := upd st.used i true }
  | i, .deep ty e ts :: ps, v, st => argsSt (i + 1) ps v.2 { st with slots := upd st.slots i (.droot i), nodes := upd st.nodes i (some (.deep ty e ts v.1)), used := upd st.used i true }

/-- the arguments' slots, put together -/
def packSt (sh : List Nat) (ps : List PS) (st : St) : St :=
  match sh with
  | [] => st
  | _ => { st with slots := fun t => (packL sh (ps.map PS.kind) ((List.range ps.length).map st.slots)).getD t .dead }
/-- the arguments' slots, field by field: of those that are never assigned -/
def backSl (sh : List Nat) (ps : List PS) (fx : List Nat) (slots : Nat → Slot) : Nat → Slot :=
  match sh with
  | [] => slots
  | _ => (match flatB sh (ps.map PS.kind) ((List.range sh.length).map fun t => cond (elemB t fx) (slots t) .dead) with
    | some l => fun i => l.getD i .dead
    | none => fun _ => .dead)
/-- a result told: with the rows that are handed over, and the rows that its values lean on -/
def resOne (st : St) (sl : Nat → Slot) : (r : RS) → List Slot → Option (r.T × List Nat × List Nat)
  | .val k, [x] => (match asVal st.nodes 8 x k with | some v => some (v, [], roots 8 x) | none => none)
  | .own ty e, [.nils] => some (([] : List e.T), [], [])
  | .deep ty e ts, [.nils] => cond (deepB e ts) (some (([] : List e.T), [], [])) none
  | .own ty e, [.root r] => (match st.nodes r with | some (.row ty' e' l) => if ty = ty' then (match cast? (.slice e') (.slice e) l with | some v => some (v, [r], []) | none => none) else none | _ => none)
  | .own ty e, [.sub r lo hi] => if lo = 0 then (match st.nodes r with | some (.row ty' e' l) => if ty = ty' then (match cast? (.slice e') (.slice e) (l.take hi.toNat) with | some v => some (v, [r], []) | none => none) else none | _ => none) else none
  | .deep ty e ts, [.droot r] => (match st.nodes r with | some (.deep ty' e' ts' l) => if ty = ty' then (if ts = ts' then (match cast? (.slice e') (.slice e) l with | some v => some (v, [r], []) | none => none) else none) else none | _ => none)
  | .pair a b, x :: l => (match resOne st sl a [x], resOne st sl b l with | some (u, r, q), some (v, s, q') => some ((u, v), r ++ s, q ++ q') | _, _ => none)
  | .agg a, [.agg _ l] => resOne st sl a l
  | .nil, [] => some ((), [], [])
  | .back i ty e a, l => (match sl i with
    | .root q => (match st.nodes q with
      | some (.row ty' e' l') => if ty = ty' then (match cast? (.slice e') (.slice e) l' with
        | some w => (match resOne st sl a l with | some (v, r, s) => some ((w, v), q :: r, s) | none => none)
        | none => none) else none
      | _ => none)
    | _ => none)
  | .dback i ty e ts a, l => (match sl i with
    | .droot q => (match st.nodes q with
      | some (.deep ty' e' ts' l') => if ty = ty' then (if ts = ts' then (match cast? (.slice e') (.slice e) l' with
        | some w => (match resOne st sl a l with | some (v, r, s) => some ((w, v), q :: r, s) | none => none)
        | none => none) else none) else none
      | _ => none)
    | _ => none)
  | _, _ => none
def resC {R : Type} : Option (R × List Nat × List Nat) → Option R
  | some (v, ids, ls) => cond (apartB ids && ls.all fun q => !(ids.contains q)) (some v) none
  | none => none
/-- what a result's variable holds -/
def resSlot (cx : Ctx) (st : St) : ResultVar → Option Slot
  | .tmp t => some (st.slots t)
  | .cell a t => (match st.slots a with
    | .box b [] => (match st.nodes b with | some (.var k c) => if k = cx.kd t then cond (plain (cx.kd t)) (some c) none else none | _ => none)
    | _ => none)
def resSlots (cx : Ctx) (st : St) : List ResultVar → Option (List Slot)
  | [] => some []
  | v :: l => (match resSlot cx st v with | some x => (match resSlots cx st l with | some xs => some (x :: xs) | none => none) | none => none)
def resS (cx : Ctx) (st : St) (sl : Nat → Slot) (r : RS) (vs : List ResultVar) : Option r.T :=
  match resSlots cx st vs with
  | none => none
  | some xs => (match r with
    | .tup a => resC (resOne st sl a xs)
    | r => resC (resOne st sl r xs))

structure Def where
  fn : Func
  code : Code
  ps : List PS
  res : RS
  pl : List Nat
  L : Nat → List LM
  sh : List Nat := []
def Def.fin (d : Def) (cx : Ctx) (e : Ext) (st : St) : Option d.res.T :=
  match e with
  | .norm | .ret => resS cx st (backSl d.sh d.ps cx.fx st.slots) d.res d.fn.results.toList
  | _ => none
noncomputable def Def.body (d : Def) (cx : Ctx) (H : (n : Nat) → LT (d.L n) → Option d.res.T) (v : ArgsT d.ps) : Option d.res.T :=
  codeS cx d.pl d.L H d.code (d.fin cx) (packSt d.sh d.ps (argsSt 0 d.ps v St.empty))
noncomputable def Def.place (d : Def) (cx : Ctx) (H : (n : Nat) → LT (d.L n) → Option d.res.T) (n : Nat) (v : LT (d.L n)) : Option d.res.T :=
  match atS cx d.pl d.L H n d.code (d.fin cx) with
  | some r => r v
  | none => none
/-- the functions that are told -/
def look : List (Nat × Fn) → Nat → Option Fn
  | [], _ => none
  | (g, F) :: l, f => cond (Nat.beq f g) (some F) (look l f)
def looks : List (Nat × Fn) → Nat → List Fn
  | [], _ => []
  | (g, F) :: l, f => cond (Nat.beq f g) (F :: looks l f) (looks l f)
def mkCx (base : Ctx) (env : List (Nat × Fn)) : Ctx := { base with fn := look env, more := fun _ => [], pf := fun _ => none }
def lookQ : List (Nat × PFn) → Nat → Option PFn
  | [], _ => none
  | (g, F) :: l, f => cond (Nat.beq f g) (some F) (lookQ l f)
def pfCx (cx : Ctx) (l : List (Nat × PFn)) : Ctx := { cx with pf := lookQ l }
def altCx (cx : Ctx) (alts : List (Nat × Fn)) : Ctx := { cx with more := looks alts }
def lookD : List (Nat × List Nat) → Nat → Option (List Nat)
  | [], _ => none
  | (t, ts) :: l, u => cond (Nat.beq u t) (some ts) (lookD l u)
def dpCx (base : Ctx) (l : List (Nat × List Nat)) : Ctx := { base with dp := lookD l }
def ldCx (base : Ctx) (l : List Nat) : Ctx := { base with ld := l }
def fxCx (base : Ctx) (fx : List Nat) : Ctx := { base with fx := fx }
end Go.Fm
