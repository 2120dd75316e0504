/- A symbolic executor of my own, part 1: the symbolic values, the resolved code, and the function that turns code into a condition. Conditions: none; it speaks of any program. -/
import Derived.WalkKit
import Derived.Deep.Quiet
import Derived.Lib.Bytealg
import Derived.Laws.BytesArg
namespace Go.Sx

/-- A symbolic value: a value of the model, or one that leads to a block that the function at hand owns. -/
inductive SV where
  | junk
  | v (x : Value)
  | ptr (k off : Nat)
  | slc (k off len cap : Nat)
  | mp (k : Nat)
  | fn (f : FuncId) (first cap : List SV)
  | iface (t : TypeId) (x : SV)
  | agg (l : List SV)
  | tup (l : List SV)

mutual
def SV.re (σ : Nat → Nat) : SV → Value
  | .junk => undef
  | .v x => x
  | .ptr k off => .pointer (some ⟨σ k, off, none⟩)
  | .slc k off len cap => .slice (some ⟨σ k, off, none⟩) len cap
  | .mp k => .map (some (σ k))
  | .fn f a b => .func (.func f) (reL σ a).toArray (reL σ b).toArray
  | .iface t x => .iface t (x.re σ)
  | .agg l => .agg (reL σ l).toArray
  | .tup l => .tuple (reL σ l).toArray
def reL (σ : Nat → Nat) : List SV → List Value
  | [] => []
  | x :: l => x.re σ :: reL σ l
end

/-- What a value is made of, cell by cell. -/
def SV.cells : SV → List SV
  | .agg l => l
  | .v (.agg c) => c.toList.map .v
  | x => [x]

/-- A block that the function at hand owns. -/
inductive Chunk where
  | cells (ty : TypeId) (c : List SV)
  | vals (ty : TypeId) (c : List Value)
  | raw (o : Obj)
  | gone

def Chunk.obj (σ : Nat → Nat) : Chunk → Option Obj
  | .cells ty c => some (.cells (reL σ c).toArray ty (0, 0))
  | .vals ty c => some (.cells c.toArray ty (0, 0))
  | .raw o => some o
  | .gone => none

/-- Blocks that nobody writes any more. -/
abbrev G := Nat → Option Obj

def G.le (g g' : G) : Prop := ∀ b o, g b = some o → g' b = some o

/-- Whether a type has the methods that an interface asks for. -/
def hasM (P : Program) (t : TypeId) (u : TypeId) : Option Bool :=
  match P.underlying t with
  | some (.interface want) => (P.info? u).map fun i => (Instr.missingMethod want i.methods).isNone
  | _ => none

/-- More operations that only read. -/
inductive YOp where
  | slcA (n sz : Nat) (lo hi : Bool)
  | slcS (sz : Nat) (lo hi : Bool)
  | slcT (lo hi : Bool)
  | b2s
  | cmps
  | nilI (neg : Bool)
  | nilP (neg : Bool)
  | nilC
  | tass (t : TypeId) (z : Value)
  | bad

/-- More operations that write. -/
inductive ZOp where
  | app (e sz bytes : Nat) (z : List Value)
  | set

/-- Operations with what the type tables say already looked up. -/
inductive XOp where
  | more (y : YOp) (args : List Operand)
  | eff (z : ZOp) (args : List Operand)
  | prim (o : Op) (args : List Operand)
  | mov (x : Operand)
  | pick (c a b : Operand)
  | alloc (t : TypeId) (zs : List Value)
  | box (t : TypeId) (x : Operand)
  | build (zs : List Value) (parts : List (Nat × Nat × Operand))
  | bslice (e : TypeId) (n : Nat) (zs : List Value) (parts : List (Nat × Nat × Operand))
  | load (agg : Bool) (n : Nat) (a : Operand)
  | store (n : Nat) (a x : Operand)
  | bin (op : BinOp) (x y : Operand)
  | eqB (neg : Bool) (x y : Operand)
  | eqAgg (neg : Bool) (ks : List Nat) (x y : Operand)
  | un (op : UnOp) (x : Operand)
  | conv (k : IntKind) (x : Operand)
  | fieldA (off : Nat) (x : Operand)
  | fieldV (agg : Bool) (off n : Nat) (x : Operand)
  | indexS (sz : Nat) (x i : Operand)
  | indexP (len sz : Nat) (x i : Operand)
  | indexV (len : Nat) (agg : Bool) (sz : Nat) (x i : Operand)
  | indexStr (x i : Operand)
  | ext (x : Operand) (i : Nat)
  | call (f : FuncId) (args : List Operand)
  | callv (x : Operand) (args : List Operand)
  | len (str : Bool) (x : Operand)
  | mkI (t : TypeId) (x : Operand)
  | mkF (f : FuncId) (first cap : List Operand)

structure XOper where
  dst : Option Nat
  guard : Option (Nat × Bool)
  x : XOp

inductive XC where
  | skip
  | ops (l : List XOper)
  | draw (n : Nat) (l : List XOper)
  | seq (a b : XC)
  | cond (c : Operand) (a b : XC)
  | block (id : Nat) (c : XC)
  | loop (m : List Bool) (c : XC)
  | exit (id : Nat)
  | ret

/-- A symbolic state. -/
structure St where
  fr : List SV
  L : List Chunk
  g : G

def get : List SV → Nat → SV
  | [], _ => .junk
  | x :: _, 0 => x
  | _ :: l, n + 1 => get l n

def put : List SV → Nat → SV → List SV
  | [], _, _ => []
  | _ :: l, 0, y => y :: l
  | x :: l, n + 1, y => x :: put l n y

def putO (fr : List SV) : Option Nat → SV → List SV
  | none, _ => fr
  | some d, v => put fr d v

def ev (fr : List SV) : Operand → SV
  | .tmp t => get fr t
  | .const v => .v v
  | .global g => .v (.pointer (some ⟨g, 0, none⟩))
  | .func f => .fn f [] []

/-- Not junk. -/
def nj : SV → (SV → Prop) → Prop
  | .junk, _ => False
  | .v x, K => K (.v x)
  | .ptr k o, K => K (.ptr k o)
  | .slc k o n c, K => K (.slc k o n c)
  | .mp k, K => K (.mp k)
  | .fn f a b, K => K (.fn f a b)
  | .iface t x, K => K (.iface t x)
  | .agg l, K => K (.agg l)
  | .tup l, K => K (.tup l)

def njL : List SV → (List SV → Prop) → Prop
  | [], K => K []
  | x :: l, K => nj x fun x => njL l fun l => K (x :: l)

/-- A check that is reckoned. -/
def ifOk : Bool → Prop → Prop
  | true, p => p
  | false, _ => False
def ifle (a b : Nat) (p : Prop) : Prop := ifOk (Nat.ble a b) p

/-- A Bool that may be open. -/
def bsplit : Bool → Prop → Prop → Prop
  | true, p, _ => p
  | false, _, q => q

theorem bsplit_of {t : Bool} {p q : Prop} (h1 : t = true → p) (h2 : t = false → q) : bsplit t p q := by
  cases t
  · exact h2 rfl
  · exact h1 rfl

/-- The cells at an address among the blocks that nobody writes. -/
def G.at (g : G) (a : Addr) (xs : List Value) : Prop :=
  a.spot = none ∧ ∃ c ty fz, g a.block = some (.cells c ty fz) ∧ ∀ i, i < xs.length → c[a.off + i]? = xs[i]?

def val1 (agg : Bool) (l : List SV) (K : SV → Prop) : Prop :=
  match agg with
  | true => K (.agg l)
  | false => match l with
    | [x] => nj x K
    | _ => False

def isJunk : SV → Bool
  | .junk => true
  | _ => false

def slice1 (l : List SV) (off n : Nat) : List SV := (l.drop off).take n

def fillS (cells : List SV) : List (Nat × Nat × SV) → Option (List SV)
  | [] => some cells
  | (off, size, x) :: rest =>
    match !(isJunk x) && Nat.beq x.cells.length size && Nat.ble (off + size) cells.length with
    | true => fillS (cells.take off ++ (x.cells ++ cells.drop (off + size))) rest
    | false => none

def intBin (op : BinOp) (k : IntKind) (a b : Int) (K : SV → Prop) : Prop :=
  match op with
  | .add => K (.v (.int k (k.wrap (a + b))))
  | .sub => K (.v (.int k (k.wrap (a - b))))
  | .mul => K (.v (.int k (k.wrap (a * b))))
  | .quo => b ≠ 0 ∧ K (.v (.int k (k.wrap (a.tdiv b))))
  | .rem => b ≠ 0 ∧ K (.v (.int k (a.tmod b)))
  | .and => K (.v (.int k (k.wrap (BitVec.ofInt k.bits a &&& BitVec.ofInt k.bits b).toNat)))
  | .or => K (.v (.int k (k.wrap (BitVec.ofInt k.bits a ||| BitVec.ofInt k.bits b).toNat)))
  | .xor => K (.v (.int k (k.wrap (BitVec.ofInt k.bits a ^^^ BitVec.ofInt k.bits b).toNat)))
  | .andNot => K (.v (.int k (k.wrap (BitVec.ofInt k.bits a &&& ~~~ BitVec.ofInt k.bits b).toNat)))
  | .eql => K (.v (.bool (a == b)))
  | .neq => K (.v (.bool (a != b)))
  | .lss => K (.v (.bool (decide (a < b))))
  | .leq => K (.v (.bool (decide (a ≤ b))))
  | .gtr => K (.v (.bool (decide (a > b))))
  | .geq => K (.v (.bool (decide (a ≥ b))))
  | _ => False

def strBin (op : BinOp) (a b : ByteArray) (K : SV → Prop) : Prop :=
  match op with
  | .add => a.size + b.size ≤ 9223372036854775807 ∧ K (.v (.string (a ++ b)))
  | .eql => K (.v (.bool (a.toList == b.toList)))
  | .neq => K (.v (.bool (!(a.toList == b.toList))))
  | .lss => K (.v (.bool (Op.bytesLess a.toList b.toList)))
  | _ => False

/-- One operation upon two values. -/
def valBin (op : BinOp) (x y : Value) (K : SV → Prop) : Prop :=
  match x with
  | .int k a => match y with
    | .int k' b => match op with
      | .shl => 0 ≤ b ∧ K (.v (.int k (k.wrap (a * 2 ^ (min b.toNat k.bits)))))
      | .shr => 0 ≤ b ∧ K (.v (.int k (a.fdiv (2 ^ (min b.toNat k.bits)))))
      | op => match decide (k = k') with
        | true => intBin op k a b K
        | false => False
    | _ => False
  | .string a => match y with
    | .string b => strBin op a b K
    | _ => False
  | _ => False

/-- Two rows of cells of given kinds (0 numbers, 1 bools, 2 strings), compared. -/
def eqKs : List Nat → List SV → List SV → (Bool → Prop) → Prop
  | [], [], [], K => K true
  | 0 :: ks, .v (.int k a) :: l, .v (.int k' b) :: m, K => match decide (k = k') with
    | true => eqKs ks l m fun r => K ((a == b) && r)
    | false => False
  | 1 :: ks, .v (.bool a) :: l, .v (.bool b) :: m, K => eqKs ks l m fun r => K ((a == b) && r)
  | 2 :: ks, .v (.string a) :: l, .v (.string b) :: m, K => eqKs ks l m fun r => K ((a.toList == b.toList) && r)
  | _, _, _, _ => False

/-- The bounds of a slice expression. -/
def boundsK (len cap : Nat) (lo hi : Bool) (vs : List SV) (K : Nat → Nat → Prop) : Prop :=
  match lo with
  | false => match hi with
    | false => K 0 len
    | true => match vs with
      | [.v (.int _ h)] => (0 ≤ h ∧ h ≤ cap) ∧ K 0 h.toNat
      | _ => False
  | true => match hi with
    | false => match vs with
      | [.v (.int _ l)] => (0 ≤ l ∧ l ≤ len) ∧ K l.toNat len
      | _ => False
    | true => match vs with
      | [.v (.int _ l), .v (.int _ h)] => (0 ≤ h ∧ h ≤ cap) ∧ (0 ≤ l ∧ l ≤ h) ∧ K l.toNat h.toNat
      | _ => False
def moved (lo : Bool) (m l sz : Nat) : Nat := match lo with
  | false => 0
  | true => if m = l then 0 else l * sz
def bytesOfInts (xs : List Int) : ByteArray := ⟨(xs.map fun n => UInt8.ofNat n.toNat).toArray⟩
/-- These cells, as numbers. -/
def u8s : List SV → Option (List Int)
  | [] => some []
  | .v (.int .u8 n) :: l => match u8s l with
    | some ns => some (n :: ns)
    | none => none
  | _ :: _ => none

def roY (y : YOp) (vs : List SV) (L : List Chunk) (g : G) (K : SV → Prop) : Prop :=
  match y with
  | .slcA n sz lo hi => match vs with
    | .ptr k off :: bs => boundsK n n lo hi bs fun l h => K (.slc k (off + moved lo n l sz) (h - l) (n - l))
    | .v (.pointer (some a)) :: bs => boundsK n n lo hi bs fun l h => K (.v (.slice (some (a.add (moved lo n l sz))) (h - l) (n - l)))
    | _ => False
  | .slcS sz lo hi => match vs with
    | .slc k off len cap :: bs => boundsK len cap lo hi bs fun l h => K (.slc k (off + moved lo cap l sz) (h - l) (cap - l))
    | .v (.slice a len cap) :: bs => boundsK len cap lo hi bs fun l h => K (.v (.slice (a.map fun a => a.add (moved lo cap l sz)) (h - l) (cap - l)))
    | _ => False
  | .slcT lo hi => match vs with
    | .v (.string s) :: bs => boundsK s.size s.size lo hi bs fun l h => K (.v (.string (s.extract l h)))
    | _ => False
  | .b2s => match vs with
    | [.slc k off n _] => match L[k]? with
      | some (.cells _ c) => ifOk (Nat.ble (off + n) c.length) (match u8s (slice1 c off n) with
        | some ns => K (.v (.string (bytesOfInts ns)))
        | none => False)
      | some (.vals _ c) => off + n ≤ c.length ∧ ∃ ns : List Int, (c.drop off).take n = ns.map (Value.int .u8) ∧ K (.v (.string (bytesOfInts ns)))
      | _ => False
    | [.v (.slice (some a) n _)] => ∃ ns : List Int, ns.length = n ∧ g.at a (ns.map (Value.int .u8)) ∧ K (.v (.string (bytesOfInts ns)))
    | [.v (.slice none _ _)] => K (.v (.string ByteArray.empty))
    | _ => False
  | .cmps => match vs with
    | [.v (.string a), .v (.string b)] => K (.v (.int .i64 (Lib.compareBytes a.data.toList b.data.toList)))
    | _ => False
  | .nilI neg => match vs with
    | [.v .nilIface] => K (.v (.bool (!neg)))
    | [.iface _ _] => K (.v (.bool neg))
    | [.v (.iface _ _)] => K (.v (.bool neg))
    | _ => False
  | .nilP neg => match vs with
    | [.ptr _ _] => K (.v (.bool neg))
    | [.v (.pointer none)] => K (.v (.bool (!neg)))
    | [.v (.pointer (some _))] => K (.v (.bool neg))
    | _ => False
  | .nilC => match vs with
    | [.ptr k o] => K (.ptr k o)
    | [.v (.pointer (some a))] => K (.v (.pointer (some a)))
    | _ => False
  | .tass t z => match vs with
    | [.v .nilIface] => K (.tup [.v z, .v (.bool false)])
    | [.iface t' y] => match Nat.beq t' t with
      | true => K (.tup [y, .v (.bool true)])
      | false => K (.tup [.v z, .v (.bool false)])
    | [.v (.iface t' y)] => match Nat.beq t' t with
      | true => K (.tup [.v y, .v (.bool true)])
      | false => K (.tup [.v z, .v (.bool false)])
    | _ => False
  | .bad => False

/-- What an operation yields that only reads. -/
def ro (x : XOp) (e : Operand → SV) (L : List Chunk) (g : G) (K : SV → Prop) : Prop :=
  match x with
  | .more y args => roY y (args.map e) L g K
  | .mov x => nj (e x) K
  | .pick c a b => match e c with
    | .v (.bool t) => bsplit t (nj (e a) K) (nj (e b) K)
    | _ => False
  | .build zs parts => match fillS (zs.map .v) (parts.map fun p => (p.1, p.2.1, e p.2.2)) with
    | some l => K (.agg l)
    | none => False
  | .load agg n a => match e a with
    | .ptr k off => match L[k]? with
      | some (.cells _ c) => ifle (off + n) c.length (val1 agg (slice1 c off n) K)
      | some (.vals _ c) => off + n ≤ c.length ∧ val1 agg ((((c.drop off).take n)).map .v) K
      | _ => False
    | .v (.pointer (some a)) => ∃ xs : List Value, xs.length = n ∧ g.at a xs ∧ val1 agg (xs.map .v) K
    | _ => False
  | .bin op x y => match e x with
    | .v x => match e y with
      | .v y => valBin op x y K
      | _ => False
    | _ => False
  | .eqB neg x y => match e x with
    | .v (.bool a) => match e y with
      | .v (.bool b) => K (.v (.bool (neg ^^ (a == b))))
      | _ => False
    | _ => False
  | .eqAgg neg ks x y => match e x with
    | .agg a => match e y with
      | .agg b => eqKs ks a b fun r => K (.v (.bool (neg ^^ r)))
      | _ => False
    | _ => False
  | .un op x => match e x with
    | .v (.bool b) => match op with
      | .not => K (.v (.bool (!b)))
      | _ => False
    | .v (.int k n) => match op with
      | .neg => K (.v (.int k (k.wrap (0 - n))))
      | .xor => K (.v (.int k (k.wrap (BitVec.ofInt k.bits (if k.signed then -1 else k.max) ^^^ BitVec.ofInt k.bits n).toNat)))
      | _ => False
    | _ => False
  | .conv k x => match e x with
    | .v (.int _ n) => K (.v (.int k (k.wrap n)))
    | _ => False
  | .fieldA off x => match e x with
    | .ptr k o => K (.ptr k (o + off))
    | .v (.pointer (some a)) => K (.v (.pointer (some (a.add off))))
    | _ => False
  | .fieldV agg off n x => match e x with
    | .agg l => ifle (off + n) l.length (val1 agg (slice1 l off n) K)
    | _ => False
  | .indexS sz x i => match e i with
    | .v (.int _ i) => match e x with
      | .v (.slice a len _) => (0 ≤ i ∧ i < len) ∧ ∃ ad, a = some ad ∧ K (.v (.pointer (some (ad.add (i.toNat * sz)))))
      | .slc k off len _ => (0 ≤ i ∧ i < len) ∧ K (.ptr k (off + i.toNat * sz))
      | _ => False
    | _ => False
  | .indexP len sz x i => match e i with
    | .v (.int _ i) => match e x with
      | .ptr k off => (0 ≤ i ∧ i < len) ∧ K (.ptr k (off + i.toNat * sz))
      | .v (.pointer (some a)) => (0 ≤ i ∧ i < len) ∧ K (.v (.pointer (some (a.add (i.toNat * sz)))))
      | _ => False
    | _ => False
  | .indexV len agg sz x i => match e i with
    | .v (.int _ i) => match e x with
      | .agg l => (0 ≤ i ∧ i < len) ∧ ifle (i.toNat * sz + sz) l.length (val1 agg (slice1 l (i.toNat * sz) sz) K)
      | _ => False
    | _ => False
  | .indexStr x i => match e i with
    | .v (.int _ i) => match e x with
      | .v (.string s) => (0 ≤ i ∧ i < s.size) ∧ K (.v (.int .u8 (s.data.toList.getD i.toNat 0).toNat))
      | _ => False
    | _ => False
  | .ext x i => match e x with
    | .tup l => nj (get l i) K
    | .v (.tuple c) => match c[i]? with
      | some y => K (.v y)
      | none => False
    | _ => False
  | .len str x => match str with
    | true => match e x with
      | .v (.string s) => K (.v (.int .i64 s.size))
      | _ => False
    | false => match e x with
      | .v (.slice _ n _) => K (.v (.int .i64 n))
      | .slc _ _ n _ => K (.v (.int .i64 n))
      | _ => False
  | .mkI t x => match e x with
    | .v y => K (.v (.iface t y))
    | .junk => False
    | y => K (.iface t y)
  | .mkF f a b => njL (a.map e) fun a => njL (b.map e) fun b => K (.fn f a b)
  | _ => False

end Go.Sx
