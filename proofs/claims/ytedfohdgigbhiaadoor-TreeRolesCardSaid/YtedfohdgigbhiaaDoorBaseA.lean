/- A symbolic executor of my own, put together. Conditions: none; it speaks of any program. -/
import Derived.WalkKit
import Derived.Deep.Quiet
import Derived.Lib.Bytealg
import Derived.Laws.BytesArg
import Derived.ChangeKeysEq
import Derived.Laws.StructEq
/- A symbolic executor of my own, part 1: the symbolic values, the resolved code, and the function that turns code into a condition. Conditions: none; it speaks of any program. -/
section
namespace Go.Sx

/-- A symbolic value: a value of the model, or one that leads to a block that the function at hand owns. -/
inductive SV where
  | junk
  | v (x : Value)
  | ptr (k off : Nat)
  | slc (k off len cap : Nat)
  | mp (k : Nat)
  | fn (f : FuncId) (first cap : List SV)
  | iface (t : TypeId) (x : SV)
  | agg (l : List SV)
  | tup (l : List SV)

mutual
def SV.re (σ : Nat → Nat) : SV → Value
  | .junk => undef
  | .v x => x
  | .ptr k off => .pointer (some ⟨σ k, off, none⟩)
  | .slc k off len cap => .slice (some ⟨σ k, off, none⟩) len cap
  | .mp k => .map (some (σ k))
  | .fn f a b => .func (.func f) (reL σ a).toArray (reL σ b).toArray
  | .iface t x => .iface t (x.re σ)
  | .agg l => .agg (reL σ l).toArray
  | .tup l => .tuple (reL σ l).toArray
def reL (σ : Nat → Nat) : List SV → List Value
  | [] => []
  | x :: l => x.re σ :: reL σ l
end

/-- What a value is made of, cell by cell. -/
def SV.cells : SV → List SV
  | .agg l => l
  | .v (.agg c) => c.toList.map .v
  | x => [x]

/-- A block that the function at hand owns. -/
inductive Chunk where
  | cells (ty : TypeId) (c : List SV)
  | vals (ty : TypeId) (c : List Value)
  | raw (o : Obj)
  | gone
  | row (ty : TypeId) (c : List Value) (fz : Nat × Nat)
  | fam (h : Nat → Option Obj)

def Chunk.obj (σ : Nat → Nat) : Chunk → Option Obj
  | .cells ty c => some (.cells (reL σ c).toArray ty (0, 0))
  | .vals ty c => some (.cells c.toArray ty (0, 0))
  | .raw o => some o
  | .gone => none
  | .row ty c fz => some (.cells c.toArray ty fz)
  | .fam _ => none

/-- Blocks that nobody writes any more. -/
abbrev G := Nat → Option Obj

def G.le (g g' : G) : Prop := ∀ b o, g b = some o → g' b = some o

/-- Whether a type has the methods that an interface asks for. -/
def hasM (P : Program) (t : TypeId) (u : TypeId) : Option Bool :=
  match P.underlying t with
  | some (.interface want) => (P.info? u).map fun i => (Instr.missingMethod want i.methods).isNone
  | _ => none

/-- More operations that only read. -/
inductive YOp where
  | slcA (n sz : Nat) (lo hi : Bool)
  | slcS (sz : Nat) (lo hi : Bool)
  | slcT (lo hi : Bool)
  | b2s
  | cmps
  | nilI (neg : Bool)
  | nilP (neg : Bool)
  | nilC
  | tass (t : TypeId) (z : Value)
  | bad

/-- More operations that write. -/
inductive ZOp where
  | app (e sz bytes : Nat) (z : List Value)
  | set

/-- Operations with what the type tables say already looked up. -/
inductive XOp where
  | more (y : YOp) (args : List Operand)
  | eff (z : ZOp) (args : List Operand)
  | prim (o : Op) (args : List Operand)
  | mov (x : Operand)
  | pick (c a b : Operand)
  | alloc (t : TypeId) (zs : List Value)
  | box (t : TypeId) (x : Operand)
  | build (zs : List Value) (parts : List (Nat × Nat × Operand))
  | bslice (e : TypeId) (n : Nat) (zs : List Value) (parts : List (Nat × Nat × Operand))
  | load (agg : Bool) (n : Nat) (a : Operand)
  | store (n : Nat) (a x : Operand)
  | bin (op : BinOp) (x y : Operand)
  | eqB (neg : Bool) (x y : Operand)
  | eqAgg (neg : Bool) (ks : List Nat) (x y : Operand)
  | un (op : UnOp) (x : Operand)
  | conv (k : IntKind) (x : Operand)
  | fieldA (off : Nat) (x : Operand)
  | fieldV (agg : Bool) (off n : Nat) (x : Operand)
  | indexS (sz : Nat) (x i : Operand)
  | indexP (len sz : Nat) (x i : Operand)
  | indexV (len : Nat) (agg : Bool) (sz : Nat) (x i : Operand)
  | indexStr (x i : Operand)
  | ext (x : Operand) (i : Nat)
  | call (f : FuncId) (args : List Operand)
  | callv (x : Operand) (args : List Operand)
  | len (str : Bool) (x : Operand)
  | mkI (t : TypeId) (x : Operand)
  | mkF (f : FuncId) (first cap : List Operand)

structure XOper where
  dst : Option Nat
  guard : Option (Nat × Bool)
  x : XOp

inductive XC where
  | skip
  | ops (l : List XOper)
  | draw (n : Nat) (l : List XOper)
  | seq (a b : XC)
  | cond (c : Operand) (a b : XC)
  | block (id : Nat) (c : XC)
  | loop (m : List Bool) (c : XC)
  | exit (id : Nat)
  | ret

/-- A symbolic state. -/
structure St where
  fr : List SV
  L : List Chunk
  g : G

def get : List SV → Nat → SV
  | [], _ => .junk
  | x :: _, 0 => x
  | _ :: l, n + 1 => get l n

def put : List SV → Nat → SV → List SV
  | [], _, _ => []
  | _ :: l, 0, y => y :: l
  | x :: l, n + 1, y => x :: put l n y

def putO (fr : List SV) : Option Nat → SV → List SV
  | none, _ => fr
  | some d, v => put fr d v

def ev (fr : List SV) : Operand → SV
  | .tmp t => get fr t
  | .const v => .v v
  | .global g => .v (.pointer (some ⟨g, 0, none⟩))
  | .func f => .fn f [] []

/-- Not junk. -/
def nj : SV → (SV → Prop) → Prop
  | .junk, _ => False
  | .v x, K => K (.v x)
  | .ptr k o, K => K (.ptr k o)
  | .slc k o n c, K => K (.slc k o n c)
  | .mp k, K => K (.mp k)
  | .fn f a b, K => K (.fn f a b)
  | .iface t x, K => K (.iface t x)
  | .agg l, K => K (.agg l)
  | .tup l, K => K (.tup l)

def njL : List SV → (List SV → Prop) → Prop
  | [], K => K []
  | x :: l, K => nj x fun x => njL l fun l => K (x :: l)

/-- A check that is reckoned. -/
def ifOk : Bool → Prop → Prop
  | true, p => p
  | false, _ => False
def ifle (a b : Nat) (p : Prop) : Prop := ifOk (Nat.ble a b) p

/-- A Bool that may be open. -/
def bsplit : Bool → Prop → Prop → Prop
  | true, p, _ => p
  | false, _, q => q

theorem bsplit_of {t : Bool} {p q : Prop} (h1 : t = true → p) (h2 : t = false → q) : bsplit t p q := by
  cases t
  · exact h2 rfl
  · exact h1 rfl

/-- The cells at an address among the blocks that nobody writes. -/
def G.at (g : G) (a : Addr) (xs : List Value) : Prop :=
  a.spot = none ∧ ∃ c ty fz, g a.block = some (.cells c ty fz) ∧ ∀ i, i < xs.length → c[a.off + i]? = xs[i]?

/-- Blocks at places that are known as they are (a family): the function at hand owns them. -/
def isFam : Chunk → Bool
  | .fam _ => true
  | _ => false
noncomputable def famIdx (i : Nat) (L : List Chunk) : List Nat := List.rec (motive := fun _ => Nat → List Nat) (fun _ => []) (fun c _ ih i => match isFam c with | true => i :: ih (i + 1) | false => ih (i + 1)) L i
def famAt (L : List Chunk) (a : Addr) (xs : List Value) : Prop := ∃ (k : Nat) (h : G), L[k]? = some (Chunk.fam h) ∧ h.at a xs
/-- The cells at an address, among the blocks that nobody writes or (where families are looked at) a family's. -/
def memAt (fm : Bool) (L : List Chunk) (g : G) (a : Addr) (xs : List Value) : Prop := match fm with
  | false => g.at a xs
  | true => g.at a xs ∨ famAt L a xs
theorem memAt_elim {fm : Bool} {L : List Chunk} {g : G} {a : Addr} {xs : List Value} (h : memAt fm L g a xs) : g.at a xs ∨ (fm = true ∧ famAt L a xs) := by
  cases fm
  · exact .inl h
  · rcases h with h | h
    · exact .inl h
    · exact .inr ⟨rfl, h⟩
theorem famIdx_of {L : List Chunk} {k i : Nat} {h : G} (hk : L[k]? = some (.fam h)) : i + k ∈ famIdx i L := by
  induction L generalizing k i with
  | nil => simp at hk
  | cons c L ih =>
    have e : famIdx i (c :: L) = match isFam c with | true => i :: famIdx (i + 1) L | false => famIdx (i + 1) L := rfl
    cases k with
    | zero => simp at hk; subst hk; rw [e]; simp [isFam]
    | succ k =>
      have := ih (k := k) (i := i + 1) (by simpa using hk)
      rw [e, show i + (k + 1) = i + 1 + k by omega]
      cases isFam c
      · exact this
      · exact List.mem_cons_of_mem _ this
theorem memAt_intro {fm : Bool} {L : List Chunk} {g : G} {a : Addr} {xs : List Value} (h : g.at a xs ∨ (fm = true ∧ famAt L a xs)) : memAt fm L g a xs := by
  cases fm
  · rcases h with h | ⟨h, _⟩
    · exact h
    · cases h
  · rcases h with h | ⟨_, h⟩
    · exact .inl h
    · exact .inr h

def val1 (agg : Bool) (l : List SV) (K : SV → Prop) : Prop :=
  match agg with
  | true => K (.agg l)
  | false => match l with
    | [x] => nj x K
    | _ => False

def isJunk : SV → Bool
  | .junk => true
  | _ => false

def slice1 (l : List SV) (off n : Nat) : List SV := (l.drop off).take n

def fillS (cells : List SV) : List (Nat × Nat × SV) → Option (List SV)
  | [] => some cells
  | (off, size, x) :: rest =>
    match !(isJunk x) && Nat.beq x.cells.length size && Nat.ble (off + size) cells.length with
    | true => fillS (cells.take off ++ (x.cells ++ cells.drop (off + size))) rest
    | false => none

def intBin (op : BinOp) (k : IntKind) (a b : Int) (K : SV → Prop) : Prop :=
  match op with
  | .add => K (.v (.int k (k.wrap (a + b))))
  | .sub => K (.v (.int k (k.wrap (a - b))))
  | .mul => K (.v (.int k (k.wrap (a * b))))
  | .quo => b ≠ 0 ∧ K (.v (.int k (k.wrap (a.tdiv b))))
  | .rem => b ≠ 0 ∧ K (.v (.int k (a.tmod b)))
  | .and => K (.v (.int k (k.wrap (BitVec.ofInt k.bits a &&& BitVec.ofInt k.bits b).toNat)))
  | .or => K (.v (.int k (k.wrap (BitVec.ofInt k.bits a ||| BitVec.ofInt k.bits b).toNat)))
  | .xor => K (.v (.int k (k.wrap (BitVec.ofInt k.bits a ^^^ BitVec.ofInt k.bits b).toNat)))
  | .andNot => K (.v (.int k (k.wrap (BitVec.ofInt k.bits a &&& ~~~ BitVec.ofInt k.bits b).toNat)))
  | .eql => K (.v (.bool (a == b)))
  | .neq => K (.v (.bool (a != b)))
  | .lss => K (.v (.bool (decide (a < b))))
  | .leq => K (.v (.bool (decide (a ≤ b))))
  | .gtr => K (.v (.bool (decide (a > b))))
  | .geq => K (.v (.bool (decide (a ≥ b))))
  | _ => False

def strBin (op : BinOp) (a b : ByteArray) (K : SV → Prop) : Prop :=
  match op with
  | .add => a.size + b.size ≤ 9223372036854775807 ∧ K (.v (.string (a ++ b)))
  | .eql => K (.v (.bool (a.toList == b.toList)))
  | .neq => K (.v (.bool (!(a.toList == b.toList))))
  | .lss => K (.v (.bool (Op.bytesLess a.toList b.toList)))
  | _ => False

/-- One operation upon two values. -/
def valBin (op : BinOp) (x y : Value) (K : SV → Prop) : Prop :=
  match x with
  | .int k a => match y with
    | .int k' b => match op with
      | .shl => 0 ≤ b ∧ K (.v (.int k (k.wrap (a * 2 ^ (min b.toNat k.bits)))))
      | .shr => 0 ≤ b ∧ K (.v (.int k (a.fdiv (2 ^ (min b.toNat k.bits)))))
      | op => match decide (k = k') with
        | true => intBin op k a b K
        | false => False
    | _ => False
  | .string a => match y with
    | .string b => strBin op a b K
    | _ => False
  | _ => False

/-- Two rows of cells of given kinds (0 numbers, 1 bools, 2 strings), compared. -/
def eqKs : List Nat → List SV → List SV → (Bool → Prop) → Prop
  | [], [], [], K => K true
  | 0 :: ks, .v (.int k a) :: l, .v (.int k' b) :: m, K => match decide (k = k') with
    | true => eqKs ks l m fun r => K ((a == b) && r)
    | false => False
  | 1 :: ks, .v (.bool a) :: l, .v (.bool b) :: m, K => eqKs ks l m fun r => K ((a == b) && r)
  | 2 :: ks, .v (.string a) :: l, .v (.string b) :: m, K => eqKs ks l m fun r => K ((a.toList == b.toList) && r)
  | _, _, _, _ => False

/-- The bounds of a slice expression. -/
def boundsK (len cap : Nat) (lo hi : Bool) (vs : List SV) (K : Nat → Nat → Prop) : Prop :=
  match lo with
  | false => match hi with
    | false => K 0 len
    | true => match vs with
      | [.v (.int _ h)] => (0 ≤ h ∧ h ≤ cap) ∧ K 0 h.toNat
      | _ => False
  | true => match hi with
    | false => match vs with
      | [.v (.int _ l)] => (0 ≤ l ∧ l ≤ len) ∧ K l.toNat len
      | _ => False
    | true => match vs with
      | [.v (.int _ l), .v (.int _ h)] => (0 ≤ h ∧ h ≤ cap) ∧ (0 ≤ l ∧ l ≤ h) ∧ K l.toNat h.toNat
      | _ => False
def moved (lo : Bool) (m l sz : Nat) : Nat := match lo with
  | false => 0
  | true => if m = l then 0 else l * sz
def bytesOfInts (xs : List Int) : ByteArray := ⟨(xs.map fun n => UInt8.ofNat n.toNat).toArray⟩
/-- These cells, as numbers. -/
def u8s : List SV → Option (List Int)
  | [] => some []
  | .v (.int .u8 n) :: l => match u8s l with
    | some ns => some (n :: ns)
    | none => none
  | _ :: _ => none

def roY (y : YOp) (vs : List SV) (L : List Chunk) (g : G) (K : SV → Prop) : Prop :=
  match y with
  | .slcA n sz lo hi => match vs with
    | .ptr k off :: bs => boundsK n n lo hi bs fun l h => K (.slc k (off + moved lo n l sz) (h - l) (n - l))
    | .v (.pointer (some a)) :: bs => boundsK n n lo hi bs fun l h => K (.v (.slice (some (a.add (moved lo n l sz))) (h - l) (n - l)))
    | _ => False
  | .slcS sz lo hi => match vs with
    | .slc k off len cap :: bs => boundsK len cap lo hi bs fun l h => K (.slc k (off + moved lo cap l sz) (h - l) (cap - l))
    | .v (.slice a len cap) :: bs => boundsK len cap lo hi bs fun l h => K (.v (.slice (a.map fun a => a.add (moved lo cap l sz)) (h - l) (cap - l)))
    | _ => False
  | .slcT lo hi => match vs with
    | .v (.string s) :: bs => boundsK s.size s.size lo hi bs fun l h => K (.v (.string (s.extract l h)))
    | _ => False
  | .b2s => match vs with
    | [.slc k off n _] => match L[k]? with
      | some (.cells _ c) => ifOk (Nat.ble (off + n) c.length) (match u8s (slice1 c off n) with
        | some ns => K (.v (.string (bytesOfInts ns)))
        | none => False)
      | some (.vals _ c) => off + n ≤ c.length ∧ ∃ ns : List Int, (c.drop off).take n = ns.map (Value.int .u8) ∧ K (.v (.string (bytesOfInts ns)))
      | some (.row _ c _) => off + n ≤ c.length ∧ ∃ ns : List Int, (c.drop off).take n = ns.map (Value.int .u8) ∧ K (.v (.string (bytesOfInts ns)))
      | _ => False
    | [.v (.slice (some a) n _)] => ∃ ns : List Int, ns.length = n ∧ g.at a (ns.map (Value.int .u8)) ∧ K (.v (.string (bytesOfInts ns)))
    | [.v (.slice none _ _)] => K (.v (.string ByteArray.empty))
    | _ => False
  | .cmps => match vs with
    | [.v (.string a), .v (.string b)] => K (.v (.int .i64 (Lib.compareBytes a.data.toList b.data.toList)))
    | _ => False
  | .nilI neg => match vs with
    | [.v .nilIface] => K (.v (.bool (!neg)))
    | [.iface _ _] => K (.v (.bool neg))
    | [.v (.iface _ _)] => K (.v (.bool neg))
    | _ => False
  | .nilP neg => match vs with
    | [.ptr _ _] => K (.v (.bool neg))
    | [.v (.pointer none)] => K (.v (.bool (!neg)))
    | [.v (.pointer (some _))] => K (.v (.bool neg))
    | _ => False
  | .nilC => match vs with
    | [.ptr k o] => K (.ptr k o)
    | [.v (.pointer (some a))] => K (.v (.pointer (some a)))
    | _ => False
  | .tass t z => match vs with
    | [.v .nilIface] => K (.tup [.v z, .v (.bool false)])
    | [.iface t' y] => match Nat.beq t' t with
      | true => K (.tup [y, .v (.bool true)])
      | false => K (.tup [.v z, .v (.bool false)])
    | [.v (.iface t' y)] => match Nat.beq t' t with
      | true => K (.tup [.v y, .v (.bool true)])
      | false => K (.tup [.v z, .v (.bool false)])
    | _ => False
  | .bad => False

/-- What an operation yields that only reads. -/
def ro (fm : Bool) (x : XOp) (e : Operand → SV) (L : List Chunk) (g : G) (K : SV → Prop) : Prop :=
  match x with
  | .more y args => roY y (args.map e) L g K
  | .mov x => nj (e x) K
  | .pick c a b => match e c with
    | .v (.bool t) => bsplit t (nj (e a) K) (nj (e b) K)
    | _ => False
  | .build zs parts => match fillS (zs.map .v) (parts.map fun p => (p.1, p.2.1, e p.2.2)) with
    | some l => K (.agg l)
    | none => False
  | .load agg n a => match e a with
    | .ptr k off => match L[k]? with
      | some (.cells _ c) => ifle (off + n) c.length (val1 agg (slice1 c off n) K)
      | some (.vals _ c) => off + n ≤ c.length ∧ val1 agg ((((c.drop off).take n)).map .v) K
      | some (.row _ c _) => off + n ≤ c.length ∧ val1 agg ((((c.drop off).take n)).map .v) K
      | _ => False
    | .v (.pointer (some a)) => ∃ xs : List Value, xs.length = n ∧ memAt fm L g a xs ∧ val1 agg (xs.map .v) K
    | _ => False
  | .bin op x y => match e x with
    | .v x => match e y with
      | .v y => valBin op x y K
      | _ => False
    | _ => False
  | .eqB neg x y => match e x with
    | .v (.bool a) => match e y with
      | .v (.bool b) => K (.v (.bool (neg ^^ (a == b))))
      | _ => False
    | _ => False
  | .eqAgg neg ks x y => match e x with
    | .agg a => match e y with
      | .agg b => eqKs ks a b fun r => K (.v (.bool (neg ^^ r)))
      | _ => False
    | _ => False
  | .un op x => match e x with
    | .v (.bool b) => match op with
      | .not => K (.v (.bool (!b)))
      | _ => False
    | .v (.int k n) => match op with
      | .neg => K (.v (.int k (k.wrap (0 - n))))
      | .xor => K (.v (.int k (k.wrap (BitVec.ofInt k.bits (if k.signed then -1 else k.max) ^^^ BitVec.ofInt k.bits n).toNat)))
      | _ => False
    | _ => False
  | .conv k x => match e x with
    | .v (.int _ n) => K (.v (.int k (k.wrap n)))
    | _ => False
  | .fieldA off x => match e x with
    | .ptr k o => K (.ptr k (o + off))
    | .v (.pointer (some a)) => K (.v (.pointer (some (a.add off))))
    | _ => False
  | .fieldV agg off n x => match e x with
    | .agg l => ifle (off + n) l.length (val1 agg (slice1 l off n) K)
    | _ => False
  | .indexS sz x i => match e i with
    | .v (.int _ i) => match e x with
      | .v (.slice a len _) => (0 ≤ i ∧ i < len) ∧ ∃ ad, a = some ad ∧ K (.v (.pointer (some (ad.add (i.toNat * sz)))))
      | .slc k off len _ => (0 ≤ i ∧ i < len) ∧ K (.ptr k (off + i.toNat * sz))
      | _ => False
    | _ => False
  | .indexP len sz x i => match e i with
    | .v (.int _ i) => match e x with
      | .ptr k off => (0 ≤ i ∧ i < len) ∧ K (.ptr k (off + i.toNat * sz))
      | .v (.pointer (some a)) => (0 ≤ i ∧ i < len) ∧ K (.v (.pointer (some (a.add (i.toNat * sz)))))
      | _ => False
    | _ => False
  | .indexV len agg sz x i => match e i with
    | .v (.int _ i) => match e x with
      | .agg l => (0 ≤ i ∧ i < len) ∧ ifle (i.toNat * sz + sz) l.length (val1 agg (slice1 l (i.toNat * sz) sz) K)
      | _ => False
    | _ => False
  | .indexStr x i => match e i with
    | .v (.int _ i) => match e x with
      | .v (.string s) => (0 ≤ i ∧ i < s.size) ∧ K (.v (.int .u8 (s.data.toList.getD i.toNat 0).toNat))
      | _ => False
    | _ => False
  | .ext x i => match e x with
    | .tup l => nj (get l i) K
    | .v (.tuple c) => match c[i]? with
      | some y => K (.v y)
      | none => False
    | _ => False
  | .len str x => match str with
    | true => match e x with
      | .v (.string s) => K (.v (.int .i64 s.size))
      | _ => False
    | false => match e x with
      | .v (.slice _ n _) => K (.v (.int .i64 n))
      | .slc _ _ n _ => K (.v (.int .i64 n))
      | _ => False
  | .mkI t x => match e x with
    | .v y => K (.v (.iface t y))
    | .junk => False
    | y => K (.iface t y)
  | .mkF f a b => njL (a.map e) fun a => njL (b.map e) fun b => K (.fn f a b)
  | _ => False

end Go.Sx
end

/- A symbolic executor of my own, part 2: the code with the type tables looked up; what an operation that only reads yields in the model. Conditions: none; it speaks of any program. -/
section
namespace Go.Sx

/-- A type whose cells are numbers (0), bools (1) and strings (2), one behind the other. -/
def flatFs (rec : TypeId → Option (List Nat)) (P : Program) : List Field → Nat → Option (List Nat)
  | [], _ => some []
  | f :: fs, off => if f.offset = off ∧ f.name ≠ "_" then
      match rec f.type with
      | some ks => if P.cellsOf f.type = ks.length ∧ (P.info? f.type).isSome then (flatFs rec P fs (off + ks.length)).map (ks ++ ·) else none
      | none => none
    else none

def flatK (P : Program) : Nat → TypeId → Option (List Nat)
  | 0, _ => none
  | d + 1, t => match P.underlying t with
    | some .bool => some [1]
    | some (.int _) => some [0]
    | some .string => some [2]
    | some (.struct fs) => if P.stoodInHeld t then none else flatFs (flatK P d) P fs.toList 0
    | some (.array n e) => match flatK P d e with
      | some ks => if P.cellsOf e = ks.length ∧ (P.info? e).isSome then some (List.replicate n ks).flatten else none
      | none => none
    | _ => none

def aggT (P : Program) (t : TypeId) : Bool :=
  match P.underlying t with
  | some (.struct _) => true
  | some (.array _ _) => true
  | _ => false

def placesOf (P : Program) (t : TypeId) (ps : List (Nat × Operand)) : Option (List (Nat × Nat × Operand)) :=
  match P.underlying t with
  | some (.struct fs) => ps.mapM fun p => match fs[p.1]? with
    | some f => if (P.info? f.type).isSome then some (f.offset, P.cellsOf f.type, p.2) else none
    | none => none
  | some (.array _ e) => if (P.info? e).isSome then some (ps.map fun p => (p.1 * P.cellsOf e, P.cellsOf e, p.2)) else none
  | _ => none

def buildable (P : Program) (t : TypeId) : Bool :=
  match P.underlying t with
  | some (.struct fs) => fs.all fun f => (P.info? f.type).isSome
  | some (.array _ _) => true
  | _ => false

/-- An operation with what the tables say looked up. -/
def xop0 (P : Program) : Op → Option XOp
  | .move x => some (.mov x)
  | .assign x => some (.eff .set [x])
  | .pick c a b => some (.pick c a b)
  | .alloc t => match P.info? t with
    | some i => i.zero.map fun z => .alloc t z.cells.toList
    | none => none
  | .box t x => some (.box t x)
  | .build t ps => match P.info? t with
    | some i => match i.zero with
      | some z => if buildable P t then
          (placesOf P t ps.toList).map fun l => .build z.cells.toList l else none
      | none => none
    | none => none
  | .buildSlice t n ps => match P.underlying t with
    | some (.slice e) => match P.info? e with
      | some i => match i.zero with
        | some z => if n * i.size ≤ 16777216 ∧ n * i.size ≠ 0 ∧ z.cells.size = i.size then
            some (.bslice e n ((List.range (n * i.size)).map fun j => z.cells[j % z.cells.size]!) (ps.toList.map fun p => (p.1 * i.size, i.size, p.2))) else none
        | none => none
      | none => none
    | _ => none
  | .load t a => match P.info? t with
    | some i => if aggT P t then some (.load true i.size a) else if (P.underlying t).isSome then some (.load false 1 a) else none
    | none => none
  | .store t a x => match P.info? t with
    | some i => some (.store i.size a x)
    | none => none
  | .binOp op t x y _ => if aggT P t then
      match flatK P 12 t with
      | some ks => if P.eqGuardType P.depth t = false then
          match op with
          | .eql => some (.eqAgg false ks x y)
          | .neq => some (.eqAgg true ks x y)
          | _ => none
        else none
      | none => none
    else match P.underlying t with
      | some (.int _) => some (.bin op x y)
      | some .bool => match op with
        | .eql => some (.eqB false x y)
        | .neq => some (.eqB true x y)
        | _ => none
      | some .string => some (.bin op x y)
      | some (.interface _) => match y with
        | .const .nilIface => match op with
          | .eql => some (.more (.nilI false) [x])
          | .neq => some (.more (.nilI true) [x])
          | _ => none
        | _ => none
      | some (.pointer _) => match y with
        | .const (.pointer none) => match op with
          | .eql => some (.more (.nilP false) [x])
          | .neq => some (.more (.nilP true) [x])
          | _ => none
        | _ => none
      | _ => none
  | .unOp op _ x => some (.un op x)
  | .convert s d x => match P.underlying s with
    | some (.int _) => match P.underlying d with
      | some (.int k) => some (.conv k x)
      | _ => none
    | some (.slice e) => match P.underlying e with
      | some (.int .u8) => match P.underlying d with
        | some .string => some (.more .b2s [x])
        | _ => none
      | _ => none
    | _ => none
  | .fieldAddr s x f => match P.underlying s with
    | some (.struct fs) => match fs[f]? with
      | some f => if (P.info? f.type).isSome ∧ P.cellsOf f.type ≠ 0 then some (.fieldA f.offset x) else none
      | none => none
    | _ => none
  | .field s x f => match P.underlying s with
    | some (.struct fs) => match fs[f]? with
      | some f => if (P.info? f.type).isSome ∧ (P.underlying f.type).isSome then some (.fieldV (aggT P f.type) f.offset (if aggT P f.type then P.cellsOf f.type else 1) x) else none
      | none => none
    | _ => none
  | .indexAddr t x i => match P.underlying t with
    | some (.slice e) => if (P.info? e).isSome then some (.indexS (P.cellsOf e) x i) else none
    | some (.array n e) => if (P.info? e).isSome then some (.indexP n (P.cellsOf e) x i) else none
    | _ => none
  | .index t x i => match P.underlying t with
    | some (.array n e) => if (P.info? e).isSome ∧ (P.underlying e).isSome ∧ (aggT P e = false → P.cellsOf e = 1) then some (.indexV n (aggT P e) (P.cellsOf e) x i) else none
    | some .string => some (.indexStr x i)
    | _ => none
  | .extract x i => some (.ext x i)
  | .makeInterface t x => match P.underlying t with
    | some (.interface _) => none
    | some _ => some (.mkI t x)
    | none => none
  | .makeFunc fn a b => match fn with
    | .func f => some (.mkF f a.toList b.toList)
    | _ => none
  | .call c => match c.callee with
    | .value (.func f) => match P.funcs[f]? with
      | some fn => if fn.name = "internal/bytealg.abigen_runtime_cmpstring" ∧ fn.origin = "" ∧ fn.body.isNone then some (.more .cmps c.args.toList) else if fn.body.isNone then none else some (.call f c.args.toList)
      | none => none
    | .value x => some (.callv x c.args.toList)
    | .builtin .len => match c.args.toList, c.argTypes.toList with
      | [x], [t] => match P.underlying t with
        | some .string => some (.len true x)
        | some (.slice _) => some (.len false x)
        | _ => none
      | _, _ => none
    | .builtin .append => match c.args.toList, c.argTypes.toList with
      | [s, x], [t, t'] => if t = t' then match P.underlying t with
        | some (.slice e) => match P.info? e with
          | some i => match i.zero with
            | some z => if z.cells.size = i.size ∧ 0 < i.size ∧ 0 < i.bytes then some (.eff (.app e i.size i.bytes z.cells.toList) [s, x]) else none
            | none => none
          | none => none
        | _ => none
        else none
      | _, _ => none
    | _ => none
  | .nilCheck x => some (.more .nilC [x])
  | .typeAssert x _ t true => match P.info? t with
    | some i => match i.zero with
      | some z => match P.underlying t with
        | some (.interface _) => none
        | some _ => some (.more (.tass t z) [x])
        | none => none
      | none => none
    | none => none
  | .slice t x lo hi none => match P.underlying t with
    | some .string => some (.more (.slcT lo.isSome hi.isSome) (x :: lo.toList ++ hi.toList))
    | some (.slice e) => if (P.info? e).isSome then some (.more (.slcS (P.cellsOf e) lo.isSome hi.isSome) (x :: lo.toList ++ hi.toList)) else none
    | some (.array n e) => if (P.info? e).isSome then some (.more (.slcA n (P.cellsOf e) lo.isSome hi.isSome) (x :: lo.toList ++ hi.toList)) else none
    | _ => none
  | _ => none

/-- The operands of operations that are told by what the model makes of them. -/
def primOf : Op → Option (List Operand)
  | .makeSlice _ l c => some [l, c]
  | .buildSlice _ _ ps => some (ps.toList.map (·.2))
  | .convert _ _ x => some [x]
  | .makeMap _ r => some r.toList
  | .mapUpdate _ m k x => some [m, k, x]
  | .insert _ m k x => some [m, k, x]
  | .mapEntry _ m k => some [m, k]
  | .entryStore _ m s x => some [m, s, x]
  | .lookup _ x i _ => some [x, i]
  | .range _ x => some [x]
  | .next it _ => some [it]
  | .entry it => some [it]
  | .panic x => some [x]
  | .binOp _ _ x y _ => some [x, y]
  | .typeAssert x _ _ _ => some [x]
  | .slice _ x lo hi mx => some (x :: (lo.toList ++ (hi.toList ++ mx.toList)))
  | .call c => match c.callee with
    | .builtin _ => some c.args.toList
    | .invoke r _ => some (r :: c.args.toList)
    | .value (.func _) => some c.args.toList
    | _ => none
  | _ => none

/-- The same; what the tables do not settle is told as an operation that nobody may reach. -/
def xop (P : Program) (o : Op) : Option XOp :=
  match xop0 P o with
  | some x => some x
  | none => match primOf o with
    | some args => some (.prim o args)
    | none => some (.more .bad [])
theorem xop_cases {P : Program} {o : Op} {X : XOp} (h : xop P o = some X) : xop0 P o = some X ∨ X = .more .bad [] ∨ ∃ args, X = .prim o args := by
  unfold xop at h
  split at h
  · rename_i x hx
    cases h
    exact .inl hx
  · split at h
    · cases h
      exact .inr (.inr ⟨_, rfl⟩)
    · cases h
      exact .inr (.inl rfl)

def guardOf (ops : Array Oper) : Option (Nat × Bool) → Option (Option (Nat × Bool))
  | none => some none
  | some (j, b) => match (ops[j]?).bind (·.dst) with
    | some t => some (some (t, b))
    | none => none

def xoper (P : Program) (ops : Array Oper) (o : Oper) : Option XOper :=
  match xop P o.op with
  | some x => match guardOf ops o.guard with
    | some g => some ⟨o.dst, g, x⟩
    | none => none
  | none => none

theorem ifOk_elim {b : Bool} {p : Prop} (h : ifOk b p) : b = true ∧ p := by
  cases b
  · exact h.elim
  · exact ⟨rfl, h⟩
theorem ifle_elim {a b : Nat} {p : Prop} (h : ifle a b p) : a ≤ b ∧ p := ⟨Nat.le_of_ble_eq_true (ifOk_elim h).1, (ifOk_elim h).2⟩

/-! ### Values -/

theorem reL_map (σ : Nat → Nat) (l : List SV) : reL σ l = l.map (SV.re σ) := by
  induction l with
  | nil => simp [reL]
  | cons x l ih => simp [reL, ih]

theorem reL_v (σ : Nat → Nat) (l : List Value) : reL σ (l.map .v) = l := by
  induction l with
  | nil => rfl
  | cons x l ih => simp [reL, SV.re, ih]

theorem reL_append (σ : Nat → Nat) (a b : List SV) : reL σ (a ++ b) = reL σ a ++ reL σ b := by simp [reL_map]
theorem reL_take (σ : Nat → Nat) (a : List SV) (n : Nat) : reL σ (a.take n) = (reL σ a).take n := by simp [reL_map, List.map_take]
theorem reL_drop (σ : Nat → Nat) (a : List SV) (n : Nat) : reL σ (a.drop n) = (reL σ a).drop n := by simp [reL_map, List.map_drop]
theorem reL_length (σ : Nat → Nat) (a : List SV) : (reL σ a).length = a.length := by simp [reL_map]

theorem cells_re (σ : Nat → Nat) (x : SV) (h : x ≠ .junk) : (x.re σ).cells.toList = reL σ x.cells := by
  cases x with
  | junk => exact absurd rfl h
  | v y => cases y <;> simp [SV.re, SV.cells, reL, Value.cells] <;> rw [reL_v]
  | _ => simp [SV.re, SV.cells, reL, Value.cells]

/-- What reading asks of the state. -/
structure Reads (g : G) (L : List Chunk) (σ : Nat → Nat) (w : World) : Prop where
  im : ∀ b o, g b = some o → w.heap[b]? = some o
  lo : ∀ k c o, L[k]? = some c → c.obj σ = some o → w.heap[σ k]? = some o
  lf : ∀ (k : Nat) (h : G) (b : Nat) (o : Obj), L[k]? = some (Chunk.fam h) → h b = some o → w.heap[b]? = some o
theorem G.at_cell {g : G} {a : Addr} {xs : List Value} {w : World} (him : ∀ b o, g b = some o → w.heap[b]? = some o) (hat : g.at a xs) {j : Nat} {v : Value} (hv : xs[j]? = some v) : w.cell? (a.add j) = some v := by
  obtain ⟨hs, c, ty, fz, hg, hc⟩ := hat
  have hlt : j < xs.length := (List.getElem?_eq_some_iff.1 hv).1
  have hh := him _ _ hg
  obtain ⟨b, off, sp⟩ := a
  simp only at hs hc hh
  subst hs
  unfold Addr.add
  split
  · rename_i h0
    have h0 : j = 0 := by simpa using h0
    subst h0
    have := hc 0 hlt
    rw [Nat.add_zero] at this
    simp [World.cell?, hh, this, hv]
  · simp [World.cell?, hh, hc j hlt, hv]
theorem Reads.at {g : G} {L : List Chunk} {σ : Nat → Nat} {w : World} (h : Reads g L σ w) {fm : Bool} {a : Addr} {xs : List Value} (hat : memAt fm L g a xs) {j : Nat} {v : Value} (hv : xs[j]? = some v) : w.cell? (a.add j) = some v := by
  rcases memAt_elim hat with hat | ⟨_, k, H, hk, hat⟩
  · exact G.at_cell h.im hat hv
  · exact G.at_cell (fun b o hb => h.lf k H b o hk hb) hat hv

/-- The symbolic frame told of a frame. -/
def FR (σ : Nat → Nat) (fr : List SV) (tmps : Array Value) : Prop :=
  fr.length = tmps.size ∧ ∀ i x, get fr i = x → x ≠ .junk → tmps.getD i undef = x.re σ

theorem FR.ev {σ : Nat → Nat} {fr : List SV} {a : Act} (h : FR σ fr a.tmps) (x : Operand) (hx : Sx.ev fr x ≠ .junk) : a.eval x = (Sx.ev fr x).re σ := by
  cases x with
  | tmp t => exact h.2 t _ rfl hx
  | const v => simp [Sx.ev, SV.re, Act.eval]
  | global g => simp [Sx.ev, SV.re, Act.eval]
  | func f => simp [Sx.ev, SV.re, Act.eval, reL]

theorem nj_elim {x : SV} {K : SV → Prop} (h : nj x K) : x ≠ .junk ∧ K x := by
  cases x <;> first | exact h.elim | exact ⟨by simp, h⟩

theorem njL_elim {l : List SV} {K : List SV → Prop} (h : njL l K) : (∀ x ∈ l, x ≠ .junk) ∧ K l := by
  induction l generalizing K with
  | nil => exact ⟨by simp, h⟩
  | cons x l ih =>
    obtain ⟨hx, h1⟩ := nj_elim h
    obtain ⟨hl, h2⟩ := ih h1
    exact ⟨by simpa using ⟨hx, hl⟩, h2⟩

theorem bsplit_elim {t : Bool} {p q : Prop} (h : bsplit t p q) : (t = true ∧ p) ∨ (t = false ∧ q) := by
  cases t
  · exact .inr ⟨rfl, h⟩
  · exact .inl ⟨rfl, h⟩

/-! ### Memory -/

theorem Reads.cell {g : G} {L : List Chunk} {σ : Nat → Nat} {w : World} (h : Reads g L σ w) {k : Nat} {ty : TypeId} {c : List SV} (hk : L[k]? = some (.cells ty c)) (i : Nat) :
    w.cell? ⟨σ k, i, none⟩ = (reL σ c)[i]? := by
  have := h.lo k _ _ hk rfl
  simp [World.cell?, this]

theorem Reads.cellV {g : G} {L : List Chunk} {σ : Nat → Nat} {w : World} (h : Reads g L σ w) {k : Nat} {ty : TypeId} {c : List Value} (hk : L[k]? = some (.vals ty c)) (i : Nat) :
    w.cell? ⟨σ k, i, none⟩ = c[i]? := by
  have := h.lo k _ _ hk rfl
  simp [World.cell?, this]

theorem Reads.cellR {g : G} {L : List Chunk} {σ : Nat → Nat} {w : World} (h : Reads g L σ w) {k : Nat} {ty : TypeId} {c : List Value} {fz : Nat × Nat} (hk : L[k]? = some (.row ty c fz)) (i : Nat) :
    w.cell? ⟨σ k, i, none⟩ = c[i]? := by
  have := h.lo k _ _ hk rfl
  simp [World.cell?, this]

theorem add_cell (b off i : Nat) : (⟨b, off, none⟩ : Addr).add i = ⟨b, off + i, none⟩ := by
  unfold Addr.add
  split
  · simp_all
  · rfl

theorem run_loadVar_agg {P : Program} {t : TypeId} {i : TypeInfo} (hi : P.info? t = some i) (ha : aggT P t = true) (a : Addr) (xs : List Value) (hn : xs.length = i.size) (w : World)
    (h : ∀ j v, xs[j]? = some v → w.cell? (a.add j) = some v) : (loadVar t a).run P w = .ok (.agg xs.toArray) w := by
  have hd : (isAgg t).run P w = .ok true w := by
    unfold aggT at ha
    split at ha
    · rename_i fs hu; simp [isAgg, run_underlying hu]
    · rename_i n e hu; simp [isAgg, run_underlying hu]
    · cases ha
  have hl := run_loadCells_list (P := P) w a xs h
  rw [hn] at hl
  simp [loadVar, hd, sizeOf, typeInfo, hi, hl]

theorem run_loadVar_one {P : Program} {t : TypeId} (ha : aggT P t = false) (a : Addr) (v : Value) (w : World) (hu0 : (P.underlying t).isSome)
    (h : w.cell? a = some v) : (loadVar t a).run P w = .ok v w := by
  obtain ⟨d, hu⟩ := Option.isSome_iff_exists.1 hu0
  have hd : (isAgg t).run P w = .ok false w := by
    unfold aggT at ha
    rw [hu] at ha
    cases d <;> first | (cases ha; done) | simp [isAgg, run_underlying hu]
  simp [loadVar, hd, h]

theorem run_part_agg {P : Program} {t : TypeId} (hi : (P.info? t).isSome) (ha : aggT P t = true) (xs : List Value) (off : Nat) (w : World) :
    (part t xs.toArray off).run P w = .ok (.agg (((xs.drop off).take (P.cellsOf t))).toArray) w := by
  obtain ⟨i, hi⟩ := Option.isSome_iff_exists.1 hi
  have hd : (isAgg t).run P w = .ok true w := by
    unfold aggT at ha
    split at ha
    · rename_i fs hu; simp [isAgg, run_underlying hu]
    · rename_i n e hu; simp [isAgg, run_underlying hu]
    · cases ha
  have hc : P.cellsOf t = i.size := by simp [Program.cellsOf, hi]
  simp [part, hd, sizeOf, typeInfo, hi, hc]

theorem run_part_one {P : Program} {t : TypeId} (hu0 : (P.underlying t).isSome) (ha : aggT P t = false) (xs : List Value) (off : Nat) (v : Value) (w : World) (hv : xs[off]? = some v) :
    (part t xs.toArray off).run P w = .ok v w := by
  obtain ⟨d, hu⟩ := Option.isSome_iff_exists.1 hu0
  have hd : (isAgg t).run P w = .ok false w := by
    unfold aggT at ha
    rw [hu] at ha
    cases d <;> first | (cases ha; done) | simp [isAgg, run_underlying hu]
  simp [part, hd, hv]

end Go.Sx
end

/- A symbolic executor of my own, part 3: what an operation that only reads yields symbolically it yields in the model. Conditions: none; it speaks of any program. -/
section
namespace Go.Sx

/-- What part 3 shows of an operation. -/
def Yields1 (P : Program) (o : Oper) (fr : List SV) (L : List Chunk) (g : G) (r : SV) : Prop :=
  ∀ (σ : Nat → Nat) (a : Act) (w : World), FR σ fr a.tmps → Reads g L σ w → (execOp a.eval o).run P w = .ok (.value (r.re σ)) w

theorem val1_elim {agg : Bool} {l : List SV} {K : SV → Prop} (h : val1 agg l K) : (agg = true ∧ K (.agg l)) ∨ (agg = false ∧ ∃ x, l = [x] ∧ x ≠ .junk ∧ K x) := by
  cases agg with
  | true => exact .inl ⟨rfl, h⟩
  | false =>
    match l, h with
    | [x], h => exact .inr ⟨rfl, x, rfl, (nj_elim h).1, (nj_elim h).2⟩

theorem ro_mov {P : Program} {dst : Option Tmp} {y : Operand} {op : Op} (hop : op = .move y ∨ op = .assign y) {ty : TypeId} {pos : String} {af : Array Edge} {gd : Option (Nat × Bool)} {fr : List SV} {L : List Chunk} {g : G} {K : SV → Prop}
    (h : nj (ev fr y) K) : ∃ r, r ≠ .junk ∧ K r ∧ Yields1 P ⟨dst, op, ty, pos, af, gd⟩ fr L g r := by
  obtain ⟨hj, hk⟩ := nj_elim h
  refine ⟨_, hj, hk, fun σ a w hf _ => ?_⟩
  rcases hop with rfl | rfl <;> simp [execOp, hf.ev y hj]

theorem run_intBin {P : Program} {op : BinOp} {t : TypeId} {k : IntKind} {a b : Int} {K : SV → Prop} (h1 : op ≠ .shl) (h2 : op ≠ .shr) (h : intBin op k a b K) :
    ∃ r : Value, K (.v r) ∧ ∀ w, (binOp op t (.int k a) (.int k b)).run P w = .ok r w := by
  cases op <;> simp only [intBin] at h
  all_goals first
    | exact absurd rfl h1
    | exact absurd rfl h2
    | exact ⟨_, h, fun w => by simp [binOp, Op.intArith, Op.intBits, Op.intCmp]⟩
    | exact ⟨_, h.2, fun w => by simp [binOp, Op.intDiv, h.1]⟩

theorem run_strBin {P : Program} {op : BinOp} {t : TypeId} {a b : ByteArray} {K : SV → Prop} (h : strBin op a b K) :
    ∃ r : Value, K (.v r) ∧ ∀ w, (binOp op t (.string a) (.string b)).run P w = .ok r w := by
  cases op <;> simp only [strBin] at h
  case add =>
    refine ⟨_, h.2, fun w => ?_⟩
    have := h.1
    have e : ¬ (((a.size + b.size : Nat) : Int) > IntKind.i64.max) := by
      show ¬ (((a.size + b.size : Nat) : Int) > 9223372036854775807)
      omega
    simp only [binOp, Op.stringOp]
    rw [if_neg e]
    rfl
  all_goals exact ⟨_, h, fun w => by simp [binOp, Op.stringOp]⟩

theorem run_valBin {P : Program} {op : BinOp} {t : TypeId} {x y : Value} {K : SV → Prop} (h : valBin op x y K) :
    ∃ r : Value, K (.v r) ∧ (∀ w, (binOp op t x y).run P w = .ok r w) ∧ ∀ (xo yo : Operand) w, (eqGuard op t xo yo x y).run P w = .ok () w := by
  have hg : ∀ (xo yo : Operand) w, (∃ k a, x = .int k a) ∨ (∃ s, x = .string s) → (eqGuard op t xo yo x y).run P w = .ok () w := by
    rintro xo yo w (⟨k, a, rfl⟩ | ⟨s, rfl⟩) <;> simp only [eqGuard] <;> split <;> simp
  cases x with
  | int k a =>
    cases y with
    | int k' b =>
      by_cases h1 : op = .shl
      · subst h1
        simp only [valBin] at h
        exact ⟨_, h.2, fun w => by simp [binOp, Op.shift, show ¬ b < 0 by omega], fun xo yo w => hg xo yo w (.inl ⟨_, _, rfl⟩)⟩
      · by_cases h2 : op = .shr
        · subst h2
          simp only [valBin] at h
          exact ⟨_, h.2, fun w => by simp [binOp, Op.shift, show ¬ b < 0 by omega], fun xo yo w => hg xo yo w (.inl ⟨_, _, rfl⟩)⟩
        · have h' : match decide (k = k') with | true => intBin op k a b K | false => False := by
            cases op <;> first | exact absurd rfl h1 | exact absurd rfl h2 | exact h
          by_cases hk : k = k'
          case neg => simp [hk] at h'
          subst hk
          simp only [decide_true] at h'
          obtain ⟨r, h3, h4⟩ := run_intBin (P := P) (t := t) h1 h2 h'
          exact ⟨r, h3, h4, fun xo yo w => hg xo yo w (.inl ⟨_, _, rfl⟩)⟩
    | _ => exact h.elim
  | string a =>
    cases y with
    | string b =>
      obtain ⟨r, h3, h4⟩ := run_strBin (P := P) (t := t) (show strBin op a b K from h)
      exact ⟨r, h3, h4, fun xo yo w => hg xo yo w (.inr ⟨_, rfl⟩)⟩
    | _ => exact h.elim
  | _ => exact h.elim

/-! ### Rows of cells, compared -/

def eqRel : List Nat → List SV → List SV → Bool → Prop
  | [], [], [], r => r = true
  | 0 :: ks, .v (.int k a) :: l, .v (.int k' b) :: m, r => k = k' ∧ ∃ r', r = ((a == b) && r') ∧ eqRel ks l m r'
  | 1 :: ks, .v (.bool a) :: l, .v (.bool b) :: m, r => ∃ r', r = ((a == b) && r') ∧ eqRel ks l m r'
  | 2 :: ks, .v (.string a) :: l, .v (.string b) :: m, r => ∃ r', r = ((a.toList == b.toList) && r') ∧ eqRel ks l m r'
  | _, _, _, _ => False

theorem eqRel_of_eqKs : ∀ (ks : List Nat) (l m : List SV) (K : Bool → Prop), eqKs ks l m K → ∃ r, eqRel ks l m r ∧ K r := by
  intro ks l m K
  fun_induction eqKs ks l m K with
  | case1 K => intro h; exact ⟨true, rfl, h⟩
  | case2 K ks k a l k' b m hk ih =>
    intro h
    obtain ⟨r, h1, h2⟩ := ih h
    exact ⟨_, ⟨of_decide_eq_true hk, r, rfl, h1⟩, h2⟩
  | case3 => intro h; exact h.elim
  | case4 K ks a l b m ih =>
    intro h
    obtain ⟨r, h1, h2⟩ := ih h
    exact ⟨_, ⟨r, rfl, h1⟩, h2⟩
  | case5 K ks a l b m ih =>
    intro h
    obtain ⟨r, h1, h2⟩ := ih h
    exact ⟨_, ⟨r, rfl, h1⟩, h2⟩
  | case6 => intro h; exact h.elim

theorem eqRel_append : ∀ (ks ks2 : List Nat) (l m : List SV) (r : Bool), eqRel (ks ++ ks2) l m r →
    ∃ r1 r2, r = (r1 && r2) ∧ eqRel ks (l.take ks.length) (m.take ks.length) r1 ∧ eqRel ks2 (l.drop ks.length) (m.drop ks.length) r2 := by
  intro ks ks2
  induction ks with
  | nil => intro l m r h; exact ⟨true, r, by simp, by simp [eqRel], by simpa using h⟩
  | cons k ks ih =>
    intro l m r h
    match k, l, m, h with
    | 0, .v (.int _ a) :: l, .v (.int _ b) :: m, h =>
      obtain ⟨rfl, r', rfl, hq⟩ := h
      obtain ⟨r1, r2, rfl, h1, h2⟩ := ih l m r' hq
      exact ⟨(a == b) && r1, r2, by rw [Bool.and_assoc], ⟨rfl, r1, rfl, by simpa using h1⟩, by simpa using h2⟩
    | 1, .v (.bool a) :: l, .v (.bool b) :: m, h =>
      obtain ⟨r', rfl, hq⟩ := h
      obtain ⟨r1, r2, rfl, h1, h2⟩ := ih l m r' hq
      exact ⟨(a == b) && r1, r2, by rw [Bool.and_assoc], ⟨r1, rfl, by simpa using h1⟩, by simpa using h2⟩
    | 2, .v (.string a) :: l, .v (.string b) :: m, h =>
      obtain ⟨r', rfl, hq⟩ := h
      obtain ⟨r1, r2, rfl, h1, h2⟩ := ih l m r' hq
      exact ⟨(a.toList == b.toList) && r1, r2, by rw [Bool.and_assoc], ⟨r1, rfl, by simpa using h1⟩, by simpa using h2⟩

/-- What is compared: one cell, or cells. -/
def EqAt (P : Program) (d : Nat) (t : TypeId) (ks : List Nat) : Prop :=
  ∀ (l m : List SV) (r : Bool), eqRel ks l m r → ∀ (σ : Nat → Nat) (w : World) (D : Nat), d ≤ D →
    (aggT P t = true → (Op.equalIn D t (.agg (reL σ l).toArray) (.agg (reL σ m).toArray)).run P w = .ok r w) ∧
    (aggT P t = false → ∃ x y, l = [x] ∧ m = [y] ∧ (Op.equalIn D t (x.re σ) (y.re σ)).run P w = .ok r w)

theorem part_eq {P : Program} {d D : Nat} {t : TypeId} {ks : List Nat} (h : EqAt P d t ks) (hD : d ≤ D) (hu : (P.underlying t).isSome) (hi : (P.info? t).isSome) (hc : P.cellsOf t = ks.length) (off : Nat) {l m : List SV} {r : Bool}
    (he : eqRel ks ((l.drop off).take ks.length) ((m.drop off).take ks.length) r) (σ : Nat → Nat) (w : World) :
    ∃ a b, (part t (reL σ l).toArray off).run P w = .ok a w ∧ (part t (reL σ m).toArray off).run P w = .ok b w ∧ (Op.equalIn D t a b).run P w = .ok r w := by
  obtain ⟨h1, h2⟩ := h _ _ _ he σ w D hD
  cases ha : aggT P t with
  | true =>
    refine ⟨_, _, run_part_agg hi ha _ off w, run_part_agg hi ha _ off w, ?_⟩
    have := h1 ha
    rw [hc, ← reL_drop, ← reL_drop, ← reL_take, ← reL_take]
    exact this
  | false =>
    obtain ⟨x, y, hx, hy, hr⟩ := h2 ha
    have one : ∀ (z : List SV) (v : SV), (z.drop off).take ks.length = [v] → (reL σ z)[off]? = some (v.re σ) := by
      intro z v hz
      have h0 := congrArg (fun q => (reL σ q)[0]?) hz
      simp only [reL, reL_take, reL_drop] at h0
      rw [List.getElem?_take] at h0
      split at h0
      · simpa using h0
      · simp at h0
    exact ⟨_, _, run_part_one hu ha _ off _ w (one l x hx), run_part_one hu ha _ off _ w (one m y hy), hr⟩

theorem underlying_isSome_of_flatK {P : Program} {d : Nat} {t : TypeId} {ks : List Nat} (h : flatK P d t = some ks) : (P.underlying t).isSome := by
  cases d with
  | zero => cases h
  | succ d =>
    unfold flatK at h
    cases hu : P.underlying t with
    | none => rw [hu] at h; cases h
    | some _ => rfl

theorem run_eqFields_flat {P : Program} {d D : Nat} (hD : d ≤ D) (ih : ∀ t ks, flatK P d t = some ks → EqAt P d t ks) (σ : Nat → Nat) (w : World) (l m : List SV) :
    ∀ (fs : List Field) (off : Nat) (ks : List Nat) (r : Bool), flatFs (flatK P d) P fs off = some ks → eqRel ks (l.drop off) (m.drop off) r →
    (Op.eqFields D (reL σ l).toArray (reL σ m).toArray fs).run P w = .ok r w := by
  intro fs
  induction fs with
  | nil =>
    intro off ks r h he
    simp only [flatFs, Option.some.injEq] at h
    subst h
    have : r = true := by
      revert he
      cases l.drop off <;> cases m.drop off <;> simp [eqRel]
    simp [Op.eqFields, this]
  | cons f fs ihf =>
    intro off ks r h he
    simp only [flatFs] at h
    split at h
    case isFalse => cases h
    case isTrue hf =>
      obtain ⟨hoff, hname⟩ := hf
      cases hk : flatK P d f.type with
      | none => rw [hk] at h; cases h
      | some k1 =>
        rw [hk] at h
        simp only at h
        split at h
        case isFalse => cases h
        case isTrue hc =>
          rw [Option.map_eq_some_iff] at h
          obtain ⟨k2, hk2, rfl⟩ := h
          obtain ⟨r1, r2, rfl, h1, h2⟩ := eqRel_append _ _ _ _ _ he
          obtain ⟨a, b, p1, p2, p3⟩ := part_eq (ih _ _ hk) hD (underlying_isSome_of_flatK hk) hc.2 hc.1 off h1 σ w
          have hrest := ihf (off + k1.length) k2 r2 hk2 (by simpa [List.drop_drop] using h2)
          simp only [Op.eqFields, hname, ne_eq, not_false_eq_true, if_true, Sem.run_bind, hoff, p1, p2, p3, Result.andThen_ok]
          cases r1
          · simp
          · simpa using hrest

theorem run_eqItems_flat {P : Program} {d D : Nat} (hD : d ≤ D) {e : TypeId} {ks : List Nat} (ih : EqAt P d e ks) (hu : (P.underlying e).isSome) (hi : (P.info? e).isSome) (hc : P.cellsOf e = ks.length) (σ : Nat → Nat) (w : World) (l m : List SV) :
    ∀ (n k : Nat) (r : Bool), eqRel (List.replicate n ks).flatten (l.drop (k * ks.length)) (m.drop (k * ks.length)) r →
    (Op.eqItems D e (P.cellsOf e) (reL σ l).toArray (reL σ m).toArray (List.range' k n)).run P w = .ok r w := by
  intro n
  induction n with
  | zero =>
    intro k r he
    have : r = true := by
      revert he
      cases l.drop (k * ks.length) <;> cases m.drop (k * ks.length) <;> simp [eqRel]
    simp [Op.eqItems, this]
  | succ n ihn =>
    intro k r he
    simp only [List.replicate_succ, List.flatten_cons] at he
    obtain ⟨r1, r2, rfl, h1, h2⟩ := eqRel_append _ _ _ _ _ he
    obtain ⟨a, b, p1, p2, p3⟩ := part_eq ih hD hu hi hc (k * ks.length) h1 σ w
    have hrest := ihn (k + 1) r2 (by simpa [List.drop_drop, Nat.add_mul] using h2)
    simp only [List.range'_succ, Op.eqItems, Sem.run_bind]
    rw [hc] at hrest ⊢
    simp only [p1, p2, p3, Result.andThen_ok]
    cases r1
    · simp
    · simpa using hrest

theorem eqAt_of_flatK {P : Program} : ∀ (d : Nat) (t : TypeId) (ks : List Nat), flatK P d t = some ks → EqAt P d t ks := by
  intro d
  induction d with
  | zero => intro t ks h; cases h
  | succ d ih =>
    intro t ks h l m r he σ w D hD
    obtain ⟨D, rfl⟩ : ∃ D', D = D' + 1 := ⟨D - 1, by omega⟩
    simp only [flatK] at h
    cases hu : P.underlying t with
    | none => rw [hu] at h; cases h
    | some td =>
      rw [hu] at h
      cases td
      case bool =>
        simp only [Option.some.injEq] at h
        subst h
        refine ⟨fun ha => by simp [aggT, hu] at ha, fun _ => ?_⟩
        match l, m, he with
        | .v (.bool a) :: l, .v (.bool b) :: m, he =>
          obtain ⟨r', rfl, hq⟩ := he
          match l, m, hq with
          | [], [], hz =>
            have : r' = true := hz
            subst this
            exact ⟨_, _, rfl, rfl, by simp [SV.re, Op.equalIn, run_underlying hu]⟩
      case int k0 =>
        simp only [Option.some.injEq] at h
        subst h
        refine ⟨fun ha => by simp [aggT, hu] at ha, fun _ => ?_⟩
        match l, m, he with
        | .v (.int k a) :: l, .v (.int k' b) :: m, he =>
          obtain ⟨rfl, r', rfl, hq⟩ := he
          match l, m, hq with
          | [], [], hz =>
            have : r' = true := hz
            subst this
            exact ⟨_, _, rfl, rfl, by simp [SV.re, Op.equalIn, run_underlying hu]⟩
      case string =>
        simp only [Option.some.injEq] at h
        subst h
        refine ⟨fun ha => by simp [aggT, hu] at ha, fun _ => ?_⟩
        match l, m, he with
        | .v (.string a) :: l, .v (.string b) :: m, he =>
          obtain ⟨r', rfl, hq⟩ := he
          match l, m, hq with
          | [], [], hz =>
            have : r' = true := hz
            subst this
            exact ⟨_, _, rfl, rfl, by simp [SV.re, run_equalIn_string w D t a b hu]⟩
      case struct fs =>
        simp only at h
        split at h
        case isTrue => cases h
        case isFalse hs =>
          refine ⟨fun _ => ?_, fun ha => by simp [aggT, hu] at ha⟩
          have hfs : P.fieldsOf t = fs := by simp [Program.fieldsOf, hu]
          rw [run_equalIn_struct w D t _ _ (by rw [hfs]; exact hu) (by simpa using hs), hfs]
          exact run_eqFields_flat (by omega) ih σ w l m fs.toList 0 ks r h (by simpa using he)
      case array n e =>
        simp only at h
        cases hk : flatK P d e with
        | none => rw [hk] at h; cases h
        | some k1 =>
          rw [hk] at h
          simp only at h
          split at h
          case isFalse => cases h
          case isTrue hc =>
            simp only [Option.some.injEq] at h
            subst h
            obtain ⟨i, hi⟩ := Option.isSome_iff_exists.1 hc.2
            refine ⟨fun _ => ?_, fun ha => by simp [aggT, hu] at ha⟩
            rw [run_equalIn_array w D _ _ hu hi, List.range_eq_range']
            exact run_eqItems_flat (by omega) (ih _ _ hk) (underlying_isSome_of_flatK hk) hc.2 hc.1 σ w l m n 0 r (by simpa using he)
      all_goals (cases h)

end Go.Sx
end

/- A symbolic executor of my own, part 4: what an operation that only reads yields, all together. Conditions: none; it speaks of any program. -/
section
namespace Go.Sx

theorem foldl_set (off : Nat) : ∀ (xs : List Value) (j0 : Nat) (cs : Array Value), off + j0 + xs.length ≤ cs.size →
    ((xs.zipIdx j0).foldl (fun (cs : Array Value) (p : Value × Nat) => cs.setIfInBounds (off + p.2) p.1) cs).toList = cs.toList.take (off + j0) ++ (xs ++ cs.toList.drop (off + j0 + xs.length)) := by
  intro xs
  induction xs with
  | nil => intro j0 cs _; simp
  | cons x xs ih =>
    intro j0 cs h
    simp only [List.zipIdx_cons, List.foldl_cons]
    rw [ih (j0 + 1) _ (by simp at h ⊢; omega)]
    simp only [List.length_cons] at h
    apply List.ext_getElem?
    intro i
    simp only [Array.toList_setIfInBounds, List.getElem?_append, List.length_take, List.length_set, Array.length_toList, List.getElem?_take, List.getElem?_drop, List.getElem?_set, List.length_cons]
    by_cases h1 : i < off + j0
    · simp [h1, show min (off + (j0 + 1)) cs.size = off + j0 + 1 by omega, show min (off + j0) cs.size = off + j0 by omega, show i < off + j0 + 1 by omega, show i < off + (j0 + 1) by omega, show ¬ off + j0 = i by omega]
    · by_cases h2 : i = off + j0
      · subst h2
        simp [show min (off + (j0 + 1)) cs.size = off + j0 + 1 by omega, show min (off + j0) cs.size = off + j0 by omega, show off + j0 < off + (j0 + 1) by omega, show off + j0 < cs.size by omega]
      · have e1 : min (off + (j0 + 1)) cs.size = off + j0 + 1 := by omega
        have e2 : min (off + j0) cs.size = off + j0 := by omega
        have e3 : i - (off + j0) = (i - (off + j0 + 1)) + 1 := by omega
        simp only [e1, e2, h1, show ¬ i < off + j0 + 1 by omega, if_false, e3, List.getElem?_cons_succ]
        by_cases h3 : i - (off + j0 + 1) < xs.length
        · have h4 : i - (off + j0 + 1) + 1 < xs.length + 1 := by omega
          simp only [h3, h4, if_true]
        · have h4 : ¬ i - (off + j0 + 1) + 1 < xs.length + 1 := by omega
          simp only [h3, h4, if_false]
          rw [show off + (j0 + 1) + xs.length + (i - (off + j0 + 1) - xs.length) = off + j0 + (xs.length + 1) + (i - (off + j0 + 1) + 1 - (xs.length + 1)) from by clear e1 e2 ih; omega, if_neg (by clear e1 e2 ih; omega)]

theorem fill_of {σ : Nat → Nat} {place : Nat → Option (Nat × Nat)} : ∀ (ps : List (Nat × Value)) (qs : List (Nat × Nat × SV)) (cells : List SV) (l : List SV),
    ps.map (fun p => (place p.1, p.2)) = qs.map (fun q => (some (q.1, q.2.1), q.2.2.re σ)) → fillS cells qs = some l →
    Instr.fill place (reL σ cells).toArray ps = some (reL σ l).toArray := by
  intro ps
  induction ps with
  | nil =>
    intro qs cells l h hf
    cases qs with
    | nil => simp only [fillS, Option.some.injEq] at hf; subst hf; rfl
    | cons q qs => simp at h
  | cons p ps ih =>
    intro qs cells l h hf
    cases qs with
    | nil => simp at h
    | cons q qs =>
      obtain ⟨off, size, x⟩ := q
      obtain ⟨i, v⟩ := p
      simp only [List.map_cons, List.cons.injEq, Prod.mk.injEq] at h
      obtain ⟨⟨hp, rfl⟩, hrest⟩ := h
      simp only [fillS] at hf
      split at hf
      case h_2 => cases hf
      case h_1 hc0 =>
        simp only [Bool.and_eq_true, Bool.not_eq_true', Nat.ble_eq] at hc0
        have hx : x ≠ .junk := by rintro rfl; simp [isJunk] at hc0
        have hc : x.cells.length = size ∧ off + size ≤ cells.length := ⟨Nat.eq_of_beq_eq_true hc0.1.2, hc0.2⟩
        have hcl := cells_re σ x hx
        have hsz : (x.re σ).cells.size = size := by rw [← Array.length_toList, hcl, reL_length]; exact hc.1
        have hcs : (reL σ cells).length = cells.length := reL_length σ cells
        have key : ((x.re σ).cells.zipIdx.foldl (fun (cs : Array Value) (p : Value × Nat) => cs.setIfInBounds (off + p.2) p.1) (reL σ cells).toArray) = (reL σ (cells.take off ++ (x.cells ++ cells.drop (off + size)))).toArray := by
          apply Array.ext'
          rw [← Array.foldl_toList, Array.toList_zipIdx, foldl_set off _ 0 _ (by rw [Array.length_toList, hsz]; simp; omega)]
          simp only [Nat.add_zero, hcl, reL_length, reL_append, reL_take, reL_drop, hc.1]
        have := ih qs _ l hrest hf
        simp only [Instr.fill, hp]
        rw [if_neg (by simp [hsz]; omega)]
        rw [← this]
        congr 1


theorem ev_map {σ : Nat → Nat} {fr : List SV} {a : Act} (hf : FR σ fr a.tmps) (l : List Operand) (h : ∀ x ∈ l.map (ev fr), x ≠ .junk) : l.map a.eval = reL σ (l.map (ev fr)) := by
  induction l with
  | nil => rfl
  | cons x l ih =>
    simp only [List.map_cons, reL, List.cons.injEq]
    exact ⟨hf.ev x (h _ (by simp)), ih fun y hy => h y (by simp at hy ⊢; exact .inr hy)⟩

theorem placesOf_struct {P : Program} {t : TypeId} {fs : Array Field} (hu : P.underlying t = some (.struct fs)) {ps : List (Nat × Operand)} {l : List (Nat × Nat × Operand)} (h : placesOf P t ps = some l) :
    ps.map (fun p => ((fs[p.1]?).map fun f => (f.offset, P.cellsOf f.type), p.2)) = l.map fun q => (some (q.1, q.2.1), q.2.2) := by
  simp only [placesOf, hu] at h
  induction ps generalizing l with
  | nil => simp at h; subst h; rfl
  | cons p ps ih =>
    rw [List.mapM_cons] at h
    simp only [bind, Option.bind_eq_some_iff, pure, Option.some.injEq] at h
    obtain ⟨q, hq, l', hl, rfl⟩ := h
    simp only [List.map_cons, List.cons.injEq]
    refine ⟨?_, ih hl⟩
    cases hf : fs[p.1]? with
    | none => rw [hf] at hq; cases hq
    | some f =>
      rw [hf] at hq
      simp only at hq
      split at hq
      · simp only [Option.some.injEq] at hq; subst hq; rfl
      · cases hq

theorem fillS_nj : ∀ (qs : List (Nat × Nat × SV)) (cells l : List SV), fillS cells qs = some l → ∀ q ∈ qs, q.2.2 ≠ .junk := by
  intro qs
  induction qs with
  | nil => simp
  | cons q qs ih =>
    intro cells l h
    obtain ⟨off, size, x⟩ := q
    simp only [fillS] at h
    split at h
    case h_2 => cases h
    case h_1 hc =>
      intro y hy
      rcases List.mem_cons.1 hy with rfl | hy
      · rintro rfl
        simp [isJunk] at hc
      · exact ih _ _ h y hy

theorem run_build {P : Program} {t : TypeId} {i : TypeInfo} {z : Value} (hi : P.info? t = some i) (hz : i.zero = some z) (ps : List (Nat × Value)) (l : List SV) (σ : Nat → Nat) (qs : List (Nat × Nat × SV)) (hf : fillS (z.cells.toList.map .v) qs = some l)
    (hok : (∃ fs : Array Field, P.underlying t = some (.struct fs) ∧ (fs.all fun f => (P.info? f.type).isSome) = true ∧ ps.map (fun p => ((fs[p.1]?).map fun f => (f.offset, P.cellsOf f.type), p.2)) = qs.map (fun q => (some (q.1, q.2.1), q.2.2.re σ))) ∨
      (∃ n e, P.underlying t = some (.array n e) ∧ (P.info? e).isSome ∧ ps.map (fun p => (some (p.1 * P.cellsOf e, P.cellsOf e), p.2)) = qs.map (fun q => (some (q.1, q.2.1), q.2.2.re σ)))) (w : World) :
    (Instr.build t ps.toArray).run P w = .ok (.agg (reL σ l).toArray) w := by
  have hz' : (zeroValue t).run P w = .ok z w := by simp [zeroValue, typeInfo, hi, hz]
  have hc : z.cells = (reL σ (z.cells.toList.map .v)).toArray := by simp [reL_v]
  rcases hok with ⟨fs, hu, hall, hp⟩ | ⟨n, e, hu, he, hp⟩
  · have hpl : (fs.mapM fun f => (do pure (f.offset, ← sizeOf f.type) : Sem (Nat × Nat))).run P w = .ok (fs.map fun f => (f.offset, P.cellsOf f.type)) w := by
      rw [Array.mapM_eq_mapM_toList]
      have : ∀ l : List Field, (l.all fun f => (P.info? f.type).isSome) = true → (l.mapM fun f => (do pure (f.offset, ← sizeOf f.type) : Sem (Nat × Nat))).run P w = .ok (l.map fun f => (f.offset, P.cellsOf f.type)) w := by
        intro l
        induction l with
        | nil => intro _; simp
        | cons f l ih =>
          intro h
          simp only [List.all_cons, Bool.and_eq_true] at h
          obtain ⟨j, hj⟩ := Option.isSome_iff_exists.1 h.1
          have e1 : (do pure (f.offset, ← sizeOf f.type) : Sem (Nat × Nat)).run P w = .ok (f.offset, P.cellsOf f.type) w := by simp [sizeOf, typeInfo, hj, Program.cellsOf]
          rw [List.mapM_cons, Sem.run_bind, e1, Result.andThen_ok, Sem.run_bind, ih h.2]
          rfl
      rw [Sem.run_map, this fs.toList (by simpa using hall)]
      simp only [Result.andThen_ok, Result.ok.injEq, and_true]
      apply Array.ext'
      simp
    have hfill := fill_of (σ := σ) (place := fun i => (fs.map fun f => (f.offset, P.cellsOf f.type))[i]?) ps qs _ l (by simpa using hp) hf
    rw [← hc] at hfill
    simp only [Instr.build, Sem.run_bind, hz', Result.andThen_ok, run_underlying hu, hpl, hfill]
    rfl
  · obtain ⟨j, hj⟩ := Option.isSome_iff_exists.1 he
    have hcz : P.cellsOf e = j.size := by simp [Program.cellsOf, hj]
    have hfill := fill_of (σ := σ) (place := fun i => some (i * j.size, j.size)) ps qs _ l (by simpa [hcz] using hp) hf
    rw [← hc] at hfill
    simp only [Instr.build, Sem.run_bind, hz', Result.andThen_ok, run_underlying hu]
    simp [sizeOf, typeInfo, hj, hfill]

end Go.Sx
end

/- A symbolic executor of my own, part 5: each operation that only reads, one by one. Conditions: none; it speaks of any program. -/
section
namespace Go.Sx
variable {fm : Bool}

section
variable {P : Program} {o : Oper} {fr : List SV} {L : List Chunk} {g : G} {K : SV → Prop}

theorem ro_pick {c a b : Operand} (ho : o.op = .pick c a b) (h : ro fm (.pick c a b) (ev fr) L g K) : ∃ r, r ≠ .junk ∧ K r ∧ Yields1 P o fr L g r := by
  simp only [ro] at h
  split at h
  case h_2 => exact h.elim
  case h_1 t hc =>
    rcases bsplit_elim h with ⟨rfl, h⟩ | ⟨rfl, h⟩
    · obtain ⟨hj, hk⟩ := nj_elim h
      exact ⟨_, hj, hk, fun σ A w hf _ => by simp [execOp, ho, hf.ev c (by simp [hc]), hc, SV.re, asBool, hf.ev a hj]⟩
    · obtain ⟨hj, hk⟩ := nj_elim h
      exact ⟨_, hj, hk, fun σ A w hf _ => by simp [execOp, ho, hf.ev c (by simp [hc]), hc, SV.re, asBool, hf.ev b hj]⟩

theorem ro_build {t : TypeId} {ps : Array (Nat × Operand)} {x : XOp} (ho : o.op = .build t ps) (hx : xop0 P (.build t ps) = some x) (h : ro fm x (ev fr) L g K) : ∃ r, r ≠ .junk ∧ K r ∧ Yields1 P o fr L g r := by
  simp only [xop0] at hx
  cases hi : P.info? t with
  | none => simp [hi] at hx
  | some i =>
    rw [hi] at hx
    simp only at hx
    cases hz : i.zero with
    | none => simp [hz] at hx
    | some z =>
      rw [hz] at hx
      simp only at hx
      split at hx
      case isFalse => cases hx
      case isTrue hcond =>
        rw [Option.map_eq_some_iff] at hx
        obtain ⟨l, hl, rfl⟩ := hx
        simp only [ro] at h
        split at h
        case h_2 => exact h.elim
        case h_1 cs hfill =>
          refine ⟨_, by simp, h, fun σ A w hf _ => ?_⟩
          have hnj : ∀ q ∈ l, ev fr q.2.2 ≠ .junk := fun q hq => fillS_nj _ _ _ hfill (q.1, q.2.1, ev fr q.2.2) (List.mem_map.2 ⟨q, hq, rfl⟩)
          have hev : ∀ q ∈ l, A.eval q.2.2 = (ev fr q.2.2).re σ := fun q hq => hf.ev _ (hnj q hq)
          have harr : (ps.map fun (i, x) => (i, A.eval x)) = ((ps.toList.map fun p => (p.1, A.eval p.2))).toArray := by
            apply Array.ext'; simp
          have := run_build (P := P) hi hz (ps.toList.map fun p => (p.1, A.eval p.2)) cs σ (l.map fun p => (p.1, p.2.1, ev fr p.2.2)) hfill (by
            unfold buildable at hcond
            cases hu : P.underlying t with
            | none => simp [hu] at hcond
            | some d =>
              rw [hu] at hcond
              cases d
              case struct fs =>
                left
                refine ⟨fs, rfl, hcond, ?_⟩
                have hp := placesOf_struct hu hl
                have := congrArg (List.map fun p => (p.1, A.eval p.2)) hp
                simp only [List.map_map, Function.comp_def] at this ⊢
                rw [this]
                apply List.map_congr_left
                intro q hq
                simp [hev q hq]
              case array n e =>
                right
                simp only [placesOf, hu] at hl
                split at hl
                case isFalse => cases hl
                case isTrue he =>
                  simp only [Option.some.injEq] at hl
                  subst hl
                  refine ⟨n, e, rfl, he, ?_⟩
                  simp only [List.map_map, Function.comp_def]
                  apply List.map_congr_left
                  intro q hq
                  have := hev (q.1 * P.cellsOf e, P.cellsOf e, q.2) (List.mem_map.2 ⟨q, hq, rfl⟩)
                  simp [this]
              all_goals (simp at hcond)) w
          simp only [execOp, ho, harr, Sem.run_bind, this, Result.andThen_ok, Sem.run_pure, SV.re]

theorem get_slice1 {xs : List SV} {off n i : Nat} {v : SV} (h : (slice1 xs off n)[i]? = some v) : xs[off + i]? = some v := by
  unfold slice1 at h
  rw [List.getElem?_take] at h
  split at h
  · rwa [List.getElem?_drop] at h
  · cases h

theorem ro_load {t : TypeId} {ad : Operand} {x : XOp} (ho : o.op = .load t ad) (hx : xop0 P (.load t ad) = some x) (h : ro fm x (ev fr) L g K) : ∃ r, r ≠ .junk ∧ K r ∧ Yields1 P o fr L g r := by
  simp only [xop0] at hx
  cases hi : P.info? t with
  | none => simp [hi] at hx
  | some i =>
    rw [hi] at hx
    simp only at hx
    obtain ⟨agg, n, rfl, hagg, hn1, hnn⟩ : ∃ agg n, x = .load agg n ad ∧ aggT P t = agg ∧ (agg = false → n = 1 ∧ (P.underlying t).isSome) ∧ (agg = true → n = i.size) := by
      split at hx
      · rename_i ha
        exact ⟨true, i.size, by simpa using hx.symm, ha, by simp, by simp⟩
      · rename_i ha
        split at hx
        · rename_i hu
          exact ⟨false, 1, by simpa using hx.symm, by simpa using ha, fun _ => ⟨rfl, hu⟩, by simp⟩
        · cases hx
    -- the general step: the cells at an address
    have fin : ∀ (l : List SV), l.length = n → val1 agg l K → (∃ r, r ≠ .junk ∧ K r ∧ ∀ (σ : Nat → Nat) (a : Addr) (w : World), (∀ j v, (reL σ l)[j]? = some v → w.cell? (a.add j) = some v) → (loadVar t a).run P w = .ok (r.re σ) w) := by
      intro l hl hv
      rcases val1_elim hv with ⟨ha, hk⟩ | ⟨ha, y, rfl, hj, hk⟩
      · refine ⟨_, by simp, hk, fun σ a w hc => ?_⟩
        exact run_loadVar_agg hi (by rw [hagg, ha]) a _ (by rw [reL_length, hl, hnn ha]) w hc
      · refine ⟨y, hj, hk, fun σ a w hc => ?_⟩
        have := hc 0 (y.re σ) rfl
        exact run_loadVar_one (by rw [hagg, ha]) a _ w (hn1 ha).2 (by simpa [Addr.add] using this)
    have exe : ∀ (A : Act) (a : Addr) (w : World) (r : Value), A.eval ad = .pointer (some a) → (loadVar t a).run P w = .ok r w → (execOp A.eval o).run P w = .ok (.value r) w := by
      intro A a w r h1 h2
      simp [execOp, ho, h1, Instr.loadAt, Instr.sureAddr, h2]
    simp only [ro] at h
    split at h
    case h_1 k off hp =>
      split at h
      case h_1 ty c hL =>
        obtain ⟨hle, h⟩ := ifle_elim h
        obtain ⟨r, hj, hk, hr⟩ := fin (slice1 c off n) (by simp [slice1]; omega) h
        refine ⟨r, hj, hk, fun σ A w hf hw => exe A ⟨σ k, off, none⟩ w _ (by rw [hf.ev ad (by simp [hp]), hp]; rfl) (hr σ _ w fun j v hv => ?_)⟩
        rw [add_cell, hw.cell hL]
        rw [reL_map] at hv ⊢
        rw [List.getElem?_map] at hv ⊢
        obtain ⟨u, hu, rfl⟩ := Option.map_eq_some_iff.1 hv
        rw [get_slice1 hu]
        rfl
      case h_2 ty c hL =>
        obtain ⟨hle, h⟩ := h
        obtain ⟨r, hj, hk, hr⟩ := fin ((((c.drop off).take n)).map .v) (by simp; omega) h
        refine ⟨r, hj, hk, fun σ A w hf hw => exe A ⟨σ k, off, none⟩ w _ (by rw [hf.ev ad (by simp [hp]), hp]; rfl) (hr σ _ w fun j v hv => ?_)⟩
        rw [add_cell, hw.cellV hL]
        rw [reL_v, List.getElem?_take] at hv
        split at hv
        · rwa [List.getElem?_drop] at hv
        · cases hv
      case h_3 ty c fz hL =>
        obtain ⟨hle, h⟩ := h
        obtain ⟨r, hj, hk, hr⟩ := fin ((((c.drop off).take n)).map .v) (by simp; omega) h
        refine ⟨r, hj, hk, fun σ A w hf hw => exe A ⟨σ k, off, none⟩ w _ (by rw [hf.ev ad (by simp [hp]), hp]; rfl) (hr σ _ w fun j v hv => ?_)⟩
        rw [add_cell, hw.cellR hL]
        rw [reL_v, List.getElem?_take] at hv
        split at hv
        · rwa [List.getElem?_drop] at hv
        · cases hv
      case h_4 => exact h.elim
    case h_2 a hp =>
      obtain ⟨xs, hlen, hat, h⟩ := h
      obtain ⟨r, hj, hk, hr⟩ := fin (xs.map .v) (by simpa using hlen) h
      refine ⟨r, hj, hk, fun σ A w hf hw => exe A a w _ (by rw [hf.ev ad (by simp [hp]), hp]; rfl) (hr σ _ w fun j v hv => ?_)⟩
      rw [reL_v] at hv
      exact hw.at hat hv
    case h_3 => exact h.elim

theorem run_eql_bool {P : Program} {t : TypeId} (hu : P.underlying t = some .bool) (a b : Bool) (w : World) : (binOp .eql t (.bool a) (.bool b)).run P w = .ok (.bool (a == b)) w := by
  simp only [binOp, Op.equal, Op.maxDepth, Sem.run_bind]
  rw [run_equalIn_bool' w 9999 t a b hu]
  rfl
theorem run_neq_bool {P : Program} {t : TypeId} (hu : P.underlying t = some .bool) (a b : Bool) (w : World) : (binOp .neq t (.bool a) (.bool b)).run P w = .ok (.bool (!(a == b))) w := by
  simp only [binOp, Op.equal, Op.maxDepth, Sem.run_bind]
  rw [run_equalIn_bool' w 9999 t a b hu]
  rfl

theorem ro_bin {op : BinOp} {t : TypeId} {x y : Operand} {yt : TypeId} {X : XOp} (ho : o.op = .binOp op t x y yt) (hx : xop0 P (.binOp op t x y yt) = some X) (h : ro fm X (ev fr) L g K) : ∃ r, r ≠ .junk ∧ K r ∧ Yields1 P o fr L g r := by
  have exe : ∀ (A : Act) (w : World) (a b r : Value), A.eval x = a → A.eval y = b → (eqGuard op t x y a b).run P w = .ok () w → (binOp op t a b).run P w = .ok r w → (execOp A.eval o).run P w = .ok (.value r) w := by
    intro A w a b r h1 h2 h3 h4
    simp [execOp, ho, h1, h2, h3, h4]
  simp only [xop0] at hx
  split at hx
  case isTrue hagg =>
    cases hk : flatK P 12 t with
    | none => simp [hk] at hx
    | some ks =>
      rw [hk] at hx
      simp only at hx
      split at hx
      case isFalse => cases hx
      case isTrue hg =>
        obtain ⟨neg, hop, rfl⟩ : ∃ neg, ((op = .eql ∧ neg = false) ∨ (op = .neq ∧ neg = true)) ∧ X = .eqAgg neg ks x y := by
          cases op <;> simp at hx
          · exact ⟨false, .inl ⟨rfl, rfl⟩, hx.symm⟩
          · exact ⟨true, .inr ⟨rfl, rfl⟩, hx.symm⟩
        simp only [ro] at h
        split at h
        case h_2 => exact h.elim
        case h_1 a hxa =>
          split at h
          case h_2 => exact h.elim
          case h_1 b hyb =>
            obtain ⟨r, he, hkr⟩ := eqRel_of_eqKs _ _ _ _ h
            refine ⟨_, by simp, hkr, fun σ A w hf hw => ?_⟩
            have h1 := (eqAt_of_flatK 12 t ks hk a b r he σ w 10000 (by omega)).1 hagg
            refine exe A w (.agg (reL σ a).toArray) (.agg (reL σ b).toArray) _ (by rw [hf.ev x (by simp [hxa]), hxa]; rfl) (by rw [hf.ev y (by simp [hyb]), hyb]; rfl) (run_eqGuard_agg w op t x y _ _ hg) ?_
            rcases hop with ⟨rfl, rfl⟩ | ⟨rfl, rfl⟩
            · rw [run_eql_struct, h1]; simp [SV.re]
            · rw [run_neq_struct, h1]; simp [SV.re]
  case isFalse hagg =>
    cases hu : P.underlying t with
    | none => simp [hu] at hx
    | some d =>
      rw [hu] at hx
      have plain : X = .bin op x y → ∃ r, r ≠ .junk ∧ K r ∧ Yields1 P o fr L g r := by
        rintro rfl
        simp only [ro] at h
        split at h
        case h_2 => exact h.elim
        case h_1 a hxa =>
          split at h
          case h_2 => exact h.elim
          case h_1 b hyb =>
            obtain ⟨r, hk, h1, h2⟩ := run_valBin (P := P) (t := t) h
            exact ⟨_, by simp, hk, fun σ A w hf hw => exe A w a b r (by rw [hf.ev x (by simp [hxa]), hxa]; rfl) (by rw [hf.ev y (by simp [hyb]), hyb]; rfl) (h2 x y w) (h1 w)⟩
      cases d
      case int k => exact plain (by simpa using hx.symm)
      case string => exact plain (by simpa using hx.symm)
      case bool =>
        obtain ⟨neg, hop, rfl⟩ : ∃ neg, ((op = .eql ∧ neg = false) ∨ (op = .neq ∧ neg = true)) ∧ X = .eqB neg x y := by
          cases op <;> simp at hx
          · exact ⟨false, .inl ⟨rfl, rfl⟩, hx.symm⟩
          · exact ⟨true, .inr ⟨rfl, rfl⟩, hx.symm⟩
        simp only [ro] at h
        split at h
        case h_2 => exact h.elim
        case h_1 a hxa =>
          split at h
          case h_2 => exact h.elim
          case h_1 b hyb =>
            refine ⟨_, by simp, h, fun σ A w hf hw => ?_⟩
            refine exe A w (.bool a) (.bool b) _ (by rw [hf.ev x (by simp [hxa]), hxa]; rfl) (by rw [hf.ev y (by simp [hyb]), hyb]; rfl) (by cases op <;> simp [eqGuard]) ?_
            rcases hop with ⟨rfl, rfl⟩ | ⟨rfl, rfl⟩
            · rw [run_eql_bool hu]; simp [SV.re]
            · rw [run_neq_bool hu]; simp [SV.re]
      case interface ms =>
        have hms : P.underlying t = some (.interface (P.methodsAt t)) := by rw [hu]; simp [Program.methodsAt, hu]
        simp only at hx
        split at hx
        case h_2 => cases hx
        case h_1 =>
          obtain ⟨neg, hop, rfl⟩ : ∃ neg, ((op = .eql ∧ neg = false) ∨ (op = .neq ∧ neg = true)) ∧ X = .more (.nilI neg) [x] := by
            cases op <;> simp at hx
            · exact ⟨false, .inl ⟨rfl, rfl⟩, hx.symm⟩
            · exact ⟨true, .inr ⟨rfl, rfl⟩, hx.symm⟩
          simp only [ro, roY, List.map_cons, List.map_nil] at h
          have held : ∀ (A : Act) (w : World) (u : TypeId) (z : Value), A.eval x = .iface u z → (execOp A.eval o).run P w = .ok (.value (.bool neg)) w := by
            intro A w u z hz
            refine exe A w (.iface u z) .nilIface _ hz rfl (by cases op <;> simp [eqGuard]) ?_
            rcases hop with ⟨rfl, rfl⟩ | ⟨rfl, rfl⟩
            · rw [run_eql_held_nil w t u z hms]
            · rw [run_neq_held_nil w t u z hms]
          split at h
          case h_1 hv =>
            have hx0 : ev fr x = .v .nilIface := by simpa using hv
            refine ⟨_, by simp, h, fun σ A w hf hw => ?_⟩
            refine exe A w .nilIface .nilIface _ (by rw [hf.ev x (by simp [hx0]), hx0]; rfl) rfl (by rw [eqGuard_nil_constR]; rfl) ?_
            rcases hop with ⟨rfl, rfl⟩ | ⟨rfl, rfl⟩
            · rw [run_eql_nil_nil w t hms]; simp [SV.re]
            · rw [run_neq_nil_nil w t hms]; simp [SV.re]
          case h_2 u z hv =>
            have hx0 : ev fr x = .iface u z := by simpa using hv
            exact ⟨_, by simp, h, fun σ A w hf hw => held A w u (z.re σ) (by rw [hf.ev x (by simp [hx0]), hx0]; rfl)⟩
          case h_3 u z hv =>
            have hx0 : ev fr x = .v (.iface u z) := by simpa using hv
            exact ⟨_, by simp, h, fun σ A w hf hw => held A w u z (by rw [hf.ev x (by simp [hx0]), hx0]; rfl)⟩
          case h_4 => exact h.elim
      case pointer e =>
        have hpt : P.underlying t = some (.pointer (P.pointee t)) := by rw [hu]; simp [Program.pointee, hu]
        simp only at hx
        split at hx
        case h_2 => cases hx
        case h_1 =>
          obtain ⟨neg, hop, rfl⟩ : ∃ neg, ((op = .eql ∧ neg = false) ∨ (op = .neq ∧ neg = true)) ∧ X = .more (.nilP neg) [x] := by
            cases op <;> simp at hx
            · exact ⟨false, .inl ⟨rfl, rfl⟩, hx.symm⟩
            · exact ⟨true, .inr ⟨rfl, rfl⟩, hx.symm⟩
          simp only [ro, roY, List.map_cons, List.map_nil] at h
          have key : ∀ (A : Act) (w : World) (p : Option Addr), A.eval x = .pointer p → (execOp A.eval o).run P w = .ok (.value (.bool (neg ^^ p.isNone))) w := by
            intro A w p hz
            refine exe A w (.pointer p) (.pointer none) _ hz rfl (by cases op <;> simp [eqGuard]) ?_
            rcases hop with ⟨rfl, rfl⟩ | ⟨rfl, rfl⟩
            · rw [run_eql_pointer_nil w t p hpt]; simp
            · rw [run_neq_pointer_nil w t p hpt]; simp
          split at h
          case h_1 k off hv =>
            have hx0 : ev fr x = .ptr k off := by simpa using hv
            exact ⟨_, by simp, h, fun σ A w hf hw => by simpa [SV.re] using key A w (some ⟨σ k, off, none⟩) (by rw [hf.ev x (by simp [hx0]), hx0]; rfl)⟩
          case h_2 hv =>
            have hx0 : ev fr x = .v (.pointer none) := by simpa using hv
            exact ⟨_, by simp, h, fun σ A w hf hw => by simpa [SV.re] using key A w none (by rw [hf.ev x (by simp [hx0]), hx0]; rfl)⟩
          case h_3 a hv =>
            have hx0 : ev fr x = .v (.pointer (some a)) := by simpa using hv
            exact ⟨_, by simp, h, fun σ A w hf hw => by simpa [SV.re] using key A w (some a) (by rw [hf.ev x (by simp [hx0]), hx0]; rfl)⟩
          case h_4 => exact h.elim
      all_goals (simp at hx)

end
end Go.Sx
end

/- A symbolic executor of my own, part 6: the other operations that only read; all of them together. Conditions: none; it speaks of any program. -/
section
namespace Go.Sx
variable {fm : Bool}

section
variable {P : Program} {o : Oper} {fr : List SV} {L : List Chunk} {g : G} {K : SV → Prop}

theorem ro_un {op : UnOp} {t : TypeId} {x : Operand} (ho : o.op = .unOp op t x) (h : ro fm (.un op x) (ev fr) L g K) : ∃ r, r ≠ .junk ∧ K r ∧ Yields1 P o fr L g r := by
  simp only [ro] at h
  split at h
  case h_1 b hx =>
    cases op <;> simp only at h
    exact ⟨_, by simp, h, fun σ A w hf _ => by simp [execOp, ho, hf.ev x (by simp [hx]), hx, SV.re, Op.unary]⟩
  case h_2 k n hx =>
    cases op <;> simp only at h
    · exact ⟨_, by simp, h, fun σ A w hf _ => by simp [execOp, ho, hf.ev x (by simp [hx]), hx, SV.re, Op.unary, Op.intArith]⟩
    · exact ⟨_, by simp, h, fun σ A w hf _ => by simp [execOp, ho, hf.ev x (by simp [hx]), hx, SV.re, Op.unary, Op.intBits]⟩
  case h_3 => exact h.elim

theorem run_sizeOf' {t : TypeId} (hi : (P.info? t).isSome) (w : World) : (sizeOf t).run P w = .ok (P.cellsOf t) w := by
  obtain ⟨i, hi⟩ := Option.isSome_iff_exists.1 hi
  simp [sizeOf, typeInfo, hi, Program.cellsOf]

/-! ### More operations that only read -/

theorem boundsK_elim {isSlice : Bool} {len cap : Nat} {lo hi : Option Operand} {K' : Nat → Nat → Prop} (h : boundsK len cap lo.isSome hi.isSome ((lo.toList ++ hi.toList).map (ev fr)) K') :
    ∃ l u, K' l u ∧ (lo = none → l = 0) ∧ ∀ (σ : Nat → Nat) (a : Act) (w : World), FR σ fr a.tmps → (Instr.sliceBounds isSlice len cap (lo.map a.eval) (hi.map a.eval) none).run P w = .ok (l, u, cap) w := by
  have val : ∀ (y : Operand) (k : IntKind) (n : Int), ev fr y = .v (.int k n) → ∀ (σ : Nat → Nat) (a : Act), FR σ fr a.tmps → a.eval y = .int k n := fun y k n hy σ a hf => by rw [hf.ev y (by simp [hy]), hy]; rfl
  have bound : ∀ (k : IntKind) (n : Int) (m : Nat) (code : BoundsCode) (w : World), 0 ≤ n ∧ n ≤ m → (Instr.sliceBound (.int k n) m code).run P w = .ok n.toNat w := fun k n m code w hb => by
    simp [Instr.sliceBound, asIntOf, hb.1, hb.2]
  cases lo with
  | none =>
    cases hi with
    | none => exact ⟨0, len, h, fun _ => rfl, fun σ a w hf => by simp [Instr.sliceBounds]⟩
    | some y =>
      simp only [boundsK, Option.isSome_none, Option.isSome_some, Option.toList, List.nil_append, List.map_cons, List.map_nil] at h
      split at h
      case h_2 => exact h.elim
      case h_1 k n hy =>
        have hy' : ev fr y = .v (.int k n) := by simpa using hy
        refine ⟨0, n.toNat, h.2, fun _ => rfl, fun σ a w hf => ?_⟩
        simp only [Option.map_none, Option.map_some, val y k n hy' σ a hf]
        unfold Instr.sliceBounds
        simp [bound k n cap _ w h.1]
  | some x =>
    cases hi with
    | none =>
      simp only [boundsK, Option.isSome_none, Option.isSome_some, Option.toList, List.append_nil, List.map_cons, List.map_nil] at h
      split at h
      case h_2 => exact h.elim
      case h_1 k n hy =>
        have hy' : ev fr x = .v (.int k n) := by simpa using hy
        refine ⟨n.toNat, len, h.2, nofun, fun σ a w hf => ?_⟩
        simp only [Option.map_none, Option.map_some, val x k n hy' σ a hf]
        unfold Instr.sliceBounds
        simp [bound k n len _ w h.1]
    | some y =>
      simp only [boundsK, Option.isSome_some, Option.toList, List.cons_append, List.nil_append, List.map_cons, List.map_nil] at h
      split at h
      case h_2 => exact h.elim
      case h_1 k n k2 n2 hy =>
        obtain ⟨hx', hy'⟩ : ev fr x = .v (.int k n) ∧ ev fr y = .v (.int k2 n2) := by simpa using hy
        refine ⟨n.toNat, n2.toNat, h.2.2, nofun, fun σ a w hf => ?_⟩
        simp only [Option.map_some, val x k n hx' σ a hf, val y k2 n2 hy' σ a hf]
        unfold Instr.sliceBounds
        have hb : 0 ≤ n ∧ n ≤ (n2.toNat : Int) := by omega
        simp [bound k2 n2 cap _ w h.1, bound k n n2.toNat _ w hb]

theorem moved_eq {lo : Option Operand} {m l sz : Nat} (h0 : lo = none → l = 0) (a : Addr) : (if m = l then a else a.add (l * sz)) = a.add (moved lo.isSome m l sz) := by
  have add0 : ∀ a : Addr, a.add 0 = a := fun a => by simp [Addr.add]
  cases lo with
  | none =>
    rw [h0 rfl]
    simp [moved, add0]
  | some x =>
    simp only [Option.isSome_some, moved]
    split <;> simp [add0]

theorem roY_slice {t : TypeId} {x : Operand} {lo hi : Option Operand} {X : XOp} (ho : o.op = .slice t x lo hi none) (hX : xop0 P (.slice t x lo hi none) = some X) (h : ro fm X (ev fr) L g K) : ∃ r, r ≠ .junk ∧ K r ∧ Yields1 P o fr L g r := by
  simp only [xop0] at hX
  cases hs : P.underlying t with
  | none => simp [hs] at hX
  | some sd =>
    rw [hs] at hX
    cases sd
    case string =>
      simp only [Option.some.injEq] at hX
      subst hX
      simp only [ro, List.cons_append, List.map_cons, roY] at h
      split at h
      case h_2 => exact h.elim
      case h_1 s bs hv =>
        obtain ⟨hx, rfl⟩ : ev fr x = .v (.string s) ∧ (lo.toList ++ hi.toList).map (ev fr) = bs := by simpa using hv
        obtain ⟨l, u, hk, _, hr⟩ := boundsK_elim (P := P) (isSlice := false) h
        refine ⟨_, by simp, hk, fun σ A w hf _ => ?_⟩
        simp only [execOp, ho, hf.ev x (by simp [hx]), hx, SV.re, Instr.sliceAt, Instr.slice, Sem.run_bind, run_underlying hs, Result.andThen_ok, Option.map_none]
        simp [hr σ A w hf]
    case slice e =>
      simp only at hX
      split at hX
      case isFalse => cases hX
      case isTrue he =>
        simp only [Option.some.injEq] at hX
        subst hX
        simp only [ro, List.cons_append, List.map_cons, roY] at h
        split at h
        case h_1 k off len cap bs hv =>
          obtain ⟨hx, rfl⟩ : ev fr x = .slc k off len cap ∧ (lo.toList ++ hi.toList).map (ev fr) = bs := by simpa using hv
          obtain ⟨l, u, hk, h0, hr⟩ := boundsK_elim (P := P) (isSlice := true) h
          refine ⟨_, by simp, hk, fun σ A w hf _ => ?_⟩
          simp only [execOp, ho, hf.ev x (by simp [hx]), hx, SV.re, Instr.sliceAt, Instr.slice, Sem.run_bind, run_underlying hs, Result.andThen_ok, Option.map_none, hr σ A w hf, run_sizeOf' he, Sem.run_pure]
          have := moved_eq (m := cap) (sz := P.cellsOf e) h0 ⟨σ k, off, none⟩
          rw [add_cell (i := moved lo.isSome cap l (P.cellsOf e))] at this
          congr 3
          rw [← this]
          split <;> simp
        case h_2 a len cap bs hv =>
          obtain ⟨hx, rfl⟩ : ev fr x = .v (.slice a len cap) ∧ (lo.toList ++ hi.toList).map (ev fr) = bs := by simpa using hv
          obtain ⟨l, u, hk, h0, hr⟩ := boundsK_elim (P := P) (isSlice := true) h
          refine ⟨_, by simp, hk, fun σ A w hf _ => ?_⟩
          simp only [execOp, ho, hf.ev x (by simp [hx]), hx, SV.re, Instr.sliceAt, Instr.slice, Sem.run_bind, run_underlying hs, Result.andThen_ok, Option.map_none, hr σ A w hf, run_sizeOf' he, Sem.run_pure]
          congr 3
          cases a with
          | none => simp
          | some a =>
            have := moved_eq (m := cap) (sz := P.cellsOf e) h0 a
            simp only [Option.map_some, ← this]
            split <;> rfl
        case h_3 => exact h.elim
    case array n e =>
      simp only at hX
      split at hX
      case isFalse => cases hX
      case isTrue he =>
        simp only [Option.some.injEq] at hX
        subst hX
        simp only [ro, List.cons_append, List.map_cons, roY] at h
        split at h
        case h_1 k off bs hv =>
          obtain ⟨hx, rfl⟩ : ev fr x = .ptr k off ∧ (lo.toList ++ hi.toList).map (ev fr) = bs := by simpa using hv
          obtain ⟨l, u, hk, h0, hr⟩ := boundsK_elim (P := P) (isSlice := false) h
          refine ⟨_, by simp, hk, fun σ A w hf _ => ?_⟩
          simp only [execOp, ho, hf.ev x (by simp [hx]), hx, SV.re, Instr.sliceAt, Instr.sureAddr, Sem.run_bind, run_underlying hs, Result.andThen_ok, Option.map_none, hr σ A w hf, run_sizeOf' he, Sem.run_pure]
          have := moved_eq (m := n) (sz := P.cellsOf e) h0 ⟨σ k, off, none⟩
          rw [add_cell (i := moved lo.isSome n l (P.cellsOf e))] at this
          rw [this]
        case h_2 a bs hv =>
          obtain ⟨hx, rfl⟩ : ev fr x = .v (.pointer (some a)) ∧ (lo.toList ++ hi.toList).map (ev fr) = bs := by simpa using hv
          obtain ⟨l, u, hk, h0, hr⟩ := boundsK_elim (P := P) (isSlice := false) h
          refine ⟨_, by simp, hk, fun σ A w hf _ => ?_⟩
          simp only [execOp, ho, hf.ev x (by simp [hx]), hx, SV.re, Instr.sliceAt, Instr.sureAddr, Sem.run_bind, run_underlying hs, Result.andThen_ok, Option.map_none, hr σ A w hf, run_sizeOf' he, Sem.run_pure]
          rw [moved_eq (m := n) (sz := P.cellsOf e) h0 a]
        case h_3 => exact h.elim
    all_goals (simp at hX)

theorem u8s_spec : ∀ {l : List SV} {ns : List Int}, u8s l = some ns → l = (ns.map (Value.int .u8)).map .v
  | [], ns, h => by simp only [u8s, Option.some.injEq] at h; subst h; rfl
  | x :: l, ns, h => by
    unfold u8s at h
    split at h
    · rename_i h0; cases h0
    · rename_i n l' heq
      cases heq
      split at h
      · rename_i ns' hns
        cases h
        rw [u8s_spec hns]
        rfl
      · cases h
    · cases h

theorem roY_b2s {s d : TypeId} {x : Operand} {e : TypeId} (ho : o.op = .convert s d x) (hs : P.underlying s = some (.slice e)) (he : P.underlying e = some (.int .u8)) (hd : P.underlying d = some .string) (h : ro fm (.more .b2s [x]) (ev fr) L g K) : ∃ r, r ≠ .junk ∧ K r ∧ Yields1 P o fr L g r := by
  have key : ∀ (b off len cap : Nat) (ns : List Int) (w : World), ns.length = len → (∀ i, i < len → w.cell? ⟨b, off + i, none⟩ = some (.int .u8 (ns.getD i 0))) → (convert s d (.slice (some ⟨b, off, none⟩) len cap)).run P w = .ok (.string (bytesOfInts ns)) w :=
    fun b off len cap ns w hl hc => run_convert_bytes_arg w s e hs he b off len cap ns hl hc d hd
  simp only [ro, List.map_cons, List.map_nil, roY] at h
  split at h
  case h_1 k off n cap hv =>
    have hx : ev fr x = .slc k off n cap := by simpa using hv
    split at h
    case h_1 ty c hc =>
      obtain ⟨hb, h⟩ := ifOk_elim h
      have hle := Nat.le_of_ble_eq_true hb
      split at h
      case h_2 => exact h.elim
      case h_1 ns hns =>
        refine ⟨_, by simp, h, fun σ A w hf hR => ?_⟩
        have hsp := u8s_spec hns
        have hlen : ns.length = n := by
          have := congrArg List.length hsp
          simp [slice1] at this
          omega
        have := key (σ k) off n cap ns w hlen fun i hi => by
          rw [hR.cell hc]
          have h1 : (reL σ (slice1 c off n))[i]? = some (.int .u8 (ns.getD i 0)) := by
            rw [hsp, reL_v, List.getElem?_map, List.getElem?_eq_getElem (by omega)]
            simp [List.getD, List.getElem?_eq_getElem (show i < ns.length by omega)]
          rw [slice1, reL_take, reL_drop, List.getElem?_take, if_pos hi, List.getElem?_drop] at h1
          exact h1
        simp only [execOp, ho, hf.ev x (by simp [hx]), hx, SV.re, Sem.run_bind, this, Result.andThen_ok, Sem.run_pure]
    case h_2 ty c hc =>
      obtain ⟨hle, ns, hsp, h⟩ := h
      refine ⟨_, by simp, h, fun σ A w hf hR => ?_⟩
      have hlen : ns.length = n := by
        have := congrArg List.length hsp
        simp at this
        omega
      have := key (σ k) off n cap ns w hlen fun i hi => by
        rw [hR.cellV hc]
        have h1 : ((c.drop off).take n)[i]? = some (.int .u8 (ns.getD i 0)) := by
          rw [hsp, List.getElem?_map, List.getElem?_eq_getElem (by omega)]
          simp [List.getD, List.getElem?_eq_getElem (show i < ns.length by omega)]
        rw [List.getElem?_take, if_pos hi, List.getElem?_drop] at h1
        exact h1
      simp only [execOp, ho, hf.ev x (by simp [hx]), hx, SV.re, Sem.run_bind, this, Result.andThen_ok, Sem.run_pure]
    case h_3 ty c fz hc =>
      obtain ⟨hle, ns, hsp, h⟩ := h
      refine ⟨_, by simp, h, fun σ A w hf hR => ?_⟩
      have hlen : ns.length = n := by
        have := congrArg List.length hsp
        simp at this
        omega
      have := key (σ k) off n cap ns w hlen fun i hi => by
        rw [hR.cellR hc]
        have h1 : ((c.drop off).take n)[i]? = some (.int .u8 (ns.getD i 0)) := by
          rw [hsp, List.getElem?_map, List.getElem?_eq_getElem (by omega)]
          simp [List.getD, List.getElem?_eq_getElem (show i < ns.length by omega)]
        rw [List.getElem?_take, if_pos hi, List.getElem?_drop] at h1
        exact h1
      simp only [execOp, ho, hf.ev x (by simp [hx]), hx, SV.re, Sem.run_bind, this, Result.andThen_ok, Sem.run_pure]
    case h_4 => exact h.elim
  case h_2 a n cap hv =>
    have hx : ev fr x = .v (.slice (some a) n cap) := by simpa using hv
    obtain ⟨ns, hlen, ⟨hsp, c, ty, fz, hg, hc⟩, h⟩ := h
    refine ⟨_, by simp, h, fun σ A w hf hR => ?_⟩
    obtain ⟨b, off, sp⟩ := a
    simp only at hsp
    subst hsp
    have := key b off n cap ns w hlen fun i hi => by
      have h1 := hc i (by simp; omega)
      simp only [World.cell?, hR.im _ _ hg, Option.isSome_none, Bool.false_eq_true, if_false]
      rw [h1, List.getElem?_map, List.getElem?_eq_getElem (by omega)]
      simp [List.getD, List.getElem?_eq_getElem (show i < ns.length by omega)]
    simp only [execOp, ho, hf.ev x (by simp [hx]), hx, SV.re, Sem.run_bind, this, Result.andThen_ok, Sem.run_pure]
  case h_3 n cap hv =>
    have hx : ev fr x = .v (.slice none n cap) := by simpa using hv
    refine ⟨_, by simp, h, fun σ A w hf hR => ?_⟩
    have := run_convert_bytes_nil (P := P) w s e hs he n cap d hd
    simp only [execOp, ho, hf.ev x (by simp [hx]), hx, SV.re, Sem.run_bind, this, Result.andThen_ok, Sem.run_pure]
  case h_4 => exact h.elim

theorem roY_cmps {c : Call} {f : FuncId} {fn : Func} (ho : o.op = .call c) (hc : c.callee = .value (.func f)) (hf : P.funcs[f]? = some fn) (hn : fn.name = "internal/bytealg.abigen_runtime_cmpstring") (hor : fn.origin = "") (hb : fn.body.isNone) (h : ro fm (.more .cmps c.args.toList) (ev fr) L g K) : ∃ r, r ≠ .junk ∧ K r ∧ Yields1 P o fr L g r := by
  simp only [ro, roY] at h
  split at h
  case h_2 => exact h.elim
  case h_1 a b hv =>
    refine ⟨_, by simp, h, fun σ A w hF _ => ?_⟩
    have hargs : c.args.toList.map A.eval = [.string a, .string b] := by
      rw [ev_map hF _ (by rw [hv]; simp), hv]
      rfl
    have e1 : c.args.map A.eval = #[.string a, .string b] := by apply Array.ext'; simpa using hargs
    have hb : fn.body = none := by simpa using hb
    have h1 : Extern.findNext fn = none := by
      unfold Extern.findNext
      simp only [hn, hor]
      rw [show Extern.allNextRows.lookup "internal/bytealg.abigen_runtime_cmpstring" = none from by kernel_rfl, show Extern.allNextRows.lookup "" = none from by kernel_rfl]
      rfl
    have h2 : Extern.find fn = some Extern.BytealgCompare.compare := by
      unfold Extern.find
      simp only [hn, hor]
      rw [show Extern.allGenericRows.lookup "internal/bytealg.abigen_runtime_cmpstring" = none from by kernel_rfl, show Extern.allTypedRows.lookup "internal/bytealg.abigen_runtime_cmpstring" = none from by kernel_rfl, show Extern.allRows.lookup "internal/bytealg.abigen_runtime_cmpstring" = some Extern.BytealgCompare.compare from by kernel_rfl]
      rfl
    simp only [execOp, ho, resolve, hc, Act.eval, Deferred.ofValue, Sem.run_bind, Sem.run_pure, Result.andThen_ok, invoke, e1, SV.re]
    simp [callFunc, hf, hn, hb, h1, h2, Lib.run_compareString]

theorem ro_conv {s d : TypeId} {x : Operand} {X : XOp} (ho : o.op = .convert s d x) (hX : xop0 P (.convert s d x) = some X) (h : ro fm X (ev fr) L g K) : ∃ r, r ≠ .junk ∧ K r ∧ Yields1 P o fr L g r := by
  simp only [xop0] at hX
  cases hs : P.underlying s with
  | none => simp [hs] at hX
  | some sd =>
    rw [hs] at hX
    cases sd
    case int k0 =>
      simp only at hX
      cases hd : P.underlying d with
      | none => simp [hd] at hX
      | some dd =>
        rw [hd] at hX
        cases dd
        case int k =>
          simp only [Option.some.injEq] at hX
          subst hX
          simp only [ro] at h
          split at h
          case h_1 k1 n hx =>
            exact ⟨_, by simp, h, fun σ A w hf _ => by simp [execOp, ho, hf.ev x (by simp [hx]), hx, SV.re, convert, run_underlying hs, run_underlying hd, Conv.intToInt]⟩
          case h_2 => exact h.elim
        all_goals (simp at hX)
    case slice e =>
      simp only at hX
      cases he : P.underlying e with
      | none => simp [he] at hX
      | some ed =>
        rw [he] at hX
        cases ed
        case int k =>
          cases k
          case u8 =>
            simp only at hX
            cases hd : P.underlying d with
            | none => simp [hd] at hX
            | some dd =>
              rw [hd] at hX
              cases dd
              case string =>
                simp only [Option.some.injEq] at hX
                subst hX
                exact roY_b2s ho hs he hd h
              all_goals (simp at hX)
          all_goals (simp at hX)
        all_goals (simp at hX)
    all_goals (simp at hX)

theorem ro_fieldA {s : TypeId} {x : Operand} {f : Nat} {X : XOp} (ho : o.op = .fieldAddr s x f) (hX : xop0 P (.fieldAddr s x f) = some X) (h : ro fm X (ev fr) L g K) : ∃ r, r ≠ .junk ∧ K r ∧ Yields1 P o fr L g r := by
  simp only [xop0] at hX
  cases hs : P.underlying s with
  | none => simp [hs] at hX
  | some sd =>
    rw [hs] at hX
    cases sd
    case struct fs =>
      simp only at hX
      cases hfd : fs[f]? with
      | none => simp [hfd] at hX
      | some fd =>
        rw [hfd] at hX
        simp only at hX
        split at hX
        case isFalse => cases hX
        case isTrue hc =>
          simp only [Option.some.injEq] at hX
          subst hX
          obtain ⟨i, hi⟩ := Option.isSome_iff_exists.1 hc.1
          have hz : i.size ≠ 0 := by have := hc.2; simpa [Program.cellsOf, hi] using this
          have hp : ∀ (a : Addr) (w : World), (fieldPlace a fd).run P w = .ok (a.add fd.offset) w := by
            intro a w
            simp [fieldPlace, sizeOf, typeInfo, hi, hz]
          have exe : ∀ (A : Act) (a : Addr) (w : World), A.eval x = .pointer (some a) → (execOp A.eval o).run P w = .ok (.value (.pointer (some (a.add fd.offset)))) w := by
            intro A a w h1
            simp only [execOp, ho, h1, Instr.fieldAt, Sem.run_bind, run_underlying hs, Result.andThen_ok, hfd, Instr.sureAddr, Sem.run_pure, hp]
          simp only [ro] at h
          split at h
          case h_1 k off hx =>
            exact ⟨_, by simp, h, fun σ A w hf _ => by rw [exe A ⟨σ k, off, none⟩ w (by rw [hf.ev x (by simp [hx]), hx]; rfl), add_cell]; rfl⟩
          case h_2 a hx =>
            exact ⟨_, by simp, h, fun σ A w hf _ => by rw [exe A a w (by rw [hf.ev x (by simp [hx]), hx]; rfl)]; rfl⟩
          case h_3 => exact h.elim
    all_goals (simp at hX)

theorem part_val1 {t : TypeId} {agg : Bool} {l : List SV} {off n : Nat} (hi : (P.info? t).isSome) (hu : (P.underlying t).isSome) (ha : aggT P t = agg) (hn : agg = true → n = P.cellsOf t) (_hn1 : agg = false → n = 1) (_hle : off + n ≤ l.length)
    (h : val1 agg (slice1 l off n) K) : ∃ r, r ≠ .junk ∧ K r ∧ ∀ σ w, (part t (reL σ l).toArray off).run P w = .ok (r.re σ) w := by
  rcases val1_elim h with ⟨ht, hk⟩ | ⟨ht, y, hy, hj, hk⟩
  · refine ⟨_, by simp, hk, fun σ w => ?_⟩
    rw [run_part_agg hi (by rw [ha, ht]) _ off w, ← hn ht, ← reL_drop, ← reL_take]
    rfl
  · refine ⟨y, hj, hk, fun σ w => ?_⟩
    refine run_part_one hu (by rw [ha, ht]) _ off _ w ?_
    have h0 : (slice1 l off n)[0]? = some y := by rw [hy]; rfl
    have := get_slice1 h0
    simp only [Nat.add_zero] at this
    rw [reL_map, List.getElem?_map, this]
    rfl

theorem ro_fieldV {s : TypeId} {x : Operand} {f : Nat} {X : XOp} (ho : o.op = .field s x f) (hX : xop0 P (.field s x f) = some X) (h : ro fm X (ev fr) L g K) : ∃ r, r ≠ .junk ∧ K r ∧ Yields1 P o fr L g r := by
  simp only [xop0] at hX
  cases hs : P.underlying s with
  | none => simp [hs] at hX
  | some sd =>
    rw [hs] at hX
    cases sd
    case struct fs =>
      simp only at hX
      cases hfd : fs[f]? with
      | none => simp [hfd] at hX
      | some fd =>
        rw [hfd] at hX
        simp only at hX
        split at hX
        case isFalse => cases hX
        case isTrue hc =>
          simp only [Option.some.injEq] at hX
          subst hX
          simp only [ro] at h
          split at h
          case h_2 => exact h.elim
          case h_1 l hx =>
            obtain ⟨hle, h⟩ := ifle_elim h
            obtain ⟨r, hj, hk, hr⟩ := part_val1 (P := P) (t := fd.type) hc.1 hc.2 rfl (fun ha => by simp [ha]) (fun ha => by simp [ha]) hle h
            refine ⟨r, hj, hk, fun σ A w hf _ => ?_⟩
            simp only [execOp, ho, hf.ev x (by simp [hx]), hx, SV.re, Instr.field, Sem.run_bind, run_underlying hs, Result.andThen_ok, hfd, asAgg, Sem.run_pure, hr]
    all_goals (simp at hX)

theorem ro_indexA {t : TypeId} {x i : Operand} {X : XOp} (ho : o.op = .indexAddr t x i) (hX : xop0 P (.indexAddr t x i) = some X) (h : ro fm X (ev fr) L g K) : ∃ r, r ≠ .junk ∧ K r ∧ Yields1 P o fr L g r := by
  simp only [xop0] at hX
  cases hs : P.underlying t with
  | none => simp [hs] at hX
  | some sd =>
    rw [hs] at hX
    cases sd
    case slice e =>
      simp only at hX
      split at hX
      case isFalse => cases hX
      case isTrue he =>
        simp only [Option.some.injEq] at hX
        subst hX
        simp only [ro] at h
        split at h
        case h_2 => exact h.elim
        case h_1 k n hi =>
          split at h
          case h_1 a len cap hx =>
            obtain ⟨hb, ad, rfl, hk⟩ := h
            refine ⟨_, by simp, hk, fun σ A w hf _ => ?_⟩
            simp only [execOp, ho, hf.ev x (by simp [hx]), hx, hf.ev i (by simp [hi]), hi, SV.re, Instr.indexAt, asIntOf, Sem.run_bind, Sem.run_pure, run_underlying hs, Result.andThen_ok, hb, and_self, if_true, run_sizeOf' he]
          case h_2 k off len cap hx =>
            obtain ⟨hb, hk⟩ := h
            refine ⟨_, by simp, hk, fun σ A w hf _ => ?_⟩
            simp only [execOp, ho, hf.ev x (by simp [hx]), hx, hf.ev i (by simp [hi]), hi, SV.re, Instr.indexAt, asIntOf, Sem.run_bind, Sem.run_pure, run_underlying hs, Result.andThen_ok, hb, and_self, if_true, run_sizeOf' he, add_cell]
          case h_3 => exact h.elim
    case array m e =>
      simp only at hX
      split at hX
      case isFalse => cases hX
      case isTrue he =>
        simp only [Option.some.injEq] at hX
        subst hX
        simp only [ro] at h
        split at h
        case h_2 => exact h.elim
        case h_1 k n hi =>
          split at h
          case h_1 k off hx =>
            obtain ⟨hb, hk⟩ := h
            refine ⟨_, by simp, hk, fun σ A w hf _ => ?_⟩
            simp only [execOp, ho, hf.ev x (by simp [hx]), hx, hf.ev i (by simp [hi]), hi, SV.re, Instr.indexAt, asIntOf, Sem.run_bind, Sem.run_pure, run_underlying hs, Instr.sureAddr, Result.andThen_ok, hb, and_self, if_true, run_sizeOf' he, add_cell]
          case h_2 a hx =>
            obtain ⟨hb, hk⟩ := h
            refine ⟨_, by simp, hk, fun σ A w hf _ => ?_⟩
            simp only [execOp, ho, hf.ev x (by simp [hx]), hx, hf.ev i (by simp [hi]), hi, SV.re, Instr.indexAt, asIntOf, Sem.run_bind, Sem.run_pure, run_underlying hs, Instr.sureAddr, Result.andThen_ok, hb, and_self, if_true, run_sizeOf' he]
          case h_3 => exact h.elim
    all_goals (simp at hX)

theorem ro_index {t : TypeId} {x i : Operand} {X : XOp} (ho : o.op = .index t x i) (hX : xop0 P (.index t x i) = some X) (h : ro fm X (ev fr) L g K) : ∃ r, r ≠ .junk ∧ K r ∧ Yields1 P o fr L g r := by
  simp only [xop0] at hX
  cases hs : P.underlying t with
  | none => simp [hs] at hX
  | some sd =>
    rw [hs] at hX
    cases sd
    case array m e =>
      simp only at hX
      split at hX
      case isFalse => cases hX
      case isTrue he =>
        simp only [Option.some.injEq] at hX
        subst hX
        simp only [ro] at h
        split at h
        case h_2 => exact h.elim
        case h_1 k n hi =>
          split at h
          case h_2 => exact h.elim
          case h_1 l hx =>
            obtain ⟨hb, h⟩ := h
            obtain ⟨hle, h⟩ := ifle_elim h
            obtain ⟨r, hj, hk, hr⟩ := part_val1 (P := P) (t := e) he.1 he.2.1 rfl (fun _ => rfl) he.2.2 hle h
            refine ⟨r, hj, hk, fun σ A w hf _ => ?_⟩
            simp only [execOp, ho, hf.ev x (by simp [hx]), hx, hf.ev i (by simp [hi]), hi, SV.re, Instr.index, asIntOf, Sem.run_bind, Sem.run_pure, run_underlying hs, Result.andThen_ok, hb, and_self, if_true, run_sizeOf' he.1, hr]
    case string =>
      simp only [Option.some.injEq] at hX
      subst hX
      simp only [ro] at h
      split at h
      case h_2 => exact h.elim
      case h_1 k n hi =>
        split at h
        case h_2 => exact h.elim
        case h_1 s hx =>
          obtain ⟨hb, hk⟩ := h
          refine ⟨_, by simp, hk, fun σ A w hf _ => ?_⟩
          have hlt : n.toNat < s.size := by omega
          have hget : s[n.toNat]? = some (s.data.toList.getD n.toNat 0) := by
            rw [getElem?_pos s n.toNat hlt]
            congr 1
            have h1 : n.toNat < s.data.size := hlt
            have h2 : s.data.toList.getD n.toNat 0 = s.data[n.toNat] := by
              simp [List.getD, Array.getElem?_eq_getElem h1]
            rw [h2]
            rfl
          simp only [execOp, ho, hf.ev x (by simp [hx]), hx, hf.ev i (by simp [hi]), hi, SV.re, Instr.index, asIntOf, Sem.run_bind, Sem.run_pure, run_underlying hs, Result.andThen_ok, hb.1, if_true, hget]
    all_goals (simp at hX)

theorem get_some {l : List SV} {i : Nat} (h : get l i ≠ .junk) : l[i]? = some (get l i) := by
  induction l generalizing i with
  | nil => simp [get] at h
  | cons x l ih =>
    cases i with
    | zero => rfl
    | succ i => simpa [get] using ih (by simpa [get] using h)

theorem ro_ext {x : Operand} {i : Nat} (ho : o.op = .extract x i) (h : ro fm (.ext x i) (ev fr) L g K) : ∃ r, r ≠ .junk ∧ K r ∧ Yields1 P o fr L g r := by
  simp only [ro] at h
  split at h
  case h_1 l hx =>
    obtain ⟨hj, hk⟩ := nj_elim h
    refine ⟨_, hj, hk, fun σ A w hf _ => ?_⟩
    have := get_some hj
    simp [execOp, ho, hf.ev x (by simp [hx]), hx, SV.re, Instr.extract, reL_map, this]
  case h_2 c hx =>
    split at h
    case h_1 y hy => exact ⟨_, by simp, h, fun σ A w hf _ => by simp [execOp, ho, hf.ev x (by simp [hx]), hx, SV.re, Instr.extract, hy]⟩
    case h_2 => exact h.elim
  case h_3 => exact h.elim

theorem ro_mkI {t : TypeId} {x : Operand} {X : XOp} (ho : o.op = .makeInterface t x) (hX : xop0 P (.makeInterface t x) = some X) (h : ro fm X (ev fr) L g K) : ∃ r, r ≠ .junk ∧ K r ∧ Yields1 P o fr L g r := by
  simp only [xop0] at hX
  have hh : ∀ (v : Value) w, X = .mkI t x ∧ (Instr.makeInterface t v).run P w = .ok (.iface t v) w := by
    intro v w
    cases hs : P.underlying t with
    | none => simp [hs] at hX
    | some d =>
      rw [hs] at hX
      cases d <;> simp at hX <;> exact ⟨hX.symm, by simp [Instr.makeInterface, run_underlying hs]⟩
  have h0 := (hh (.bool true) default).1
  subst h0
  simp only [ro] at h
  split at h
  case h_1 y hx =>
    exact ⟨_, by simp, h, fun σ A w hf _ => by simp [execOp, ho, hf.ev x (by simp [hx]), hx, SV.re, (hh y w).2]⟩
  case h_2 => exact h.elim
  case h_3 y hy hy2 =>
    refine ⟨_, by simp, h, fun σ A w hf _ => ?_⟩
    have hj : ev fr x ≠ .junk := fun e => hy2 e
    simp [execOp, ho, hf.ev x hj, SV.re, (hh _ w).2]

theorem ro_mkF {fn : Fn} {a b : Array Operand} {X : XOp} (ho : o.op = .makeFunc fn a b) (hX : xop0 P (.makeFunc fn a b) = some X) (h : ro fm X (ev fr) L g K) : ∃ r, r ≠ .junk ∧ K r ∧ Yields1 P o fr L g r := by
  simp only [xop0] at hX
  cases fn <;> simp at hX
  subst hX
  simp only [ro] at h
  obtain ⟨h1, h⟩ := njL_elim h
  obtain ⟨h2, h⟩ := njL_elim h
  refine ⟨_, by simp, h, fun σ A w hf _ => ?_⟩
  have e1 : a.map A.eval = (reL σ (a.toList.map (ev fr))).toArray := by apply Array.ext'; simp [← ev_map hf _ h1]
  have e2 : b.map A.eval = (reL σ (b.toList.map (ev fr))).toArray := by apply Array.ext'; simp [← ev_map hf _ h2]
  simp [execOp, ho, Instr.makeFunc, e1, e2, SV.re]

theorem ro_len {c : Call} {X : XOp} (ho : o.op = .call c) (hc : c.callee = .builtin .len) (hX : xop0 P (.call c) = some X) (h : ro fm X (ev fr) L g K) : ∃ r, r ≠ .junk ∧ K r ∧ Yields1 P o fr L g r := by
  obtain ⟨cal, ⟨args⟩, ⟨tys⟩⟩ := c
  simp only at hc
  subst hc
  simp only [xop0] at hX
  match args, tys, hX with
  | [x], [t], hX =>
    simp only at hX
    cases hu : P.underlying t with
    | none => simp [hu] at hX
    | some d =>
      rw [hu] at hX
      cases d <;> simp at hX
      · subst hX
        simp only [ro] at h
        split at h
        case h_1 s hx =>
          exact ⟨_, by simp, h, fun σ A w hf _ => by simp [execOp, ho, resolve, invoke, builtin, Builtin.len_, run_underlying hu, hf.ev x (by simp [hx]), hx, SV.re, goInt]⟩
        case h_2 => exact h.elim
      · subst hX
        simp only [ro] at h
        split at h
        case h_1 a n cap hx =>
          exact ⟨_, by simp, h, fun σ A w hf _ => by simp [execOp, ho, resolve, invoke, builtin, Builtin.len_, run_underlying hu, hf.ev x (by simp [hx]), hx, SV.re, goInt]⟩
        case h_2 k off n cap hx =>
          exact ⟨_, by simp, h, fun σ A w hf _ => by simp [execOp, ho, resolve, invoke, builtin, Builtin.len_, run_underlying hu, hf.ev x (by simp [hx]), hx, SV.re, goInt]⟩
        case h_3 => exact h.elim

theorem roY_nilC {x : Operand} (ho : o.op = .nilCheck x) (h : ro fm (.more .nilC [x]) (ev fr) L g K) : ∃ r, r ≠ .junk ∧ K r ∧ Yields1 P o fr L g r := by
  simp only [ro, roY, List.map_cons, List.map_nil] at h
  split at h
  case h_1 k off hv =>
    have hx : ev fr x = .ptr k off := by simpa using hv
    exact ⟨_, by simp, h, fun σ A w hf _ => by simp [execOp, ho, hf.ev x (by simp [hx]), hx, SV.re]⟩
  case h_2 a hv =>
    have hx : ev fr x = .v (.pointer (some a)) := by simpa using hv
    exact ⟨_, by simp, h, fun σ A w hf _ => by simp [execOp, ho, hf.ev x (by simp [hx]), hx, SV.re]⟩
  case h_3 => exact h.elim

theorem roY_tassert {x : Operand} {st t : TypeId} {c : Bool} {X : XOp} (ho : o.op = .typeAssert x st t c) (hX : xop0 P (.typeAssert x st t c) = some X) (h : ro fm X (ev fr) L g K) : ∃ r, r ≠ .junk ∧ K r ∧ Yields1 P o fr L g r := by
  cases c with
  | false => simp [xop0] at hX
  | true =>
    simp only [xop0] at hX
    cases hi : P.info? t with
    | none => simp [hi] at hX
    | some i =>
      rw [hi] at hX
      simp only at hX
      cases hz : i.zero with
      | none => simp [hz] at hX
      | some z =>
        rw [hz] at hX
        simp only at hX
        have hz' : ∀ w, (zeroValue t).run P w = .ok z w := fun w => by simp [zeroValue, typeInfo, hi, hz]
        cases hu : P.underlying t with
        | none => simp [hu] at hX
        | some d =>
          rw [hu] at hX
          by_cases hd : ∃ want, d = .interface want
          · obtain ⟨want, rfl⟩ := hd
            simp at hX
          · have hX' : X = .more (.tass t z) [x] := by
              cases d <;> first | exact absurd ⟨_, rfl⟩ hd | (simp only [Option.some.injEq] at hX; exact hX.symm)
            clear hX
            subst hX'
            have key : ∀ (u : TypeId) (y : Value) (w : World), (Instr.typeAssert (.iface u y) st t true).run P w = .ok (if u = t then .tuple #[y, .bool true] else .tuple #[z, .bool false]) w := by
              intro u y w
              by_cases hut : u = t
              · rw [if_pos hut]
                cases d <;> first | exact absurd ⟨_, rfl⟩ hd | simp only [Instr.typeAssert, Sem.run_bind, run_underlying hu, Result.andThen_ok, if_pos hut, if_true, Sem.run_pure]
              · rw [if_neg hut]
                cases d <;> first | exact absurd ⟨_, rfl⟩ hd | simp only [Instr.typeAssert, Sem.run_bind, run_underlying hu, Result.andThen_ok, if_neg hut, if_true, Sem.run_pure, hz']
            simp only [ro, roY, List.map_cons, List.map_nil] at h
            split at h
            case h_1 hv =>
              have hx : ev fr x = .v .nilIface := by simpa using hv
              refine ⟨_, by simp, h, fun σ A w hf _ => ?_⟩
              cases d <;> first | exact absurd ⟨_, rfl⟩ hd | simp only [execOp, ho, hf.ev x (by simp [hx]), hx, SV.re, reL, Instr.typeAssert, Sem.run_bind, run_underlying hu, Result.andThen_ok, if_true, hz', Sem.run_pure]
            case h_2 u y hv =>
              have hx : ev fr x = .iface u y := by simpa using hv
              split at h
              · rename_i hb
                have := Nat.eq_of_beq_eq_true hb
                exact ⟨_, by simp, h, fun σ A w hf _ => by simp only [execOp, ho, hf.ev x (by simp [hx]), hx, SV.re, reL, Sem.run_bind, key u (y.re σ) w, if_pos this, Result.andThen_ok, Sem.run_pure]⟩
              · rename_i hb
                have : u ≠ t := fun e => by rw [e, Nat.beq_refl] at hb; cases hb
                exact ⟨_, by simp, h, fun σ A w hf _ => by simp only [execOp, ho, hf.ev x (by simp [hx]), hx, SV.re, reL, Sem.run_bind, key u (y.re σ) w, if_neg this, Result.andThen_ok, Sem.run_pure]⟩
            case h_3 u y hv =>
              have hx : ev fr x = .v (.iface u y) := by simpa using hv
              split at h
              · rename_i hb
                have := Nat.eq_of_beq_eq_true hb
                exact ⟨_, by simp, h, fun σ A w hf _ => by simp only [execOp, ho, hf.ev x (by simp [hx]), hx, SV.re, reL, Sem.run_bind, key u y w, if_pos this, Result.andThen_ok, Sem.run_pure]⟩
              · rename_i hb
                have : u ≠ t := fun e => by rw [e, Nat.beq_refl] at hb; cases hb
                exact ⟨_, by simp, h, fun σ A w hf _ => by simp only [execOp, ho, hf.ev x (by simp [hx]), hx, SV.re, reL, Sem.run_bind, key u y w, if_neg this, Result.andThen_ok, Sem.run_pure]⟩
            case h_4 => exact h.elim

/-- **What an operation that only reads yields symbolically it yields in the model.** -/
theorem ro_sound0 {X : XOp} (hX : xop0 P o.op = some X) (h : ro fm X (ev fr) L g K) : ∃ r, r ≠ .junk ∧ K r ∧ Yields1 P o fr L g r := by
  cases ho : o.op <;> rw [ho] at hX
  case move x =>
    simp only [xop0, Option.some.injEq] at hX
    subst hX
    obtain ⟨dst, op, ty, pos, af, gd⟩ := o
    exact ro_mov (.inl ho) h
  case assign x =>
    simp only [xop0, Option.some.injEq] at hX
    subst hX
    exact h.elim
  case nilCheck x => simp only [xop0, Option.some.injEq] at hX; subst hX; exact roY_nilC ho h
  case typeAssert x st t c => exact roY_tassert ho hX h
  case pick c a b => simp only [xop0, Option.some.injEq] at hX; subst hX; exact ro_pick ho h
  case build t ps => exact ro_build ho hX h
  case load t a => exact ro_load ho hX h
  case binOp op t x y yt => exact ro_bin ho hX h
  case unOp op t x => simp only [xop0, Option.some.injEq] at hX; subst hX; exact ro_un ho h
  case convert s d x => exact ro_conv ho hX h
  case fieldAddr s x f => exact ro_fieldA ho hX h
  case field s x f => exact ro_fieldV ho hX h
  case indexAddr t x i => exact ro_indexA ho hX h
  case index t x i => exact ro_index ho hX h
  case extract x i => simp only [xop0, Option.some.injEq] at hX; subst hX; exact ro_ext ho h
  case makeInterface t x => exact ro_mkI ho hX h
  case makeFunc fn a b => exact ro_mkF ho hX h
  case slice t x lo hi mx =>
    cases mx with
    | none => exact roY_slice ho hX h
    | some m => exfalso; simp [xop0] at hX
  case call c =>
    cases hc : c.callee with
    | builtin b =>
      by_cases hb : b = .len
      · subst hb; exact ro_len ho hc hX h
      · exfalso
        simp only [xop0, hc] at hX
        cases b
        case len => exact hb rfl
        case append =>
          simp only at hX
          have key : ∀ z args, some (XOp.eff z args) = some X → False := fun z args e => by
            simp only [Option.some.injEq] at e
            subst e
            exact h
          repeat' split at hX
          all_goals first
            | exact key _ _ hX
            | cases hX
        all_goals (cases hX)
    | value f =>
      simp only [xop0, hc] at hX
      cases f with
      | func f =>
        simp only at hX
        split at hX
        · rename_i fn hf
          split at hX
          · rename_i hn
            simp only [Option.some.injEq] at hX
            subst hX
            exact roY_cmps ho hc hf hn.1 hn.2.1 hn.2.2 h
          · exfalso
            split at hX
            · cases hX
            · simp only [Option.some.injEq] at hX; subst hX; exact h
        · cases hX
      | _ => exfalso; simp only [Option.some.injEq] at hX; subst hX; exact h
    | invoke r m => exfalso; simp [xop0, hc] at hX
  case alloc t =>
    exfalso
    simp only [xop0] at hX
    split at hX
    · rw [Option.map_eq_some_iff] at hX; obtain ⟨z, _, rfl⟩ := hX; exact h
    · cases hX
  case box t x => exfalso; simp only [xop0, Option.some.injEq] at hX; subst hX; exact h
  case store t a x =>
    exfalso
    simp only [xop0] at hX
    split at hX
    · simp only [Option.some.injEq] at hX; subst hX; exact h
    · cases hX
  case buildSlice t n ps =>
    exfalso
    simp only [xop0] at hX
    repeat' split at hX
    all_goals first | (simp only [Option.some.injEq] at hX; subst hX; exact h) | cases hX
  all_goals (simp [xop0] at hX)

theorem ro_sound {X : XOp} (hX : xop P o.op = some X) (h : ro fm X (ev fr) L g K) : ∃ r, r ≠ .junk ∧ K r ∧ Yields1 P o fr L g r := by
  rcases xop_cases hX with h1 | rfl | ⟨as, rfl⟩
  · exact ro_sound0 h1 h
  · exact h.elim
  · exact h.elim

end
end Go.Sx
end

/- A symbolic executor of my own, part 7: symbolic values lead to the blocks at hand alone. Conditions: none; it speaks of any program. -/
section
namespace Go.Sx
variable {fm : Bool}

mutual
def SV.sc (n : Nat) : SV → Bool
  | .junk => true
  | .v _ => true
  | .ptr k _ => decide (k < n)
  | .slc k _ _ _ => decide (k < n)
  | .mp k => decide (k < n)
  | .fn _ a b => scL n a && scL n b
  | .iface _ x => x.sc n
  | .agg l => scL n l
  | .tup l => scL n l
def scL (n : Nat) : List SV → Bool
  | [] => true
  | x :: l => x.sc n && scL n l
end

mutual
theorem re_congr {n : Nat} {σ σ' : Nat → Nat} (h : ∀ k, k < n → σ k = σ' k) : ∀ x : SV, x.sc n = true → x.re σ = x.re σ'
  | .junk, _ => rfl
  | .v _, _ => rfl
  | .ptr k o, hx => by simp only [SV.re, h k (by simpa [SV.sc] using hx)]
  | .slc k o a b, hx => by simp only [SV.re, h k (by simpa [SV.sc] using hx)]
  | .mp k, hx => by simp only [SV.re, h k (by simpa [SV.sc] using hx)]
  | .fn f a b, hx => by
    simp only [SV.sc, Bool.and_eq_true] at hx
    simp only [SV.re, reL_congr h a hx.1, reL_congr h b hx.2]
  | .iface t x, hx => by simp only [SV.re, re_congr h x (by simpa [SV.sc] using hx)]
  | .agg l, hx => by simp only [SV.re, reL_congr h l (by simpa [SV.sc] using hx)]
  | .tup l, hx => by simp only [SV.re, reL_congr h l (by simpa [SV.sc] using hx)]
theorem reL_congr {n : Nat} {σ σ' : Nat → Nat} (h : ∀ k, k < n → σ k = σ' k) : ∀ l : List SV, scL n l = true → reL σ l = reL σ' l
  | [], _ => rfl
  | x :: l, hx => by
    simp only [scL, Bool.and_eq_true] at hx
    simp only [reL, re_congr h x hx.1, reL_congr h l hx.2]
end

mutual
theorem sc_mono {n m : Nat} (h : n ≤ m) : ∀ x : SV, x.sc n = true → x.sc m = true
  | .junk, _ => rfl
  | .v _, _ => rfl
  | .ptr k o, hx => by simp only [SV.sc, decide_eq_true_eq] at hx ⊢; omega
  | .slc k o a b, hx => by simp only [SV.sc, decide_eq_true_eq] at hx ⊢; omega
  | .mp k, hx => by simp only [SV.sc, decide_eq_true_eq] at hx ⊢; omega
  | .fn f a b, hx => by
    simp only [SV.sc, Bool.and_eq_true] at hx ⊢
    exact ⟨scL_mono h a hx.1, scL_mono h b hx.2⟩
  | .iface t x, hx => by simp only [SV.sc] at hx ⊢; exact sc_mono h x hx
  | .agg l, hx => by simp only [SV.sc] at hx ⊢; exact scL_mono h l hx
  | .tup l, hx => by simp only [SV.sc] at hx ⊢; exact scL_mono h l hx
theorem scL_mono {n m : Nat} (h : n ≤ m) : ∀ l : List SV, scL n l = true → scL m l = true
  | [], _ => rfl
  | x :: l, hx => by
    simp only [scL, Bool.and_eq_true] at hx ⊢
    exact ⟨sc_mono h x hx.1, scL_mono h l hx.2⟩
end

theorem scL_mem {n : Nat} {l : List SV} : scL n l = true ↔ ∀ x ∈ l, x.sc n = true := by
  induction l with
  | nil => simp [scL]
  | cons x l ih => simp [scL, ih]

theorem scL_append {n : Nat} {a b : List SV} : scL n (a ++ b) = true ↔ scL n a = true ∧ scL n b = true := by
  simp only [scL_mem, List.mem_append]
  exact ⟨fun h => ⟨fun x hx => h x (.inl hx), fun x hx => h x (.inr hx)⟩, fun h x hx => hx.elim (h.1 x) (h.2 x)⟩
theorem scL_take {n : Nat} {a : List SV} (k : Nat) (h : scL n a = true) : scL n (a.take k) = true := scL_mem.2 fun x hx => scL_mem.1 h x (List.mem_of_mem_take hx)
theorem scL_drop {n : Nat} {a : List SV} (k : Nat) (h : scL n a = true) : scL n (a.drop k) = true := scL_mem.2 fun x hx => scL_mem.1 h x (List.mem_of_mem_drop hx)
theorem scL_v {n : Nat} (l : List Value) : scL n (l.map .v) = true := scL_mem.2 fun x hx => by
  obtain ⟨y, _, rfl⟩ := List.mem_map.1 hx
  rfl
theorem sc_get {n : Nat} {l : List SV} (h : scL n l = true) (i : Nat) : (get l i).sc n = true := by
  induction l generalizing i with
  | nil => rfl
  | cons x l ih =>
    simp only [scL, Bool.and_eq_true] at h
    cases i with
    | zero => exact h.1
    | succ i => exact ih h.2 i
theorem sc_put {n : Nat} {l : List SV} (h : scL n l = true) (i : Nat) {x : SV} (hx : x.sc n = true) : scL n (put l i x) = true := by
  induction l generalizing i with
  | nil => rfl
  | cons y l ih =>
    simp only [scL, Bool.and_eq_true] at h
    cases i with
    | zero => simp [put, scL, hx, h.2]
    | succ i => simp [put, scL, h.1, ih h.2 i]
theorem sc_ev {n : Nat} {fr : List SV} (h : scL n fr = true) (x : Operand) : (ev fr x).sc n = true := by
  cases x <;> simp [ev, SV.sc, scL, sc_get h]
theorem sc_cells {n : Nat} {x : SV} (h : x.sc n = true) : scL n x.cells = true := by
  cases x with
  | v y => cases y <;> simp [SV.cells, scL, SV.sc]; exact scL_v _
  | agg l => simpa [SV.cells, SV.sc] using h
  | _ => simp only [SV.cells, scL, Bool.and_eq_true, and_true]; exact h

/-- The blocks at hand lead to the blocks at hand alone. -/
def scH (L : List Chunk) : Prop := ∀ (k : Nat) (ty : TypeId) (c : List SV), L[k]? = some (Chunk.cells ty c) → scL L.length c = true

theorem nj_imp {x : SV} {K K' : SV → Prop} (h : nj x K) (hk : K x → K' x) : nj x K' := by cases x <;> first | exact h.elim | exact hk h

theorem val1_sc {n : Nat} {agg : Bool} {l : List SV} {K : SV → Prop} (hl : scL n l = true) (h : val1 agg l K) : val1 agg l fun r => K r ∧ r.sc n = true := by
  cases agg with
  | true => exact ⟨h, by simpa [SV.sc] using hl⟩
  | false =>
    match l, h with
    | [x], h => exact nj_imp h fun hk => ⟨hk, by simpa [scL] using hl⟩

theorem fillS_sc {n : Nat} : ∀ (qs : List (Nat × Nat × SV)) (cells l : List SV), (∀ q ∈ qs, q.2.2.sc n = true) → scL n cells = true → fillS cells qs = some l → scL n l = true := by
  intro qs
  induction qs with
  | nil => intro cells l _ hc h; simp only [fillS, Option.some.injEq] at h; subst h; exact hc
  | cons q qs ih =>
    intro cells l hq hc h
    obtain ⟨off, size, x⟩ := q
    simp only [fillS] at h
    split at h
    case h_2 => cases h
    case h_1 =>
      refine ih _ _ (fun q h => hq q (by simp [h])) ?_ h
      rw [scL_append, scL_append]
      exact ⟨scL_take _ hc, sc_cells (hq (off, size, x) (by simp)), scL_drop _ hc⟩

theorem njL_sc {n : Nat} {l : List SV} {K : List SV → Prop} (hl : scL n l = true) (h : njL l K) : njL l fun l => K l ∧ scL n l = true := by
  induction l generalizing K with
  | nil => exact ⟨h, rfl⟩
  | cons x l ih =>
    simp only [scL, Bool.and_eq_true] at hl
    have h := (h : nj x fun x => njL l fun l => K (x :: l))
    show nj x fun x => njL l fun l => K (x :: l) ∧ scL n (x :: l) = true
    refine nj_imp h fun hk => ?_
    have := ih hl.2 hk
    have hm : ∀ (q : List SV) (A B : List SV → Prop), (∀ l, A l → B l) → njL q A → njL q B := by
      intro q
      induction q with
      | nil => intro A B hab ha; exact hab _ ha
      | cons y q ihq => intro A B hab ha; exact nj_imp ha fun hk => ihq _ _ (fun l => hab _) hk
    exact hm l _ _ (fun q hq => ⟨hq.1, by simp [scL, hl.1, hq.2]⟩) this

theorem valBin_sc {n : Nat} {op : BinOp} {x y : Value} {K : SV → Prop} (h : valBin op x y K) : valBin op x y fun r => K r ∧ r.sc n = true := by
  cases x with
  | int k a =>
    cases y with
    | int k' b =>
      have hi : ∀ op, intBin op k a b K → intBin op k a b fun r => K r ∧ r.sc n = true := by
        intro op h
        cases op <;> simp only [intBin] at h ⊢ <;> first | exact h.elim | exact ⟨h.1, h.2, rfl⟩ | exact ⟨h, rfl⟩
      cases op <;> simp only [valBin] at h ⊢ <;> first
        | exact ⟨h.1, h.2, rfl⟩
        | (cases hk : decide (k = k') <;> rw [hk] at h <;> first | exact h.elim | exact hi _ h)
    | _ => exact h.elim
  | string a =>
    cases y with
    | string b =>
      cases op <;> simp only [valBin, strBin] at h ⊢ <;> first | exact h.elim | exact ⟨h.1, h.2, rfl⟩ | exact ⟨h, rfl⟩
    | _ => exact h.elim
  | _ => exact h.elim

theorem eqKs_imp {K K' : Bool → Prop} (hk : ∀ b, K b → K' b) : ∀ (ks : List Nat) (l m : List SV), eqKs ks l m K → eqKs ks l m K' := by
  intro ks l m
  fun_induction eqKs ks l m K generalizing K' with
  | case1 K => exact hk _
  | case2 ks k a l k' b m K hkk ih =>
    intro h
    have := ih (K' := fun r => K' ((a == b) && r)) (fun r hr => hk _ hr) h
    simpa [eqKs, hkk] using this
  | case3 => intro h; exact h.elim
  | case4 ks a l b m K ih =>
    intro h
    have := ih (K' := fun r => K' ((a == b) && r)) (fun r hr => hk _ hr) h
    simpa [eqKs] using this
  | case5 ks a l b m K ih =>
    intro h
    have := ih (K' := fun r => K' ((a.toList == b.toList) && r)) (fun r hr => hk _ hr) h
    simpa [eqKs] using this
  | case6 => intro h; exact h.elim

theorem boundsK_imp {len cap : Nat} {lo hi : Bool} {vs : List SV} {K K' : Nat → Nat → Prop} (hk : ∀ l u, K l u → K' l u) (h : boundsK len cap lo hi vs K) : boundsK len cap lo hi vs K' := by
  unfold boundsK at *
  cases lo <;> cases hi <;> simp only at h ⊢
  · exact hk _ _ h
  · split at h
    · exact ⟨h.1, hk _ _ h.2⟩
    · exact h.elim
  · split at h
    · exact ⟨h.1, hk _ _ h.2⟩
    · exact h.elim
  · split at h
    · exact ⟨h.1, h.2.1, hk _ _ h.2.2⟩
    · exact h.elim

theorem roY_imp {y : YOp} {vs : List SV} {L : List Chunk} {g : G} {K K' : SV → Prop} (hv : scL L.length vs = true) (hk : ∀ r, K r → r.sc L.length = true → K' r) (h : roY y vs L g K) : roY y vs L g K' := by
  unfold roY at *
  cases y <;> simp only at h ⊢
  case slcA =>
    split at h
    · simp only [scL, Bool.and_eq_true] at hv
      exact boundsK_imp (fun l u h => hk _ h (by simpa [SV.sc] using hv.1)) h
    · exact boundsK_imp (fun l u h => hk _ h rfl) h
    · exact h.elim
  case slcS =>
    split at h
    · simp only [scL, Bool.and_eq_true] at hv
      exact boundsK_imp (fun l u h => hk _ h (by simpa [SV.sc] using hv.1)) h
    · exact boundsK_imp (fun l u h => hk _ h rfl) h
    · exact h.elim
  case slcT =>
    split at h
    · exact boundsK_imp (fun l u h => hk _ h rfl) h
    · exact h.elim
  case b2s =>
    split at h
    · split at h
      · rename_i hc
        try simp only [hc]
        obtain ⟨hb, h⟩ := ifOk_elim h
        rw [hb]
        show _
        split at h
        · rename_i hn
          (try simp only [hn]); exact hk _ h rfl
        · exact h.elim
      · rename_i hc
        try simp only [hc]
        obtain ⟨h1, ns, h2, h⟩ := h
        exact ⟨h1, ns, h2, hk _ h rfl⟩
      · rename_i hc
        try simp only [hc]
        obtain ⟨h1, ns, h2, h⟩ := h
        exact ⟨h1, ns, h2, hk _ h rfl⟩
      · exact h.elim
    · obtain ⟨ns, h1, h2, h⟩ := h
      exact ⟨ns, h1, h2, hk _ h rfl⟩
    · exact hk _ h rfl
    · exact h.elim
  case cmps =>
    split at h
    · exact hk _ h rfl
    · exact h.elim
  case nilI =>
    split at h
    · exact hk _ h rfl
    · exact hk _ h rfl
    · exact hk _ h rfl
    · exact h.elim
  case nilP =>
    split at h
    · exact hk _ h rfl
    · exact hk _ h rfl
    · exact hk _ h rfl
    · exact h.elim
  case nilC =>
    split at h
    · simp only [scL, Bool.and_eq_true] at hv
      exact hk _ h hv.1
    · exact hk _ h rfl
    · exact h.elim
  case tass t z =>
    split at h
    · exact hk _ h rfl
    · simp only [scL, Bool.and_eq_true] at hv
      split at h
      · rename_i hb
        try simp only [hb]
        exact hk _ h (by simpa [SV.sc, scL] using hv.1)
      · rename_i hb
        try simp only [hb]
        exact hk _ h rfl
    · split at h
      · rename_i hb
        try simp only [hb]
        exact hk _ h rfl
      · rename_i hb
        try simp only [hb]
        exact hk _ h rfl
    · exact h.elim

theorem ro_sc {X : XOp} {fr : List SV} {L : List Chunk} {g : G} {K : SV → Prop} (hfr : scL L.length fr = true) (hL : scH L) (h : ro fm X (ev fr) L g K) :
    ro fm X (ev fr) L g fun r => K r ∧ r.sc L.length = true := by
  have he := sc_ev hfr
  cases X <;> simp only [ro] at h ⊢
  case more y args => exact roY_imp (scL_mem.2 fun x hx => by obtain ⟨z, _, rfl⟩ := List.mem_map.1 hx; exact he z) (fun r h1 h2 => ⟨h1, h2⟩) h
  case mov x => exact nj_imp h fun hk => ⟨hk, he x⟩
  case pick c a b =>
    split at h
    case h_2 => exact h.elim
    case h_1 t hc =>
      try simp only [hc]
      cases t
      · exact nj_imp (h : nj _ _) fun hk => ⟨hk, he b⟩
      · exact nj_imp (h : nj _ _) fun hk => ⟨hk, he a⟩
  case build zs ps =>
    split at h
    case h_2 => exact h.elim
    case h_1 l hf =>
      try simp only [hf]
      refine ⟨h, ?_⟩
      simp only [SV.sc]
      refine fillS_sc _ _ _ (fun q hq => ?_) (scL_v _) hf
      obtain ⟨p, _, rfl⟩ := List.mem_map.1 hq
      exact he _
  case load agg n a =>
    split at h
    case h_1 k off ha =>
      try simp only [ha]
      split at h
      case h_1 ty c hc =>
        try simp only [hc]
        obtain ⟨h1, h⟩ := ifle_elim h
        simp only [ifle, Nat.ble_eq_true_of_le h1]
        exact val1_sc (scL_take _ (scL_drop _ (hL _ _ _ hc))) h
      case h_2 ty c hc =>
        try simp only [hc]
        exact ⟨h.1, val1_sc (scL_v _) h.2⟩
      case h_3 ty c fz hc =>
        try simp only [hc]
        exact ⟨h.1, val1_sc (scL_v _) h.2⟩
      case h_4 => exact h.elim
    case h_2 a ha =>
      try simp only [ha]
      obtain ⟨xs, h1, h2, h⟩ := h
      exact ⟨xs, h1, h2, val1_sc (scL_v _) h⟩
    case h_3 => exact h.elim
  case bin op x y =>
    split at h
    case h_2 => exact h.elim
    case h_1 a ha =>
      try simp only [ha]
      split at h
      case h_2 => exact h.elim
      case h_1 b hb => (try simp only [hb]); exact valBin_sc h
  case eqB neg x y =>
    split at h
    case h_2 => exact h.elim
    case h_1 a ha =>
      try simp only [ha]
      split at h
      case h_2 => exact h.elim
      case h_1 b hb => (try simp only [hb]); exact ⟨h, rfl⟩
  case eqAgg neg ks x y =>
    split at h
    case h_2 => exact h.elim
    case h_1 a ha =>
      try simp only [ha]
      split at h
      case h_2 => exact h.elim
      case h_1 b hb =>
        try simp only [hb]
        exact eqKs_imp (fun r hr => ⟨hr, rfl⟩) _ _ _ h
  case un op x =>
    split at h
    case h_1 b hb => (try simp only [hb]); cases op <;> simp only at h ⊢ <;> exact ⟨h, rfl⟩
    case h_2 k n hb => (try simp only [hb]); cases op <;> simp only at h ⊢ <;> exact ⟨h, rfl⟩
    case h_3 => exact h.elim
  case conv k x =>
    split at h
    case h_1 k' n hb => (try simp only [hb]); exact ⟨h, rfl⟩
    case h_2 => exact h.elim
  case fieldA off x =>
    have hx := he x
    split at h
    case h_1 k o hb => (try simp only [hb]); rw [hb] at hx; exact ⟨h, by simpa [SV.sc] using hx⟩
    case h_2 a hb => (try simp only [hb]); exact ⟨h, rfl⟩
    case h_3 => exact h.elim
  case fieldV agg off n x =>
    have hx := he x
    split at h
    case h_2 => exact h.elim
    case h_1 l hb =>
      try simp only [hb]
      rw [hb] at hx
      obtain ⟨h1, h⟩ := ifle_elim h
      simp only [ifle, Nat.ble_eq_true_of_le h1]
      exact val1_sc (scL_take _ (scL_drop _ (by simpa [SV.sc] using hx))) h
  case indexS sz x i =>
    have hx := he x
    split at h
    case h_2 => exact h.elim
    case h_1 k n hi =>
      try simp only [hi]
      split at h
      case h_1 a len cap hb =>
        try simp only [hb]
        obtain ⟨h1, ad, h2, h⟩ := h
        exact ⟨h1, ad, h2, h, rfl⟩
      case h_2 k off len cap hb =>
        try simp only [hb]
        rw [hb] at hx
        exact ⟨h.1, h.2, by simpa [SV.sc] using hx⟩
      case h_3 => exact h.elim
  case indexP len sz x i =>
    have hx := he x
    split at h
    case h_2 => exact h.elim
    case h_1 k n hi =>
      try simp only [hi]
      split at h
      case h_1 k off hb =>
        try simp only [hb]
        rw [hb] at hx
        exact ⟨h.1, h.2, by simpa [SV.sc] using hx⟩
      case h_2 a hb => (try simp only [hb]); exact ⟨h.1, h.2, rfl⟩
      case h_3 => exact h.elim
  case indexV len agg sz x i =>
    have hx := he x
    split at h
    case h_2 => exact h.elim
    case h_1 k n hi =>
      try simp only [hi]
      split at h
      case h_2 => exact h.elim
      case h_1 l hb =>
        try simp only [hb]
        rw [hb] at hx
        obtain ⟨h0, h⟩ := h
        obtain ⟨h1, h⟩ := ifle_elim h
        simp only [ifle, Nat.ble_eq_true_of_le h1]
        exact ⟨h0, val1_sc (scL_take _ (scL_drop _ (by simpa [SV.sc] using hx))) h⟩
  case indexStr x i =>
    split at h
    case h_2 => exact h.elim
    case h_1 k n hi =>
      try simp only [hi]
      split at h
      case h_2 => exact h.elim
      case h_1 s hb => (try simp only [hb]); exact ⟨h.1, h.2, rfl⟩
  case ext x i =>
    have hx := he x
    split at h
    case h_1 l hb =>
      try simp only [hb]
      rw [hb] at hx
      exact nj_imp h fun hk => ⟨hk, sc_get (by simpa [SV.sc] using hx) i⟩
    case h_2 c hb =>
      try simp only [hb]
      split at h
      case h_1 y hy => exact ⟨h, rfl⟩
      case h_2 => exact h.elim
    case h_3 => exact h.elim
  case len str x =>
    cases str
    · simp only at h ⊢
      split at h
      case h_1 a n c hb => (try simp only [hb]); exact ⟨h, rfl⟩
      case h_2 k o n c hb => (try simp only [hb]); exact ⟨h, rfl⟩
      case h_3 => exact h.elim
    · simp only at h ⊢
      split at h
      case h_1 s hb => (try simp only [hb]); exact ⟨h, rfl⟩
      case h_2 => exact h.elim
  case mkI t x =>
    have hx := he x
    split at h
    case h_1 y hb => (try simp only [hb]); exact ⟨h, rfl⟩
    case h_2 => exact h.elim
    case h_3 y h1 h2 =>
      refine ⟨h, ?_⟩
      simpa [SV.sc] using hx
  case mkF f a b =>
    have ha : scL L.length (a.map (ev fr)) = true := scL_mem.2 fun x hx => by obtain ⟨y, _, rfl⟩ := List.mem_map.1 hx; exact he y
    have hb : scL L.length (b.map (ev fr)) = true := scL_mem.2 fun x hx => by obtain ⟨y, _, rfl⟩ := List.mem_map.1 hx; exact he y
    obtain ⟨h1, h1'⟩ := njL_elim (njL_sc ha h)
    obtain ⟨h2, h2'⟩ := njL_elim (njL_sc hb h1'.1)
    have back : ∀ (l : List SV) (K : List SV → Prop), (∀ x ∈ l, x ≠ .junk) → K l → njL l K := by
      intro l
      induction l with
      | nil => intro K _ hk; exact hk
      | cons x l ih =>
        intro K hx hk
        have := hx x (by simp)
        have ih' := ih (fun l => K (x :: l)) (fun y hy => hx y (by simp [hy])) hk
        cases x <;> first | exact absurd rfl this | exact ih'
    exact back _ _ h1 (back _ _ h2 ⟨h2'.1, by simp [SV.sc, ha, hb]⟩)

end Go.Sx
end

/- A symbolic executor of my own, second design, part 1: memory, and what may become of it. Conditions: none; it speaks of any program. -/
section
namespace Go.Sx

def Chunk.here : Chunk → Bool
  | .gone => false
  | .fam _ => false
  | _ => true
def Chunk.real : Chunk → Bool
  | .gone => false
  | _ => true
theorem here_real {c : Chunk} (h : c.here = true) : c.real = true := by cases c <;> first | rfl | cases h
def liveB (L : List Chunk) (k : Nat) : Bool :=
  match L[k]? with
  | some c => c.here
  | none => false
abbrev live (L : List Chunk) (k : Nat) : Prop := liveB L k = true

theorem here_obj {c : Chunk} (σ : Nat → Nat) (h : c.here = true) : ∃ o, c.obj σ = some o := by
  cases c <;> first | exact ⟨_, rfl⟩ | cases h
theorem obj_here {c : Chunk} {σ : Nat → Nat} {o : Obj} (h : c.obj σ = some o) : c.here = true := by
  cases c <;> first | rfl | cases h
theorem live_get {L : List Chunk} {k : Nat} (h : live L k) : ∃ c, L[k]? = some c ∧ c.here = true := by
  unfold live liveB at h
  split at h
  · rename_i c hc; exact ⟨c, hc, h⟩
  · cases h
theorem live_of {L : List Chunk} {k : Nat} {c : Chunk} (h : L[k]? = some c) (hc : c.here = true) : live L k := by
  unfold live liveB; rw [h]; exact hc
theorem live_lt {L : List Chunk} {k : Nat} (h : live L k) : k < L.length := by
  obtain ⟨c, hc, _⟩ := live_get h
  exact (List.getElem?_eq_some_iff.1 hc).1
theorem live_congr {L L' : List Chunk} {k : Nat} (h : L[k]? = L'[k]?) : live L k ↔ live L' k := by
  unfold live liveB; rw [h]

/-- A block of a family's. -/
def ownF (L : List Chunk) (b : Nat) : Prop := ∃ (k : Nat) (H : G), L[k]? = some (Chunk.fam H) ∧ H b ≠ none
/-- Families told of a world. -/
structure FamOk (g : G) (L : List Chunk) (σ : Nat → Nat) (w : World) : Prop where
  at_ : ∀ (k : Nat) (H : G) (b : Nat) (o : Obj), L[k]? = some (Chunk.fam H) → H b = some o → w.heap[b]? = some o
  im : ∀ b, ownF L b → g b = none
  sep : ∀ b j, ownF L b → live L j → σ j ≠ b
  dis : ∀ (j k : Nat) (H H' : G) (b : Nat), L[j]? = some (Chunk.fam H) → L[k]? = some (Chunk.fam H') → H b ≠ none → H' b ≠ none → j = k
theorem FamOk.lt {g : G} {L : List Chunk} {σ : Nat → Nat} {w : World} (h : FamOk g L σ w) {b : Nat} (hb : ownF L b) : b < w.heap.size := by
  obtain ⟨k, H, hk, hh⟩ := hb
  cases ho : H b with
  | none => exact absurd ho hh
  | some o => exact (Array.getElem?_eq_some_iff.1 (h.at_ k H b o hk ho)).1
theorem ownF.of {L L' : List Chunk} (hf : ∀ (k : Nat) (H : G), L'[k]? = some (Chunk.fam H) → L[k]? = some (Chunk.fam H)) {b : Nat} (h : ownF L' b) : ownF L b := by
  obtain ⟨k, H, hk, hh⟩ := h
  exact ⟨k, H, hf k H hk, hh⟩
theorem FamOk.to {g : G} {L : List Chunk} {σ : Nat → Nat} {w : World} (h : FamOk g L σ w) {g' : G} {L' : List Chunk} {σ' : Nat → Nat} {w' : World} (hf : ∀ (k : Nat) (H : G), L'[k]? = some (Chunk.fam H) → L[k]? = some (Chunk.fam H))
    (hg : ∀ b, ownF L b → g' b = none) (hs : ∀ b j, ownF L b → live L' j → σ' j ≠ b) (hw : ∀ b, ownF L b → b < w.heap.size → w'.heap[b]? = w.heap[b]?) : FamOk g' L' σ' w' where
  at_ k H b o hk hb := by
    have ho : ownF L b := ⟨k, H, hf k H hk, by rw [hb]; simp⟩
    rw [hw b ho (h.lt ho)]
    exact h.at_ k H b o (hf k H hk) hb
  im b hb := hg b (hb.of hf)
  sep b j hb := hs b j (hb.of hf)
  dis j k H H' b hj hk := h.dis j k H H' b (hf j H hj) (hf k H' hk)
theorem not_ownF_nil (b : Nat) : ¬ ownF [] b := fun ⟨k, H, hk, _⟩ => by simp at hk
theorem FamOk.nil (g : G) (σ : Nat → Nat) (w : World) : FamOk g [] σ w :=
  ⟨fun k H b o hk => by simp at hk, fun b hb => absurd hb (not_ownF_nil b), fun b j hb => absurd hb (not_ownF_nil b), fun j k H H' b hj => by simp at hj⟩
theorem fam_set {L : List Chunk} {k : Nat} {c : Chunk} (hc : isFam c = false) (j : Nat) (H : G) (h : (L.set k c)[j]? = some (Chunk.fam H)) : L[j]? = some (Chunk.fam H) := by
  by_cases hjk : k = j
  · subst hjk
    by_cases hl : k < L.length
    · rw [List.getElem?_set_self hl] at h; cases h; cases hc
    · rw [List.getElem?_eq_none (by rw [List.length_set]; omega)] at h; cases h
  · rwa [List.getElem?_set_ne hjk] at h
theorem fam_app {L : List Chunk} {c : Chunk} (hc : isFam c = false) (j : Nat) (H : G) (h : (L ++ [c])[j]? = some (Chunk.fam H)) : L[j]? = some (Chunk.fam H) := by
  rcases Nat.lt_trichotomy j L.length with h1 | h1 | h1
  · rwa [List.getElem?_append_left h1] at h
  · subst h1; simp at h; subst h; cases hc
  · rw [List.getElem?_eq_none (by simp; omega)] at h; cases h
theorem obj_nfam {c : Chunk} {σ : Nat → Nat} {o : Obj} (h : c.obj σ = some o) : isFam c = false := by cases c <;> first | rfl | cases h

/-- The symbolic memory told of a world. -/
structure Mem (g : G) (L : List Chunk) (σ : Nat → Nat) (w : World) : Prop where
  im : ∀ b o, g b = some o → w.heap[b]? = some o
  lo : ∀ k c o, L[k]? = some c → c.obj σ = some o → w.heap[σ k]? = some o
  inj : ∀ j k, live L j → live L k → σ j = σ k → j = k
  sep : ∀ k, live L k → g (σ k) = none
  fm : FamOk g L σ w

theorem Mem.reads {g : G} {L : List Chunk} {σ : Nat → Nat} {w : World} (h : Mem g L σ w) : Reads g L σ w := ⟨h.im, h.lo, h.fm.at_⟩
theorem Mem.lt {g : G} {L : List Chunk} {σ : Nat → Nat} {w : World} (h : Mem g L σ w) {k : Nat} (hk : live L k) : σ k < w.heap.size := by
  obtain ⟨c, hc, hh⟩ := live_get hk
  obtain ⟨o, ho⟩ := here_obj σ hh
  exact (Array.getElem?_eq_some_iff.1 (h.lo k c o hc ho)).1
theorem Mem.im_lt {g : G} {L : List Chunk} {σ : Nat → Nat} {w : World} (h : Mem g L σ w) {b : Nat} {o : Obj} (hb : g b = some o) : b < w.heap.size :=
  (Array.getElem?_eq_some_iff.1 (h.im b o hb)).1

/-- What may have become of memory between two states. -/
structure Goes (σ : Nat → Nat) (L : List Chunk) (g : G) (w : World) (σ' : Nat → Nat) (L' : List Chunk) (g' : G) (w' : World) : Prop where
  agree : ∀ k, k < L.length → σ' k = σ k
  len : L.length ≤ L'.length
  dead : ∀ k, k < L.length → live L' k → live L k
  fresh : ∀ k, L.length ≤ k → live L' k → w.heap.size ≤ σ' k ∨ ∃ j, j < L.length ∧ live L j ∧ ¬ live L' j ∧ σ j = σ' k
  gle : G.le g g'
  gnew : ∀ b, g b = none → g' b ≠ none → w.heap.size ≤ b ∨ ∃ k, k < L.length ∧ live L k ∧ ¬ live L' k ∧ σ k = b
  os : w'.os = w.os
  tape : w'.tape = w.tape
  output : w'.output = w.output
  size : w.heap.size ≤ w'.heap.size
  keep : ∀ b, b < w.heap.size → (∀ k, live L k → σ k ≠ b) → ¬ ownF L b → w'.heap[b]? = w.heap[b]?
  ffresh : ∀ b, ownF L' b → w.heap.size ≤ b ∨ (∃ j, j < L.length ∧ live L j ∧ ¬ live L' j ∧ σ j = b) ∨ ownF L b

theorem Goes.refl (σ : Nat → Nat) (L : List Chunk) (g : G) (w : World) : Goes σ L g w σ L g w :=
  ⟨fun _ _ => rfl, Nat.le_refl _, fun _ _ h => h, fun _ h1 h2 => by have := live_lt h2; omega, fun _ _ h => h, fun _ h h' => absurd h h', rfl, rfl, rfl, Nat.le_refl _, fun _ _ _ _ => rfl, fun _ h => .inr (.inr h)⟩

theorem Goes.trans {σ L g w σ₁ L₁ g₁ w₁ σ₂ L₂ g₂ w₂} (h : Goes σ L g w σ₁ L₁ g₁ w₁) (k : Goes σ₁ L₁ g₁ w₁ σ₂ L₂ g₂ w₂) : Goes σ L g w σ₂ L₂ g₂ w₂ where
  agree j hj := (k.agree j (Nat.lt_of_lt_of_le hj h.len)).trans (h.agree j hj)
  len := Nat.le_trans h.len k.len
  dead j hj hl := h.dead j hj (k.dead j (Nat.lt_of_lt_of_le hj h.len) hl)
  fresh j h1 h2 := by
    have first : ∀ i, i < L₁.length → L.length ≤ i → live L₁ i → w.heap.size ≤ σ₁ i ∨ ∃ j, j < L.length ∧ live L j ∧ ¬ live L₂ j ∧ σ j = σ₁ i := fun i hi hl hlv => by
      rcases h.fresh i hl hlv with h3 | ⟨m, m1, m2, m3, m4⟩
      · exact .inl h3
      · exact .inr ⟨m, m1, m2, fun hl2 => m3 (k.dead m (Nat.lt_of_lt_of_le m1 h.len) hl2), m4⟩
    by_cases hj : j < L₁.length
    · rw [k.agree j hj]; exact first j hj h1 (k.dead j hj h2)
    · rcases k.fresh j (by omega) h2 with h3 | ⟨m, m1, m2, m3, m4⟩
      · exact .inl (Nat.le_trans h.size h3)
      · rw [← m4]
        by_cases hm : m < L.length
        · exact .inr ⟨m, hm, h.dead m hm m2, m3, (h.agree m hm).symm⟩
        · exact first m m1 (by omega) m2
  gle b o hb := k.gle b o (h.gle b o hb)
  gnew b h1 h2 := by
    cases hg : g₁ b with
    | none =>
      rcases k.gnew b hg h2 with h3 | ⟨m, m1, m2, m3, m4⟩
      · exact .inl (Nat.le_trans h.size h3)
      · by_cases hm : m < L.length
        · exact .inr ⟨m, hm, h.dead m hm m2, fun hl => m3 hl, (h.agree m hm).symm.trans m4⟩
        · rcases h.fresh m (by omega) m2 with h5 | ⟨n, n1, n2, n3, n4⟩
          · exact .inl (by rw [m4] at h5; exact h5)
          · exact .inr ⟨n, n1, n2, fun hn => n3 (k.dead n (by have := h.len; omega) hn), n4.trans m4⟩
    | some o =>
      rcases h.gnew b h1 (by simp [hg]) with h3 | ⟨m, m1, m2, m3, m4⟩
      · exact .inl h3
      · exact .inr ⟨m, m1, m2, fun hm => m3 (k.dead m (by have := h.len; omega) hm), m4⟩
  os := k.os.trans h.os
  tape := k.tape.trans h.tape
  output := k.output.trans h.output
  size := Nat.le_trans h.size k.size
  keep b hb hn hf := by
    refine (k.keep b (Nat.lt_of_lt_of_le hb h.size) (fun j hj e => ?_) fun ho => ?_).trans (h.keep b hb hn hf)
    · by_cases hjl : j < L.length
      · have hj1 : j < L₁.length := Nat.lt_of_lt_of_le hjl h.len
        rw [h.agree j hjl] at e
        exact hn j (h.dead j hjl hj) e
      · rcases h.fresh j (by omega) hj with h3 | ⟨m, m1, m2, _, m4⟩
        · omega
        · exact hn m m2 (m4.trans e)
    · rcases h.ffresh b ho with h3 | ⟨m, m1, m2, _, m4⟩ | h3
      · omega
      · exact hn m m2 m4
      · exact hf h3
  ffresh b ho := by
    rcases k.ffresh b ho with h3 | ⟨j, j1, j2, j3, j4⟩ | h3
    · exact .inl (Nat.le_trans h.size h3)
    · by_cases hjl : j < L.length
      · exact .inr (.inl ⟨j, hjl, h.dead j hjl j2, j3, (h.agree j hjl).symm.trans j4⟩)
      · rcases h.fresh j (by omega) j2 with h3 | ⟨m, m1, m2, m3, m4⟩
        · exact .inl (by rw [j4] at h3; exact h3)
        · exact .inr (.inl ⟨m, m1, m2, fun hm => m3 (k.dead m (Nat.lt_of_lt_of_le m1 h.len) hm), m4.trans j4⟩)
    · rcases h.ffresh b h3 with h3 | ⟨m, m1, m2, m3, m4⟩ | h3
      · exact .inl h3
      · exact .inr (.inl ⟨m, m1, m2, fun hm => m3 (k.dead m (Nat.lt_of_lt_of_le m1 h.len) hm), m4⟩)
      · exact .inr (.inr h3)

/-- A draw turns nothing. -/
theorem Mem.drew {g L σ} {w : World} (h : Mem g L σ w) (n : Nat) : Mem g L σ { w with drawn := n } := ⟨h.im, h.lo, h.inj, h.sep, ⟨h.fm.at_, h.fm.im, h.fm.sep, h.fm.dis⟩⟩
theorem Goes.drew {σ L g w σ₁ L₁ g₁} {w₁ : World} (h : Goes σ L g w σ₁ L₁ g₁ w₁) (n : Nat) : Goes σ L g w σ₁ L₁ g₁ { w₁ with drawn := n } :=
  ⟨h.agree, h.len, h.dead, h.fresh, h.gle, h.gnew, h.os, h.tape, h.output, h.size, h.keep, h.ffresh⟩

/-! ### Forgetting blocks -/

/-- L says no more than M. -/
def Less (L M : List Chunk) : Prop := L.length = M.length ∧ ∀ k : Nat, L[k]? = some Chunk.gone ∨ L[k]? = M[k]?
theorem Less.live {L M : List Chunk} (h : Less L M) {k : Nat} (hk : live L k) : L[k]? = M[k]? := by
  rcases h.2 k with h1 | h1
  · obtain ⟨c, hc, hh⟩ := live_get hk
    rw [h1] at hc; cases hc; cases hh
  · exact h1
theorem Less.fam {L M : List Chunk} (h : Less L M) (k : Nat) (H : G) (hk : L[k]? = some (Chunk.fam H)) : M[k]? = some (Chunk.fam H) := by
  rcases h.2 k with h1 | h1
  · rw [h1] at hk; cases hk
  · rw [← h1]; exact hk
theorem Less.refl (L : List Chunk) : Less L L := ⟨rfl, fun _ => .inr rfl⟩
theorem Mem.less {g : G} {L M : List Chunk} {σ : Nat → Nat} {w : World} (h : Mem g M σ w) (hl : Less L M) : Mem g L σ w where
  im := h.im
  lo k c o hk ho := h.lo k c o (by rw [← hl.live (live_of hk (obj_here ho))]; exact hk) ho
  inj j k hj hk := h.inj j k ((live_congr (hl.live hj)).1 hj) ((live_congr (hl.live hk)).1 hk)
  sep k hk := h.sep k ((live_congr (hl.live hk)).1 hk)
  fm := h.fm.to hl.fam h.fm.im (fun b j ho hj => h.fm.sep b j ho ((live_congr (hl.live hj)).1 hj)) fun _ _ _ => rfl
theorem Goes.less {σ L g w σ' L' M' g'} {w' : World} (h : Goes σ L g w σ' M' g' w') (hl : Less L' M') : Goes σ L g w σ' L' g' w' where
  agree := h.agree
  len := Nat.le_trans h.len (Nat.le_of_eq hl.1.symm)
  dead k hk hlv := h.dead k hk ((live_congr (hl.live hlv)).1 hlv)
  fresh k hk hlv := by
    rcases h.fresh k hk ((live_congr (hl.live hlv)).1 hlv) with h3 | ⟨m, m1, m2, m3, m4⟩
    · exact .inl h3
    · exact .inr ⟨m, m1, m2, fun hm => m3 ((live_congr (hl.live hm)).1 hm), m4⟩
  gle := h.gle
  gnew b h1 h2 := by
    rcases h.gnew b h1 h2 with h3 | ⟨m, m1, m2, m3, m4⟩
    · exact .inl h3
    · exact .inr ⟨m, m1, m2, fun hm => m3 ((live_congr (hl.live hm)).1 hm), m4⟩
  os := h.os
  tape := h.tape
  output := h.output
  size := h.size
  keep := h.keep
  ffresh b ho := by
    rcases h.ffresh b (ho.of hl.fam) with h3 | ⟨m, m1, m2, m3, m4⟩ | h3
    · exact .inl h3
    · exact .inr (.inl ⟨m, m1, m2, fun hm => m3 ((live_congr (hl.live hm)).1 hm), m4⟩)
    · exact .inr (.inr h3)

theorem heap_push_lt {w : World} {o : Obj} {b : Nat} (h : b < w.heap.size) : (w.heap.push o)[b]? = w.heap[b]? := by
  rw [Array.getElem?_push, if_neg (by omega)]

theorem getElem?_append_one {α : Type} {L : List α} {c : α} {k : Nat} {d : α} (h : (L ++ [c])[k]? = some d) : (k < L.length ∧ L[k]? = some d) ∨ (k = L.length ∧ d = c) := by
  rcases Nat.lt_trichotomy k L.length with h1 | h1 | h1
  · rw [List.getElem?_append_left h1] at h; exact .inl ⟨h1, h⟩
  · subst h1; simp at h; exact .inr ⟨rfl, h.symm⟩
  · rw [List.getElem?_eq_none (by simp; omega)] at h; cases h

theorem obj_congr {n : Nat} {σ σ' : Nat → Nat} (h : ∀ k, k < n → σ k = σ' k) {c : Chunk} (hc : ∀ ty l, c = .cells ty l → scL n l = true) : c.obj σ = c.obj σ' := by
  cases c with
  | cells ty l => simp only [Chunk.obj, reL_congr h l (hc ty l rfl)]
  | _ => rfl

def scC (n : Nat) : Chunk → Bool
  | .cells _ c => scL n c
  | _ => true
def scHB (n : Nat) : List Chunk → Bool
  | [] => true
  | c :: l => scC n c && scHB n l
theorem scHB_iff {n : Nat} {L : List Chunk} : scHB n L = true ↔ ∀ (k : Nat) (ty : TypeId) (c : List SV), L[k]? = some (Chunk.cells ty c) → scL n c = true := by
  induction L with
  | nil => simp [scHB]
  | cons d L ih =>
    simp only [scHB, Bool.and_eq_true, ih]
    constructor
    · rintro ⟨h1, h2⟩ k ty c hk
      cases k with
      | zero => simp at hk; subst hk; exact h1
      | succ k => exact h2 k ty c (by simpa using hk)
    · intro h
      refine ⟨?_, fun k ty c hk => h (k + 1) ty c (by simpa using hk)⟩
      cases d with
      | cells ty c => exact h 0 ty c rfl
      | _ => rfl
theorem scHB_scH {L : List Chunk} : scHB L.length L = true ↔ scH L := scHB_iff

/-! ### Values that lead to given blocks alone -/

mutual
def SV.on (p : Nat → Bool) : SV → Bool
  | .junk => true
  | .v _ => true
  | .ptr k _ => p k
  | .slc k _ _ _ => p k
  | .mp k => p k
  | .fn _ a b => onL p a && onL p b
  | .iface _ x => x.on p
  | .agg l => onL p l
  | .tup l => onL p l
def onL (p : Nat → Bool) : List SV → Bool
  | [] => true
  | x :: l => x.on p && onL p l
end

mutual
theorem re_on {p : Nat → Bool} {σ σ' : Nat → Nat} (h : ∀ k, p k = true → σ k = σ' k) : ∀ x : SV, x.on p = true → x.re σ = x.re σ'
  | .junk, _ => rfl
  | .v _, _ => rfl
  | .ptr k o, hx => by simp only [SV.re, h k (by simpa [SV.on] using hx)]
  | .slc k o a b, hx => by simp only [SV.re, h k (by simpa [SV.on] using hx)]
  | .mp k, hx => by simp only [SV.re, h k (by simpa [SV.on] using hx)]
  | .fn f a b, hx => by
    simp only [SV.on, Bool.and_eq_true] at hx
    simp only [SV.re, reL_on h a hx.1, reL_on h b hx.2]
  | .iface t x, hx => by simp only [SV.re, re_on h x (by simpa [SV.on] using hx)]
  | .agg l, hx => by simp only [SV.re, reL_on h l (by simpa [SV.on] using hx)]
  | .tup l, hx => by simp only [SV.re, reL_on h l (by simpa [SV.on] using hx)]
theorem reL_on {p : Nat → Bool} {σ σ' : Nat → Nat} (h : ∀ k, p k = true → σ k = σ' k) : ∀ l : List SV, onL p l = true → reL σ l = reL σ' l
  | [], _ => rfl
  | x :: l, hx => by
    simp only [onL, Bool.and_eq_true] at hx
    simp only [reL, re_on h x hx.1, reL_on h l hx.2]
end

mutual
theorem on_mono {p q : Nat → Bool} (h : ∀ k, p k = true → q k = true) : ∀ x : SV, x.on p = true → x.on q = true
  | .junk, _ => rfl
  | .v _, _ => rfl
  | .ptr k o, hx => by simp only [SV.on] at hx ⊢; exact h k hx
  | .slc k o a b, hx => by simp only [SV.on] at hx ⊢; exact h k hx
  | .mp k, hx => by simp only [SV.on] at hx ⊢; exact h k hx
  | .fn f a b, hx => by
    simp only [SV.on, Bool.and_eq_true] at hx ⊢
    exact ⟨onL_mono h a hx.1, onL_mono h b hx.2⟩
  | .iface t x, hx => by simp only [SV.on] at hx ⊢; exact on_mono h x hx
  | .agg l, hx => by simp only [SV.on] at hx ⊢; exact onL_mono h l hx
  | .tup l, hx => by simp only [SV.on] at hx ⊢; exact onL_mono h l hx
theorem onL_mono {p q : Nat → Bool} (h : ∀ k, p k = true → q k = true) : ∀ l : List SV, onL p l = true → onL q l = true
  | [], _ => rfl
  | x :: l, hx => by
    simp only [onL, Bool.and_eq_true] at hx ⊢
    exact ⟨on_mono h x hx.1, onL_mono h l hx.2⟩
end

mutual
theorem on_sc {n : Nat} : ∀ x : SV, x.sc n = x.on (fun k => decide (k < n))
  | .junk => rfl
  | .v _ => rfl
  | .ptr k o => by simp [SV.sc, SV.on]
  | .slc k o a b => by simp [SV.sc, SV.on]
  | .mp k => by simp [SV.sc, SV.on]
  | .fn f a b => by simp only [SV.sc, SV.on, onL_sc a, onL_sc b]
  | .iface t x => by simp only [SV.sc, SV.on, on_sc x]
  | .agg l => by simp only [SV.sc, SV.on, onL_sc l]
  | .tup l => by simp only [SV.sc, SV.on, onL_sc l]
theorem onL_sc {n : Nat} : ∀ l : List SV, scL n l = onL (fun k => decide (k < n)) l
  | [] => rfl
  | x :: l => by simp only [scL, onL, on_sc x, onL_sc l]
end

theorem onL_mem {p : Nat → Bool} {l : List SV} : onL p l = true ↔ ∀ x ∈ l, x.on p = true := by
  induction l with
  | nil => simp [onL]
  | cons x l ih => simp [onL, ih]

def Chunk.on (p : Nat → Bool) : Chunk → Bool
  | .cells _ l => onL p l
  | _ => true
theorem obj_on {p : Nat → Bool} {σ σ' : Nat → Nat} (h : ∀ k, p k = true → σ k = σ' k) {c : Chunk} (hc : c.on p = true) : c.obj σ = c.obj σ' := by
  cases c with
  | cells ty l => simp only [Chunk.obj, reL_on h l hc]
  | _ => rfl
theorem Chunk.on_mono {p q : Nat → Bool} (h : ∀ k, p k = true → q k = true) {c : Chunk} (hc : c.on p = true) : c.on q = true := by
  cases c with
  | cells ty l => exact onL_mono h l hc
  | _ => rfl

/-! ### A block more, a block written -/

/-- A block more, at a place that was empty. -/
theorem Mem.born {g : G} {L : List Chunk} {σ : Nat → Nat} {w : World} (h : Mem g L σ w) {k : Nat} (hk : L[k]? = some Chunk.gone) (hon : ∀ (j : Nat) (c : Chunk), L[j]? = some c → c.on (fun i => !(i == k)) = true)
    (c : Chunk) (hc : c.on (fun i => !(i == k)) = true) (o : Obj) (ho : c.obj σ = some o) :
    Mem g (L.set k c) (fun j => if j = k then w.heap.size else σ j) { w with heap := w.heap.push o } := by
  have hkl : k < L.length := (List.getElem?_eq_some_iff.1 hk).1
  have hag : ∀ j, (!(j == k)) = true → σ j = (fun j => if j = k then w.heap.size else σ j) j := fun j hj => by
    have : j ≠ k := by simpa using hj
    simp [this]
  have hlv : ∀ j, j ≠ k → live (L.set k c) j → live L j := fun j hj hl => by
    rwa [live_congr (L' := L) (List.getElem?_set_ne (fun e => hj e.symm))] at hl
  refine ⟨fun b o' hb => ?_, fun j d o' hj hd => ?_, fun i j hi hj hij => ?_, fun j hj => ?_, h.fm.to (fam_set (obj_nfam ho)) h.fm.im (fun b j hb hj => ?_) fun b _ hb => heap_push_lt hb⟩
  rotate_right
  · by_cases hjk : j = k
    · have := h.fm.lt hb
      simp only [hjk, if_true]; omega
    · simp only [hjk, if_false]
      exact h.fm.sep b j hb (hlv j hjk hj)
  · show (w.heap.push o)[b]? = _
    rw [heap_push_lt (h.im_lt hb)]
    exact h.im b o' hb
  · by_cases hjk : j = k
    · subst hjk
      rw [List.getElem?_set_self hkl] at hj
      cases hj
      rw [← obj_on hag hc, ho] at hd
      cases hd
      simp
    · rw [List.getElem?_set_ne (fun e => hjk e.symm)] at hj
      rw [← obj_on hag (hon j d hj)] at hd
      simp only [hjk, if_false]
      show (w.heap.push o)[σ j]? = _
      rw [heap_push_lt (h.lt (live_of hj (obj_here hd)))]
      exact h.lo j d o' hj hd
  · by_cases hik : i = k <;> by_cases hjk : j = k
    · rw [hik, hjk]
    · have := h.lt (hlv j hjk hj)
      simp only [hik, hjk, if_true, if_false] at hij
      omega
    · have := h.lt (hlv i hik hi)
      simp only [hik, hjk, if_true, if_false] at hij
      omega
    · simp only [hik, hjk, if_false] at hij
      exact h.inj i j (hlv i hik hi) (hlv j hjk hj) hij
  · by_cases hjk : j = k
    · simp only [hjk, if_true]
      cases hg : g w.heap.size with
      | none => rfl
      | some o' => have := h.im_lt hg; omega
    · simp only [hjk, if_false]
      exact h.sep j (hlv j hjk hj)

/-- A block of the function's own is written. -/
theorem Mem.write {g : G} {L : List Chunk} {σ : Nat → Nat} {w : World} (h : Mem g L σ w) {k : Nat} (hk : live L k) (c : Chunk) (o : Obj) (ho : c.obj σ = some o) :
    Mem g (L.set k c) σ { w with heap := w.heap.setIfInBounds (σ k) o } := by
  have hkl := live_lt hk
  have hlt := h.lt hk
  have hlv : ∀ j, live (L.set k c) j → live L j := fun j hl => by
    by_cases hjk : j = k
    · rw [hjk]; exact hk
    · rwa [live_congr (L' := L) (List.getElem?_set_ne (fun e => hjk e.symm))] at hl
  refine ⟨fun b o' hb => ?_, fun j d o' hj hd => ?_, fun i j hi hj => h.inj i j (hlv i hi) (hlv j hj), fun j hj => h.sep j (hlv j hj), h.fm.to (fam_set (obj_nfam ho)) h.fm.im (fun b j hb hj => h.fm.sep b j hb (hlv j hj)) fun b hb _ => (Array.getElem?_setIfInBounds_ne (h.fm.sep b k hb hk) : (w.heap.setIfInBounds (σ k) o)[b]? = _)⟩
  · have hne : σ k ≠ b := fun e => by
      have := h.sep k hk
      rw [e, hb] at this
      cases this
    show (w.heap.setIfInBounds (σ k) o)[b]? = _
    rw [Array.getElem?_setIfInBounds_ne hne]
    exact h.im b o' hb
  · by_cases hjk : j = k
    · subst hjk
      rw [List.getElem?_set_self hkl] at hj
      cases hj
      rw [ho] at hd
      cases hd
      simp [hlt]
    · rw [List.getElem?_set_ne (fun e => hjk e.symm)] at hj
      show (w.heap.setIfInBounds (σ k) o)[σ j]? = _
      rw [Array.getElem?_setIfInBounds_ne (fun e => hjk (h.inj j k (live_of hj (obj_here hd)) hk e.symm))]
      exact h.lo j d o' hj hd

theorem Goes.write {σ0 L0 g0 w0 σ L g} {w : World} (h : Goes σ0 L0 g0 w0 σ L g w) {k : Nat} (hk : live L k) (c : Chunk) (o : Obj) (hcf : isFam c = false) :
    Goes σ0 L0 g0 w0 σ (L.set k c) g { w with heap := w.heap.setIfInBounds (σ k) o } where
  agree := h.agree
  len := by rw [List.length_set]; exact h.len
  dead j hj hl := by
    by_cases hjk : j = k
    · subst hjk; exact h.dead j hj hk
    · exact h.dead j hj (by rwa [live_congr (L' := L) (List.getElem?_set_ne (fun e => hjk e.symm))] at hl)
  fresh j hj hl := by
    have hl' : live L j := by
      by_cases hjk : j = k
      · rw [hjk]; exact hk
      · rwa [live_congr (L' := L) (List.getElem?_set_ne (fun e => hjk e.symm))] at hl
    rcases h.fresh j hj hl' with h3 | ⟨m, m1, m2, m3, m4⟩
    · exact .inl h3
    · refine .inr ⟨m, m1, m2, fun hm => m3 ?_, m4⟩
      by_cases hmk : m = k
      · rw [hmk]; exact hk
      · rwa [live_congr (L' := L) (List.getElem?_set_ne (fun e => hmk e.symm))] at hm
  gle := h.gle
  gnew b h1 h2 := by
    rcases h.gnew b h1 h2 with h3 | ⟨m, m1, m2, m3, m4⟩
    · exact .inl h3
    · refine .inr ⟨m, m1, m2, fun hm => m3 ?_, m4⟩
      by_cases hmk : m = k
      · rw [hmk]; exact hk
      · rwa [live_congr (L' := L) (List.getElem?_set_ne (fun e => hmk e.symm))] at hm
  os := h.os
  tape := h.tape
  output := h.output
  size := by simpa using h.size
  ffresh b ho := by
    have hlv : ∀ m, live (L.set k c) m → live L m := fun m hm => by
      by_cases hmk : m = k
      · rw [hmk]; exact hk
      · rwa [live_congr (L' := L) (List.getElem?_set_ne (fun e => hmk e.symm))] at hm
    rcases h.ffresh b (ho.of (fam_set hcf)) with h3 | ⟨m, m1, m2, m3, m4⟩ | h3
    · exact .inl h3
    · exact .inr (.inl ⟨m, m1, m2, fun hm => m3 (hlv m hm), m4⟩)
    · exact .inr (.inr h3)
  keep b hb hn hf := by
    refine Eq.trans ?_ (h.keep b hb hn hf)
    show (w.heap.setIfInBounds (σ k) o)[b]? = _
    refine Array.getElem?_setIfInBounds_ne fun e => ?_
    by_cases hjl : k < L0.length
    · rw [h.agree k hjl] at e
      exact hn k (h.dead k hjl hk) e
    · rcases h.fresh k (by omega) hk with h3 | ⟨m, m1, m2, _, m4⟩
      · omega
      · exact hn m m2 (m4.trans e)

theorem Goes.born {σ0 L0 g0 w0 σ L g} {w : World} (h : Goes σ0 L0 g0 w0 σ L g w) {k : Nat} (hk : L0.length ≤ k) (c : Chunk) (o : Obj) (hcf : isFam c = false) :
    Goes σ0 L0 g0 w0 (fun j => if j = k then w.heap.size else σ j) (L.set k c) g { w with heap := w.heap.push o } where
  agree j hj := by simp only [show j ≠ k by omega, if_false]; exact h.agree j hj
  len := by rw [List.length_set]; exact h.len
  dead j hj hl := h.dead j hj (by rwa [live_congr (L' := L) (List.getElem?_set_ne (show k ≠ j by omega))] at hl)
  fresh j hj hl := by
    by_cases hjk : j = k
    · simp only [hjk, if_true]; exact .inl h.size
    · simp only [hjk, if_false]
      rcases h.fresh j hj (by rwa [live_congr (L' := L) (List.getElem?_set_ne (fun e => hjk e.symm))] at hl) with h3 | ⟨m, m1, m2, m3, m4⟩
      · exact .inl h3
      · exact .inr ⟨m, m1, m2, fun hm => m3 (by rwa [live_congr (L' := L) (List.getElem?_set_ne (show k ≠ m by omega))] at hm), m4⟩
  gle := h.gle
  gnew b h1 h2 := by
    rcases h.gnew b h1 h2 with h3 | ⟨m, m1, m2, m3, m4⟩
    · exact .inl h3
    · exact .inr ⟨m, m1, m2, fun hm => m3 (by rwa [live_congr (L' := L) (List.getElem?_set_ne (show k ≠ m by omega))] at hm), m4⟩
  os := h.os
  tape := h.tape
  output := h.output
  size := by simp only [Array.size_push]; have := h.size; omega
  ffresh b ho := by
    rcases h.ffresh b (ho.of (fam_set hcf)) with h3 | ⟨m, m1, m2, m3, m4⟩ | h3
    · exact .inl h3
    · exact .inr (.inl ⟨m, m1, m2, fun hm => m3 (by rwa [live_congr (L' := L) (List.getElem?_set_ne (show k ≠ m by omega))] at hm), m4⟩)
    · exact .inr (.inr h3)
  keep b hb hn hf := by
    refine Eq.trans ?_ (h.keep b hb hn hf)
    show (w.heap.push o)[b]? = _
    exact heap_push_lt (Nat.lt_of_lt_of_le hb h.size)

/-- A place more, with nothing there. -/
theorem Mem.place {g : G} {L : List Chunk} {σ : Nat → Nat} {w : World} (h : Mem g L σ w) : Mem g (L ++ [.gone]) σ w := by
  have hlv : ∀ j, live (L ++ [.gone]) j → live L j := fun j hl => by
    obtain ⟨c, hc, hh⟩ := live_get hl
    rcases getElem?_append_one hc with ⟨_, h2⟩ | ⟨_, rfl⟩
    · exact live_of h2 hh
    · cases hh
  refine ⟨h.im, fun k c o hk ho => ?_, fun i j hi hj => h.inj i j (hlv i hi) (hlv j hj), fun j hj => h.sep j (hlv j hj), h.fm.to (fam_app rfl) h.fm.im (fun b j hb hj => h.fm.sep b j hb (hlv j hj)) fun _ _ _ => rfl⟩
  rcases getElem?_append_one hk with ⟨_, h2⟩ | ⟨_, rfl⟩
  · exact h.lo k c o h2 ho
  · cases ho
theorem Goes.place {σ0 L0 g0 w0 σ L g} {w : World} (h : Goes σ0 L0 g0 w0 σ L g w) : Goes σ0 L0 g0 w0 σ (L ++ [.gone]) g w := by
  have hlv : ∀ j, live (L ++ [.gone]) j → live L j := fun j hl => by
    obtain ⟨c, hc, hh⟩ := live_get hl
    rcases getElem?_append_one hc with ⟨_, h2⟩ | ⟨_, rfl⟩
    · exact live_of h2 hh
    · cases hh
  exact ⟨h.agree, by simp; have := h.len; omega, fun j hj hl => h.dead j hj (hlv j hl), fun j hj hl => (by
    rcases h.fresh j hj (hlv j hl) with h3 | ⟨m, m1, m2, m3, m4⟩
    · exact .inl h3
    · exact .inr ⟨m, m1, m2, fun hm => m3 (hlv m hm), m4⟩), h.gle, fun b h1 h2 => (by
    rcases h.gnew b h1 h2 with h3 | ⟨m, m1, m2, m3, m4⟩
    · exact .inl h3
    · exact .inr ⟨m, m1, m2, fun hm => m3 (hlv m hm), m4⟩), h.os, h.tape, h.output, h.size, h.keep, fun b ho => (by
    rcases h.ffresh b (ho.of (fam_app rfl)) with h3 | ⟨m, m1, m2, m3, m4⟩ | h3
    · exact .inl h3
    · exact .inr (.inl ⟨m, m1, m2, fun hm => m3 (hlv m hm), m4⟩)
    · exact .inr (.inr h3))⟩

/-! ### A family's block is written -/

def G.put (h : G) (b : Nat) (o : Obj) : G := fun x => if x = b then some o else h x
theorem G.put_self {h : G} {b : Nat} {o : Obj} : h.put b o b = some o := if_pos rfl
theorem G.put_ne {h : G} {b x : Nat} {o : Obj} (hx : x ≠ b) : h.put b o x = h x := if_neg hx
theorem live_famset {L : List Chunk} {k : Nat} {H H' : G} (hk : L[k]? = some (.fam H)) (j : Nat) : live (L.set k (.fam H')) j ↔ live L j := by
  by_cases hjk : k = j
  · subst hjk
    have hkl := (List.getElem?_eq_some_iff.1 hk).1
    unfold live liveB
    rw [List.getElem?_set_self hkl, hk]
    exact Iff.rfl
  · exact live_congr (List.getElem?_set_ne hjk)
theorem fam_famset {L : List Chunk} {k j : Nat} {H H' H2 : G} (hk : L[k]? = some (.fam H)) (h : (L.set k (.fam H'))[j]? = some (Chunk.fam H2)) : (j = k ∧ H2 = H') ∨ (j ≠ k ∧ L[j]? = some (.fam H2)) := by
  by_cases hjk : k = j
  · subst hjk
    rw [List.getElem?_set_self (List.getElem?_eq_some_iff.1 hk).1] at h
    cases h
    exact .inl ⟨rfl, rfl⟩
  · rw [List.getElem?_set_ne hjk] at h
    exact .inr ⟨fun e => hjk e.symm, h⟩
theorem ownF_put {L : List Chunk} {k b : Nat} {H : G} {o : Obj} (hk : L[k]? = some (.fam H)) (hb : H b ≠ none) {x : Nat} (h : ownF (L.set k (.fam (H.put b o))) x) : ownF L x := by
  obtain ⟨j, H2, hj, hh⟩ := h
  rcases fam_famset hk hj with ⟨rfl, rfl⟩ | ⟨_, h2⟩
  · refine ⟨j, H, hk, ?_⟩
    by_cases hx : x = b
    · rw [hx]; exact hb
    · rwa [G.put_ne hx] at hh
  · exact ⟨j, H2, h2, hh⟩
theorem Mem.famWrite {g : G} {L : List Chunk} {σ : Nat → Nat} {w : World} (h : Mem g L σ w) {k b : Nat} {H : G} (hk : L[k]? = some (.fam H)) (hb : H b ≠ none) (o : Obj) :
    Mem g (L.set k (.fam (H.put b o))) σ { w with heap := w.heap.setIfInBounds b o } := by
  have hown : ownF L b := ⟨k, H, hk, hb⟩
  have hlt := h.fm.lt hown
  have hne : ∀ x, x ≠ b → (w.heap.setIfInBounds b o)[x]? = w.heap[x]? := fun x hx => Array.getElem?_setIfInBounds_ne fun e => hx e.symm
  refine ⟨fun x o' hx => ?_, fun j c o' hj ho => ?_, fun i j hi hj => h.inj i j ((live_famset hk i).1 hi) ((live_famset hk j).1 hj), fun j hj => h.sep j ((live_famset hk j).1 hj), ⟨fun j H2 x o' hj hx => ?_, fun x hx => h.fm.im x (ownF_put hk hb hx), fun x j hx hj => h.fm.sep x j (ownF_put hk hb hx) ((live_famset hk j).1 hj), fun i j H1 H2 x hi hj h1 h2 => ?_⟩⟩
  · show (w.heap.setIfInBounds b o)[x]? = _
    rw [hne x fun e => by rw [e, h.fm.im b hown] at hx; cases hx]
    exact h.im x o' hx
  · have hjk : k ≠ j := fun e => by
      subst e
      rw [List.getElem?_set_self (List.getElem?_eq_some_iff.1 hk).1] at hj
      cases hj; cases ho
    rw [List.getElem?_set_ne hjk] at hj
    show (w.heap.setIfInBounds b o)[σ j]? = _
    rw [hne _ (h.fm.sep b j hown (live_of hj (obj_here ho)))]
    exact h.lo j c o' hj ho
  · show (w.heap.setIfInBounds b o)[x]? = _
    rcases fam_famset hk hj with ⟨rfl, rfl⟩ | ⟨h1, h2⟩
    · by_cases hxb : x = b
      · subst hxb
        rw [G.put_self] at hx
        cases hx
        simp [hlt]
      · rw [G.put_ne hxb] at hx
        rw [hne x hxb]
        exact h.fm.at_ j H x o' hk hx
    · rw [hne x fun e => h1 (h.fm.dis j k H2 H b h2 hk (by rw [← e, hx]; simp) hb)]
      exact h.fm.at_ j H2 x o' h2 hx
  · have hput : H.put b o x ≠ none → H x ≠ none := fun hp => by
      by_cases hxb : x = b
      · rw [hxb]; exact hb
      · rwa [G.put_ne hxb] at hp
    rcases fam_famset hk hi with ⟨rfl, rfl⟩ | ⟨i1, i2⟩ <;> rcases fam_famset hk hj with ⟨rfl, rfl⟩ | ⟨j1, j2⟩
    · rfl
    · exact h.fm.dis _ _ H H2 x hk j2 (hput h1) h2
    · exact h.fm.dis _ _ H1 H x i2 hk h1 (hput h2)
    · exact h.fm.dis _ _ H1 H2 x i2 j2 h1 h2
theorem Goes.famWrite {σ0 L0 g0 w0 σ L g} {w : World} (h : Goes σ0 L0 g0 w0 σ L g w) {k b : Nat} {H : G} (hk : L[k]? = some (.fam H)) (hb : H b ≠ none) (o : Obj) :
    Goes σ0 L0 g0 w0 σ (L.set k (.fam (H.put b o))) g { w with heap := w.heap.setIfInBounds b o } where
  agree := h.agree
  len := by rw [List.length_set]; exact h.len
  dead j hj hl := h.dead j hj ((live_famset hk j).1 hl)
  fresh j hj hl := by
    rcases h.fresh j hj ((live_famset hk j).1 hl) with h3 | ⟨m, m1, m2, m3, m4⟩
    · exact .inl h3
    · exact .inr ⟨m, m1, m2, fun hm => m3 ((live_famset hk m).1 hm), m4⟩
  gle := h.gle
  gnew x h1 h2 := by
    rcases h.gnew x h1 h2 with h3 | ⟨m, m1, m2, m3, m4⟩
    · exact .inl h3
    · exact .inr ⟨m, m1, m2, fun hm => m3 ((live_famset hk m).1 hm), m4⟩
  os := h.os
  tape := h.tape
  output := h.output
  size := by simpa using h.size
  ffresh x hx := by
    rcases h.ffresh x (ownF_put hk hb hx) with h3 | ⟨m, m1, m2, m3, m4⟩ | h3
    · exact .inl h3
    · exact .inr (.inl ⟨m, m1, m2, fun hm => m3 ((live_famset hk m).1 hm), m4⟩)
    · exact .inr (.inr h3)
  keep x hx hn hf := by
    refine Eq.trans ?_ (h.keep x hx hn hf)
    show (w.heap.setIfInBounds b o)[x]? = _
    refine Array.getElem?_setIfInBounds_ne fun e => ?_
    rcases h.ffresh b ⟨k, H, hk, hb⟩ with h3 | ⟨m, m1, m2, m3, m4⟩ | h3
    · omega
    · exact hn m m2 (m4.trans e)
    · exact hf (e ▸ h3)

theorem set_last (L : List Chunk) (c : Chunk) : (L ++ [Chunk.gone]).set L.length c = L ++ [c] := by simp

end Go.Sx
end

/- A symbolic executor of my own, second design, part 2: operations that only read, or make one block: what they look at, what they yield. Conditions: none; it speaks of any program. -/
section
namespace Go.Sx
variable {fm : Bool}

/-- The operands of an operation. -/
def XOp.args : XOp → List Operand
  | .more _ args => args
  | .eff _ args => args
  | .prim _ args => args
  | .mov x => [x]
  | .pick c a b => [c, a, b]
  | .alloc _ _ => []
  | .box _ x => [x]
  | .build _ parts => parts.map fun p => p.2.2
  | .bslice _ _ _ parts => parts.map fun p => p.2.2
  | .load _ _ a => [a]
  | .store _ a x => [a, x]
  | .bin _ x y => [x, y]
  | .eqB _ x y => [x, y]
  | .eqAgg _ _ x y => [x, y]
  | .un _ x => [x]
  | .conv _ x => [x]
  | .fieldA _ x => [x]
  | .fieldV _ _ _ x => [x]
  | .indexS _ x i => [x, i]
  | .indexP _ _ x i => [x, i]
  | .indexV _ _ _ x i => [x, i]
  | .indexStr x i => [x, i]
  | .ext x _ => [x]
  | .call _ args => args
  | .callv x args => x :: args
  | .len _ x => [x]
  | .mkI _ x => [x]
  | .mkF _ a b => a ++ b

theorem map_congr_parts {e e' : Operand → SV} : ∀ (l : List (Nat × Nat × Operand)), (∀ x ∈ l.map (fun p => p.2.2), e x = e' x) → (l.map fun p => (p.1, p.2.1, e p.2.2)) = l.map fun p => (p.1, p.2.1, e' p.2.2) := by
  intro l h
  apply List.map_congr_left
  intro p hp
  rw [h p.2.2 (List.mem_map_of_mem hp)]
theorem map_congr_ev {e e' : Operand → SV} {l : List Operand} (h : ∀ x ∈ l, e x = e' x) : l.map e = l.map e' := List.map_congr_left h

/-- What only reads looks at its operands alone. -/
theorem ro_congr {X : XOp} {e e' : Operand → SV} {L : List Chunk} {g : G} {K : SV → Prop} (h : ∀ x ∈ X.args, e x = e' x) : ro fm X e L g K = ro fm X e' L g K := by
  cases X
  case more y args => simp only [ro, map_congr_ev (l := args) h]
  case eff => rfl
  case build zs parts => simp only [ro, map_congr_parts parts h]
  case bslice => rfl
  case mkF f a b => simp only [ro, map_congr_ev (l := a) (fun x hx => h x (List.mem_append_left _ hx)), map_congr_ev (l := b) (fun x hx => h x (List.mem_append_right _ hx))]
  case call => rfl
  case callv => rfl
  case prim => rfl
  all_goals
    simp only [XOp.args, List.mem_cons, List.not_mem_nil, or_false, forall_eq_or_imp, forall_eq] at h
    simp only [ro, h]

/-- The blocks at hand that an operation that only reads looks at. -/
noncomputable def XOp.looks (fm : Bool) (X : XOp) (e : Operand → SV) (L : List Chunk) : List Nat :=
  match X with
  | .load _ _ a => match e a with
    | .ptr k _ => [k]
    | .v (.pointer (some _)) => match fm with
      | true => famIdx 0 L
      | false => []
    | _ => []
  | .more .b2s args => match args.map e with
    | [.slc k _ _ _] => [k]
    | _ => []
  | _ => []

theorem ro_mem {X : XOp} {e : Operand → SV} {L L' : List Chunk} {g : G} {K : SV → Prop} (h : ∀ k ∈ X.looks fm e L, L[k]? = L'[k]?) (hr : ro fm X e L g K) : ro fm X e L' g K := by
  cases X
  case more y args =>
    cases y
    case b2s =>
      simp only [ro, XOp.looks] at h hr ⊢
      generalize args.map e = vs at h hr ⊢
      simp only [roY] at hr ⊢
      split at hr
      · simp only [List.mem_singleton, forall_eq] at h
        simp only [h] at hr
        exact hr
      all_goals exact hr
    all_goals exact hr
  case load agg n a =>
    simp only [ro, XOp.looks] at h hr ⊢
    cases ha : e a
    case ptr k off =>
      rw [ha] at h hr
      simp only [List.mem_singleton, forall_eq] at h
      simp only [h] at hr
      exact hr
    case v y =>
      rw [ha] at h hr
      cases y
      case pointer p =>
        cases p with
        | none => exact hr
        | some ad =>
          obtain ⟨xs, h1, h2, h3⟩ := hr
          refine ⟨xs, h1, memAt_intro ?_, h3⟩
          rcases memAt_elim h2 with h2 | ⟨rfl, k, H, hk, h2⟩
          · exact .inl h2
          · exact .inr ⟨rfl, k, H, by rw [← h k (by have := famIdx_of (i := 0) hk; rwa [Nat.zero_add] at this)]; exact hk, h2⟩
      all_goals exact hr
    all_goals (rw [ha] at hr; exact hr)
  all_goals exact hr

theorem newRow_run {P : Program} {w : World} (t : TypeId) (c : Array Value) : (newRow t c).run P w = .ok ⟨w.heap.size, 0, none⟩ { w with heap := w.heap.push (.cells c t (0, 0)) } := by
  simp [newRow]

/-- The block that an operation makes, and what it yields where the block is k. -/
def mk (X : XOp) (e : Operand → SV) (k : Nat) : Option (Chunk × SV) :=
  match X with
  | .alloc t zs => some (.cells t (zs.map .v), .ptr k 0)
  | .box t x => match isJunk (e x) with
    | true => none
    | false => some (.cells t (e x).cells, .ptr k 0)
  | .bslice t n zs parts => match fillS (zs.map .v) (parts.map fun p => (p.1, p.2.1, e p.2.2)) with
    | some l => some (.cells t l, .slc k 0 n n)
    | none => none
  | _ => none

/-- What running such an operation does. -/
def Makes (P : Program) (o : Oper) (fr : List SV) (c : Chunk) (k : Nat) (r : SV) : Prop :=
  ∀ (σ : Nat → Nat) (a : Act) (w : World), FR σ fr a.tmps → ∃ ob v, c.obj σ = some ob ∧ (execOp a.eval o).run P w = .ok (.value v) { w with heap := w.heap.push ob } ∧ ∀ σ' : Nat → Nat, σ' k = w.heap.size → v = r.re σ'

theorem mk_alloc {P : Program} {o : Oper} {fr : List SV} {t : TypeId} {X : XOp} {k : Nat} {c : Chunk} {r : SV} (ho : o.op = .alloc t) (hX : xop0 P (.alloc t) = some X) (h : mk X (ev fr) k = some (c, r)) : Makes P o fr c k r := by
  simp only [xop0] at hX
  cases hi : P.info? t with
  | none => simp [hi] at hX
  | some i =>
    rw [hi] at hX
    simp only [Option.map_eq_some_iff] at hX
    obtain ⟨z, hz, rfl⟩ := hX
    simp only [mk, Option.some.injEq, Prod.mk.injEq] at h
    obtain ⟨rfl, rfl⟩ := h
    intro σ a w _
    have hz' : (zeroValue t).run P w = .ok z w := by simp [zeroValue, typeInfo, hi, hz]
    refine ⟨.cells z.cells t (0, 0), .pointer (some ⟨w.heap.size, 0, none⟩), by simp [Chunk.obj, reL_v], ?_, fun σ' e => by simp [SV.re, e]⟩
    simp only [execOp, ho, Instr.alloc, Sem.run_bind, hz', Result.andThen_ok, newVar, newRow_run, Sem.run_pure]

theorem mk_box {P : Program} {o : Oper} {fr : List SV} {t : TypeId} {x : Operand} {k : Nat} {c : Chunk} {r : SV} (ho : o.op = .box t x) (h : mk (.box t x) (ev fr) k = some (c, r)) : Makes P o fr c k r := by
  simp only [mk] at h
  cases hb : isJunk (ev fr x) with
  | true => rw [hb] at h; cases h
  | false =>
    rw [hb] at h
    simp only [Option.some.injEq, Prod.mk.injEq] at h
    obtain ⟨rfl, rfl⟩ := h
    have hj : ev fr x ≠ .junk := by
      intro e
      rw [e] at hb
      cases hb
    intro σ a w hf
    have hev := hf.ev x hj
    have hcl := cells_re σ _ hj
    refine ⟨.cells ((ev fr x).re σ).cells t (0, 0), .pointer (some ⟨w.heap.size, 0, none⟩), by simp only [Chunk.obj, ← hcl], ?_, fun σ' e => by simp [SV.re, e]⟩
    simp only [execOp, ho, Instr.box, Sem.run_bind, newVar, newRow_run, Result.andThen_ok, Sem.run_pure, hev]

theorem mk_bslice {P : Program} {o : Oper} {fr : List SV} {t : TypeId} {n : Nat} {ps : Array (Nat × Operand)} {X : XOp} {k : Nat} {c : Chunk} {r : SV} (ho : o.op = .buildSlice t n ps) (hX : xop0 P (.buildSlice t n ps) = some X) (h : mk X (ev fr) k = some (c, r)) : Makes P o fr c k r := by
  simp only [xop0] at hX
  cases hu : P.underlying t with
  | none => simp [hu] at hX
  | some d =>
    rw [hu] at hX
    cases d
    case slice e =>
      simp only at hX
      cases hi : P.info? e with
      | none => simp [hi] at hX
      | some i =>
        rw [hi] at hX
        simp only at hX
        cases hz : i.zero with
        | none => simp [hz] at hX
        | some z =>
          rw [hz] at hX
          simp only at hX
          split at hX
          case isFalse => cases hX
          case isTrue hc =>
            simp only [Option.some.injEq] at hX
            subst hX
            simp only [mk] at h
            split at h
            case h_2 => cases h
            case h_1 l hf =>
              simp only [Option.some.injEq, Prod.mk.injEq] at h
              obtain ⟨rfl, rfl⟩ := h
              intro σ a w hF
              have hnj : ∀ p ∈ ps.toList, ev fr p.2 ≠ .junk := fun p hp => by
                have := fillS_nj _ _ _ hf (p.1 * i.size, i.size, ev fr p.2) (List.mem_map.2 ⟨(p.1 * i.size, i.size, p.2), List.mem_map.2 ⟨p, hp, rfl⟩, rfl⟩)
                exact this
              have hfill := fill_of (σ := σ) (place := fun j => some (j * i.size, i.size)) (ps.toList.map fun p => (p.1, a.eval p.2)) (((ps.toList.map fun p => (p.1 * i.size, i.size, p.2))).map fun p => (p.1, p.2.1, ev fr p.2.2)) _ l (by
                simp only [List.map_map, Function.comp_def]
                apply List.map_congr_left
                intro p hp
                simp [hF.ev p.2 (hnj p hp)]) hf
              rw [reL_v] at hfill
              refine ⟨.cells (reL σ l).toArray e (0, 0), .slice (some ⟨w.heap.size, 0, none⟩) n n, rfl, ?_, fun σ' e' => by simp [SV.re, e']⟩
              have hz' : (zeroValue e).run P w = .ok z w := by simp [zeroValue, typeInfo, hi, hz]
              have hs : (sizeOf e).run P w = .ok i.size w := by simp [sizeOf, typeInfo, hi]
              have harr : (ps.map fun (i, x) => (i, a.eval x)).toList = ps.toList.map fun p => (p.1, a.eval p.2) := by simp
              have hrange : (Array.range (n * i.size)).map (fun j => z.cells[j % z.cells.size]!) = ((List.range (n * i.size)).map fun j => z.cells[j % z.cells.size]!).toArray := by
                apply Array.ext'; simp
              simp only [execOp, ho, Instr.buildSlice, Sem.run_bind, run_underlying hu, Result.andThen_ok, hs, harr]
              rw [if_neg (by omega)]
              simp only [Sem.run_bind, if_neg hc.2.1, hz', Result.andThen_ok, Sem.run_pure, hrange, hfill, newRow_run]
    all_goals (simp at hX)

/-- The slots that an operation names. -/
def slotsOf : List Operand → List Nat
  | [] => []
  | .tmp t :: l => t :: slotsOf l
  | _ :: l => slotsOf l
def XOp.slots (X : XOp) : List Nat := slotsOf X.args

/-- A frame of which only some slots are known. -/
def selF (p : Nat → Bool) : Nat → List SV → List SV
  | _, [] => []
  | i, x :: l => (match p i with | true => x | false => .junk) :: selF p (i + 1) l
theorem selF_length (p : Nat → Bool) : ∀ (l : List SV) (i : Nat), (selF p i l).length = l.length
  | [], _ => rfl
  | x :: l, i => by simp [selF, selF_length p l]
theorem get_selF (p : Nat → Bool) : ∀ (l : List SV) (i t : Nat), get (selF p i l) t = if p (i + t) then get l t else .junk
  | [], i, t => by simp [selF, get]
  | x :: l, i, 0 => by
    simp only [selF, get, Nat.add_zero]
    cases p i <;> simp
  | x :: l, i, t + 1 => by
    have := get_selF p l (i + 1) t
    simpa only [selF, get, show i + (t + 1) = i + 1 + t by omega] using this

theorem mem_slotsOf {t : Nat} : ∀ {l : List Operand}, Operand.tmp t ∈ l → t ∈ slotsOf l
  | x :: l, h => by
    rcases List.mem_cons.1 h with h | h
    · subst h; simp [slotsOf]
    · have := mem_slotsOf h
      cases x <;> simp [slotsOf, this]

theorem ev_selF {X : XOp} {fr : List SV} {p : Nat → Bool} (hts : ∀ t, t ∈ X.slots → p t = true) : ∀ x ∈ X.args, ev fr x = ev (selF p 0 fr) x := by
  intro x hx
  cases x with
  | tmp t =>
    have := hts t (mem_slotsOf hx)
    simp only [ev, get_selF, Nat.zero_add]
    rw [if_pos this]
  | _ => rfl

/-- A memory of which only some blocks are known. -/
def selL (p : Nat → Bool) : Nat → List Chunk → List Chunk
  | _, [] => []
  | i, c :: l => (match p i with | true => c | false => .gone) :: selL p (i + 1) l
theorem selL_length (p : Nat → Bool) : ∀ (l : List Chunk) (i : Nat), (selL p i l).length = l.length
  | [], _ => rfl
  | x :: l, i => by simp [selL, selL_length p l]
theorem get_selL (p : Nat → Bool) : ∀ (l : List Chunk) (i k : Nat), (selL p i l)[k]? = if p (i + k) then l[k]? else (l[k]?).map fun _ => Chunk.gone
  | [], i, k => by simp [selL]
  | x :: l, i, 0 => by
    simp only [selL, Nat.add_zero]
    cases p i <;> simp
  | x :: l, i, k + 1 => by
    have := get_selL p l (i + 1) k
    simpa only [selL, List.getElem?_cons_succ, show i + (k + 1) = i + 1 + k by omega] using this

/-- What an operation that only reads or makes one block comes to: what it yields, and the block that it makes (at the place k). -/
def lt (fm : Bool) (X : XOp) (e : Operand → SV) (L : List Chunk) (g : G) (k : Nat) (K : SV → Option Chunk → Prop) : Prop :=
  match X with
  | .alloc t zs => K (.ptr k 0) (some (.cells t (zs.map .v)))
  | .box t x => nj (e x) fun y => K (.ptr k 0) (some (.cells t y.cells))
  | .bslice t n zs parts => match fillS (zs.map .v) (parts.map fun p => (p.1, p.2.1, e p.2.2)) with
    | some l => K (.slc k 0 n n) (some (.cells t l))
    | none => False
  | X => ro fm X e L g fun r => K r none

def LRun (P : Program) (o : Oper) (frI : List SV) (LI : List Chunk) (g : G) (k : Nat) (r : SV) (mc : Option Chunk) : Prop :=
  match mc with
  | none => r ≠ .junk ∧ Yields1 P o frI LI g r
  | some c => Makes P o frI c k r

/-- Operations that 'lt' speaks of. -/
def XOp.light : XOp → Bool
  | .store _ _ _ => false
  | .call _ _ => false
  | .callv _ _ => false
  | .eff _ _ => false
  | .prim _ _ => false
  | _ => true

theorem mk_sound0 {P : Program} {o : Oper} {X : XOp} (hX : xop0 P o.op = some X) {fr frI : List SV} (he : ∀ x ∈ X.args, ev fr x = ev frI x) {k : Nat} {c : Chunk} {r : SV} (h : mk X (ev fr) k = some (c, r)) : Makes P o frI c k r := by
  have h' : mk X (ev frI) k = some (c, r) := by
    rw [← h]
    cases X
    case box t x => simp only [mk, he x (by simp [XOp.args])]
    case bslice t n zs parts => simp only [mk, map_congr_parts parts he]
    all_goals rfl
  have shape : (∃ t, o.op = .alloc t) ∨ (∃ t x, o.op = .box t x) ∨ (∃ t n ps, o.op = .buildSlice t n ps) := by
    cases ho : o.op with
    | alloc t => exact .inl ⟨t, rfl⟩
    | box t x => exact .inr (.inl ⟨t, x, rfl⟩)
    | buildSlice t n ps => exact .inr (.inr ⟨t, n, ps, rfl⟩)
    | _ =>
      exfalso
      rw [ho] at hX
      cases X with
      | alloc t zs => clear h h' he; revert hX; simp only [xop0]; (repeat' split) <;> first | (simp; done) | (rename_i hq _; cases hq; done) | simp_all
      | box t x => clear h h' he; revert hX; simp only [xop0]; (repeat' split) <;> first | (simp; done) | (rename_i hq _; cases hq; done) | simp_all
      | bslice t n zs ps => clear h h' he; revert hX; simp only [xop0]; (repeat' split) <;> first | (simp; done) | (rename_i hq _; cases hq; done) | simp_all
      | _ => cases h
  rcases shape with ⟨t, ho⟩ | ⟨t, x, ho⟩ | ⟨t, n, ps, ho⟩
  · rw [ho] at hX; exact mk_alloc ho hX h'
  · rw [ho] at hX; simp only [xop0, Option.some.injEq] at hX; subst hX; exact mk_box ho h'
  · rw [ho] at hX; exact mk_bslice ho hX h'

theorem mk_sound {P : Program} {o : Oper} {X : XOp} (hX : xop P o.op = some X) {fr frI : List SV} (he : ∀ x ∈ X.args, ev fr x = ev frI x) {k : Nat} {c : Chunk} {r : SV} (h : mk X (ev fr) k = some (c, r)) : Makes P o frI c k r := by
  rcases xop_cases hX with h1 | rfl | ⟨as, rfl⟩
  · exact mk_sound0 h1 he h
  · cases h
  · cases h

theorem lt_sound {P : Program} {o : Oper} {X : XOp} (hX : xop P o.op = some X) {fr : List SV} {L : List Chunk} {g : G} {k : Nat} {K : SV → Option Chunk → Prop} (hk : k = L.length) {ts ks : Nat → Bool} (hts : ∀ t, t ∈ X.slots → ts t = true) (hks : ∀ j, j ∈ X.looks fm (ev fr) L → ks j = true)
    (hfr : scL L.length fr = true) (hL : scH L) (h : lt fm X (ev fr) L g k K) :
    ∃ r mc, K r mc ∧ LRun P o (selF ts 0 fr) (selL ks 0 L) g k r mc ∧ r ≠ .junk ∧ r.sc (L.length + mc.toList.length) = true ∧ ∀ c, mc = some c → c.here = true ∧ scC L.length c = true := by
  have he := ev_selF (fr := fr) hts
  have hlk : ∀ j ∈ X.looks fm (ev fr) L, L[j]? = (selL ks 0 L)[j]? := fun j hj => by
    rw [get_selL, Nat.zero_add, if_pos (hks j hj)]
  have gen : ∀ K' : SV → Prop, ro fm X (ev fr) L g K' → ∃ r, K' r ∧ LRun P o (selF ts 0 fr) (selL ks 0 L) g k r none ∧ r ≠ .junk ∧ r.sc L.length = true := by
    intro K' h
    have h1 := ro_sc hfr hL h
    have h1 := ro_mem hlk h1
    rw [ro_congr he] at h1
    obtain ⟨r, hj, ⟨hr, hs⟩, hy⟩ := ro_sound hX h1
    exact ⟨r, hr, ⟨hj, hy⟩, hj, hs⟩
  have made : ∀ c r, mk X (ev fr) k = some (c, r) → Makes P o (selF ts 0 fr) c k r := fun c r hm => mk_sound hX he hm
  cases X
  case alloc t zs =>
    refine ⟨_, _, h, made _ _ rfl, by simp, by simp [SV.sc, hk], ?_⟩
    rintro c ⟨⟩
    exact ⟨rfl, scL_v _⟩
  case box t x =>
    obtain ⟨hj, h⟩ := nj_elim h
    have hb : isJunk (ev fr x) = false := by cases he : ev fr x <;> first | rfl | exact absurd he hj
    refine ⟨_, _, h, made _ _ (by simp only [mk, hb]), by simp, by simp [SV.sc, hk], ?_⟩
    rintro c ⟨⟩
    exact ⟨rfl, sc_cells (sc_ev hfr x)⟩
  case bslice t n zs parts =>
    simp only [lt] at h
    split at h
    case h_2 => exact h.elim
    case h_1 l hl =>
      refine ⟨_, _, h, made _ _ (by simp only [mk, hl]), by simp, by simp [SV.sc, hk], ?_⟩
      rintro c ⟨⟩
      refine ⟨rfl, fillS_sc _ _ _ (fun q hq => ?_) (scL_v _) hl⟩
      obtain ⟨p, _, rfl⟩ := List.mem_map.1 hq
      exact sc_ev hfr _
  all_goals
    obtain ⟨r, h1, h2, h3, h4⟩ := gen (fun r => K r none) h
    exact ⟨r, none, h1, h2, h3, by simpa using h4, nofun⟩

end Go.Sx
end

/- A symbolic executor of my own, second design, part 3: operations that write or call. Conditions: none; it speaks of any program. -/
section
namespace Go.Sx

/-- How a call ends. -/
inductive Out where
  | ret (r : SV)
  | pan (x : SV)

def Out.sv : Out → SV
  | .ret r => r
  | .pan x => x
def Ends (σ : Nat → Nat) (e : Ending) : Out → Prop
  | .ret r => e = .returned (r.re σ)
  | .pan x => e = .panicked [{ v := x.re σ, recovered := false }]

/-- Only these blocks may have been turned; others may have come. -/
def Upd (ids : List Nat) (L L1 : List Chunk) : Prop := L.length ≤ L1.length ∧ ∀ k, k < L.length → k ∉ ids → L1[k]? = L[k]?

/-- The same turn, of a memory of which less is known. -/
def redo (ids : List Nat) : Nat → List Chunk → List Chunk → List Chunk
  | _, [], M => M
  | _, _ :: _, [] => []
  | i, c :: L, d :: M => (match ids.contains i with | true => d | false => c) :: redo ids (i + 1) L M
theorem redo_get (ids : List Nat) : ∀ (L M : List Chunk) (i k : Nat), L.length ≤ M.length → (redo ids i L M)[k]? = if k < L.length ∧ i + k ∉ ids then L[k]? else M[k]?
  | [], M, i, k, _ => by simp [redo]
  | c :: L, [], i, k, h => by simp at h
  | c :: L, d :: M, i, 0, h => by
    simp only [redo, Nat.add_zero]
    cases hc : ids.contains i <;> simp at hc <;> simp [hc]
  | c :: L, d :: M, i, k + 1, h => by
    have := redo_get ids L M (i + 1) k (by simpa using h)
    simp only [redo, List.getElem?_cons_succ, this, List.length_cons, Nat.add_lt_add_iff_right, show i + (k + 1) = i + 1 + k by omega]
theorem redo_length (ids : List Nat) : ∀ (L M : List Chunk) (i : Nat), L.length ≤ M.length → (redo ids i L M).length = M.length
  | [], M, i, _ => rfl
  | c :: L, [], i, h => by simp at h
  | c :: L, d :: M, i, h => by simp only [redo, List.length_cons, redo_length ids L M (i + 1) (by simpa using h)]
theorem redo_self {ids : List Nat} {L L1 : List Chunk} (h : Upd ids L L1) : redo ids 0 L L1 = L1 := by
  apply List.ext_getElem?
  intro k
  rw [redo_get ids L L1 0 k h.1, Nat.zero_add]
  split
  · rename_i hc; exact (h.2 k hc.1 hc.2).symm
  · rfl

def callable (P : Program) (f : FuncId) : Bool :=
  match P.funcs[f]? with
  | some fn => fn.body.isSome && !(fn.name == "runtime.NumGoroutine")
  | none => false

theorem callable_run {P : Program} {f : FuncId} (h : callable P f = true) (args : Array Value) (w : World) : (callFunc f args).run P w = .ok (.enter f args) w := by
  unfold callable at h
  split at h
  · rename_i fn hf
    simp only [Bool.and_eq_true, Bool.not_eq_true'] at h
    obtain ⟨b, hb⟩ := Option.isSome_iff_exists.1 h.1
    have hn : ¬ fn.name = "runtime.NumGoroutine" := by simpa using h.2
    simp [callFunc, hf, hn, hb]
  · cases h

/-- A call that looks at, and turns, these blocks alone. -/
def CallV (P : Program) (f : FuncId) (as : List SV) (L : List Chunk) (g : G) (rd ids : List Nat) (K : Out → List Chunk → G → Prop) : Prop :=
  callable P f = true ∧ ∀ (L' : List Chunk) (σ : Nat → Nat) (w : World), Less L' L → (∀ k, k ∈ rd → L'[k]? = L[k]?) → (∀ k, k ∈ ids → L'[k]? = L[k]?) → Mem g L' σ w → scH L → scL L.length as = true →
    Calls P f (reL σ as).toArray w fun e w' => ∃ out L1 g' σ', Ends σ' e out ∧ out.sv ≠ .junk ∧ Upd ids L L1 ∧ Mem g' (redo ids 0 L' L1) σ' w' ∧ scH L1 ∧ out.sv.sc L1.length = true ∧ Goes σ L' g w σ' (redo ids 0 L' L1) g' w' ∧ K out L1 g'

structure CallX (P : Program) (f : FuncId) (as : List SV) (L : List Chunk) (g : G) (chk : List Nat → List Nat → Bool) (K : Out → List Chunk → G → Prop) : Prop where
  body :
    ∃ rd ids, chk rd ids = true ∧ CallV P f as L g rd ids K
theorem CallX_eq (P : Program) (f : FuncId) (as : List SV) (L : List Chunk) (g : G) (chk : List Nat → List Nat → Bool) (K : Out → List Chunk → G → Prop) : CallX P f as L g chk K = (
  ∃ rd ids, chk rd ids = true ∧ CallV P f as L g rd ids K) := propext ⟨fun h => h.body, fun h => ⟨h⟩⟩

/-- Each is one cell. -/
def one1 : SV → Prop → Prop
  | .v x, p => match x with
    | .int _ _ => p
    | .bool _ => p
    | .string _ => p
    | .pointer _ => p
    | .slice _ _ _ => p
    | .map _ => p
    | .nilIface => p
    | .iface _ _ => p
    | x => x.oneCell' = true ∧ p
  | .ptr _ _, p => p
  | .slc _ _ _ _, p => p
  | .fn _ _ _, p => p
  | .iface _ _, p => p
  | _, _ => False
def oneAll : List SV → Prop → Prop
  | [], p => p
  | x :: l, p => one1 x (oneAll l p)

theorem oneAll_elim {l : List SV} {p : Prop} (h : oneAll l p) : (∀ x ∈ l, ∀ σ, (x.re σ).oneCell' = true) ∧ p := by
  induction l with
  | nil => exact ⟨by simp, h⟩
  | cons x l ih =>
    have key : one1 x (oneAll l p) → (∀ σ, (x.re σ).oneCell' = true) ∧ oneAll l p := by
      intro h
      cases x with
      | v y => cases y <;> first | exact ⟨fun σ => h.1, h.2⟩ | exact ⟨fun σ => rfl, h⟩
      | _ => first | exact h.elim | exact ⟨fun σ => rfl, h⟩
    obtain ⟨h1, h2⟩ := key h
    obtain ⟨h3, h4⟩ := ih h2
    exact ⟨by simpa using ⟨h1, h3⟩, h4⟩

/-- No place of so many is one that nobody may write. -/
def hzOk (fz : Nat × Nat) (n : Nat) : Prop := ∀ j, j < n → (decide (fz.1 ≤ j) && decide (j < fz.2)) = false
theorem hzOk.zero (n : Nat) : hzOk (0, 0) n := fun j _ => by simp
theorem hzOk.end_ (n : Nat) : hzOk (n, n + 1) n := fun j hj => by simp; omega
def valsOf : List SV → Option (List Value)
  | [] => some []
  | .v x :: l => match valsOf l with
    | some xs => some (x :: xs)
    | none => none
  | _ :: _ => none
theorem valsOf_spec : ∀ {l : List SV} {xs : List Value}, valsOf l = some xs → l = xs.map .v
  | [], xs, h => by simp only [valsOf, Option.some.injEq] at h; subst h; rfl
  | y :: l, xs, h => by
    unfold valsOf at h
    split at h
    · rename_i h0; cases h0
    · rename_i x l' heq
      cases heq
      split at h
      · rename_i ys hys
        cases h
        rw [valsOf_spec hys]
        rfl
      · cases h
    · cases h

/-- A block's cells, all of them plain values. -/
def Chunk.plain : Chunk → Option (TypeId × List Value)
  | .vals ty c => some (ty, c)
  | .cells ty c => match valsOf c with
    | some xs => some (ty, xs)
    | none => none
  | .raw _ => none
  | .gone => none
  | .row _ _ _ => none
  | .fam _ => none
def plainAt (L : List Chunk) (k : Nat) : Option (TypeId × List Value) :=
  match L[k]? with
  | some c => c.plain
  | none => none
/-- The elements of a slice that is read. -/
def srcK (x : SV) (sz : Nat) (L : List Chunk) (g : G) (K : List Nat → Nat → List Value → Prop) : Prop :=
  match x with
  | .slc k off m _ => match plainAt L k with
    | some (_, c) => off + m * sz ≤ c.length ∧ K [k] m ((c.drop off).take (m * sz))
    | none => False
  | .v (.slice a m _) => ∃ xs : List Value, (xs.length = m * sz ∧ (0 < m → ∃ ad, a = some ad ∧ g.at ad xs)) ∧ K [] m xs
  | _ => False
def natz (m : Nat) (p q : Prop) : Prop := match m with | 0 => p | _ + 1 => q
def allOne : List Value → Prop → Prop
  | [], p => p
  | .int _ _ :: l, p => allOne l p
  | .bool _ :: l, p => allOne l p
  | .string _ :: l, p => allOne l p
  | .slice _ _ _ :: l, p => allOne l p
  | .pointer _ :: l, p => allOne l p
  | x :: l, p => x.oneCell' = true ∧ allOne l p

def hvZ (z : ZOp) (vs : List SV) (L : List Chunk) (g : G) (chk : List Nat → List Nat → Bool) (K : Out → List Chunk → G → Prop) : Prop :=
  match z with
  | .set => match vs with
    | [x] => ifOk (chk [] []) (nj x fun x => K (.ret x) L g)
    | _ => False
  | .app e sz bytes _ => match vs with
    | [s, x] => srcK x sz L g fun kx m news => (∀ u ∈ news, u.oneCell' = true) ∧ (match s with
      | .v (.slice none 0 0) => ifOk (chk [] kx) (m * bytes ≤ 140737488355328 ∧ natz m (K (.ret (.v (.slice none 0 0))) L g)
          (∀ (cap : Nat) (spare : List Value), m ≤ cap → cap ≤ 9223372036854775807 → spare.length = (cap - m) * sz → K (.ret (.slc L.length 0 m cap)) (L ++ [.vals e (news ++ spare)]) g))
      | .slc k off n c => ifOk (Nat.beq off 0 && chk [] (k :: kx)) (match plainAt L k with
        | some (ty, cur) => ifOk (Nat.beq ty e) (∃ xs sp : List Value, cur = xs ++ sp ∧ xs.length = n * sz ∧ (cur.length = c * sz ∧ n ≤ c ∧ c ≤ 9223372036854775807) ∧ (n + m) * bytes ≤ 140737488355328 ∧
            (∀ (cap : Nat) (spare : List Value), n + m ≤ cap → cap ≤ 9223372036854775807 → spare.length = (cap - (n + m)) * sz → K (.ret (.slc L.length 0 (n + m) cap)) (L.set k .gone ++ [.vals e (xs ++ (news ++ spare))]) g))
        | none => match L[k]? with
          | some (.row ty cur fz) => ifOk (Nat.beq ty e) (∃ xs sp : List Value, cur = xs ++ sp ∧ xs.length = n * sz ∧ (cur.length = c * sz ∧ n ≤ c ∧ c ≤ 9223372036854775807) ∧ hzOk fz cur.length ∧ (n + m) * bytes ≤ 140737488355328 ∧
            (∀ (cap : Nat) (spare : List Value) (fz' : Nat × Nat), n + m ≤ cap → cap ≤ 9223372036854775807 → spare.length = (cap - (n + m)) * sz → hzOk fz' (xs ++ (news ++ spare)).length → K (.ret (.slc L.length 0 (n + m) cap)) (L.set k .gone ++ [.row e (xs ++ (news ++ spare)) fz']) g))
          | _ => False)
      | _ => False)
    | _ => False

/-- What an operation that writes or calls leaves, if it goes on. -/
def HNext (o : Oper) (a : Act) (L L' : List Chunk) (g : G) (σ : Nat → Nat) (w : World) (ids : List Nat) (K : Out → List Chunk → G → Prop) (a' : Act) (w' : World) : Prop :=
  ∃ v r L1 g' σ', a' = a.put o.dst v ∧ (r ≠ .junk → v = r.re σ') ∧ r.sc L1.length = true ∧ Upd ids L L1 ∧ Mem g' (redo ids 0 L' L1) σ' w' ∧ scH L1 ∧ Goes σ L' g w σ' (redo ids 0 L' L1) g' w' ∧ K (.ret r) L1 g'
/-- And if it panics. -/
def HPan (a : Act) (L L' : List Chunk) (g : G) (σ : Nat → Nat) (w : World) (ids : List Nat) (K : Out → List Chunk → G → Prop) (e : Exit) (a' : Act) (w' : World) : Prop :=
  ∃ x L1 g' σ', e = .panic [{ v := x.re σ', recovered := false }] ∧ x ≠ .junk ∧ a' = a ∧ x.sc L1.length = true ∧ Upd ids L L1 ∧ Mem g' (redo ids 0 L' L1) σ' w' ∧ scH L1 ∧ Goes σ L' g w σ' (redo ids 0 L' L1) g' w' ∧ K (.pan x) L1 g'

/-- What running an operation that writes or calls needs. -/
structure HPre (fr : List SV) (L L' : List Chunk) (g : G) (σ : Nat → Nat) (a : Act) (w : World) (p : Nat → Bool) : Prop where
  hfr : FR σ (selF p 0 fr) a.tmps
  less : Less L' L
  mem : Mem g L' σ w
  scF : scL L.length fr = true
  scL : scH L

/-- An operation told by what the model makes of it: it looks at, and turns, these blocks alone. -/
def PrimV (P : Program) (op : Op) (args : List Operand) (vs : List SV) (L : List Chunk) (g : G) (rd ids : List Nat) (K : Out → List Chunk → G → Prop) : Prop :=
  ∀ (o : Oper) (L' : List Chunk) (σ : Nat → Nat) (a : Act) (w : World), o.op = op → Less L' L → Mem g L' σ w → scH L → scL L.length vs = true → (∀ p ∈ args.zip vs, a.eval p.1 = p.2.re σ) → (∀ k, k ∈ rd → L'[k]? = L[k]?) → (∀ k, k ∈ ids → L'[k]? = L[k]?) →
    o.wp P a w (HNext o a L L' g σ w ids K) (HPan a L L' g σ w ids K)

structure PrimX (P : Program) (op : Op) (args : List Operand) (vs : List SV) (L : List Chunk) (g : G) (chk : List Nat → List Nat → Bool) (K : Out → List Chunk → G → Prop) : Prop where
  body :
    ∃ rd ids, chk rd ids = true ∧ PrimV P op args vs L g rd ids K
theorem PrimX_eq (P : Program) (op : Op) (args : List Operand) (vs : List SV) (L : List Chunk) (g : G) (chk : List Nat → List Nat → Bool) (K : Out → List Chunk → G → Prop) : PrimX P op args vs L g chk K = (
  ∃ rd ids, chk rd ids = true ∧ PrimV P op args vs L g rd ids K) := propext ⟨fun h => h.body, fun h => ⟨h⟩⟩

/-- Cells stored in a family's block. -/
structure famStore (chk : List Nat → List Nat → Bool) (L : List Chunk) (g : G) (n : Nat) (ad : Addr) (xs : List Value) (K : Out → List Chunk → G → Prop) : Prop where
  body : ∃ (k : Nat) (h : G) (ty : TypeId) (c : List Value), ifOk (chk [] [k]) (L[k]? = some (.fam h) ∧ ad.spot = none ∧ h ad.block = some (.cells c.toArray ty (0, 0)) ∧ xs.length = n ∧ (∀ u ∈ xs, u.oneCell' = true) ∧ ad.off + n ≤ c.length ∧
    K (.ret .junk) (L.set k (.fam (h.put ad.block (.cells (c.take ad.off ++ (xs ++ c.drop (ad.off + n))).toArray ty (0, 0))))) g)
theorem famStore_of {chk : List Nat → List Nat → Bool} {L : List Chunk} {g : G} {n : Nat} {ad : Addr} {xs : List Value} {K : Out → List Chunk → G → Prop} (k : Nat) {H : G} {b off : Nat} {ty : TypeId} {c : List Value} (had : ad = ⟨b, off, none⟩) (hk : L[k]? = some (.fam H)) (hb : H b = some (.cells c.toArray ty (0, 0))) (hc : chk [] [k] = true)
    (hx : xs.length = n ∧ ∀ u ∈ xs, u.oneCell' = true) (hl : off + n ≤ c.length) (h : K (.ret .junk) (L.set k (.fam (H.put b (.cells (c.take off ++ (xs ++ c.drop (off + n))).toArray ty (0, 0))))) g) : famStore chk L g n ad xs K := by
  subst had
  refine ⟨⟨k, H, ty, c, ?_⟩⟩
  rw [hc]
  exact ⟨hk, rfl, hb, hx.1, hx.2, hl, h⟩
/-- What an operation that writes or calls comes to. -/
def hv (P : Program) (X : XOp) (e : Operand → SV) (L : List Chunk) (g : G) (chk : List Nat → List Nat → Bool) (K : Out → List Chunk → G → Prop) : Prop :=
  match X with
  | .store n a x => match e a with
    | .ptr k off => ifOk (chk [] [k]) (match L[k]? with
      | some (.cells ty c) => nj (e x) fun y => ifle (off + n) c.length (ifOk (Nat.beq y.cells.length n) (oneAll y.cells (K (.ret .junk) (L.set k (.cells ty (c.take off ++ (y.cells ++ c.drop (off + n))))) g)))
      | some (.vals ty c) => match e x with
        | .v y => y.cells.size = n ∧ (∀ u ∈ y.cells.toList, u.oneCell' = true) ∧ off + n ≤ c.length ∧ K (.ret .junk) (L.set k (.vals ty (c.take off ++ (y.cells.toList ++ c.drop (off + n))))) g
        | .agg l => match valsOf l with
          | some xs => xs.length = n ∧ (∀ u ∈ xs, u.oneCell' = true) ∧ off + n ≤ c.length ∧ K (.ret .junk) (L.set k (.vals ty (c.take off ++ (xs ++ c.drop (off + n))))) g
          | none => False
        | _ => False
      | some (.row ty c fz) => match e x with
        | .v y => y.cells.size = n ∧ (∀ u ∈ y.cells.toList, u.oneCell' = true) ∧ off + n ≤ c.length ∧ hzOk fz c.length ∧ K (.ret .junk) (L.set k (.row ty (c.take off ++ (y.cells.toList ++ c.drop (off + n))) fz)) g
        | _ => False
      | _ => False)
    | .v (.pointer (some ad)) => match e x with
      | .v y => famStore chk L g n ad y.cells.toList K
      | .agg l => match valsOf l with
        | some xs => famStore chk L g n ad xs K
        | none => False
      | _ => False
    | _ => False
  | .call f args => njL (args.map e) fun as => CallX P f as L g chk K
  | .callv x args => match e x with
    | .fn f first cap => njL (args.map e) fun as => CallX P f (first ++ (as ++ cap)) L g chk K
    | _ => False
  | .eff z args => hvZ z (args.map e) L g chk K
  | .prim op args => njL (args.map e) fun vs => PrimX P op args vs L g chk K
  | _ => False

/-- A row is written from a place on. -/
theorem run_storeCells_splice {P : Program} (b : Nat) (t : TypeId) (fz : Nat × Nat) : ∀ (vs : List Value) (off i : Nat) (cur : List Value) (w : World), w.heap[b]? = some (.cells cur.toArray t fz) → off + i + vs.length ≤ cur.length → hzOk fz cur.length → (∀ v ∈ vs, v.oneCell' = true) →
    ∃ w', (storeCells ⟨b, off, none⟩ vs i).run P w = .ok () w' ∧ w' = { w with heap := w.heap.setIfInBounds b (.cells (cur.take (off + i) ++ (vs ++ cur.drop (off + i + vs.length))).toArray t fz) } := by
  intro vs
  induction vs with
  | nil =>
    intro off i cur w hg hl _ _
    refine ⟨w, by simp [storeCells], ?_⟩
    have hlt : b < w.heap.size := (Array.getElem?_eq_some_iff.1 hg).1
    have hv : w.heap[b] = .cells cur.toArray t fz := (Array.getElem?_eq_some_iff.1 hg).2
    have : w.heap.setIfInBounds b (.cells cur.toArray t fz) = w.heap := by
      apply Array.ext_getElem?
      intro k
      by_cases hk : b = k
      · subst hk; simp [hlt, hv]
      · rw [Array.getElem?_setIfInBounds_ne hk]
    simp [this]
  | cons v vs ih =>
    intro off i cur w hg hl hz h1
    have hi : off + i < cur.length := by simp at hl; omega
    have hlt : b < w.heap.size := (Array.getElem?_eq_some_iff.1 hg).1
    have hcell : w.cell? ⟨b, off + i, none⟩ = some cur[off + i] := by simp [World.cell?, hg, hi]
    have hfro : w.frozen? ⟨b, off + i, none⟩ = false := by simp only [World.frozen?, hg]; exact hz _ hi
    have hset : w.setCell ⟨b, off + i, none⟩ v = { w with heap := w.heap.setIfInBounds b (.cells (cur.set (off + i) v).toArray t fz) } := by
      unfold World.setCell
      congr 1
      apply Array.ext_getElem?
      intro k
      by_cases hk : b = k
      · subst hk
        rw [Array.getElem?_modify, if_pos rfl, hg, Array.getElem?_setIfInBounds_self, if_pos hlt]
        simp
      · rw [Array.getElem?_setIfInBounds_ne hk, Array.getElem?_modify, if_neg hk]
    have hst : (store ((⟨b, off, none⟩ : Addr).add i) v).run P w = .ok () { w with heap := w.heap.setIfInBounds b (.cells (cur.set (off + i) v).toArray t fz) } := by
      rw [add_cell, run_store P w _ v _ (h1 v (by simp)), hcell]
      simp [hfro, hset]
    obtain ⟨w', hr, hw⟩ := ih off (i + 1) (cur.set (off + i) v) { w with heap := w.heap.setIfInBounds b (.cells (cur.set (off + i) v).toArray t fz) } (by simp [hlt]) (by simp at hl ⊢; omega) (by rw [List.length_set]; exact hz) (fun x hx => h1 x (by simp [hx]))
    refine ⟨w', by simp [storeCells, hst, hr], ?_⟩
    rw [hw]
    congr 1
    apply Array.ext_getElem?
    intro k
    by_cases hk : b = k
    case neg =>
      simp only []
      rw [Array.getElem?_setIfInBounds_ne hk, Array.getElem?_setIfInBounds_ne hk, Array.getElem?_setIfInBounds_ne hk]
    case pos =>
        subst hk
        simp only [Array.getElem?_setIfInBounds_self, Array.size_setIfInBounds, hlt, if_true, List.length_cons]
        refine congrArg (fun l : List Value => some (Obj.cells l.toArray t fz)) ?_
        apply List.ext_getElem?
        intro j
        simp only [List.getElem?_append, List.length_take, List.length_set, List.getElem?_take, List.getElem?_drop, List.getElem?_set, List.length_cons]
        by_cases c1 : j < off + i
        · simp [show j < min (off + (i + 1)) cur.length by omega, show j < min (off + i) cur.length by omega, show j < off + (i + 1) by omega, c1, show ¬ off + i = j by omega]
        · by_cases c2 : j = off + i
          · subst c2
            simp [show off + i < min (off + (i + 1)) cur.length by omega, show min (off + i) cur.length = off + i by omega, hi, show off + i < off + (i + 1) by omega]
          · have e1 : min (off + (i + 1)) cur.length = off + i + 1 := by omega
            have e2 : min (off + i) cur.length = off + i := by omega
            have e3 : j - (off + i) = (j - (off + i + 1)) + 1 := by omega
            simp only [e1, e2, show ¬ j < off + i + 1 by omega, c1, if_false, e3, List.getElem?_cons_succ]
            by_cases c3 : j - (off + i + 1) < vs.length
            · simp only [c3, if_true, show j - (off + i + 1) + 1 < vs.length + 1 by omega]
            · simp only [c3, if_false, show ¬ j - (off + i + 1) + 1 < vs.length + 1 by omega]
              rw [if_neg (by omega)]
              congr 1
              omega


section
variable {P : Program} {o : Oper} {fr : List SV} {L L' : List Chunk} {g : G} {σ : Nat → Nat} {a : Act} {w : World} {p : Nat → Bool} {chk : List Nat → List Nat → Bool} {K : Out → List Chunk → G → Prop}

theorem scH_set {k : Nat} {c : Chunk} (hL : scH L) (hc : scC L.length c = true) : scH (L.set k c) := by
  intro j ty l hj
  rw [List.length_set]
  by_cases hjk : k = j
  · subst hjk
    rw [List.getElem?_set] at hj
    split at hj
    · split at hj
      · cases hj; exact hc
      · cases hj
    · exact hL _ ty l hj
  · rw [List.getElem?_set_ne hjk] at hj
    exact hL j ty l hj

theorem redo_set {k : Nat} {c : Chunk} (hlen : L'.length = L.length) (_ : L'[k]? = L[k]?) : redo [k] 0 L' (L.set k c) = L'.set k c := by
  apply List.ext_getElem?
  intro j
  rw [redo_get _ _ _ _ _ (by rw [List.length_set]; omega), Nat.zero_add]
  by_cases hjk : k = j
  · subst hjk
    rw [if_neg (by simp)]
    rw [List.getElem?_set, List.getElem?_set, hlen]
    simp
  · rw [List.getElem?_set_ne hjk, List.getElem?_set_ne hjk]
    split
    · rfl
    · rename_i hn
      have : ¬ j < L'.length := fun hl => hn ⟨hl, by simpa using fun e => hjk e.symm⟩
      rw [List.getElem?_eq_none (by omega), List.getElem?_eq_none (by omega)]

theorem HPre.ev (H : HPre fr L L' g σ a w p) {X : XOp} (hp : ∀ t, t ∈ X.slots → p t = true) {x : Operand} (hx : x ∈ X.args) (hj : Sx.ev fr x ≠ .junk) : a.eval x = (Sx.ev fr x).re σ := by
  have := ev_selF (fr := fr) hp x hx
  rw [this] at hj ⊢
  exact H.hfr.ev x hj

theorem hv_store {t : TypeId} {ad x : Operand} {X : XOp} (ho : o.op = .store t ad x) (hX : xop0 P (.store t ad x) = some X) (hp : ∀ t, t ∈ X.slots → p t = true) (H : HPre fr L L' g σ a w p)
    (h : hv P X (ev fr) L g chk K) : ∃ rd ids, chk rd ids = true ∧ ((∀ k, k ∈ rd → L'[k]? = L[k]?) → (∀ k, k ∈ ids → L'[k]? = L[k]?) → o.wp P a w (HNext o a L L' g σ w ids K) (HPan a L L' g σ w ids K)) := by
  simp only [xop0] at hX
  cases hi : P.info? t with
  | none => simp [hi] at hX
  | some i =>
    rw [hi] at hX
    simp only [Option.some.injEq] at hX
    subst hX
    simp only [hv] at h
    split at h
    case h_3 => exact h.elim
    case h_2 ad0 ha =>
      have famS : ∀ (v : Value), a.eval x = v → famStore chk L g i.size ad0 v.cells.toList K →
          ∃ rd ids, chk rd ids = true ∧ ((∀ k, k ∈ rd → L'[k]? = L[k]?) → (∀ k, k ∈ ids → L'[k]? = L[k]?) → o.wp P a w (HNext o a L L' g σ w ids K) (HPan a L L' g σ w ids K)) := by
        intro y hev h
        obtain ⟨⟨k, hf, ty, c, h⟩⟩ := h
        obtain ⟨hck, hLf, hsp, hb, hn, hone, hle, hK⟩ := ifOk_elim h
        refine ⟨[], [k], hck, fun _ hids => ?_⟩
        have hLk := hids k (by simp)
        have hL'f : L'[k]? = some (.fam hf) := by rw [hLk, hLf]
        obtain ⟨b, off, sp⟩ := ad0
        simp only at hsp hb hle hK
        subst hsp
        have hea : a.eval ad = .pointer (some ⟨b, off, none⟩) := by rw [H.ev hp (by simp [XOp.args]) (by simp [ha]), ha]; rfl
        have hw := H.mem.fm.at_ k hf b _ hL'f hb
        obtain ⟨w', hr, hw'⟩ := run_storeCells_splice (P := P) b ty (0, 0) y.cells.toList off 0 c w hw (by rw [hn]; simpa using hle) (hzOk.zero _) hone
        have hn' : y.cells.size = i.size := by rw [← hn]; simp
        have hrun : (execOp a.eval o).run P w = .ok .skip w' := by
          simp [execOp, ho, hea, hev, Instr.storeAt, Instr.sureAddr, storeVar, sizeOf, typeInfo, hi, hn', hr]
        unfold Oper.wp
        rw [hrun]
        simp only [Nat.add_zero, hn] at hw'
        rw [hw']
        have hbn : hf b ≠ none := by rw [hb]; simp
        have hrs := redo_set (c := .fam (hf.put b (.cells (c.take off ++ (y.cells.toList ++ c.drop (off + i.size))).toArray ty (0, 0)))) H.less.1 hLk
        refine ⟨undef, .junk, _, g, σ, rfl, fun e => absurd rfl e, rfl, ⟨by simp, fun j _ hj => List.getElem?_set_ne (fun e => hj (by simp [e]))⟩, ?_, scH_set H.scL rfl, ?_, hK⟩
        · rw [hrs]; exact H.mem.famWrite hL'f hbn _
        · rw [hrs]; exact (Goes.refl σ L' g w).famWrite hL'f hbn _
      split at h
      case h_3 => exact h.elim
      case h_1 y hx =>
        exact famS y (by rw [H.ev hp (by simp [XOp.args]) (by simp [hx]), hx]; rfl) h
      case h_2 l hx =>
        split at h
        case h_2 => exact h.elim
        case h_1 xs hxs =>
          have hl := valsOf_spec hxs
          exact famS (.agg xs.toArray) (by rw [H.ev hp (by simp [XOp.args]) (by simp [hx]), hx, hl]; simp [SV.re, reL_v]) (by simpa [Value.cells] using h)
    case h_1 k off ha =>
      obtain ⟨hck, h⟩ := ifOk_elim h
      refine ⟨[], [k], hck, fun _ hids => ?_⟩
      have hLk := hids k (by simp)
      have hea : a.eval ad = .pointer (some ⟨σ k, off, none⟩) := by rw [H.ev hp (by simp [XOp.args]) (by simp [ha]), ha]; rfl
      have fin : ∀ (cur : List Value) (ty : TypeId) (v : Value) (c' : Chunk) (fz : Nat × Nat), hzOk fz cur.length → w.heap[σ k]? = some (.cells cur.toArray ty fz) → a.eval x = v → v.cells.toList.length = i.size → off + i.size ≤ cur.length → (∀ u ∈ v.cells.toList, u.oneCell' = true) → live L' k →
          scC L.length c' = true → c'.obj σ = some (.cells (cur.take off ++ (v.cells.toList ++ cur.drop (off + i.size))).toArray ty fz) → K (.ret .junk) (L.set k c') g → o.wp P a w (HNext o a L L' g σ w [k] K) (HPan a L L' g σ w [k] K) := by
        intro cur ty v c' fz hz hw hv hsz hle hone hk hc hob hK
        obtain ⟨w', hr, hw'⟩ := run_storeCells_splice (P := P) (σ k) ty fz v.cells.toList off 0 cur w hw (by omega) hz hone
        have hsz' : v.cells.size = i.size := by rw [← hsz]; simp
        have hrun : (execOp a.eval o).run P w = .ok .skip w' := by
          simp [execOp, ho, hea, hv, Instr.storeAt, Instr.sureAddr, storeVar, sizeOf, typeInfo, hi, hsz', hr]
        unfold Oper.wp
        rw [hrun]
        simp only [Nat.add_zero, hsz] at hw'
        rw [hw']
        have hrs := redo_set (c := c') H.less.1 hLk
        refine ⟨undef, .junk, L.set k c', g, σ, rfl, fun e => absurd rfl e, rfl, ⟨by simp, fun j _ hj => List.getElem?_set_ne (fun e => hj (by simp [e]))⟩, ?_, scH_set H.scL hc, ?_, hK⟩
        · rw [hrs]; exact H.mem.write hk c' _ hob
        · rw [hrs]; exact (Goes.refl σ L' g w).write hk c' _ (obj_nfam hob)
      split at h
      case h_1 ty c hc =>
        obtain ⟨hj, h⟩ := nj_elim h
        obtain ⟨hle, h⟩ := ifle_elim h
        obtain ⟨hb, h⟩ := ifOk_elim h
        obtain ⟨hone, h⟩ := oneAll_elim h
        have hn := Nat.eq_of_beq_eq_true hb
        have hcl := cells_re σ _ hj
        have hc' : L'[k]? = some (.cells ty c) := by rw [hLk, hc]
        refine fin (reL σ c) ty _ _ (0, 0) (hzOk.zero _) (H.mem.lo k _ _ hc' rfl) (H.ev hp (by simp [XOp.args]) hj) (by rw [hcl, reL_length]; exact hn) (by rw [reL_length]; exact hle) (fun u hu => ?_) (live_of hc' rfl) ?_ ?_ h
        · rw [hcl, reL_map] at hu
          obtain ⟨y, hy, rfl⟩ := List.mem_map.1 hu
          exact hone y hy σ
        · show scL L.length _ = true
          rw [scL_append, scL_append]
          exact ⟨scL_take _ (H.scL _ _ _ hc), sc_cells (sc_ev H.scF x), scL_drop _ (H.scL _ _ _ hc)⟩
        · simp only [Chunk.obj, reL_append, reL_take, reL_drop, hcl]
      case h_2 ty c hc =>
        have hc' : L'[k]? = some (.vals ty c) := by rw [hLk, hc]
        split at h
        case h_3 => exact h.elim
        case h_2 l hx =>
          split at h
          case h_2 => exact h.elim
          case h_1 xs hxs =>
            obtain ⟨hn, hone, hlt, h⟩ := h
            have hl := valsOf_spec hxs
            exact fin c ty (.agg xs.toArray) (.vals ty (c.take off ++ (xs ++ c.drop (off + i.size)))) (0, 0) (hzOk.zero _) (H.mem.lo k _ _ hc' rfl) (by rw [H.ev hp (by simp [XOp.args]) (by simp [hx]), hx, hl]; simp [SV.re, reL_v]) (by simpa [Value.cells] using hn) hlt (by simpa [Value.cells] using hone) (live_of hc' rfl) rfl (by simp [Chunk.obj, Value.cells]) h
        case h_1 y hx =>
          obtain ⟨hn, hone, hlt, h⟩ := h
          exact fin c ty y _ (0, 0) (hzOk.zero _) (H.mem.lo k _ _ hc' rfl) (by rw [H.ev hp (by simp [XOp.args]) (by simp [hx]), hx]; rfl) (by simpa using hn) hlt hone (live_of hc' rfl) rfl rfl h
      case h_3 ty c fz hc =>
        have hc' : L'[k]? = some (.row ty c fz) := by rw [hLk, hc]
        split at h
        case h_2 => exact h.elim
        case h_1 y hx =>
          obtain ⟨hn, hone, hlt, hz, h⟩ := h
          exact fin c ty y _ fz hz (H.mem.lo k _ _ hc' rfl) (by rw [H.ev hp (by simp [XOp.args]) (by simp [hx]), hx]; rfl) (by simpa using hn) hlt hone (live_of hc' rfl) rfl rfl h
      case h_4 => exact h.elim

theorem call_wp {f : FuncId} {as : List SV} {rd ids : List Nat} (H : HPre fr L L' g σ a w p) (hsc : scL L.length as = true) (h : CallV P f as L g rd ids K) (hrd : ∀ k, k ∈ rd → L'[k]? = L[k]?) (hids : ∀ k, k ∈ ids → L'[k]? = L[k]?) (hrun : callable P f = true → (execOp a.eval o).run P w = .ok (.enter f (reL σ as).toArray) w) :
    o.wp P a w (HNext o a L L' g σ w ids K) (HPan a L L' g σ w ids K) := by
  unfold Oper.wp
  rw [hrun h.1]
  show Calls P f _ w _
  refine (h.2 L' σ w H.less hrd hids H.mem H.scL hsc).mono ?_
  rintro e w' ⟨out, L1, g', σ', he, hj, h1, h2, h3, h4, h5, h6⟩
  cases out with
  | ret r =>
    cases he
    exact ⟨_, r, L1, g', σ', rfl, fun _ => rfl, h4, h1, h2, h3, h5, h6⟩
  | pan x =>
    cases he
    exact ⟨x, L1, g', σ', rfl, hj, rfl, h4, h1, h2, h3, h5, h6⟩

theorem ev_mapH (H : HPre fr L L' g σ a w p) {X : XOp} (hp : ∀ t, t ∈ X.slots → p t = true) (l : List Operand) (hl : ∀ x ∈ l, x ∈ X.args) (h : ∀ x ∈ l.map (Sx.ev fr), x ≠ .junk) : l.map a.eval = reL σ (l.map (Sx.ev fr)) := by
  rw [reL_map, List.map_map]
  apply List.map_congr_left
  intro x hx
  exact H.ev hp (hl x hx) (h _ (List.mem_map_of_mem hx))

theorem plainAt_obj {L : List Chunk} {k : Nat} {ty : TypeId} {xs : List Value} (h : plainAt L k = some (ty, xs)) : ∃ c, L[k]? = some c ∧ c.here = true ∧ ∀ σ, c.obj σ = some (.cells xs.toArray ty (0, 0)) := by
  unfold plainAt at h
  split at h
  · rename_i c hc
    refine ⟨c, hc, ?_⟩
    cases c with
    | vals ty' c' => simp only [Chunk.plain, Option.some.injEq, Prod.mk.injEq] at h; obtain ⟨rfl, rfl⟩ := h; exact ⟨rfl, fun σ => rfl⟩
    | cells ty' c' =>
      simp only [Chunk.plain] at h
      split at h
      · rename_i ys hys
        simp only [Option.some.injEq, Prod.mk.injEq] at h
        obtain ⟨rfl, rfl⟩ := h
        refine ⟨rfl, fun σ => ?_⟩
        rw [valsOf_spec hys]
        simp only [Chunk.obj, reL_v]
      · cases h
    | gone => cases h
    | raw => cases h
    | row => cases h
    | fam => cases h
  · cases h

/-- What a slice that is read holds, in the model. -/
theorem srcK_elim {x : SV} {sz : Nat} {K' : List Nat → Nat → List Value → Prop} (hm : Mem g L' σ w) (h : srcK x sz L g K') :
    ∃ ks m news, K' ks m news ∧ news.length = m * sz ∧ ((∀ k, k ∈ ks → L'[k]? = L[k]?) → ∃ a cap, x.re σ = .slice a m cap ∧ (0 < m → ∃ ad, a = some ad ∧ ∀ j v, news[j]? = some v → w.cell? (ad.add j) = some v)) := by
  unfold srcK at h
  split at h
  · rename_i k off m cap
    split at h
    · rename_i ty c hc
      obtain ⟨hle, h⟩ := h
      obtain ⟨ch, hch, hh, hob⟩ := plainAt_obj hc
      refine ⟨_, _, _, h, by rw [List.length_take, List.length_drop]; omega, fun hids => ⟨_, cap, rfl, fun _ => ⟨_, rfl, fun j v hj => ?_⟩⟩⟩
      have h1 := hm.lo k ch _ (by rw [hids k (by simp)]; exact hch) (hob σ)
      rw [add_cell]
      simp only [World.cell?, h1, Option.isSome_none, Bool.false_eq_true, if_false]
      rw [List.getElem?_take] at hj
      split at hj
      · rw [List.getElem?_drop] at hj
        simpa using hj
      · cases hj
    · exact h.elim
  · rename_i a m cap
    obtain ⟨xs, ⟨hl, hat⟩, h⟩ := h
    refine ⟨_, _, _, h, hl, fun _ => ⟨a, cap, rfl, fun h0 => ?_⟩⟩
    obtain ⟨ad, ha, hsp, c, ty, fz, hg, hc⟩ := hat h0
    refine ⟨ad, ha, fun j v hj => ?_⟩
    obtain ⟨b, o, sp⟩ := ad
    simp only at hsp
    subst hsp
    rw [add_cell]
    have hjl : j < xs.length := (List.getElem?_eq_some_iff.1 hj).1
    simp only [World.cell?, hm.im _ _ hg, Option.isSome_none, Bool.false_eq_true, if_false]
    rw [← hj]
    exact hc j hjl
  · exact h.elim

theorem redo_app {ids : List Nat} {M M' N : List Chunk} (hlen : M.length = L'.length) (hlen' : M'.length = L'.length) (h1 : ∀ k, k < L'.length → k ∈ ids → M[k]? = M'[k]?) (h2 : ∀ k, k < L'.length → k ∉ ids → L'[k]? = M'[k]?) : redo ids 0 L' (M ++ N) = M' ++ N := by
  apply List.ext_getElem?
  intro j
  rw [redo_get _ _ _ _ _ (by simp; omega), Nat.zero_add]
  by_cases hj : j < L'.length
  · rw [List.getElem?_append_left (by omega : j < M'.length)]
    split
    · rename_i hc; exact h2 j hj hc.2
    · rename_i hn
      rw [List.getElem?_append_left (by omega)]
      exact h1 j hj (Classical.byContradiction fun hh => hn ⟨hj, hh⟩)
  · rw [if_neg (fun hh => hj hh.1), List.getElem?_append_right (by omega), List.getElem?_append_right (by omega), hlen, hlen']

theorem scH_less (h : Less L' L) (hL : scH L) : scH L' := by
  intro k ty l hk
  rw [h.1]
  rcases h.2 k with h1 | h1
  · rw [h1] at hk; cases hk
  · rw [h1] at hk; exact hL k ty l hk
theorem scH_push {ty : TypeId} {xs : List Value} (hL : scH L) : scH (L ++ [.vals ty xs]) := by
  intro k ty' l hk
  rcases getElem?_append_one hk with ⟨_, h2⟩ | ⟨_, h2⟩
  · exact scL_mono (by simp) _ (hL k ty' l h2)
  · cases h2

theorem scH_pushR {ty : TypeId} {xs : List Value} {fz : Nat × Nat} (hL : scH L) : scH (L ++ [.row ty xs fz]) := by
  intro k ty' l hk
  rcases getElem?_append_one hk with ⟨_, h2⟩ | ⟨_, h2⟩
  · exact scL_mono (by simp) _ (hL k ty' l h2)
  · cases h2

/-- A new block. -/
theorem Mem.push (h : Mem g L σ w) (hsc : scH L) {ty : TypeId} {xs : List Value} :
    Mem g (L ++ [.vals ty xs]) (fun j => if j = L.length then w.heap.size else σ j) { w with heap := w.heap.push (.cells xs.toArray ty (0, 0)) } := by
  have hoff : ∀ (j : Nat) (c' : Chunk), (L ++ [Chunk.gone])[j]? = some c' → c'.on (fun i => !(i == L.length)) = true := by
    intro j c' hjc
    rcases getElem?_append_one hjc with ⟨_, h2⟩ | ⟨_, rfl⟩
    · cases c' with
      | cells ty l =>
        have := hsc j ty l h2
        rw [onL_sc] at this
        exact onL_mono (fun k hk => by simp at hk ⊢; omega) l this
      | _ => rfl
    · rfl
  have := h.place.born (k := L.length) (by simp) hoff (.vals ty xs) rfl _ rfl
  rwa [set_last] at this
theorem Mem.pushR (h : Mem g L σ w) (hsc : scH L) {ty : TypeId} {xs : List Value} {fz : Nat × Nat} :
    Mem g (L ++ [.row ty xs fz]) (fun j => if j = L.length then w.heap.size else σ j) { w with heap := w.heap.push (.cells xs.toArray ty fz) } := by
  have hoff : ∀ (j : Nat) (c' : Chunk), (L ++ [Chunk.gone])[j]? = some c' → c'.on (fun i => !(i == L.length)) = true := by
    intro j c' hjc
    rcases getElem?_append_one hjc with ⟨_, h2⟩ | ⟨_, rfl⟩
    · cases c' with
      | cells ty l =>
        have := hsc j ty l h2
        rw [onL_sc] at this
        exact onL_mono (fun k hk => by simp at hk ⊢; omega) l this
      | _ => rfl
    · rfl
  have := h.place.born (k := L.length) (by simp) hoff (.row ty xs fz) rfl _ rfl
  rwa [set_last] at this
theorem Goes.push {σ0 L0 g0 w0} (h : Goes σ0 L0 g0 w0 σ L g w) {ty : TypeId} {xs : List Value} :
    Goes σ0 L0 g0 w0 (fun j => if j = L.length then w.heap.size else σ j) (L ++ [.vals ty xs]) g { w with heap := w.heap.push (.cells xs.toArray ty (0, 0)) } := by
  have := h.place.born (k := L.length) h.len (.vals ty xs) (.cells xs.toArray ty (0, 0)) rfl
  rwa [set_last] at this
theorem Goes.pushR {σ0 L0 g0 w0} (h : Goes σ0 L0 g0 w0 σ L g w) {ty : TypeId} {xs : List Value} {fz : Nat × Nat} :
    Goes σ0 L0 g0 w0 (fun j => if j = L.length then w.heap.size else σ j) (L ++ [.row ty xs fz]) g { w with heap := w.heap.push (.cells xs.toArray ty fz) } := by
  have := h.place.born (k := L.length) h.len (.row ty xs fz) (.cells xs.toArray ty fz) rfl
  rwa [set_last] at this

/-- A block of the function's own goes over to a new name, written anew. -/
theorem Mem.take (h : Mem g L σ w) (hsc : scH L) {k : Nat} (hk : live L k) {ty : TypeId} {xs : List Value} :
    Mem g (L.set k .gone ++ [.vals ty xs]) (fun j => if j = L.length then σ k else σ j) { w with heap := w.heap.setIfInBounds (σ k) (.cells xs.toArray ty (0, 0)) } := by
  have hw := h.write hk (.vals ty xs) _ rfl
  have hkl := live_lt hk
  have hget : ∀ j, j < L.length → j ≠ k → (L.set k Chunk.gone ++ [Chunk.vals ty xs])[j]? = L[j]? := fun j hj hjk => by
    rw [List.getElem?_append_left (by simpa using hj), List.getElem?_set_ne (fun e => hjk e.symm)]
  have hget2 : ∀ j, j < L.length → j ≠ k → (L.set k (Chunk.vals ty xs))[j]? = L[j]? := fun j hj hjk => List.getElem?_set_ne (fun e => hjk e.symm)
  have hcase : ∀ j, live (L.set k Chunk.gone ++ [Chunk.vals ty xs]) j → (j < L.length ∧ j ≠ k ∧ live L j) ∨ j = L.length := fun j hj => by
    have hl := live_lt hj
    simp at hl
    by_cases hjl : j < L.length
    · left
      have hjk : j ≠ k := fun e => by
        subst e
        unfold live liveB at hj
        rw [List.getElem?_append_left (by simpa using hjl), List.getElem?_set_self hjl] at hj
        cases hj
      exact ⟨hjl, hjk, (live_congr (hget j hjl hjk)).1 hj⟩
    · right; omega
  refine ⟨hw.im, fun j c o hj ho => ?_, fun i j hi hj e => ?_, fun j hj => ?_, h.fm.to (fun j H hj => fam_set rfl j H (fam_app rfl j H hj)) h.fm.im (fun b j ho hj => ?_) fun b ho _ => (Array.getElem?_setIfInBounds_ne (h.fm.sep b k ho hk) : (w.heap.setIfInBounds (σ k) _)[b]? = _)⟩
  rotate_right
  · rcases hcase j hj with ⟨h1, h2, h3⟩ | rfl
    · simp only [show j ≠ L.length by omega, if_false]; exact h.fm.sep b j ho h3
    · simp only [if_true]; exact h.fm.sep b k ho hk
  · rcases hcase j (live_of hj (obj_here ho)) with ⟨h1, h2, h3⟩ | rfl
    · rw [hget j h1 h2] at hj
      have : c.obj σ = some o := by
        rw [← ho]
        exact obj_congr (n := L.length) (fun i hi => by simp [show i ≠ L.length by omega]) (fun ty l e => hsc j ty l (by rw [hj, e]))
      simp only [show j ≠ L.length by omega, if_false]
      exact hw.lo j c o (by rw [hget2 j h1 h2]; exact hj) this
    · rw [List.getElem?_append_right (by simp)] at hj
      simp at hj
      subst hj
      simp only [if_true]
      exact hw.lo k _ _ (List.getElem?_set_self hkl) ho
  · rcases hcase i hi with ⟨h1, h2, h3⟩ | rfl <;> rcases hcase j hj with ⟨k1, k2, k3⟩ | rfl
    · simp only [show i ≠ L.length by omega, show j ≠ L.length by omega, if_false] at e
      exact h.inj i j h3 k3 e
    · simp only [show i ≠ L.length by omega, if_false, if_true] at e
      exact absurd (h.inj i k h3 hk e) h2
    · simp only [show j ≠ L.length by omega, if_false, if_true] at e
      exact absurd (h.inj k j hk k3 e).symm k2
    · rfl
  · rcases hcase j hj with ⟨h1, h2, h3⟩ | rfl
    · simp only [show j ≠ L.length by omega, if_false]; exact h.sep j h3
    · simp only [if_true]; exact h.sep k hk
theorem Mem.takeR (h : Mem g L σ w) (hsc : scH L) {k : Nat} (hk : live L k) {ty : TypeId} {xs : List Value} {fz : Nat × Nat} :
    Mem g (L.set k .gone ++ [.row ty xs fz]) (fun j => if j = L.length then σ k else σ j) { w with heap := w.heap.setIfInBounds (σ k) (.cells xs.toArray ty fz) } := by
  have hw := h.write hk (.row ty xs fz) _ rfl
  have hkl := live_lt hk
  have hget : ∀ j, j < L.length → j ≠ k → (L.set k Chunk.gone ++ [Chunk.row ty xs fz])[j]? = L[j]? := fun j hj hjk => by
    rw [List.getElem?_append_left (by simpa using hj), List.getElem?_set_ne (fun e => hjk e.symm)]
  have hget2 : ∀ j, j < L.length → j ≠ k → (L.set k (Chunk.row ty xs fz))[j]? = L[j]? := fun j hj hjk => List.getElem?_set_ne (fun e => hjk e.symm)
  have hcase : ∀ j, live (L.set k Chunk.gone ++ [Chunk.row ty xs fz]) j → (j < L.length ∧ j ≠ k ∧ live L j) ∨ j = L.length := fun j hj => by
    have hl := live_lt hj
    simp at hl
    by_cases hjl : j < L.length
    · left
      have hjk : j ≠ k := fun e => by
        subst e
        unfold live liveB at hj
        rw [List.getElem?_append_left (by simpa using hjl), List.getElem?_set_self hjl] at hj
        cases hj
      exact ⟨hjl, hjk, (live_congr (hget j hjl hjk)).1 hj⟩
    · right; omega
  refine ⟨hw.im, fun j c o hj ho => ?_, fun i j hi hj e => ?_, fun j hj => ?_, h.fm.to (fun j H hj => fam_set rfl j H (fam_app rfl j H hj)) h.fm.im (fun b j ho hj => ?_) fun b ho _ => (Array.getElem?_setIfInBounds_ne (h.fm.sep b k ho hk) : (w.heap.setIfInBounds (σ k) _)[b]? = _)⟩
  rotate_right
  · rcases hcase j hj with ⟨h1, h2, h3⟩ | rfl
    · simp only [show j ≠ L.length by omega, if_false]; exact h.fm.sep b j ho h3
    · simp only [if_true]; exact h.fm.sep b k ho hk
  · rcases hcase j (live_of hj (obj_here ho)) with ⟨h1, h2, h3⟩ | rfl
    · rw [hget j h1 h2] at hj
      have : c.obj σ = some o := by
        rw [← ho]
        exact obj_congr (n := L.length) (fun i hi => by simp [show i ≠ L.length by omega]) (fun ty l e => hsc j ty l (by rw [hj, e]))
      simp only [show j ≠ L.length by omega, if_false]
      exact hw.lo j c o (by rw [hget2 j h1 h2]; exact hj) this
    · rw [List.getElem?_append_right (by simp)] at hj
      simp at hj
      subst hj
      simp only [if_true]
      exact hw.lo k _ _ (List.getElem?_set_self hkl) ho
  · rcases hcase i hi with ⟨h1, h2, h3⟩ | rfl <;> rcases hcase j hj with ⟨k1, k2, k3⟩ | rfl
    · simp only [show i ≠ L.length by omega, show j ≠ L.length by omega, if_false] at e
      exact h.inj i j h3 k3 e
    · simp only [show i ≠ L.length by omega, if_false, if_true] at e
      exact absurd (h.inj i k h3 hk e) h2
    · simp only [show j ≠ L.length by omega, if_false, if_true] at e
      exact absurd (h.inj k j hk k3 e).symm k2
    · rfl
  · rcases hcase j hj with ⟨h1, h2, h3⟩ | rfl
    · simp only [show j ≠ L.length by omega, if_false]; exact h.sep j h3
    · simp only [if_true]; exact h.sep k hk

theorem Goes.take {k : Nat} (hk : live L k) {ty : TypeId} {xs : List Value} :
    Goes σ L g w (fun j => if j = L.length then σ k else σ j) (L.set k .gone ++ [.vals ty xs]) g { w with heap := w.heap.setIfInBounds (σ k) (.cells xs.toArray ty (0, 0)) } := by
  have hkl := live_lt hk
  have hgone : ¬ live (L.set k Chunk.gone ++ [Chunk.vals ty xs]) k := fun hl => by
    unfold live liveB at hl
    rw [List.getElem?_append_left (by simpa using hkl), List.getElem?_set_self hkl] at hl
    cases hl
  refine ⟨fun j hj => by simp [show j ≠ L.length by omega], by simp, fun j hj hl => ?_, fun j hj hl => ?_, fun _ _ h => h, fun _ h1 h2 => absurd h1 h2, rfl, rfl, rfl, by simp, fun b hb hn _ => ?_, fun b ho => .inr (.inr (ho.of fun j H hj => fam_set rfl j H (fam_app rfl j H hj)))⟩
  · have hjk : j ≠ k := fun e => hgone (e ▸ hl)
    exact (live_congr (by rw [List.getElem?_append_left (by simpa using hj), List.getElem?_set_ne (fun e => hjk e.symm)])).1 hl
  · have := live_lt hl
    simp at this
    have hj' : j = L.length := by omega
    subst hj'
    exact .inr ⟨k, hkl, hk, hgone, by simp⟩
  · exact Array.getElem?_setIfInBounds_ne (hn k hk)
theorem Goes.takeR {k : Nat} (hk : live L k) {ty : TypeId} {xs : List Value} {fz : Nat × Nat} :
    Goes σ L g w (fun j => if j = L.length then σ k else σ j) (L.set k .gone ++ [.row ty xs fz]) g { w with heap := w.heap.setIfInBounds (σ k) (.cells xs.toArray ty fz) } := by
  have hkl := live_lt hk
  have hgone : ¬ live (L.set k Chunk.gone ++ [Chunk.row ty xs fz]) k := fun hl => by
    unfold live liveB at hl
    rw [List.getElem?_append_left (by simpa using hkl), List.getElem?_set_self hkl] at hl
    cases hl
  refine ⟨fun j hj => by simp [show j ≠ L.length by omega], by simp, fun j hj hl => ?_, fun j hj hl => ?_, fun _ _ h => h, fun _ h1 h2 => absurd h1 h2, rfl, rfl, rfl, by simp, fun b hb hn _ => ?_, fun b ho => .inr (.inr (ho.of fun j H hj => fam_set rfl j H (fam_app rfl j H hj)))⟩
  · have hjk : j ≠ k := fun e => hgone (e ▸ hl)
    exact (live_congr (by rw [List.getElem?_append_left (by simpa using hj), List.getElem?_set_ne (fun e => hjk e.symm)])).1 hl
  · have := live_lt hl
    simp at this
    have hj' : j = L.length := by omega
    subst hj'
    exact .inr ⟨k, hkl, hk, hgone, by simp⟩
  · exact Array.getElem?_setIfInBounds_ne (hn k hk)

theorem setRow_eq {b : Nat} {old cs : Array Value} {t : TypeId} (hb : w.heap[b]? = some (.cells old t (0, 0))) : w.setRow b cs = { w with heap := w.heap.setIfInBounds b (.cells cs t (0, 0)) } := by
  unfold World.setRow
  congr 1
  apply Array.ext_getElem?
  intro k
  have hlt : b < w.heap.size := (Array.getElem?_eq_some_iff.1 hb).1
  by_cases hk : b = k
  · subst hk
    rw [Array.getElem?_modify, if_pos rfl, hb, Array.getElem?_setIfInBounds_self, if_pos hlt]
    rfl
  · rw [Array.getElem?_setIfInBounds_ne hk, Array.getElem?_modify, if_neg hk]

theorem xop_app {c : Call} {e sz bytes : Nat} {z : List Value} {args : List Operand} (hc : c.callee = .builtin .append) (hX : xop0 P (.call c) = some (.eff (.app e sz bytes z) args)) :
    ∃ s x t i zv, c.args.toList = [s, x] ∧ args = [s, x] ∧ c.argTypes = #[t, t] ∧ P.underlying t = some (.slice e) ∧ P.info? e = some i ∧ i.zero = some zv ∧ zv.cells.size = i.size ∧ 0 < i.size ∧ 0 < i.bytes ∧ sz = i.size ∧ bytes = i.bytes := by
  simp only [xop0, hc] at hX
  split at hX
  · rename_i s x t t' h1 h2
    split at hX
    · rename_i htt
      subst htt
      split at hX
      · rename_i e' hu
        split at hX
        · rename_i i hi
          split at hX
          · rename_i zv hz
            split at hX
            · rename_i hcnd
              simp only [Option.some.injEq, XOp.eff.injEq, ZOp.app.injEq] at hX
              obtain ⟨⟨rfl, rfl, rfl, rfl⟩, rfl⟩ := hX
              exact ⟨s, x, t, i, zv, h1, rfl, by apply Array.ext'; simpa using h2, hu, hi, hz, hcnd.1, hcnd.2.1, hcnd.2.2, rfl, rfl⟩
            · cases hX
          · cases hX
        · cases hX
      · cases hX
    · cases hX
  · cases hX

theorem less_gone (L : List Chunk) (k : Nat) : Less (L.set k .gone) L := by
  refine ⟨by simp, fun j => ?_⟩
  by_cases hj : k = j
  · subst hj
    by_cases hk : k < L.length
    · exact .inl (List.getElem?_set_self hk)
    · right
      rw [List.getElem?_eq_none (by simp; omega), List.getElem?_eq_none (by omega)]
  · exact .inr (List.getElem?_set_ne hj)

theorem set_same {b : Nat} {o : Obj} (h : w.heap[b]? = some o) : w.heap.setIfInBounds b o = w.heap := by
  apply Array.ext_getElem?
  intro k
  by_cases hk : b = k
  · subst hk
    rw [Array.getElem?_setIfInBounds_self, if_pos (Array.getElem?_eq_some_iff.1 h).1, h]
  · rw [Array.getElem?_setIfInBounds_ne hk]

theorem hv_app {c : Call} {e sz bytes : Nat} {z : List Value} {args : List Operand} (ho : o.op = .call c) (hc : c.callee = .builtin .append) (hX : xop0 P (.call c) = some (.eff (.app e sz bytes z) args)) (hp : ∀ t, t ∈ (XOp.eff (.app e sz bytes z) args).slots → p t = true) (H : HPre fr L L' g σ a w p)
    (h : hvZ (.app e sz bytes z) (args.map (ev fr)) L g chk K) : ∃ rd ids, chk rd ids = true ∧ ((∀ k, k ∈ rd → L'[k]? = L[k]?) → (∀ k, k ∈ ids → L'[k]? = L[k]?) → o.wp P a w (HNext o a L L' g σ w ids K) (HPan a L L' g σ w ids K)) := by
  obtain ⟨s, x, t, i, zv, hargs, rfl, htys, hu, hi, hz, hzs, hsz, hby, rfl, rfl⟩ := xop_app hc hX
  simp only [hvZ, List.map_cons, List.map_nil] at h
  have hxj : ev fr x ≠ .junk := by
    intro e0
    rw [e0] at h
    exact h
  obtain ⟨kx, m, news, ⟨hone, h⟩, hnl, hsrc⟩ := srcK_elim H.mem h
  have hlen : L'.length = L.length := H.less.1
  have hscL' := scH_less H.less H.scL
  have hev : a.eval x = (ev fr x).re σ := H.ev hp (by simp [XOp.args]) hxj
  have hrunOf : ∀ v w', (Builtin.append_ #[t, t] o.type #[a.eval s, a.eval x]).run P w = .ok v w' → (execOp a.eval o).run P w = .ok (.value v) w' := by
    intro v w' hv
    have e1 : c.args.map a.eval = #[a.eval s, a.eval x] := by apply Array.ext'; simp [hargs]
    simp only [execOp, ho, resolve, hc, Sem.run_bind, Sem.run_pure, Result.andThen_ok, invoke, builtin, htys, e1, hv]
  have zsz : ∀ n, (Builtin.zeroCells zv.cells n).toList.length = n * i.size := fun n => by rw [Array.length_toList, size_zeroCells, hzs]
  split at h
  case h_1 hs =>
    obtain ⟨hck, hb, h⟩ := ifOk_elim h
    refine ⟨[], kx, hck, fun _ hids => ?_⟩
    obtain ⟨ad, cap, hx, hcells⟩ := hsrc hids
    have hs' : a.eval s = .slice none 0 0 := by rw [H.ev hp (by simp [XOp.args]) (by simp [hs]), hs]; rfl
    rw [hs', hev, hx] at hrunOf
    unfold Oper.wp
    cases m with
    | zero =>
      have hr : (Builtin.append_ #[t, t] o.type #[.slice none 0 0, .slice ad 0 cap]).run P w = .ok (.slice none 0 0) w := by
        cases ad <;> simp [Builtin.append_, run_underlying hu, sizeOf, typeInfo, hi, Builtin.lenOf, Builtin.firstCells, loadCells, loadCellsFrom]
      rw [hrunOf _ _ hr]
      have hrd : redo kx 0 L' L = L' := by simpa using redo_app (L' := L') (M := L) (M' := L') (N := []) (ids := kx) hlen.symm rfl (fun k _ hk => (hids k hk).symm) (fun _ _ _ => rfl)
      refine ⟨_, _, L, g, σ, rfl, fun _ => rfl, rfl, ⟨Nat.le_refl _, fun _ _ _ => rfl⟩, ?_, H.scL, ?_, h⟩
      · rw [hrd]; exact H.mem
      · rw [hrd]; exact Goes.refl _ _ _ _
    | succ m =>
      obtain ⟨ad, rfl, hcell⟩ := hcells (by omega)
      have hm : m + 1 ≤ 140737488355328 := Nat.le_trans (Nat.le_mul_of_pos_right _ hby) hb
      have hr := run_append_nil (P := P) w t o.type e i zv hu hi hz ad (m + 1) cap news hnl hcell (by omega) (by omega) (by omega)
      rw [hrunOf _ _ hr]
      have hge := grownCap_ge w (m + 1) 0 e
      have hle := grownCap_le_maxLen w (m + 1) 0 e (by simp only [maxLen]; omega)
      generalize grownCap w (m + 1) 0 e = gc at hge hle
      have hk := h gc (Builtin.zeroCells zv.cells (gc - (m + 1))).toList hge (by simpa [maxLen] using hle) (zsz _)
      have hrd : redo kx 0 L' (L ++ [Chunk.vals e (news ++ (Builtin.zeroCells zv.cells (gc - (m + 1))).toList)]) = L' ++ [Chunk.vals e (news ++ (Builtin.zeroCells zv.cells (gc - (m + 1))).toList)] := redo_app hlen.symm rfl (fun k _ hk => (hids k hk).symm) (fun _ _ _ => rfl)
      have hw : w.drew.alloc (.cells (news.toArray ++ Builtin.zeroCells zv.cells (gc - (m + 1))) e) = { ({ w with heap := w.heap.push (.cells (news ++ (Builtin.zeroCells zv.cells (gc - (m + 1))).toList).toArray e (0, 0)) } : World) with drawn := w.drew.drawn } := by
        have e1 : news.toArray ++ Builtin.zeroCells zv.cells (gc - (m + 1)) = (news ++ (Builtin.zeroCells zv.cells (gc - (m + 1))).toList).toArray := by apply Array.ext'; simp
        rw [e1]
        rfl
      refine ⟨_, .slc L.length 0 (m + 1) gc, _, g, fun j => if j = L'.length then w.heap.size else σ j, rfl, fun _ => by simp [SV.re, hlen], by simp [SV.sc], ⟨by simp, fun k hk _ => List.getElem?_append_left hk⟩, ?_, scH_push H.scL, ?_, hk⟩
      · rw [hrd, hw]; exact (H.mem.push hscL').drew _
      · rw [hrd, hw]; exact ((Goes.refl σ L' g w).push).drew _
  case h_2 k off n cp hs =>
    have hck := (ifOk_elim h).1
    replace h := (ifOk_elim h).2
    simp only [Bool.and_eq_true] at hck
    have hoff := Nat.eq_of_beq_eq_true hck.1
    subst hoff
    split at h
    case h_2 hpl0 =>
      split at h
      case h_2 => exact h.elim
      case h_1 ty cur fz hpl =>
        obtain ⟨hty, h⟩ := ifOk_elim h
        have hty := Nat.eq_of_beq_eq_true hty
        subst hty
        obtain ⟨xs, sp, rfl, hxl, ⟨hcl, hnc, hcm⟩, hfz, hb, h⟩ := h
        obtain ⟨ch, hch, hhere, hob⟩ : ∃ c : Chunk, L[k]? = some c ∧ c.here = true ∧ ∀ σ, c.obj σ = some (.cells (xs ++ sp).toArray ty fz) := ⟨_, hpl, rfl, fun _ => rfl⟩
        refine ⟨[], k :: kx, hck.2, fun _ hids => ?_⟩
        obtain ⟨ad, cap, hx, hcells⟩ := hsrc fun j hj => hids j (by simp [hj])
        have hs' : a.eval s = .slice (some ⟨σ k, 0, none⟩) n cp := by rw [H.ev hp (by simp [XOp.args]) (by simp [hs]), hs]; rfl
        rw [hs', hev, hx] at hrunOf
        have hkL : L'[k]? = some ch := by rw [hids k (by simp), hch]
        have hlive : live L' k := live_of hkL hhere
        have hheap := H.mem.lo k ch _ hkL (hob σ)
        have hkl : k < L'.length := live_lt hlive
        have hnm : n + m ≤ 140737488355328 := Nat.le_trans (Nat.le_mul_of_pos_right _ hby) hb
        have hrd : ∀ N, redo (k :: kx) 0 L' (L.set k .gone ++ N) = L'.set k .gone ++ N := fun N => redo_app (by simp [hlen]) (by simp) (fun j hj hjm => (by
          by_cases hjk : k = j
          · subst hjk
            rw [List.getElem?_set_self (by omega), List.getElem?_set_self (by omega)]
          · rw [List.getElem?_set_ne hjk, List.getElem?_set_ne hjk]
            exact (hids j hjm).symm)) (fun j _ hjm => (List.getElem?_set_ne (fun e => hjm (by simp [e]))).symm)
        have hupd : ∀ c', Upd (k :: kx) L (L.set k .gone ++ [c']) := fun c' => ⟨by simp, fun j hj hjm => by
          rw [List.getElem?_append_left (by simpa using hj), List.getElem?_set_ne (fun e => hjm (by simp [e]))]⟩
        have hscg : scH (L.set k .gone) := scH_set H.scL rfl
        have hlen2 : (L.set k Chunk.gone).length = L'.length := by simp [hlen]
        -- what is left where the old block is taken over
        have taken : ∀ w' (spare : List Value), w' = { w with heap := w.heap.setIfInBounds (σ k) (.cells (xs ++ (news ++ spare)).toArray ty fz) } → spare.length = (cp - (n + m)) * i.size → n + m ≤ cp →
            (Builtin.append_ #[t, t] o.type #[.slice (some ⟨σ k, 0, none⟩) n cp, .slice ad m cap]).run P w = .ok (.slice (some ⟨σ k, 0, none⟩) (n + m) cp) w' → o.wp P a w (HNext o a L L' g σ w (k :: kx) K) (HPan a L L' g σ w (k :: kx) K) := by
          intro w' spare hw hsp hroom hr
          unfold Oper.wp
          rw [hrunOf _ _ hr]
          have e0 : (xs ++ sp).length = (xs ++ (news ++ spare)).length := by
            rw [hcl, List.length_append, List.length_append, hxl, hnl, hsp, ← Nat.add_mul, ← Nat.add_mul]
            congr 1; omega
          refine ⟨_, .slc L.length 0 (n + m) cp, _, g, fun j => if j = L'.length then σ k else σ j, rfl, fun _ => by simp [SV.re, hlen], by simp [SV.sc], hupd _, ?_, scH_pushR hscg, ?_, h cp spare fz hroom hcm hsp (e0 ▸ hfz)⟩
          · rw [hrd, hw]; exact H.mem.takeR hscL' hlive
          · rw [hrd, hw]; exact Goes.takeR hlive
        by_cases hroom : n + m ≤ cp
        · have hle : news.length ≤ sp.length := by
            have h1 : (n + m) * i.size ≤ cp * i.size := Nat.mul_le_mul_right _ hroom
            rw [Nat.add_mul] at h1
            simp only [List.length_append] at hcl
            omega
          have hspl : (sp.drop news.length).length = (cp - (n + m)) * i.size := by
            rw [List.length_drop, Nat.sub_mul, Nat.add_mul]
            simp only [List.length_append] at hcl
            omega
          cases ad with
          | none =>
            have hm : m = 0 := Classical.byContradiction fun h0 => by
              obtain ⟨_, h1, _⟩ := hcells (by omega)
              cases h1
            subst hm
            have hn : news = [] := List.eq_nil_of_length_eq_zero (by simpa using hnl)
            subst hn
            refine taken w sp ?_ (by simpa using hspl) hroom ?_
            · rw [List.nil_append, set_same hheap]
            · simp [Builtin.append_, run_underlying hu, sizeOf, typeInfo, hi, Builtin.lenOf, Builtin.firstCells, storeCells, hnc]
          | some ad =>
            have hnews : ∀ j u, news[j]? = some u → w.cell? (ad.add j) = some u := by
              intro j u hj
              by_cases h0 : 0 < m
              · obtain ⟨_, e1, h1⟩ := hcells h0
                cases e1
                exact h1 j u hj
              · have hm : m = 0 := by omega
                subst hm
                have hn : news = [] := List.eq_nil_of_length_eq_zero (by simpa using hnl)
                subst hn
                simp at hj
            have hfc := run_firstCells_some (P := P) w i.size m ad m cap news hnl hnews
            obtain ⟨w', hst, hw'⟩ := run_storeCells_splice (P := P) (σ k) ty fz news (0 + n * i.size) 0 (xs ++ sp) w hheap (by
              simp only [List.length_append]
              omega) hfz hone
            refine taken w' (sp.drop news.length) ?_ hspl hroom ?_
            · rw [hw']
              have e1 : ((xs ++ sp).take (0 + n * i.size + 0) ++ (news ++ (xs ++ sp).drop (0 + n * i.size + 0 + news.length))) = xs ++ (news ++ sp.drop news.length) := by
                rw [Nat.zero_add, Nat.add_zero, ← hxl, List.take_left, ← List.drop_drop, List.drop_left]
              rw [e1]
            · rw [Nat.zero_add] at hst
              simp [Builtin.append_, run_underlying hu, sizeOf, typeInfo, hi, Builtin.lenOf, hroom, hfc, Addr.add_lit, hst]
        · have h0 : 0 < m := by omega
          obtain ⟨ad, rfl, hcell⟩ := hcells h0
          have holds : ∀ j v, xs[j]? = some v → w.cell? ((⟨σ k, 0, none⟩ : Addr).add j) = some v := by
            intro j v hj
            rw [add_cell]
            simp only [World.cell?, hheap, Option.isSome_none, Bool.false_eq_true, if_false, Nat.zero_add]
            have : j < xs.length := (List.getElem?_eq_some_iff.1 hj).1
            simpa [List.getElem?_append_left this] using hj
          have hr := run_append_grow (P := P) w t o.type ty i zv hu hi hz ⟨σ k, 0, none⟩ n cp xs hxl holds ad m cap news hnl hcell (by omega) (by omega) (growslice_fits (by omega) hb)
          unfold Oper.wp
          rw [hrunOf _ _ hr]
          have hge := grownCap_ge w (n + m) cp ty
          have hle := grownCap_le_maxLen w (n + m) cp ty (by simp only [maxLen]; omega)
          generalize grownCap w (n + m) cp ty = gc at hge hle
          have hk := h gc (Builtin.zeroCells zv.cells (gc - (n + m))).toList (0, 0) hge (by simpa [maxLen] using hle) (zsz _) (hzOk.zero _)
          have hw : w.drew.alloc (.cells (xs.toArray ++ news.toArray ++ Builtin.zeroCells zv.cells (gc - (n + m))) ty) = { ({ w with heap := w.heap.push (.cells (xs ++ (news ++ (Builtin.zeroCells zv.cells (gc - (n + m))).toList)).toArray ty (0, 0)) } : World) with drawn := w.drew.drawn } := by
            have e1 : xs.toArray ++ news.toArray ++ Builtin.zeroCells zv.cells (gc - (n + m)) = (xs ++ (news ++ (Builtin.zeroCells zv.cells (gc - (n + m))).toList)).toArray := by apply Array.ext'; simp
            rw [e1]
            rfl
          have hgm : Mem g (L'.set k .gone) σ w := H.mem.less (less_gone L' k)
          have hgg : Goes σ L' g w σ (L'.set k .gone) g w := (Goes.refl σ L' g w).less (less_gone L' k)
          refine ⟨_, .slc L.length 0 (n + m) gc, _, g, fun j => if j = (L'.set k Chunk.gone).length then w.heap.size else σ j, rfl, fun _ => by simp [SV.re, hlen], by simp [SV.sc], hupd _, ?_, scH_pushR hscg, ?_, hk⟩
          · rw [hrd, hw]; exact (hgm.pushR (scH_set hscL' rfl)).drew _
          · rw [hrd, hw]; exact (hgg.pushR).drew _
    case h_1 ty cur hpl =>
      obtain ⟨hty, h⟩ := ifOk_elim h
      have hty := Nat.eq_of_beq_eq_true hty
      subst hty
      obtain ⟨xs, sp, rfl, hxl, ⟨hcl, hnc, hcm⟩, hb, h⟩ := h
      obtain ⟨ch, hch, hhere, hob⟩ := plainAt_obj hpl
      refine ⟨[], k :: kx, hck.2, fun _ hids => ?_⟩
      obtain ⟨ad, cap, hx, hcells⟩ := hsrc fun j hj => hids j (by simp [hj])
      have hs' : a.eval s = .slice (some ⟨σ k, 0, none⟩) n cp := by rw [H.ev hp (by simp [XOp.args]) (by simp [hs]), hs]; rfl
      rw [hs', hev, hx] at hrunOf
      have hkL : L'[k]? = some ch := by rw [hids k (by simp), hch]
      have hlive : live L' k := live_of hkL hhere
      have hheap := H.mem.lo k ch _ hkL (hob σ)
      have hkl : k < L'.length := live_lt hlive
      have hnm : n + m ≤ 140737488355328 := Nat.le_trans (Nat.le_mul_of_pos_right _ hby) hb
      have hrd : ∀ N, redo (k :: kx) 0 L' (L.set k .gone ++ N) = L'.set k .gone ++ N := fun N => redo_app (by simp [hlen]) (by simp) (fun j hj hjm => (by
        by_cases hjk : k = j
        · subst hjk
          rw [List.getElem?_set_self (by omega), List.getElem?_set_self (by omega)]
        · rw [List.getElem?_set_ne hjk, List.getElem?_set_ne hjk]
          exact (hids j hjm).symm)) (fun j _ hjm => (List.getElem?_set_ne (fun e => hjm (by simp [e]))).symm)
      have hupd : ∀ c', Upd (k :: kx) L (L.set k .gone ++ [c']) := fun c' => ⟨by simp, fun j hj hjm => by
        rw [List.getElem?_append_left (by simpa using hj), List.getElem?_set_ne (fun e => hjm (by simp [e]))]⟩
      have hscg : scH (L.set k .gone) := scH_set H.scL rfl
      have hlen2 : (L.set k Chunk.gone).length = L'.length := by simp [hlen]
      -- what is left where the old block is taken over
      have taken : ∀ w' (spare : List Value), w' = { w with heap := w.heap.setIfInBounds (σ k) (.cells (xs ++ (news ++ spare)).toArray ty (0, 0)) } → spare.length = (cp - (n + m)) * i.size → n + m ≤ cp →
          (Builtin.append_ #[t, t] o.type #[.slice (some ⟨σ k, 0, none⟩) n cp, .slice ad m cap]).run P w = .ok (.slice (some ⟨σ k, 0, none⟩) (n + m) cp) w' → o.wp P a w (HNext o a L L' g σ w (k :: kx) K) (HPan a L L' g σ w (k :: kx) K) := by
        intro w' spare hw hsp hroom hr
        unfold Oper.wp
        rw [hrunOf _ _ hr]
        refine ⟨_, .slc L.length 0 (n + m) cp, _, g, fun j => if j = L'.length then σ k else σ j, rfl, fun _ => by simp [SV.re, hlen], by simp [SV.sc], hupd _, ?_, scH_push hscg, ?_, h cp spare hroom hcm hsp⟩
        · rw [hrd, hw]; exact H.mem.take hscL' hlive
        · rw [hrd, hw]; exact Goes.take hlive
      by_cases hroom : n + m ≤ cp
      · have hle : news.length ≤ sp.length := by
          have h1 : (n + m) * i.size ≤ cp * i.size := Nat.mul_le_mul_right _ hroom
          rw [Nat.add_mul] at h1
          simp only [List.length_append] at hcl
          omega
        have hspl : (sp.drop news.length).length = (cp - (n + m)) * i.size := by
          rw [List.length_drop, Nat.sub_mul, Nat.add_mul]
          simp only [List.length_append] at hcl
          omega
        cases ad with
        | none =>
          have hm : m = 0 := Classical.byContradiction fun h0 => by
            obtain ⟨_, h1, _⟩ := hcells (by omega)
            cases h1
          subst hm
          have hn : news = [] := List.eq_nil_of_length_eq_zero (by simpa using hnl)
          subst hn
          refine taken w sp ?_ (by simpa using hspl) hroom ?_
          · rw [List.nil_append, set_same hheap]
          · simp [Builtin.append_, run_underlying hu, sizeOf, typeInfo, hi, Builtin.lenOf, Builtin.firstCells, storeCells, hnc]
        | some ad =>
          have hnews : ∀ j u, news[j]? = some u → w.cell? (ad.add j) = some u := by
            intro j u hj
            by_cases h0 : 0 < m
            · obtain ⟨_, e1, h1⟩ := hcells h0
              cases e1
              exact h1 j u hj
            · have hm : m = 0 := by omega
              subst hm
              have hn : news = [] := List.eq_nil_of_length_eq_zero (by simpa using hnl)
              subst hn
              simp at hj
          have hr := run_append_room (P := P) w t o.type ty i hu hi (σ k) n cp _ hheap ad m cap news hnl hnews hone hroom (by
            simp only [List.size_toArray, List.length_append]
            omega)
          refine taken _ (sp.drop news.length) ?_ hspl hroom hr
          rw [setRow_eq hheap]
          have e1 : ((xs ++ sp).toArray.toList.take (n * i.size) ++ news ++ (xs ++ sp).toArray.toList.drop (n * i.size + news.length)) = xs ++ (news ++ sp.drop news.length) := by
            simp only
            rw [← hxl, List.take_left, List.append_assoc, ← List.drop_drop, List.drop_left]
          rw [e1]
      · have h0 : 0 < m := by omega
        obtain ⟨ad, rfl, hcell⟩ := hcells h0
        have holds : ∀ j v, xs[j]? = some v → w.cell? ((⟨σ k, 0, none⟩ : Addr).add j) = some v := by
          intro j v hj
          rw [add_cell]
          simp only [World.cell?, hheap, Option.isSome_none, Bool.false_eq_true, if_false, Nat.zero_add]
          have : j < xs.length := (List.getElem?_eq_some_iff.1 hj).1
          simpa [List.getElem?_append_left this] using hj
        have hr := run_append_grow (P := P) w t o.type ty i zv hu hi hz ⟨σ k, 0, none⟩ n cp xs hxl holds ad m cap news hnl hcell (by omega) (by omega) (growslice_fits (by omega) hb)
        unfold Oper.wp
        rw [hrunOf _ _ hr]
        have hge := grownCap_ge w (n + m) cp ty
        have hle := grownCap_le_maxLen w (n + m) cp ty (by simp only [maxLen]; omega)
        generalize grownCap w (n + m) cp ty = gc at hge hle
        have hk := h gc (Builtin.zeroCells zv.cells (gc - (n + m))).toList hge (by simpa [maxLen] using hle) (zsz _)
        have hw : w.drew.alloc (.cells (xs.toArray ++ news.toArray ++ Builtin.zeroCells zv.cells (gc - (n + m))) ty) = { ({ w with heap := w.heap.push (.cells (xs ++ (news ++ (Builtin.zeroCells zv.cells (gc - (n + m))).toList)).toArray ty (0, 0)) } : World) with drawn := w.drew.drawn } := by
          have e1 : xs.toArray ++ news.toArray ++ Builtin.zeroCells zv.cells (gc - (n + m)) = (xs ++ (news ++ (Builtin.zeroCells zv.cells (gc - (n + m))).toList)).toArray := by apply Array.ext'; simp
          rw [e1]
          rfl
        have hgm : Mem g (L'.set k .gone) σ w := H.mem.less (less_gone L' k)
        have hgg : Goes σ L' g w σ (L'.set k .gone) g w := (Goes.refl σ L' g w).less (less_gone L' k)
        refine ⟨_, .slc L.length 0 (n + m) gc, _, g, fun j => if j = (L'.set k Chunk.gone).length then w.heap.size else σ j, rfl, fun _ => by simp [SV.re, hlen], by simp [SV.sc], hupd _, ?_, scH_push hscg, ?_, hk⟩
        · rw [hrd, hw]; exact (hgm.push (scH_set hscL' rfl)).drew _
        · rw [hrd, hw]; exact (hgg.push).drew _
  case h_3 => exact h.elim

theorem hv_sound0 {X : XOp} (hX : xop0 P o.op = some X) (hp : ∀ t, t ∈ X.slots → p t = true) (H : HPre fr L L' g σ a w p) (h : hv P X (ev fr) L g chk K) :
    ∃ rd ids, chk rd ids = true ∧ ((∀ k, k ∈ rd → L'[k]? = L[k]?) → (∀ k, k ∈ ids → L'[k]? = L[k]?) → o.wp P a w (HNext o a L L' g σ w ids K) (HPan a L L' g σ w ids K)) := by
  have viaFn : ∀ (c : Call) (x : Operand), o.op = .call c → c.callee = .value x → X = .callv x c.args.toList → ∃ rd ids, chk rd ids = true ∧ ((∀ k, k ∈ rd → L'[k]? = L[k]?) → (∀ k, k ∈ ids → L'[k]? = L[k]?) → o.wp P a w (HNext o a L L' g σ w ids K) (HPan a L L' g σ w ids K)) := by
    intro c x ho hc hXe
    subst hXe
    simp only [hv] at h
    split at h
    case h_2 => exact h.elim
    case h_1 f first cap hx =>
      obtain ⟨hj, h⟩ := njL_elim h
      rw [CallX_eq] at h
      obtain ⟨rd, ids, hck, h⟩ := h
      refine ⟨rd, ids, hck, fun hrd hids => ?_⟩
      have hfn : (SV.fn f first cap).sc L.length = true := by rw [← hx]; exact sc_ev H.scF x
      simp only [SV.sc, Bool.and_eq_true] at hfn
      have hsc : scL L.length (c.args.toList.map (ev fr)) = true := scL_mem.2 fun x hx => by obtain ⟨y, _, rfl⟩ := List.mem_map.1 hx; exact sc_ev H.scF y
      refine call_wp H (by rw [scL_append, scL_append]; exact ⟨hfn.1, hsc, hfn.2⟩) h hrd hids fun hcb => ?_
      have e1 : c.args.map a.eval = (reL σ (c.args.toList.map (ev fr))).toArray := by apply Array.ext'; simp [← ev_mapH H hp c.args.toList (fun y hy => by simp [XOp.args]; right; simpa using hy) hj]
      have e2 : a.eval x = .func (.func f) (reL σ first).toArray (reL σ cap).toArray := by rw [H.ev hp (by simp [XOp.args]) (by simp [hx]), hx]; rfl
      simp only [execOp, ho, resolve, hc, e2, Deferred.ofValue, Sem.run_bind, Sem.run_pure, Result.andThen_ok, invoke, e1]
      rw [reL_append, reL_append]
      have := callable_run hcb ((reL σ first ++ (reL σ (c.args.toList.map (ev fr)) ++ reL σ cap)).toArray) w
      simpa using this
  cases ho : o.op with
  | store t ad x => exact hv_store ho (by rw [← ho]; exact hX) hp H h
  | call c =>
    rw [ho] at hX
    cases hc : c.callee with
    | value x =>
      cases x with
      | func f =>
        simp only [xop0, hc] at hX
        have hX' : X = .call f c.args.toList := by
          repeat' split at hX
          all_goals first | (cases hX; done) | (simp only [Option.some.injEq] at hX; subst hX; first | rfl | exact h.elim)
        clear hX
        subst hX'
        simp only [hv] at h
        obtain ⟨hj, h⟩ := njL_elim h
        rw [CallX_eq] at h
        obtain ⟨rd, ids, hck, h⟩ := h
        refine ⟨rd, ids, hck, fun hrd hids => ?_⟩
        have hsc : scL L.length (c.args.toList.map (ev fr)) = true := scL_mem.2 fun x hx => by obtain ⟨y, _, rfl⟩ := List.mem_map.1 hx; exact sc_ev H.scF y
        refine call_wp H hsc h hrd hids fun hcb => ?_
        have e1 : c.args.map a.eval = (reL σ (c.args.toList.map (ev fr))).toArray := by apply Array.ext'; simp [← ev_mapH H hp c.args.toList (fun y hy => by simpa [XOp.args] using hy) hj]
        simp only [execOp, ho, resolve, hc, Act.eval, Deferred.ofValue, Sem.run_bind, Sem.run_pure, Result.andThen_ok, invoke, e1]
        simpa using callable_run hcb _ w
      | tmp t => exact viaFn c _ ho hc (by simp only [xop0, hc, Option.some.injEq] at hX; exact hX.symm)
      | const v => exact viaFn c _ ho hc (by simp only [xop0, hc, Option.some.injEq] at hX; exact hX.symm)
      | global g => exact viaFn c _ ho hc (by simp only [xop0, hc, Option.some.injEq] at hX; exact hX.symm)
    | builtin b =>
      cases X with
      | eff z args =>
        cases z with
        | set =>
          exfalso
          cases b <;> simp only [xop0, hc] at hX <;> first
            | (cases hX; done)
            | ((repeat' split at hX) <;> first | (rename_i hq; cases hq; done) | (cases hX; done) | contradiction)
        | app e sz bytes z =>
          have hb : b = .append := by
            cases b <;> simp only [xop0, hc] at hX <;> first
              | rfl
              | (cases hX; done)
              | ((repeat' split at hX) <;> first | (rename_i hq; cases hq; done) | (cases hX; done) | contradiction)
          subst hb
          exact hv_app ho hc hX hp H h
      | _ =>
        exfalso
        cases b <;> simp only [xop0, hc] at hX <;> first
          | (cases hX; done)
          | ((repeat' split at hX) <;> first | (rename_i hq; cases hq; done) | (simp only [Option.some.injEq] at hX; cases hX; exact h) | (cases hX; done) | contradiction)
    | invoke r m => simp [xop0, hc] at hX
  | assign x =>
    rw [ho] at hX
    simp only [xop0, Option.some.injEq] at hX
    subst hX
    simp only [hv, hvZ, List.map_cons, List.map_nil] at h
    obtain ⟨hck, h⟩ := ifOk_elim h
    obtain ⟨hj, h⟩ := nj_elim h
    refine ⟨[], [], hck, fun _ _ => ?_⟩
    have hr : (execOp a.eval o).run P w = .ok (.value ((ev fr x).re σ)) w := by
      simp [execOp, ho, H.ev hp (by simp [XOp.args]) hj]
    unfold Oper.wp
    rw [hr]
    have hrd : redo [] 0 L' L = L' := by simpa using redo_app (L' := L') (M := L) (M' := L') (N := []) (ids := []) H.less.1.symm rfl (fun k _ hk => by simp at hk) (fun _ _ _ => rfl)
    refine ⟨_, ev fr x, L, g, σ, rfl, fun _ => rfl, sc_ev H.scF x, ⟨Nat.le_refl _, fun _ _ _ => rfl⟩, ?_, H.scL, ?_, h⟩
    · rw [hrd]; exact H.mem
    · rw [hrd]; exact Goes.refl _ _ _ _
  | typeAssert x st t c =>
    exfalso
    rw [ho] at hX
    cases c with
    | false => simp [xop0] at hX
    | true =>
      simp only [xop0] at hX
      repeat' split at hX
      all_goals first | (simp only [Option.some.injEq] at hX; subst hX; exact h) | cases hX
  | slice t x lo hi mx =>
    exfalso
    rw [ho] at hX
    cases mx with
    | some _ => simp [xop0] at hX
    | none =>
      simp only [xop0] at hX
      repeat' split at hX
      all_goals first | (simp only [Option.some.injEq] at hX; subst hX; exact h) | cases hX
  | _ =>
    exfalso
    rw [ho] at hX
    simp only [xop0] at hX
    repeat' split at hX
    all_goals first | (simp only [Option.some.injEq] at hX; subst hX; exact h) | (simp only [Option.map_eq_some_iff] at hX; obtain ⟨_, _, rfl⟩ := hX; exact h) | cases hX

theorem hv_sound {X : XOp} (hX : xop P o.op = some X) (hp : ∀ t, t ∈ X.slots → p t = true) (H : HPre fr L L' g σ a w p) (h : hv P X (ev fr) L g chk K) :
    ∃ rd ids, chk rd ids = true ∧ ((∀ k, k ∈ rd → L'[k]? = L[k]?) → (∀ k, k ∈ ids → L'[k]? = L[k]?) → o.wp P a w (HNext o a L L' g σ w ids K) (HPan a L L' g σ w ids K)) := by
  rcases xop_cases hX with h1 | rfl | ⟨args, rfl⟩
  · exact hv_sound0 h1 hp H h
  · exact h.elim
  · simp only [hv] at h
    obtain ⟨hj, h⟩ := njL_elim h
    rw [PrimX_eq] at h
    obtain ⟨rd, ids, hck, h⟩ := h
    refine ⟨rd, ids, hck, fun hrd hids => h o L' σ a w rfl H.less H.mem H.scL (scL_mem.2 fun x hx => by obtain ⟨y, _, rfl⟩ := List.mem_map.1 hx; exact sc_ev H.scF y) (fun p hp' => ?_) hrd hids⟩
    obtain ⟨i, hi⟩ := List.getElem?_of_mem hp'
    rw [List.getElem?_zip_eq_some, List.getElem?_map] at hi
    obtain ⟨h1, h2⟩ := hi
    rw [h1] at h2
    simp only [Option.map_some, Option.some.injEq] at h2
    have hm : p.1 ∈ args := List.mem_of_getElem? h1
    rw [← h2]
    exact H.ev hp (by simpa [XOp.args] using hm) (hj _ (List.mem_map_of_mem hm))

end
end Go.Sx
end

/- A symbolic executor of my own, second design, part 4: frames; marks of a region whose order is drawn. Conditions: none; it speaks of any program. -/
section
namespace Go.Sx

/-! ### Written out -/

def force : List SV → (List SV → Prop) → Prop
  | [], K => K []
  | x :: l, K => force l fun l' => K (x :: l')
theorem force_eq : ∀ (l : List SV) (K : List SV → Prop), force l K = K l
  | [], _ => rfl
  | _ :: l, _ => force_eq l _

/-- An element's head, reckoned here and now. -/
def fH (x : SV) (K : SV → Prop) : Prop :=
  match x with
  | .junk => K .junk
  | .v y => K (.v y)
  | .ptr k o => K (.ptr k o)
  | .slc k o n c => K (.slc k o n c)
  | .mp k => K (.mp k)
  | .fn f a b => K (.fn f a b)
  | .iface t x => K (.iface t x)
  | .agg l => K (.agg l)
  | .tup l => K (.tup l)
theorem fH_eq (x : SV) (K : SV → Prop) : fH x K = K x := by cases x <;> rfl
def forceE : List SV → (List SV → Prop) → Prop
  | [], K => K []
  | x :: l, K => fH x fun x => forceE l fun l' => K (x :: l')
theorem forceE_eq : ∀ (l : List SV) (K : List SV → Prop), forceE l K = K l
  | [], _ => rfl
  | _ :: l, _ => by rw [forceE, fH_eq, forceE_eq l]

def forceO (fr : List SV) (d : Option Nat) (v : SV) (K : List SV → Prop) : Prop :=
  match d with
  | none => K fr
  | some d => force (put fr d v) K
theorem forceO_eq (fr : List SV) (d : Option Nat) (v : SV) (K : List SV → Prop) : forceO fr d v K = K (putO fr d v) := by
  cases d <;> simp [forceO, putO, force_eq]

/-- A small number, as a numeral. -/
def numK (n : Nat) (K : Nat → Prop) : Prop :=
  match n with
  | 0 => K 0 | 1 => K 1 | 2 => K 2 | 3 => K 3 | 4 => K 4 | 5 => K 5 | 6 => K 6 | 7 => K 7 | 8 => K 8 | 9 => K 9 | 10 => K 10 | 11 => K 11 | 12 => K 12 | 13 => K 13 | 14 => K 14 | 15 => K 15 | 16 => K 16 | 17 => K 17 | 18 => K 18 | 19 => K 19 | 20 => K 20
  | n => K n
theorem numK_eq (n : Nat) (K : Nat → Prop) : numK n K = K n := by
  unfold numK
  split <;> rfl

def fR (r : SV) (K : SV → Prop) : Prop :=
  match r with
  | .agg l => force l fun l => K (.agg l)
  | .tup l => force l fun l => K (.tup l)
  | .junk => K .junk
  | .v x => K (.v x)
  | .ptr k o => numK k fun k => K (.ptr k o)
  | .slc k o n c => numK k fun k => K (.slc k o n c)
  | .mp k => numK k fun k => K (.mp k)
  | .fn f a b => K (.fn f a b)
  | .iface t x => K (.iface t x)
theorem fR_eq (r : SV) (K : SV → Prop) : fR r K = K r := by cases r <;> simp [fR, force_eq, numK_eq]

def fL : List Chunk → (List Chunk → Prop) → Prop
  | [], K => K []
  | .cells ty c :: l, K => force c fun c => fL l fun l => K (.cells ty c :: l)
  | .vals ty c :: l, K => fL l fun l => K (.vals ty c :: l)
  | .raw o :: l, K => fL l fun l => K (.raw o :: l)
  | .gone :: l, K => fL l fun l => K (.gone :: l)
  | .row ty c fz :: l, K => fL l fun l => K (.row ty c fz :: l)
  | .fam h :: l, K => fL l fun l => K (.fam h :: l)
theorem fL_eq : ∀ (l : List Chunk) (K : List Chunk → Prop), fL l K = K l
  | [], _ => rfl
  | .cells ty c :: l, K => by rw [fL, force_eq, fL_eq]
  | .vals ty c :: l, K => by rw [fL, fL_eq]
  | .raw o :: l, K => by rw [fL, fL_eq]
  | .gone :: l, K => by rw [fL, fL_eq]
  | .row ty c fz :: l, K => by rw [fL, fL_eq]
  | .fam h :: l, K => by rw [fL, fL_eq]

/-- Reckoned here and now. -/
def fN : List Nat → (List Nat → Prop) → Prop
  | [], K => K []
  | x :: l, K => fN l fun l => K (x :: l)
theorem fN_eq : ∀ (l : List Nat) (K : List Nat → Prop), fN l K = K l
  | [], _ => rfl
  | _ :: l, _ => by rw [fN, fN_eq]
def lenK : List Chunk → Nat → (Nat → Prop) → Prop
  | [], n, K => K n
  | _ :: l, n, K => lenK l (n + 1) K
theorem lenK_eq : ∀ (l : List Chunk) (n : Nat) (K : Nat → Prop), lenK l n K = K (n + l.length)
  | [], _, _ => rfl
  | _ :: l, n, K => by rw [lenK, lenK_eq]; congr 1; simp; omega

def newS (L : List Chunk) (c : Chunk) (K : Nat → List Chunk → Prop) : Prop := lenK L 0 fun n => numK n fun n => fL (L ++ [c]) fun L => K n L
theorem newS_eq (L : List Chunk) (c : Chunk) (K : Nat → List Chunk → Prop) : newS L c K = K L.length (L ++ [c]) := by
  simp only [newS, lenK_eq, numK_eq, fL_eq, Nat.zero_add]

theorem get_put {l : List SV} {i : Nat} {x : SV} (j : Nat) : get (put l i x) j = if i = j ∧ i < l.length then x else get l j := by
  induction l generalizing i j with
  | nil => simp [put, get]
  | cons y l ih =>
    cases i with
    | zero =>
      cases j with
      | zero => simp [put, get]
      | succ j => simp [put, get]
    | succ i =>
      cases j with
      | zero => simp [put, get]
      | succ j => simp [put, get, ih]

theorem put_length {l : List SV} {i : Nat} {x : SV} : (put l i x).length = l.length := by
  induction l generalizing i with
  | nil => rfl
  | cons y l ih => cases i <;> simp [put, ih]

theorem FR.put {σ : Nat → Nat} {fr : List SV} {tmps : Array Value} (h : FR σ fr tmps) (d : Nat) {r : SV} {v : Value} (hv : r ≠ .junk → v = r.re σ) : FR σ (put fr d r) (tmps.setIfInBounds d v) := by
  refine ⟨by rw [put_length, h.1]; simp, fun i x hx hj => ?_⟩
  rw [get_put] at hx
  by_cases hd : d = i ∧ d < fr.length
  · obtain ⟨rfl, hlt⟩ := hd
    rw [if_pos ⟨rfl, hlt⟩] at hx
    subst hx
    have := h.1
    rw [← hv hj]
    simp [show d < tmps.size by omega]
  · rw [if_neg hd] at hx
    rw [← h.2 i x hx hj]
    by_cases hdi : d = i
    · subst hdi
      have : ¬ d < tmps.size := by have := h.1; omega
      simp [this]
    · simp [Array.getElem?_setIfInBounds_ne hdi]


theorem get_putO (fr : List SV) (d : Option Nat) (v : SV) (t : Nat) : get (putO fr d v) t = if d = some t ∧ t < fr.length then v else get fr t := by
  cases d with
  | none => simp [putO]
  | some d =>
    rw [putO, get_put]
    by_cases h : d = t
    · subst h; simp
    · simp [h]
theorem putO_length (fr : List SV) (d : Option Nat) (v : SV) : (putO fr d v).length = fr.length := by
  cases d <;> simp [putO, put_length]

section
variable {P : Program} {ops : Array Oper}
theorem wanted_none {o : Oper} {tmps : Array Value} (h : guardOf ops o.guard = some none) : Region.wanted o (yielded ops tmps) = true := by
  cases hg : o.guard with
  | none => simp [Region.wanted, hg]
  | some p =>
    obtain ⟨j, b⟩ := p
    rw [hg] at h
    simp only [guardOf] at h
    split at h <;> simp at h

theorem wanted_some {o : Oper} {tmps : Array Value} {t : Nat} {want : Bool} (h : guardOf ops o.guard = some (some (t, want))) :
    Region.wanted o (yielded ops tmps) = (match tmps.getD t undef with | .bool b => b == want | _ => false) := by
  cases hg : o.guard with
  | none => rw [hg] at h; simp [guardOf] at h
  | some p =>
    obtain ⟨j, b⟩ := p
    rw [hg] at h
    simp only [guardOf] at h
    cases hd : (ops[j]?).bind (·.dst) with
    | none => rw [hd] at h; simp at h
    | some t' =>
      rw [hd] at h
      simp only [Option.some.injEq, Prod.mk.injEq] at h
      obtain ⟨rfl, rfl⟩ := h
      simp only [Region.wanted, hg, yielded, hd, Option.bind_some, Array.getD_eq_getD_getElem?]
      cases ht : tmps[t']? with
      | none => simp [undef]
      | some v => cases v <;> simp

theorem getD_true_false {listed : Array Bool} {i : Nat} (hi : i < listed.size) : listed.getD i true = listed.getD i false := by
  simp [hi]

end
theorem wpOp_mono {P : Program} {ops : Array Oper} {Q : Exit → Act → World → Prop} {i : Nat} {K K' : Act → World → Prop} {a : Act} {w : World} (h : ∀ a w, K a w → K' a w) (hh : wpOp P ops Q i K a w) : wpOp P ops Q i K' a w := by
  unfold wpOp at *
  split at hh
  · exact h _ _ hh
  · split at hh
    · rename_i hw
      simp only [hw, if_true]
      rcases hh with h1 | h1
      · exact .inl (Oper.wp_mono h h1)
      · exact .inr h1
    · rename_i hw
      simp only [hw]
      exact h _ _ hh

/-- A region's orders, by an invariant of the marks. -/
theorem wpAny_inv {P : Program} {ops : Array Oper} {Q : Exit → Act → World → Prop} (I : Array Bool → Act → World → Prop)
    (step : ∀ listed a w, listed.size = ops.size → I listed a w → ∀ i oi, ops[i]? = some oi → listed.getD i false = false → (∀ e ∈ oi.after, Region.binds .any e = true → listed.getD e.on false = true) → wpOp P ops Q i (I (listed.setIfInBounds i true)) a w)
    (back : ∀ j oj, ops[j]? = some oj → ∀ e ∈ oj.after, Region.binds .any e = true → e.on < j)
    (fin : ∀ listed a w, listed.size = ops.size → (∀ i, i < ops.size → listed.getD i false = true) → I listed a w → Q .normal a w) :
    ∀ (m : Nat) (rem : List Nat) (listed : Array Bool) (a : Act) (w : World), rem.length = m → rem.Nodup → (∀ i, i < ops.size → (listed.getD i false = false ↔ i ∈ rem)) → listed.size = ops.size → I listed a w → wpAny P .any ops Q m listed a w := by
  have done : ∀ listed : Array Bool, listed.size = ops.size → Region.ready .any ops listed = [] → ∀ i, i < ops.size → listed.getD i false = true := by
    intro listed hsz hr i
    induction i using Nat.strongRecOn with
    | _ i ih =>
      intro hi
      cases hx : listed.getD i false with
      | true => rfl
      | false =>
        exfalso
        have hget : ops[i]? = some ops[i] := by simp [hi]
        have : i ∈ Region.ready .any ops listed := mem_ready.2 ⟨by rw [getD_true_false (by omega)]; exact hx, _, hget, fun e he hb => ih e.on (back i _ hget e he hb) (by have := back i _ hget e he hb; omega)⟩
        rw [hr] at this
        simp at this
  intro m
  induction m with
  | zero =>
    intro rem listed a w hm _ hmem hsz hI
    have hall : ∀ i, i < ops.size → listed.getD i false = true := by
      intro i hi
      cases hx : listed.getD i false with
      | true => rfl
      | false =>
        have := (hmem i hi).1 hx
        rw [List.length_eq_zero_iff.1 hm] at this
        simp at this
    refine ⟨?_, fin listed a w hsz hall hI⟩
    rw [List.eq_nil_iff_forall_not_mem]
    intro i hi
    obtain ⟨h0, oi, hoi, -⟩ := mem_ready.1 hi
    have hil : i < ops.size := (Array.getElem?_eq_some_iff.1 hoi).1
    rw [getD_true_false (by omega), hall i hil] at h0
    cases h0
  | succ m ih =>
    intro rem listed a w hm hnd hmem hsz hI
    refine ⟨fun hr => fin listed a w hsz (done listed hsz hr) hI, fun i hi => ?_⟩
    obtain ⟨h0, oi, hoi, hall⟩ := mem_ready.1 hi
    have hil : i < ops.size := (Array.getElem?_eq_some_iff.1 hoi).1
    rw [getD_true_false (by omega)] at h0
    have hir := (hmem i hil).1 h0
    refine wpOp_mono (fun a' w' h' => ih (rem.erase i) _ a' w' ?_ (hnd.erase i) ?_ (by simpa using hsz) h') (step listed a w hsz hI i oi hoi h0 hall)
    · rw [List.length_erase_of_mem hir]; omega
    · intro j hj
      rw [hnd.mem_erase_iff]
      by_cases hij : i = j
      · subst hij
        have : (listed.setIfInBounds i true).getD i false = true := by simp [show i < listed.size by omega]
        rw [this]
        simp
      · rw [getD_set_ne false hij, hmem j hj]
        exact ⟨fun h => ⟨fun e => hij e.symm, h⟩, fun h => h.2⟩

theorem FR.sel {σ : Nat → Nat} {fr fr' : List SV} {tmps : Array Value} {p q : Nat → Bool} (h : FR σ (selF p 0 fr) tmps) (hl : fr'.length = fr.length) (hq : ∀ t, q t = true → p t = true ∧ get fr' t = get fr t) : FR σ (selF q 0 fr') tmps := by
  refine ⟨by rw [selF_length, hl, ← h.1, selF_length], fun i x hx hj => ?_⟩
  rw [get_selF, Nat.zero_add] at hx
  split at hx
  · rename_i hqi
    refine h.2 i x ?_ hj
    rw [get_selF, Nat.zero_add, if_pos (hq i hqi).1, ← (hq i hqi).2]
    exact hx
  · exact absurd hx.symm hj
theorem FR.of_sel {σ : Nat → Nat} {fr : List SV} {tmps : Array Value} {p : Nat → Bool} (h : FR σ (selF p 0 fr) tmps) (hp : ∀ t, p t = true) : FR σ fr tmps := by
  refine ⟨by rw [← h.1, selF_length], fun i x hx hj => h.2 i x ?_ hj⟩
  rw [get_selF, if_pos (hp _)]
  exact hx
theorem FR.to_sel {σ : Nat → Nat} {fr : List SV} {tmps : Array Value} (h : FR σ fr tmps) (p : Nat → Bool) : FR σ (selF p 0 fr) tmps := by
  refine ⟨by rw [selF_length]; exact h.1, fun i x hx hj => ?_⟩
  rw [get_selF] at hx
  split at hx
  · exact h.2 i x hx hj
  · exact absurd hx.symm hj

theorem Reads.sel {g g' : G} {σ : Nat → Nat} {L L' : List Chunk} {w : World} {p q : Nat → Bool} (h : Reads g (selL p 0 L) σ w) (hg : G.le g' g) (hq : ∀ k, q k = true → p k = true ∧ L'[k]? = L[k]?) : Reads g' (selL q 0 L') σ w := by
  refine ⟨fun b o hb => h.im b o (hg b o hb), fun k c o hk ho => h.lo k c o ?_ ho, fun k H b o hk ho => h.lf k H b o ?_ ho⟩
  all_goals
    rw [get_selL, Nat.zero_add] at hk ⊢
    split at hk
    · rename_i hqk
      rw [if_pos (hq k hqk).1, ← (hq k hqk).2]
      exact hk
    · simp only [Option.map_eq_some_iff] at hk
      obtain ⟨_, _, e⟩ := hk
      first | (subst e; cases ho; done) | cases e

theorem selL_id {p : Nat → Bool} {L : List Chunk} (hp : ∀ k, p k = true) : selL p 0 L = L := by
  apply List.ext_getElem?
  intro k
  rw [get_selL, if_pos (hp _)]
theorem selL_less {p q : Nat → Bool} {L : List Chunk} (h : ∀ k, p k = true → q k = true) : Less (selL p 0 L) (selL q 0 L) := by
  refine ⟨by rw [selL_length, selL_length], fun k => ?_⟩
  rw [get_selL, get_selL, Nat.zero_add]
  by_cases hp : p k = true
  · rw [if_pos hp, if_pos (h k hp)]; exact .inr rfl
  · rw [if_neg hp]
    cases hk : L[k]? with
    | none => right; split <;> simp
    | some c => left; simp

end Go.Sx
end
