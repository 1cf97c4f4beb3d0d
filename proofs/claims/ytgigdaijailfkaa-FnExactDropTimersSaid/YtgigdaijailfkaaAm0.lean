/- An abstract machine: what Go's code does to slots and to a heap of blocks whose numbers are given out in order, told by plain functions.
Conditions: none (definitions). -/
import Derived.Orders
import Derived.Below
namespace Go.Proofs.Ytgigdaijailfkaa.Am
open Go

/-- The kinds of cells. -/
inductive K where
  | int (k : IntKind)
  | bool
  | str
  | slice
  | ptr
  | func
  | addr
  deriving DecidableEq

/-- What is known of a type: is it a struct (or an array), its cells, a slice's element type, a struct's fields, its zero cells, its bytes. -/
structure TI where
  agg : Bool
  ks : List K
  elem : Nat
  fs : List (Nat × Nat)
  zero : List Value
  bytes : Nat

def isK (k : K) (i : TI) : Bool := !i.agg && (match i.ks with
  | [k'] => decide (k = k')
  | _ => false)
def isSl (i : TI) : Bool := isK .slice i
structure Blk where
  cs : List Value
  ty : Nat

abbrev Slots := List (Option Value)
abbrev AH := List (Option Blk)

abbrev Shape := List (Option (Bool × List K))
/-- What is told along with a code: where ways meet and are laid open anew. -/
inductive Ann where
  | leaf
  | seq (j : Option Shape) (a b : Ann)
  | cond (a b : Ann)
  | block (a : Ann)
  | loop (s1 : Shape) (es : List (Nat × Shape)) (a : Ann)

/-- A program's tables; below base the heap is read only. -/
structure Env where
  P : Program
  tab : List (Nat × TI)
  fns : List (Nat × List (Bool × List K))
  ann : List (Nat × Ann)
  base : Nat

def find {α : Type} : List (Nat × α) → Nat → Option α
  | [], _ => none
  | (k, i) :: r, t => cond (Nat.beq k t) (some i) (find r t)
def Env.ti (E : Env) (t : Nat) : Option TI := find E.tab t
def Env.an (E : Env) (f : Nat) : Option Ann := find E.ann f
def Env.fn (E : Env) (f : Nat) : Option (List (Bool × List K)) := find E.fns f

def sget : Slots → Nat → Option Value
  | [], _ => none
  | x :: _, 0 => x
  | _ :: r, n + 1 => sget r n
def sset : Slots → Nat → Option Value → Slots
  | [], _, _ => []
  | _ :: r, 0, v => v :: r
  | x :: r, n + 1, v => x :: sset r n v
def sput (s : Slots) : Option Nat → Option Value → Slots
  | none, _ => s
  | some d, v => sset s d v
/-- Values that lead nowhere. -/
def flatZ : Value → Bool
  | .int _ _ => true
  | .bool _ => true
  | .string _ => true
  | .pointer none => true
  | .slice none 0 0 => true
  | .nilFunc => true
  | _ => false
def ev (s : Slots) : Operand → Option Value
  | .tmp t => sget s t
  | .const v => cond (flatZ v) (some v) none
  | .global _ => none
  | .func f => some (.func (.func f) #[] #[])
def evs (s : Slots) : List Operand → Option (List Value)
  | [] => some []
  | x :: r => match ev s x, evs s r with
    | some v, some vs => some (v :: vs)
    | _, _ => none

def hget (h : AH) (b : Nat) : Option Blk := (h[b]?).getD none
def cell (h : AH) (b o : Nat) : Option Value := (hget h b).bind fun k => k.cs[o]?

def getI (k : IntKind) : Value → Option Int
  | .int k' n => if k' = k then some n else none
  | _ => none
def getB : Value → Option Bool
  | .bool b => some b
  | _ => none
def getStr : Value → Option ByteArray
  | .string s => some s
  | _ => none
def getS : Value → Option (Option Addr × Nat)
  | .slice a n _ => some (a, n)
  | _ => none
def getP : Value → Option (Option Addr)
  | .pointer a => some a
  | _ => none
def getA : Value → Option Addr
  | .pointer a => a
  | _ => none
def getF : Value → Option (Fn × Array Value × Array Value)
  | .func f a b => some (f, a, b)
  | _ => none
def leaf : Value → Bool
  | .agg _ => false
  | .tuple _ => false
  | .nilIface => false
  | _ => true
def cells : Value → List Value
  | .agg cs => cs.toList
  | v => [v]

section
variable {R : Type}
/-- A value, laid open by its kind. -/
def viewO (k : K) (v : Option Value) (c : Value → Option R) : Option R :=
  match k with
  | .int k => (v.bind (getI k)).bind fun n => c (.int k n)
  | .bool => (v.bind getB).bind fun b => c (.bool b)
  | .str => (v.bind getStr).bind fun s => c (.string s)
  | .slice => (v.bind getS).bind fun s => c (.slice s.1 s.2 s.2)
  | .ptr => (v.bind getP).bind fun a => c (.pointer a)
  | .func => (v.bind getF).bind fun f => c (.func f.1 f.2.1 f.2.2)
  | .addr => (v.bind getA).bind fun a => c (.pointer (some a))
def viewMany (at_ : Nat → Option Value) : Nat → List K → (List Value → Option R) → Option R
  | _, [], c => c []
  | o, k :: ks, c => viewO k (at_ o) fun v => viewMany at_ (o + 1) ks fun vs => c (v :: vs)
def getAgg (n : Nat) : Value → Option (List Value)
  | .agg cs => cond (Nat.beq cs.toList.length n) (some cs.toList) none
  | _ => none
def getTup (n : Nat) : Value → Option (List Value)
  | .tuple cs => cond (Nat.beq cs.toList.length n) (some cs.toList) none
  | _ => none
def viewV (sh : Bool × List K) (v : Option Value) (c : Value → Option R) : Option R :=
  match sh with
  | (true, ks) => (v.bind (getAgg ks.length)).bind fun l => viewMany (fun i => l[i]?) 0 ks fun vs => c (.agg vs.toArray)
  | (false, [k]) => viewO k v c
  | (false, _) => none
def viewTup (l : List Value) : Nat → List (Bool × List K) → (List Value → Option R) → Option R
  | _, [], c => c []
  | i, sh :: r, c => viewV sh l[i]? fun x => viewTup l (i + 1) r fun xs => c (x :: xs)
/-- A call's result. -/
def viewRes (rs : List (Bool × List K)) (v : Value) (c : Value → Option R) : Option R :=
  match rs with
  | [] => (getTup 0 v).bind fun _ => c undef
  | [sh] => viewV sh (some v) c
  | sh :: r => (getTup (sh :: r).length v).bind fun l => viewTup l 0 (sh :: r) fun xs => c (.tuple xs.toArray)
/-- The slots that stay, one behind the other. -/
def keep : Shape → Slots → Slots
  | [], _ => []
  | none :: sh, s => keep sh s.tail
  | some _ :: sh, s => sget s 0 :: keep sh s.tail
/-- They are laid open and put back into their places. -/
def lay : Shape → Slots → (Slots → Option R) → Option R
  | [], _, c => c []
  | none :: sh, l, c => lay sh l fun r => c (none :: r)
  | some k :: sh, l, c => viewV k (sget l 0) fun v => lay sh l.tail fun r => c (some v :: r)
/-- Which way it was left. -/
def disp : List (Nat × Shape) → Nat → Slots → AH → (Nat → Slots → AH → Option R) → Option R
  | [], _, _, _, _ => none
  | (e, sh) :: r, n, l, h, c => if n = e then lay sh l fun s' => c e s' h else disp r n l h c
def joinK {T : Type} : Sum T R → (T → Option R) → Option R
  | .inl q, k => k q
  | .inr r, _ => some r
def joinC (sh : Shape) (c : Nat → Slots → AH → Option R) : Nat → Slots → AH → Option (Sum (Slots × AH) R)
  | 0, s, h => cond (Nat.beq s.length sh.length) (some (.inl (keep sh s, h))) none
  | e + 1, s, h => (c (e + 1) s h).map .inr
def keepK (s1 : Shape) (es : List (Nat × Shape)) (e : Nat) (s : Slots) (h : AH) : Option (Nat × Slots × AH) :=
  cond (Nat.beq s.length s1.length) (match e with
    | 0 => some (0, keep s1 s, h)
    | e + 1 => match find es (e + 1) with
      | some sh => cond (Nat.beq s.length sh.length) (some (e + 1, keep sh s, h)) none
      | none => none) none

def load (E : Env) (t : Nat) (h : AH) (b o : Nat) (c : Value → Option R) : Option R :=
  match E.ti t with
  | none => none
  | some i => match i.agg with
    | true => viewMany (cell h b) o i.ks fun vs => c (.agg vs.toArray)
    | false => match i.ks with
      | [k] => viewO k (cell h b o) c
      | _ => none
end

def setAt (cs : List Value) (o : Nat) (vs : List Value) : List Value := cs.take o ++ vs ++ cs.drop (o + vs.length)
/-- A write into a block of one's own. -/
def wr (base : Nat) (h : AH) (b o : Nat) (vs : List Value) : Option AH :=
  if base ≤ b then (hget h b).bind fun k => if o + vs.length ≤ k.cs.length then some (h.set b (some ⟨setAt k.cs o vs, k.ty⟩)) else none else none

/-- Cells of a row, raw. -/
def rawAt (h : AH) (a : Option Addr) (n : Nat) : Option (List Value) :=
  if n = 0 then some [] else a.bind fun ad => (hget h ad.block).bind fun k => if ad.off + n ≤ k.cs.length ∧ ((k.cs.drop ad.off).take n).all leaf = true then some ((k.cs.drop ad.off).take n) else none
/-- The numbers of a row of bytes. -/
def u8s : List Value → Option (List Int)
  | [] => some []
  | .int .u8 n :: r => (u8s r).map (n :: ·)
  | _ => none
/-- Bytes as a text. -/
def bstr (ns : List Int) : ByteArray := ns.foldl (fun r n => r.push (UInt8.ofNat n.toNat)) ByteArray.empty
def bytesV (s : ByteArray) : List Value := s.data.toList.map fun b => .int .u8 b.toNat

/-- What an append makes: the old row's block is gone (it may have been written behind its end). -/
def grow (base : Nat) (h : AH) (t : Nat) (sz bytes : Nat) (a : Option Addr) (n : Nat) (new : List Value) (m : Nat) : Option (Value × AH) :=
  if (n + m) * bytes ≤ 140737488355328 ∧ n + m ≤ 9223372036854775807 then
    match a with
    | none => if n = 0 then some (.slice (some ⟨h.length, 0, none⟩) m m, h ++ [some ⟨new, t⟩]) else none
    | some ad => (hget h ad.block).bind fun k =>
      if base ≤ ad.block ∧ k.ty = t ∧ ad.off + n * sz ≤ k.cs.length then
        some (.slice (some ⟨h.length, 0, none⟩) (n + m) (n + m), h.set ad.block none ++ [some ⟨(k.cs.drop ad.off).take (n * sz) ++ new, t⟩])
      else none
  else none

/-- An append of m elements. -/
def app (base : Nat) (h : AH) (t : Nat) (sz bytes : Nat) (a : Option Addr) (n : Nat) (src : Option (List Value)) (m : Nat) : Option (Value × AH) :=
  if m = 0 then some (.slice a n n, h) else src.bind fun new => grow base h t sz bytes a n new m

def rep (z : List Value) : Nat → List Value
  | 0 => []
  | n + 1 => z ++ rep z n

/-- A struct's cells with parts put in. -/
def fillS (fs : List (Nat × Nat)) : List Value → List (Nat × Value) → Option (List Value)
  | cs, [] => some cs
  | cs, (i, v) :: r => match fs[i]? with
    | some (off, _) => cond (Nat.ble (off + (cells v).length) cs.length) (fillS fs (setAt cs off (cells v)) r) none
    | none => none
def fillR (sz : Nat) : List Value → List (Nat × Value) → Option (List Value)
  | cs, [] => some cs
  | cs, (i, v) :: r => cond (Nat.beq (cells v).length sz && Nat.ble (i * sz + sz) cs.length) (fillR sz (setAt cs (i * sz) (cells v)) r) none
def evP (s : Slots) : List (Nat × Operand) → Option (List (Nat × Value))
  | [] => some []
  | (i, x) :: r => match ev s x, evP s r with
    | some v, some vs => some ((i, v) :: vs)
    | _, _ => none
def allTi (E : Env) : List (Nat × Nat) → Bool
  | [] => true
  | (_, t) :: r => (E.ti t).isSome && allTi E r
def fsOk (E : Env) (fs : List (Nat × Nat)) : List (Nat × Value) → Bool
  | [] => true
  | (i, v) :: r => (match fs[i]? with
    | some (_, t) => match E.ti t with
      | some j => Nat.beq (cells v).length j.ks.length
      | none => false
    | none => false) && fsOk E fs r

section
variable {R : Type}
def intV (op : BinOp) (k : IntKind) (m n : Int) (c : Value → Option R) : Option R :=
  match op with
  | .add => c (.int k (k.wrap (m + n)))
  | .sub => c (.int k (k.wrap (m - n)))
  | .mul => c (.int k (k.wrap (m * n)))
  | .quo => if n = 0 then none else c (.int k (k.wrap (m.tdiv n)))
  | .rem => if n = 0 then none else c (.int k (m.tmod n))
  | .and => c (.int k (Go.bits .and k m n))
  | .or => c (.int k (Go.bits .or k m n))
  | .xor => c (.int k (Go.bits .xor k m n))
  | .eql => c (.bool (m == n))
  | .neq => c (.bool (m != n))
  | .lss => c (.bool (decide (m < n)))
  | .leq => c (.bool (decide (m ≤ n)))
  | .gtr => c (.bool (decide (m > n)))
  | .geq => c (.bool (decide (m ≥ n)))
  | _ => none
def strV (op : BinOp) (x y : ByteArray) (c : Value → Option R) : Option R :=
  match op with
  | .add => if x.size + y.size ≤ 9223372036854775807 then c (.string (x ++ y)) else none
  | .eql => c (.bool (x.toList == y.toList))
  | .neq => c (.bool (!(x.toList == y.toList)))
  | .lss => c (.bool (Op.bytesLess x.toList y.toList))
  | _ => none
def binV (op : BinOp) (i : TI) (a b : Value) (c : Value → Option R) : Option R :=
  match a, b with
  | .int k m, .int k' n => match op with
    | .shl => if n < 0 then none else c (.int k (k.wrap (m * 2 ^ min n.toNat k.bits)))
    | .shr => if n < 0 then none else c (.int k (m.fdiv (2 ^ min n.toNat k.bits)))
    | op => if k = k' then intV op k m n c else none
  | .string x, .string y => strV op x y c
  | .bool x, .bool y => cond (isK .bool i) (match op with
    | .eql => c (.bool (x == y))
    | .neq => c (.bool (!(x == y)))
    | _ => none) none
  | _, _ => none
def unV (op : UnOp) (a : Value) (c : Value → Option R) : Option R :=
  match op, a with
  | .neg, .int k n => c (.int k (k.wrap (0 - n)))
  | .not, .bool b => c (.bool (!b))
  | _, _ => none

/-- A cut that doesn't begin where the row does: the row's own element type. -/
def okTy (base : Nat) (h : AH) (a : Option Addr) (t l : Nat) : Bool := Nat.beq l 0 || (match a with
  | none => true
  | some ad => Nat.blt ad.block base || (match hget h ad.block with
    | some k => Nat.beq k.ty t
    | none => false))
def shiftA (a : Option Addr) (n : Nat) : Option Addr := a.map fun ad => ⟨ad.block, ad.off + n, none⟩
/-- Bounds of a cut. -/
def bound (s : Slots) (x : Option Operand) (d : Int) : Option Int :=
  match x with
  | none => some d
  | some y => match ev s y with
    | some (.int _ n) => some n
    | _ => none
def minV : Value → List Value → (Value → Option R) → Option R
  | v, [], c => c v
  | v, u :: r, c => match v, u with
    | .int k x, .int _ y => minV (.int k (if y < x then y else x)) r c
    | _, _ => none
def maxV : Value → List Value → (Value → Option R) → Option R
  | v, [], c => c v
  | v, u :: r, c => match v, u with
    | .int k x, .int _ y => maxV (.int k (if y > x then y else x)) r c
    | _, _ => none
def exLen (E : Env) (ts : List Nat) (vs : List Value) (h : AH) (c : Value → AH → Option R) : Option R :=
  match vs, ts with
  | [v], [t] => match E.ti t with
    | some i => match v with
      | .slice _ n _ => cond (isSl i) (c (.int .i64 n) h) none
      | .string s => cond (isK .str i) (c (.int .i64 s.size) h) none
      | _ => none
    | none => none
  | _, _ => none
def exAppend (E : Env) (ts : List Nat) (vs : List Value) (h : AH) (c : Value → AH → Option R) : Option R :=
  match vs, ts with
  | [v, x], [t, u] => match E.ti t, E.ti u with
    | some i, some l => match E.ti i.elem with
      | some j => cond (isSl i && Nat.blt 0 j.ks.length) (match v with
        | .slice a n _ => match x with
          | .slice a2 m _ => cond (Nat.beq t u) ((app E.base h i.elem j.ks.length j.bytes a n (rawAt h a2 (m * j.ks.length)) m).bind fun p => viewO .slice (some p.1) fun v => c v p.2) none
          | .string y => cond (isK .str l && isK (.int .u8) j) ((app E.base h i.elem 1 j.bytes a n (some (bytesV y)) y.size).bind fun p => viewO .slice (some p.1) fun v => c v p.2) none
          | .int .i64 m => cond (isK (.int .i64) l) (if 0 ≤ m ∧ m ≤ 140737488355328 then (app E.base h i.elem j.ks.length j.bytes a n (some (rep j.zero m.toNat)) m.toNat).bind fun p => viewO .slice (some p.1) fun v => c v p.2 else none) none
          | _ => none
        | _ => none) none
      | none => none
    | _, _ => none
  | _, _ => none
/-- A builtin. -/
def exBuiltin (E : Env) (b : Builtin) (ts : List Nat) (vs : List Value) (h : AH) (c : Value → AH → Option R) : Option R :=
  match b with
  | .len => exLen E ts vs h c
  | .min => match vs with
    | v :: r => minV v r fun x => c x h
    | [] => none
  | .max => match vs with
    | v :: r => maxV v r fun x => c x h
    | [] => none
  | .append => exAppend E ts vs h c
  | _ => none

/-- One operation. -/
def exOp (E : Env) (rec : Nat → List Value → AH → Option (Value × AH)) (o : Op) (s : Slots) (h : AH) (c : Value → AH → Option R) : Option R :=
  match o with
  | .move x => match ev s x with
    | some v => c v h
    | none => none
  | .assign x => match ev s x with
    | some v => c v h
    | none => none
  | .pick b x y => match ev s b with
    | some (.bool t) => if t = true then (match ev s x with
        | some v => c v h
        | none => none) else (match ev s y with
        | some v => c v h
        | none => none)
    | _ => none
  | .alloc t => match E.ti t with
    | some i => c (.pointer (some ⟨h.length, 0, none⟩)) (h ++ [some ⟨i.zero, t⟩])
    | none => none
  | .box t x => match ev s x with
    | some v => match E.ti t with
      | some i => cond (Nat.beq (cells v).length i.ks.length) (c (.pointer (some ⟨h.length, 0, none⟩)) (h ++ [some ⟨cells v, t⟩])) none
      | none => none
    | none => none
  | .build t ps => match evP s ps.toList, E.ti t with
    | some vs, some i => cond (Nat.blt 0 i.fs.length && allTi E i.fs && fsOk E i.fs vs) (match fillS i.fs i.zero vs with
        | some cs => c (.agg cs.toArray) h
        | none => none) none
    | _, _ => none
  | .buildSlice t n ps => match evP s ps.toList, E.ti t with
    | some vs, some i => match E.ti i.elem with
      | some j => cond (isSl i && Nat.blt 0 j.ks.length && Nat.ble (n * j.ks.length) 16777216) (match fillR j.ks.length (rep j.zero n) vs with
        | some cs => c (.slice (some ⟨h.length, 0, none⟩) n n) (h ++ [some ⟨cs, i.elem⟩])
        | none => none) none
      | none => none
    | _, _ => none
  | .load t a => match ev s a with
    | some (.pointer (some ad)) => load E t h ad.block ad.off fun v => c v h
    | _ => none
  | .store t a x => match ev s a, ev s x with
    | some (.pointer (some ad)), some v => match E.ti t with
      | some i => cond (Nat.beq (cells v).length i.ks.length && (cells v).all leaf && Nat.blt 0 i.ks.length) ((wr E.base h ad.block ad.off (cells v)).bind fun h' => c undef h') none
      | none => none
    | _, _ => none
  | .nilCheck x => match ev s x with
    | some (.pointer a) => a.bind fun ad => c (.pointer (some ad)) h
    | some (.func (.func f) p q) => c (.func (.func f) p q) h
    | _ => none
  | .binOp op t x y _ => match ev s x, ev s y, E.ti t with
    | some a, some b, some i => binV op i a b fun v => c v h
    | _, _, _ => none
  | .unOp op _ x => match ev s x with
    | some a => unV op a fun v => c v h
    | none => none
  | .convert src dst x => match ev s x, E.ti src, E.ti dst with
    | some (.int _ n), some _, some i => cond i.agg none <| match i.ks with
      | [.int k] => c (.int k (k.wrap n)) h
      | _ => none
    | some (.slice a n _), some i0, some i => cond (Nat.beq dst 9 && isK .str i && isSl i0) (match E.ti i0.elem with
      | some j => cond (isK (.int .u8) j) (((rawAt h a n).bind u8s).bind fun ns => c (.string (bstr ns)) h) none
      | none => none) none
    | _, _, _ => none
  | .makeSlice t l m => match ev s l, ev s m, E.ti t with
    | some (.int .i64 n), some (.int .i64 n'), some i => match E.ti i.elem with
      | some j => cond (!(isSl i && Nat.blt 0 j.ks.length)) none <| if n = n' ∧ 0 ≤ n ∧ n * j.bytes ≤ 140737488355328 ∧ n ≤ 140737488355328 then c (.slice (some ⟨h.length, 0, none⟩) n.toNat n.toNat) (h ++ [some ⟨rep j.zero n.toNat, i.elem⟩]) else none
      | none => none
    | _, _, _ => none
  | .slice t x lo hi none => match ev s x with
    | some (.string v) => match bound s lo 0, bound s hi v.size, E.ti t with
      | some l, some r, some i => cond (!isK .str i) none <| if 0 ≤ l ∧ l ≤ r ∧ r ≤ (v.size : Int) then c (.string (v.extract l.toNat r.toNat)) h else none
      | _, _, _ => none
    | some (.slice a n _) => match E.ti t with
      | some i => match E.ti i.elem with
        | some j => match bound s lo 0, bound s hi n with
          | some l, some r => cond (!isSl i) none <| if 0 ≤ l ∧ l ≤ r ∧ r ≤ (n : Int) ∧ okTy E.base h a i.elem l.toNat = true then c (.slice (shiftA a (l.toNat * j.ks.length)) (r.toNat - l.toNat) (r.toNat - l.toNat)) h else none
          | _, _ => none
        | none => none
      | none => none
    | _ => none
  | .fieldAddr t x f => match ev s x, E.ti t with
    | some (.pointer (some ad)), some i => match i.fs[f]? with
      | some (off, ft) => match E.ti ft with
        | some j => cond (Nat.blt 0 j.ks.length) (c (.pointer (some ⟨ad.block, ad.off + off, none⟩)) h) none
        | none => none
      | none => none
    | _, _ => none
  | .field t x f => match ev s x, E.ti t with
    | some (.agg cs), some i => match i.fs[f]? with
      | some (off, ft) => match E.ti ft with
        | some j => match j.agg with
          | true => cond (Nat.ble (off + j.ks.length) cs.toList.length) (c (.agg ((cs.toList.drop off).take j.ks.length).toArray) h) none
          | false => match cs.toList[off]? with
            | some v => c v h
            | none => none
        | none => none
      | none => none
    | _, _ => none
  | .indexAddr t x ix => match ev s x, ev s ix, E.ti t with
    | some (.slice a n _), some (.int _ i), some ti => match E.ti ti.elem with
      | some j => cond (!isSl ti) none (if 0 ≤ i ∧ i < (n : Int) then a.bind fun ad => c (.pointer (some ⟨ad.block, ad.off + i.toNat * j.ks.length, none⟩)) h else none)
      | none => none
    | _, _, _ => none
  | .index t x ix => match ev s x, ev s ix, E.ti t with
    | some (.string v), some (.int _ i), some ti => cond (!isK .str ti) none <| if 0 ≤ i ∧ i < (v.size : Int) then c (.int .u8 ((v.data.toList.getD i.toNat 0).toNat)) h else none
    | _, _, _ => none
  | .extract t j => match ev s t with
    | some (.tuple vs) => match vs.toList[j]? with
      | some v => c v h
      | none => none
    | _ => none
  | .makeFunc fn p q => match evs s p.toList, evs s q.toList with
    | some vs, some ws => c (.func fn vs.toArray ws.toArray) h
    | _, _ => none
  | .call cc => match evs s cc.args.toList with
    | some vs => match cc.callee with
      | .builtin b => exBuiltin E b cc.argTypes.toList vs h c
      | .value f => match ev s f with
        | some (.func (.func g) p q) => match E.fn g with
          | some rs => (rec g (p.toList ++ vs ++ q.toList) h).bind fun r => viewRes rs r.1 fun v => c v r.2
          | none => none
        | _ => none
      | _ => none
    | none => none
  | _ => none

/-- The guard of an operation: is it carried out? (A flag that decides becomes what it is.) -/
def guarded (ops : List Oper) (o : Oper) (s : Slots) (yes no : Slots → Option R) : Option R :=
  match o.guard with
  | none => yes s
  | some (j, want) => match (ops[j]?).bind (·.dst) with
    | some d => match sget s d with
      | some (.bool b) => if b = true then cond want (yes (sset s d (some (.bool true)))) (no (sset s d (some (.bool true))))
          else cond want (no (sset s d (some (.bool false)))) (yes (sset s d (some (.bool false))))
      | some (.tuple _) => no s
      | _ => none
    | none => none
/-- A region in the text's order. -/
def exOps (E : Env) (rec : Nat → List Value → AH → Option (Value × AH)) (ops : List Oper) : List Oper → Slots → AH → (Slots → AH → Option R) → Option R
  | [], s, h, c => c s h
  | o :: r, s, h, c => guarded ops o s (fun s => exOp E rec o.op s h fun v h' => exOps E rec ops r (sput s o.dst (some v)) h' c) fun s => exOps E rec ops r (sput s o.dst (some undef)) h c
end

/-! ### A region in whatever order -/
inductive Cl where
  | pure
  | read
  | fresh
  | heavy
def cl : Op → Cl
  | .load _ _ => .read
  | .slice _ _ (some _) _ _ => .read
  | .alloc _ => .fresh
  | .box _ _ => .fresh
  | .buildSlice _ _ _ => .fresh
  | .makeSlice _ _ _ => .fresh
  | .store _ _ _ => .heavy
  | .call c => match c.callee with
    | .builtin .len => .pure
    | .builtin .min => .pure
    | .builtin .max => .pure
    | _ => .heavy
  | .convert _ dst _ => cond (Nat.beq dst 9) .heavy .pure
  | _ => .pure
def bindsAny (e : Edge) : Bool := match e.ground with
  | .textOnly _ => false
  | .gcOnly _ => false
  | _ => true
def befOf (acc : List Nat) : List Edge → Nat
  | [] => 0
  | e :: r => cond (bindsAny e) ((1 <<< e.on) ||| acc.getD e.on 0 ||| befOf acc r) (befOf acc r)
/-- For each operation those that come ahead of it in every order, as bits. -/
def befs : List Nat → List Oper → List Nat
  | acc, [] => acc
  | acc, o :: r => befs (acc ++ [befOf acc o.after.toList]) r
def tmpsOf (ops : List Oper) (o : Oper) : List Nat :=
  o.dst.toList ++ (o.op.operands.toList.filterMap fun | .tmp t => some t | _ => none) ++ (match o.guard with
    | some (j, _) => ((ops[j]?).bind (·.dst)).toList
    | none => [])
def memN (t : Nat) : List Nat → Bool
  | [] => false
  | x :: r => Nat.beq x t || memN t r
/-- i is ahead of j: if one fills what the other names, then in every order. -/
def pairOk (ops : List Oper) (bj : Nat) (i : Nat) (oi oj : Oper) : Bool :=
  bj.testBit i || ((match oi.dst with
    | some d => !memN d (tmpsOf ops oj)
    | none => true) && (match oj.dst with
    | some d => !memN d (tmpsOf ops oi)
    | none => true))
def pairsOk (ops : List Oper) (bj : Nat) (oj : Oper) : Nat → List Oper → Bool
  | _, [] => true
  | i, oi :: r => pairOk ops bj i oi oj && pairsOk ops bj oj (i + 1) r
def edgesOk (j : Nat) : List Edge → Bool
  | [] => true
  | e :: r => (!bindsAny e || Nat.blt e.on j) && edgesOk j r
def guardOk (bj : Nat) (o : Oper) : Bool := match o.guard with
  | none => true
  | some (g, _) => bj.testBit g
def regOk (ops : List Oper) (bf : List Nat) : Nat → List Oper → Bool
  | _, [] => true
  | j, o :: r => edgesOk j o.after.toList && guardOk (bf.getD j 0) o && pairsOk ops (bf.getD j 0) o 0 (ops.take j) && regOk ops bf (j + 1) r

section
variable {R : Type}
noncomputable def gate (p : Prop) (x : Option R) : Option R := open Classical in if p then x else none
def same (h h' : AH) (b o n : Nat) : Prop := (∀ j, j < n → cell h b (o + j) = cell h' b (o + j)) ∧ (hget h b).map (·.ty) = (hget h' b).map (·.ty)
def neA (a : Option Addr) (nm : Nat) : Prop := ∀ ad, a = some ad → ad.block ≠ nm
def sameA (h h' : AH) (a : Option Addr) (n : Nat) : Prop := ∀ ad, a = some ad → same h h' ad.block ad.off n
noncomputable def gatesA (bj : Nat) (a : Option Addr) : List (Nat × Nat) → Option R → Option R
  | [], x => x
  | (k, nm) :: r, x => cond (bj.testBit k) (gatesA bj a r x) (gate (neA a nm) (gatesA bj a r x))
noncomputable def gatesH (bj : Nat) (h : AH) (a : Option Addr) (n : Nat) : List (Nat × AH) → Option R → Option R
  | [], x => x
  | (k, p) :: r, x => cond (bj.testBit k) (gatesH bj h a n r x) (gate (sameA p h a n) (gatesH bj h a n r x))
noncomputable def gatesP (bj : Nat) (h h' : AH) : List (Nat × Option Addr × Nat) → Option R → Option R
  | [], x => x
  | (i, a, n) :: r, x => cond (bj.testBit i) (gatesP bj h h' r x) (gate (sameA h h' a n) (gatesP bj h h' r x))
noncomputable def gatesF (bj nm : Nat) : List (Nat × Option Addr × Nat) → Option R → Option R
  | [], x => x
  | (i, a, _) :: r, x => cond (bj.testBit i) (gatesF bj nm r x) (gate (neA a nm) (gatesF bj nm r x))
def allBef {α : Type} (bj : Nat) : List (Nat × α) → Bool
  | [] => true
  | (k, _) :: r => bj.testBit k && allBef bj r
/-- What a reading looks at. -/
def readAt (E : Env) (s : Slots) : Op → Option (Option Addr × Nat)
  | .load t a => match ev s a, E.ti t with
    | some (.pointer p), some ti => some (p, ti.ks.length)
    | _, _ => none
  | .slice _ x _ _ _ => match ev s x with
    | some (.slice a _ _) => some (a, 0)
    | some (.string _) => some (none, 0)
    | _ => none
  | _ => none

/-- A region whose order is open: carried out in the text's order; what could come out otherwise in another order is asked for. -/
noncomputable def exD (E : Env) (rec : Nat → List Value → AH → Option (Value × AH)) (ops : List Oper) (bf : List Nat) : List Oper → Nat → Slots → AH → List (Nat × AH) → List (Nat × Option Addr × Nat) → List (Nat × Nat) → (Slots → AH → Option R) → Option R
  | [], _, s, h, _, _, _, c => c s h
  | o :: r, i, s, h, hist, pend, an, c => guarded ops o s
    (fun s => match cl o.op with
      | .pure => exOp E rec o.op s h fun v h' => exD E rec ops bf r (i + 1) (sput s o.dst (some v)) h' hist pend an c
      | .fresh => cond (allBef (bf.getD i 0) hist && allBef (bf.getD i 0) an) (gatesF (bf.getD i 0) h.length pend (exOp E rec o.op s h fun v h' => exD E rec ops bf r (i + 1) (sput s o.dst (some v)) h' hist pend ((i, h.length) :: an) c)) none
      | .read => match readAt E s o.op with
        | some (a, n) => gatesA (bf.getD i 0) a an (gatesH (bf.getD i 0) h a n hist
              (exOp E rec o.op s h fun v h' => exD E rec ops bf r (i + 1) (sput s o.dst (some v)) h' hist ((i, a, n) :: pend) an c))
        | none => none
      | .heavy => cond (allBef (bf.getD i 0) hist && allBef (bf.getD i 0) an) (exOp E rec o.op s h fun v h' =>
          gatesP (bf.getD i 0) h h' pend (exD E rec ops bf r (i + 1) (sput s o.dst (some v)) h' ((i, h) :: hist) pend an c)) none)
    fun s => exD E rec ops bf r (i + 1) (sput s o.dst (some undef)) h hist pend an c
end

/-! ### Code -/
abbrev Rec := Nat → List Value → AH → Option (Value × AH)
abbrev Body := Slots → AH → Option (Nat × Slots × AH)
/-- Code: what follows is told how it was left: 0 at its end, 1 by return, n + 2 by exit n. -/
noncomputable def exCode (E : Env) (rec : Rec) (lp : Body → Body) : Ann → Code → {R : Type} → Slots → AH → (Nat → Slots → AH → Option R) → Option R
  | _, .skip, _, s, h, c => c 0 s h
  | _, .region _ ops false, _, s, h, c => exOps E rec ops.toList ops.toList s h (c 0)
  | _, .region _ ops true, _, s, h, c => cond (regOk ops.toList (befs [] ops.toList) 0 ops.toList) (exD E rec ops.toList (befs [] ops.toList) ops.toList 0 s h [] [] [] (c 0)) none
  | .seq none a b, .seq x y, _, s, h, c => exCode E rec lp a x s h fun e s' h' => match e with
    | 0 => exCode E rec lp b y s' h' c
    | e + 1 => c (e + 1) s' h'
  | .seq (some sh) a b, .seq x y, _, s, h, c => (exCode E rec lp a x s h (joinC sh c)).bind fun p => joinK p fun q => lay sh q.1 fun s' => exCode E rec lp b y s' q.2 c
  | .cond a b, .cond x p q, _, s, h, c => match ev s x with
    | some (.bool t) => if t = true then exCode E rec lp a p s h c else exCode E rec lp b q s h c
    | _ => none
  | .block a, .block id x, _, s, h, c => exCode E rec lp a x s h fun e s' h' => cond (Nat.beq e (id + 2)) (c 0 s' h') (c e s' h')
  | .loop s1 es a, .loop x, _, s, h, c => cond (Nat.beq s.length s1.length) ((lp (fun l h => lay s1 l fun s' => exCode E rec lp a x s' h (keepK s1 es)) (keep s1 s) h).bind fun p => disp es p.1 p.2.1 p.2.2 c) none
  | _, .exit id, _, s, h, c => c (id + 2) s h
  | _, .ret, _, s, h, c => c 1 s h
  | _, _, _, _, _, _ => none

def exResults (E : Env) (s : Slots) (h : AH) : List ResultVar → (List Value → Option (Value × AH)) → Option (Value × AH)
  | [], c => c []
  | .tmp t :: r, c => match sget s t with
    | some v => exResults E s h r fun vs => c (v :: vs)
    | none => none
  | .cell a t :: r, c => match sget s a with
    | some (.pointer (some ad)) => load E t h ad.block ad.off fun v => exResults E s h r fun vs => c (v :: vs)
    | _ => none
def mkRes : List Value → Value
  | [v] => v
  | vs => .tuple vs.toArray
noncomputable def exFun (E : Env) (rec : Rec) (lp : Body → Body) (an : Ann) (fn : Func) (args : List Value) (h : AH) : Option (Value × AH) :=
  match fn.body with
  | none => none
  | some b => exCode E rec lp an b (args.map some ++ List.replicate (fn.ntmps - args.length) none) h fun e s h' =>
      if e ≤ 1 then exResults E s h' fn.results.toList fun vs => some (mkRes vs, h') else none

def loopF : Nat → Body → Body
  | 0, _, _, _ => none
  | n + 1, b, s, h => (b s h).bind fun p => if p.1 = 0 then loopF n b p.2.1 p.2.2 else some p
noncomputable def exCall (E : Env) : Nat → Rec
  | 0, _, _, _ => none
  | k + 1, f, args, h => match E.P.funcs[f]?, E.an f with
    | some fn, some an => exFun E (exCall E k) (loopF k) an fn args h
    | _, _ => none
end Go.Proofs.Ytgigdaijailfkaa.Am
