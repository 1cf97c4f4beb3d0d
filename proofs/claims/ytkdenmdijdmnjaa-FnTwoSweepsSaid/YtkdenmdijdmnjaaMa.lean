/- An abstract machine: what Go's code does to slots and to a heap of blocks whose numbers are given out in order, told by plain functions.
Conditions: none (definitions). -/
import Derived.Orders
import Derived.Below
import Derived.Laws.Externs
import Derived.Laws.AppendOwn
import Derived.Laws.Cells
import Derived.Laws.CopyRow
import Derived.Laws.Entries
import Derived.Laws.Small
import Derived.ArgAppend
import Derived.Laws.Slices
import Derived.Laws.MakeOwn
namespace Go.Proofs.Ytkdenmdijdmnjaa.Am
open Go
inductive K where
 | int (k:IntKind)
 | bool
 | str
 | slice
 | ptr
 | func
 | addr
 | map
 deriving DecidableEq
structure TI where
 agg:Bool
 ks:List K
 elem:Nat
 fs:List (Nat×Nat)
 zero:List Value
 bytes:Nat
 cnt:Nat
def isK (k:K) (i:TI):Bool:=!i.agg&&(match i.ks with
 | [k']=>decide (k=k')
 | _=>false)
def isSl (i:TI):Bool:=isK .slice i
structure MapO where
 m:Option (List (Int×Int))
instance:Inhabited MapO:=⟨⟨none⟩⟩
structure Blk where
 cs:List Value
 ty:Nat
 [mp:Inhabited MapO]
def Blk.m (k:Blk):Option (List (Int×Int)):=k.mp.default.m
def mapTy:Nat:=4294967295
def mblk (l:List (Int×Int)):Blk:=@Blk.mk [] mapTy ⟨⟨some l⟩⟩
def mfind:List (Int×Int)→Int→Option Int
 | [],_=>none
 | (a,b) :: r,k=>if k=a then some b else mfind r k
def mput:List (Int×Int)→Int→Int→List (Int×Int)
 | [],k,v=>[(k,v)]
 | (a,b) :: r,k,v=>if k=a then (k,v) :: r else (a,b) :: mput r k v
abbrev Slots:=List (Option Value)
abbrev AH:=List (Option Blk)
abbrev Shape:=List (Option (Bool×List K))
inductive Ann where
 | leaf
 | seq (j:Option Shape) (a b:Ann)
 | cond (a b:Ann)
 | block (a:Ann)
 | loop (s1:Shape) (es:List (Nat×Shape)) (a:Ann)
 | perm (p:List Nat)
 | toss (c o t:Nat)
 | seqk (ks:List Nat) (a b:Ann)
structure Env where
 P:Program
 tab:List (Nat×TI)
 fns:List (Nat×List (Bool×List K))
 ann:List (Nat×Ann)
 base:Nat
 ix:List Nat
 res:List (Nat×List (Bool×List K))
def memN (t:Nat):List Nat→Bool
 | []=>false
 | x :: r=>Nat.beq x t||memN t r
def find {α:Type}:List (Nat×α)→Nat→Option α
 | [],_=>none
 | (k,i) :: r,t=>cond (Nat.beq k t) (some i) (find r t)
def Env.ti (E:Env) (t:Nat):Option TI:=find E.tab t
def Env.an (E:Env) (f:Nat):Option Ann:=find E.ann f
def Env.fn (E:Env) (f:Nat):Option (List (Bool×List K)):=find E.fns f
def sget:Slots→Nat→Option Value
 | [],_=>none
 | x :: _,0=>x
 | _ :: r,n+1=>sget r n
def sset:Slots→Nat→Option Value→Slots
 | [],_,_=>[]
 | _ :: r,0,v=>v :: r
 | x :: r,n+1,v=>x :: sset r n v
def sput (s:Slots):Option Nat→Option Value→Slots
 | none,_=>s
 | some d,v=>sset s d v
def flatZ:Value→Bool
 | .int _ _=>true
 | .bool _=>true
 | .string _=>true
 | .pointer none=>true
 | .slice none 0 0=>true
 | .nilFunc=>true
 | .map none=>true
 | _=>false
def flatC (v:Value):Bool:=flatZ v||(match v with|.agg cs=>cs.toList.all flatZ|_=>false)
def ev (s:Slots):Operand→Option Value
 | .tmp t=>sget s t
 | .const v=>cond (flatC v) (some v) none
 | .global _=>none
 | .func f=>some (.func (.func f) #[] #[])
def evs (s:Slots):List Operand→Option (List Value)
 | []=>some []
 | x :: r=>match ev s x,evs s r with
  | some v,some vs=>some (v :: vs)
  | _,_=>none
def hget (h:AH) (b:Nat):Option Blk:=(h[b]?).getD none
def cell (h:AH) (b o:Nat):Option Value:=(hget h b).bind fun k=>k.cs[o]?
def mget (h:AH) (b:Nat):Option (List (Int×Int)):=(hget h b).bind Blk.m
def getI (k:IntKind):Value→Option Int
 | .int k' n=>if k'=k then some n else none
 | _=>none
def getB:Value→Option Bool
 | .bool b=>some b
 | _=>none
def getStr:Value→Option ByteArray
 | .string s=>some s
 | _=>none
def getS:Value→Option (Option Addr×Nat)
 | .slice a n _=>some (a,n)
 | _=>none
def getP:Value→Option (Option Addr)
 | .pointer a=>some a
 | _=>none
def getA:Value→Option Addr
 | .pointer a=>a
 | _=>none
def getM:Value→Option Nat
 | .map b=>b
 | _=>none
def getF:Value→Option (Fn×Array Value×Array Value)
 | .func f a b=>some (f,a,b)
 | _=>none
def leaf:Value→Bool
 | .agg _=>false
 | .tuple _=>false
 | .nilIface=>false
 | _=>true
def cells:Value→List Value
 | .agg cs=>cs.toList
 | v=>[v]
section
variable {R:Type}
def viewO (k:K) (v:Option Value) (c:Value→Option R):Option R:=
 match k with
 | .int k=>(v.bind (getI k)).bind fun n=>c (.int k n)
 | .bool=>(v.bind getB).bind fun b=>c (.bool b)
 | .str=>(v.bind getStr).bind fun s=>c (.string s)
 | .slice=>(v.bind getS).bind fun s=>c (.slice s.1 s.2 s.2)
 | .ptr=>(v.bind getP).bind fun a=>c (.pointer a)
 | .func=>(v.bind getF).bind fun f=>c (.func f.1 f.2.1 f.2.2)
 | .addr=>(v.bind getA).bind fun a=>c (.pointer (some a))
 | .map=>(v.bind getM).bind fun b=>c (.map (some b))
def viewMany (at_:Nat→Option Value):Nat→List K→(List Value→Option R)→Option R
 | _,[],c=>c []
 | o,k :: ks,c=>viewO k (at_ o) fun v=>viewMany at_ (o+1) ks fun vs=>c (v :: vs)
def getAgg (n:Nat):Value→Option (List Value)
 | .agg cs=>cond (Nat.beq cs.toList.length n) (some cs.toList) none
 | _=>none
def getTup (n:Nat):Value→Option (List Value)
 | .tuple cs=>cond (Nat.beq cs.toList.length n) (some cs.toList) none
 | _=>none
def viewV (sh:Bool×List K) (v:Option Value) (c:Value→Option R):Option R:=
 match sh with
 | (true,ks)=>(v.bind (getAgg ks.length)).bind fun l=>viewMany (fun i=>l[i]?) 0 ks fun vs=>c (.agg vs.toArray)
 | (false,[k])=>viewO k v c
 | (false,_)=>none
def viewTup (l:List Value):Nat→List (Bool×List K)→(List Value→Option R)→Option R
 | _,[],c=>c []
 | i,sh :: r,c=>viewV sh l[i]? fun x=>viewTup l (i+1) r fun xs=>c (x :: xs)
def viewRes (rs:List (Bool×List K)) (v:Value) (c:Value→Option R):Option R:=
 match rs with
 | []=>(getTup 0 v).bind fun _=>c undef
 | [sh]=>viewV sh (some v) c
 | sh :: r=>(getTup (sh :: r).length v).bind fun l=>viewTup l 0 (sh :: r) fun xs=>c (.tuple xs.toArray)
def keep:Shape→Slots→Slots
 | [],_=>[]
 | none :: sh,s=>keep sh s.tail
 | some _ :: sh,s=>sget s 0 :: keep sh s.tail
def lay:Shape→Slots→(Slots→Option R)→Option R
 | [],_,c=>c []
 | none :: sh,l,c=>lay sh l fun r=>c (none :: r)
 | some k :: sh,l,c=>viewV k (sget l 0) fun v=>lay sh l.tail fun r=>c (some v :: r)
def disp:List (Nat×Shape)→Nat→Slots→AH→(Nat→Slots→AH→Option R)→Option R
 | [],_,_,_,_=>none
 | (e,sh) :: r,n,l,h,c=>if n=e then lay sh l fun s'=>c e s' h else disp r n l h c
def joinK {T:Type}:Sum T R→(T→Option R)→Option R
 | .inl q,k=>k q
 | .inr r,_=>some r
def joinC (sh:Shape) (c:Nat→Slots→AH→Option R):Nat→Slots→AH→Option (Sum (Slots×AH) R)
 | 0,s,h=>cond (Nat.beq s.length sh.length) (some (.inl (keep sh s,h))) none
 | e+1,s,h=>(c (e+1) s h).map .inr
def keepK (s1:Shape) (es:List (Nat×Shape)) (e:Nat) (s:Slots) (h:AH):Option (Nat×Slots×AH):=
 cond (Nat.beq s.length s1.length) (match e with
  | 0=>some (0,keep s1 s,h)
  | e+1=>match find es (e+1) with
   | some sh=>cond (Nat.beq s.length sh.length) (some (e+1,keep sh s,h)) none
   | none=>none) none
def load (E:Env) (t:Nat) (h:AH) (b o:Nat) (c:Value→Option R):Option R:=
 match E.ti t with
 | none=>none
 | some i=>match i.agg with
  | true=>viewMany (cell h b) o i.ks fun vs=>c (.agg vs.toArray)
  | false=>match i.ks with
   | [k]=>viewO k (cell h b o) c
   | _=>none
end
def setAt (cs:List Value) (o:Nat) (vs:List Value):List Value:=cs.take o++vs++cs.drop (o+vs.length)
def wr (base:Nat) (h:AH) (b o:Nat) (vs:List Value):Option AH:=
 if base≤b then (hget h b).bind fun k=>if o+vs.length≤k.cs.length then some (h.set b (some ⟨setAt k.cs o vs,k.ty⟩)) else none else none
def rawAt (h:AH) (a:Option Addr) (n:Nat):Option (List Value):=
 if n=0 then some [] else a.bind fun ad=>(hget h ad.block).bind fun k=>if ad.off+n≤k.cs.length∧((k.cs.drop ad.off).take n).all leaf=true then some ((k.cs.drop ad.off).take n) else none
def u8s:List Value→Option (List Int)
 | []=>some []
 | .int .u8 n :: r=>(u8s r).map (n :: ·)
 | _=>none
def bstr (ns:List Int):ByteArray:=ns.foldl (fun r n=>r.push (UInt8.ofNat n.toNat)) ByteArray.empty
def bytesV (s:ByteArray):List Value:=s.data.toList.map fun b=>.int .u8 b.toNat
def grow (base:Nat) (h:AH) (t:Nat) (sz bytes:Nat) (a:Option Addr) (n:Nat) (new:List Value) (m:Nat):Option (Value×AH):=
 if (n+m)*bytes≤140737488355328∧n+m≤9223372036854775807 then
  match a with
  | none=>if n=0 then some (.slice (some ⟨h.length,0,none⟩) m m,h++[some ⟨new,t⟩]) else none
  | some ad=>(hget h ad.block).bind fun k=>
   if base≤ad.block∧k.ty=t∧ad.off+n*sz≤k.cs.length then
    some (.slice (some ⟨h.length,0,none⟩) (n+m) (n+m),h.set ad.block none++[some ⟨(k.cs.drop ad.off).take (n*sz)++new,t⟩])
   else none
 else none
def app (base:Nat) (h:AH) (t:Nat) (sz bytes:Nat) (a:Option Addr) (n:Nat) (src:Option (List Value)) (m:Nat):Option (Value×AH):=
 if m=0 then some (.slice a n n,h) else src.bind fun new=>grow base h t sz bytes a n new m
def rep (z:List Value):Nat→List Value
 | 0=>[]
 | n+1=>z++rep z n
def fillS (fs:List (Nat×Nat)):List Value→List (Nat×Value)→Option (List Value)
 | cs,[]=>some cs
 | cs,(i,v) :: r=>match fs[i]? with
  | some (off,_)=>cond (Nat.ble (off+(cells v).length) cs.length) (fillS fs (setAt cs off (cells v)) r) none
  | none=>none
def fillR (sz:Nat):List Value→List (Nat×Value)→Option (List Value)
 | cs,[]=>some cs
 | cs,(i,v) :: r=>cond (Nat.beq (cells v).length sz&&Nat.ble (i*sz+sz) cs.length) (fillR sz (setAt cs (i*sz) (cells v)) r) none
def evP (s:Slots):List (Nat×Operand)→Option (List (Nat×Value))
 | []=>some []
 | (i,x) :: r=>match ev s x,evP s r with
  | some v,some vs=>some ((i,v) :: vs)
  | _,_=>none
def allTi (E:Env):List (Nat×Nat)→Bool
 | []=>true
 | (_,t) :: r=>(E.ti t).isSome&&allTi E r
def fsOk (E:Env) (fs:List (Nat×Nat)):List (Nat×Value)→Bool
 | []=>true
 | (i,v) :: r=>(match fs[i]? with
  | some (_,t)=>match E.ti t with
   | some j=>Nat.beq (cells v).length j.ks.length
   | none=>false
  | none=>false)&&fsOk E fs r
section
variable {R:Type}
def intV (op:BinOp) (k:IntKind) (m n:Int) (c:Value→Option R):Option R:=
 match op with
 | .add=>c (.int k (k.wrap (m+n)))
 | .sub=>c (.int k (k.wrap (m-n)))
 | .mul=>c (.int k (k.wrap (m*n)))
 | .quo=>if n=0 then none else c (.int k (k.wrap (m.tdiv n)))
 | .rem=>if n=0 then none else c (.int k (m.tmod n))
 | .and=>c (.int k (Go.bits .and k m n))
 | .or=>c (.int k (Go.bits .or k m n))
 | .xor=>c (.int k (Go.bits .xor k m n))
 | .eql=>c (.bool (m==n))
 | .neq=>c (.bool (m != n))
 | .lss=>c (.bool (decide (m<n)))
 | .leq=>c (.bool (decide (m≤n)))
 | .gtr=>c (.bool (decide (m>n)))
 | .geq=>c (.bool (decide (m≥n)))
 | _=>none
def strV (op:BinOp) (x y:ByteArray) (c:Value→Option R):Option R:=
 match op with
 | .add=>if x.size+y.size≤9223372036854775807 then c (.string (x++y)) else none
 | .eql=>c (.bool (x.toList==y.toList))
 | .neq=>c (.bool (!(x.toList==y.toList)))
 | .lss=>c (.bool (Op.bytesLess x.toList y.toList))
 | _=>none
def binV (op:BinOp) (i:TI) (a b:Value) (c:Value→Option R):Option R:=
 match a,b with
 | .int k m,.int k' n=>match op with
  | .shl=>if n<0 then none else c (.int k (k.wrap (m*2 ^ min n.toNat k.bits)))
  | .shr=>if n<0 then none else c (.int k (m.fdiv (2 ^ min n.toNat k.bits)))
  | op=>if k=k' then intV op k m n c else none
 | .string x,.string y=>strV op x y c
 | .bool x,.bool y=>cond (isK .bool i) (match op with
  | .eql=>c (.bool (x==y))
  | .neq=>c (.bool (!(x==y)))
  | _=>none) none
 | _,_=>none
def unV (op:UnOp) (a:Value) (c:Value→Option R):Option R:=
 match op,a with
 | .neg,.int k n=>c (.int k (k.wrap (0-n)))
 | .not,.bool b=>c (.bool (!b))
 | _,_=>none
def okTy (base:Nat) (h:AH) (a:Option Addr) (t l:Nat):Bool:=Nat.beq l 0||(match a with
 | none=>true
 | some ad=>Nat.blt ad.block base||(match hget h ad.block with
  | some k=>Nat.beq k.ty t
  | none=>false))
def shiftA (a:Option Addr) (n:Nat):Option Addr:=a.map fun ad=>⟨ad.block,ad.off+n,none⟩
def bound (s:Slots) (x:Option Operand) (d:Int):Option Int:=
 match x with
 | none=>some d
 | some y=>match ev s y with
  | some (.int _ n)=>some n
  | _=>none
def minV:Value→List Value→(Value→Option R)→Option R
 | v,[],c=>c v
 | v,u :: r,c=>match v,u with
  | .int k x,.int _ y=>minV (.int k (if y<x then y else x)) r c
  | _,_=>none
def maxV:Value→List Value→(Value→Option R)→Option R
 | v,[],c=>c v
 | v,u :: r,c=>match v,u with
  | .int k x,.int _ y=>maxV (.int k (if y>x then y else x)) r c
  | _,_=>none
def exLen (E:Env) (ts:List Nat) (vs:List Value) (h:AH) (c:Value→AH→Option R):Option R:=
 match vs,ts with
 | [v],[t]=>match E.ti t with
  | some i=>match v with
   | .slice _ n _=>cond (isSl i) (c (.int .i64 n) h) none
   | .string s=>cond (isK .str i) (c (.int .i64 s.size) h) none
   | _=>none
  | none=>none
 | _,_=>none
def exAppend (E:Env) (ts:List Nat) (vs:List Value) (h:AH) (c:Value→AH→Option R):Option R:=
 match vs,ts with
 | [v,x],[t,u]=>match E.ti t,E.ti u with
  | some i,some l=>match E.ti i.elem with
   | some j=>cond (isSl i&&Nat.blt 0 j.ks.length) (match v with
    | .slice a n _=>match x with
     | .slice a2 m _=>cond (Nat.beq t u) ((app E.base h i.elem j.ks.length j.bytes a n (rawAt h a2 (m*j.ks.length)) m).bind fun p=>viewO .slice (some p.1) fun v=>c v p.2) none
     | .string y=>cond (isK .str l&&isK (.int .u8) j) ((app E.base h i.elem 1 j.bytes a n (some (bytesV y)) y.size).bind fun p=>viewO .slice (some p.1) fun v=>c v p.2) none
     | .int .i64 m=>cond (isK (.int .i64) l) (if 0≤m∧m≤140737488355328 then (app E.base h i.elem j.ks.length j.bytes a n (some (rep j.zero m.toNat)) m.toNat).bind fun p=>viewO .slice (some p.1) fun v=>c v p.2 else none) none
     | _=>none
    | _=>none) none
   | none=>none
  | _,_=>none
 | _,_=>none
def idxV (vs:List Value) (c:Value→Option R):Option R:=
 match vs with
 | [.string s,.int .u8 n]=>c (.int .i64 (firstIdx s n.toNat.toUInt8))
 | _=>none
def exBuiltin (E:Env) (b:Builtin) (ts:List Nat) (vs:List Value) (h:AH) (c:Value→AH→Option R):Option R:=
 match b with
 | .len=>exLen E ts vs h c
 | .min=>match vs with
  | v :: r=>minV v r fun x=>c x h
  | []=>none
 | .max=>match vs with
  | v :: r=>maxV v r fun x=>c x h
  | []=>none
 | .append=>exAppend E ts vs h c
 | _=>none
def exOp (E:Env) (rec:Nat→List Value→AH→Option (Value×AH)) (o:Op) (s:Slots) (h:AH) (c:Value→AH→Option R):Option R:=
 match o with
 | .move x=>match ev s x with
  | some v=>c v h
  | none=>none
 | .assign x=>match ev s x with
  | some v=>c v h
  | none=>none
 | .pick b x y=>match ev s b with
  | some (.bool t)=>if t=true then (match ev s x with
    | some v=>c v h
    | none=>none) else (match ev s y with
    | some v=>c v h
    | none=>none)
  | _=>none
 | .alloc t=>match E.ti t with
  | some i=>c (.pointer (some ⟨h.length,0,none⟩)) (h++[some ⟨i.zero,t⟩])
  | none=>none
 | .box t x=>match ev s x with
  | some v=>match E.ti t with
   | some i=>cond (Nat.beq (cells v).length i.ks.length) (c (.pointer (some ⟨h.length,0,none⟩)) (h++[some ⟨cells v,t⟩])) none
   | none=>none
  | none=>none
 | .build t ps=>match evP s ps.toList,E.ti t with
  | some vs,some i=>cond (Nat.blt 0 i.fs.length&&allTi E i.fs&&fsOk E i.fs vs) (match fillS i.fs i.zero vs with
    | some cs=>c (.agg cs.toArray) h
    | none=>none) none
  | _,_=>none
 | .buildSlice t n ps=>match evP s ps.toList,E.ti t with
  | some vs,some i=>match E.ti i.elem with
   | some j=>cond (isSl i&&Nat.blt 0 j.ks.length&&Nat.ble (n*j.ks.length) 16777216) (match fillR j.ks.length (rep j.zero n) vs with
    | some cs=>c (.slice (some ⟨h.length,0,none⟩) n n) (h++[some ⟨cs,i.elem⟩])
    | none=>none) none
   | none=>none
  | _,_=>none
 | .load t a=>match ev s a with
  | some (.pointer (some ad))=>load E t h ad.block ad.off fun v=>c v h
  | _=>none
 | .store t a x=>match ev s a,ev s x with
  | some (.pointer (some ad)),some v=>match E.ti t with
   | some i=>cond (Nat.beq (cells v).length i.ks.length&&(cells v).all leaf&&Nat.blt 0 i.ks.length) ((wr E.base h ad.block ad.off (cells v)).bind fun h'=>c undef h') none
   | none=>none
  | _,_=>none
 | .nilCheck x=>match ev s x with
  | some (.pointer a)=>a.bind fun ad=>c (.pointer (some ad)) h
  | some (.func (.func f) p q)=>c (.func (.func f) p q) h
  | _=>none
 | .binOp op t x y _=>match ev s x,ev s y,E.ti t with
  | some a,some b,some i=>binV op i a b fun v=>c v h
  | _,_,_=>none
 | .unOp op _ x=>match ev s x with
  | some a=>unV op a fun v=>c v h
  | none=>none
 | .convert src dst x=>match ev s x,E.ti src,E.ti dst with
  | some (.int _ n),some _,some i=>cond i.agg none <| match i.ks with
   | [.int k]=>c (.int k (k.wrap n)) h
   | _=>none
  | some (.slice a n _),some i0,some i=>cond (Nat.beq dst 9&&isK .str i&&isSl i0) (match E.ti i0.elem with
   | some j=>cond (isK (.int .u8) j) (((rawAt h a n).bind u8s).bind fun ns=>c (.string (bstr ns)) h) none
   | none=>none) none
  | _,_,_=>none
 | .makeSlice t l m=>match ev s l,ev s m,E.ti t with
  | some (.int .i64 n),some (.int .i64 n'),some i=>match E.ti i.elem with
   | some j=>cond (!(isSl i&&Nat.blt 0 j.ks.length)) none <| if n=n'∧0≤n∧n*j.bytes≤140737488355328∧n≤140737488355328 then c (.slice (some ⟨h.length,0,none⟩) n.toNat n.toNat) (h++[some ⟨rep j.zero n.toNat,i.elem⟩]) else none
   | none=>none
  | _,_,_=>none
 | .slice t x lo hi none=>match ev s x with
  | some (.string v)=>match bound s lo 0,bound s hi v.size,E.ti t with
   | some l,some r,some i=>cond (!isK .str i) none <| if 0≤l∧l≤r∧r≤(v.size:Int) then c (.string (v.extract l.toNat r.toNat)) h else none
   | _,_,_=>none
  | some (.slice a n _)=>match E.ti t with
   | some i=>match E.ti i.elem with
    | some j=>match bound s lo 0,bound s hi n with
     | some l,some r=>cond (!isSl i) none <| if 0≤l∧l≤r∧r≤(n:Int)∧okTy E.base h a i.elem l.toNat=true then c (.slice (shiftA a (l.toNat*j.ks.length)) (r.toNat-l.toNat) (r.toNat-l.toNat)) h else none
     | _,_=>none
    | none=>none
   | none=>none
  | _=>none
 | .fieldAddr t x f=>match ev s x,E.ti t with
  | some (.pointer (some ad)),some i=>match i.fs[f]? with
   | some (off,ft)=>match E.ti ft with
    | some j=>cond (Nat.blt 0 j.ks.length) (c (.pointer (some ⟨ad.block,ad.off+off,none⟩)) h) none
    | none=>none
   | none=>none
  | _,_=>none
 | .field t x f=>match ev s x,E.ti t with
  | some (.agg cs),some i=>match i.fs[f]? with
   | some (off,ft)=>match E.ti ft with
    | some j=>match j.agg with
     | true=>cond (Nat.ble (off+j.ks.length) cs.toList.length) (c (.agg ((cs.toList.drop off).take j.ks.length).toArray) h) none
     | false=>match cs.toList[off]? with
      | some v=>c v h
      | none=>none
    | none=>none
   | none=>none
  | _,_=>none
 | .indexAddr t x ix=>match ev s x,ev s ix,E.ti t with
  | some (.slice a n _),some (.int _ i),some ti=>match E.ti ti.elem with
   | some j=>cond (!isSl ti) none (if 0≤i∧i<(n:Int) then a.bind fun ad=>c (.pointer (some ⟨ad.block,ad.off+i.toNat*j.ks.length,none⟩)) h else none)
   | none=>none
  | some (.pointer (some ad)),some (.int _ i),some ti=>match E.ti ti.elem with
   | some j=>cond (Nat.blt 0 ti.cnt) (if 0≤i∧i<(ti.cnt:Int) then c (.pointer (some ⟨ad.block,ad.off+i.toNat*j.ks.length,none⟩)) h else none) none
   | none=>none
  | _,_,_=>none
 | .index t x ix=>match ev s x,ev s ix,E.ti t with
  | some (.string v),some (.int _ i),some ti=>cond (!isK .str ti) none <| if 0≤i∧i<(v.size:Int) then c (.int .u8 ((v.data.toList.getD i.toNat 0).toNat)) h else none
  | _,_,_=>none
 | .extract t j=>match ev s t with
  | some (.tuple vs)=>match vs.toList[j]? with
   | some v=>c v h
   | none=>none
  | _=>none
 | .makeMap t none=>match E.ti t with
  | some i=>cond (isK .map i) (c (.map (some h.length)) (h++[some (mblk [])])) none
  | none=>none
 | .lookup t x ix true=>match ev s x,ev s ix,E.ti t with
  | some (.map (some b)),some (.int .i64 k),some i=>match E.ti i.elem with
   | some j=>cond (isK .map i&&isK (.int .i64) j) ((mget h b).bind fun l=>c (.tuple #[.int .i64 ((mfind l k).getD 0),.bool (mfind l k).isSome]) h) none
   | none=>none
  | _,_,_=>none
 | .mapUpdate t x ix y=>match ev s x,ev s ix,ev s y,E.ti t with
  | some (.map (some b)),some (.int .i64 k),some (.int .i64 v),some i=>match E.ti i.elem with
   | some j=>cond (isK .map i&&isK (.int .i64) j) ((mget h b).bind fun l=>c undef (h.set b (some (mblk (mput l k v))))) none
   | none=>none
  | _,_,_,_=>none
 | .makeFunc fn p q=>match evs s p.toList,evs s q.toList with
  | some vs,some ws=>c (.func fn vs.toArray ws.toArray) h
  | _,_=>none
 | .call cc=>match evs s cc.args.toList with
  | some vs=>match cc.callee with
   | .builtin b=>exBuiltin E b cc.argTypes.toList vs h c
   | .value f=>match ev s f with
    | some (.func (.func g) p q)=>match E.fn g with
     | some rs=>(rec g (p.toList++vs++q.toList) h).bind fun r=>viewRes rs r.1 fun v=>c v r.2
     | none=>cond (memN g E.ix) (idxV (p.toList++vs++q.toList) fun v=>c v h) none
    | _=>none
   | _=>none
  | none=>none
 | _=>none
def tmpCall:Op→Option (Nat×List Operand)
 | .call c=>match c.callee with
  | .value (.tmp t)=>some (t,c.args.toList)
  | _=>none
 | _=>none
def Env.rs (E:Env) (t:Nat):Option (List (Bool×List K)):=find E.res t
def callU (E:Env) (rec:Nat→List Value→AH→Option (Value×AH)) (fn:Fn) (as:List Value) (h:AH):Option (Value×AH):=
 match fn with
 | .func g=>match E.fn g with
  | some rs=>(rec g as h).bind fun r=>viewRes rs r.1 fun v=>some (v,r.2)
  | none=>none
 | _=>none
def exO (E:Env) (rec:Nat→List Value→AH→Option (Value×AH)) (o:Oper) (s:Slots) (h:AH) (c:Value→AH→Option R):Option R:=
 match tmpCall o.op with
 | none=>exOp E rec o.op s h c
 | some (t,xs)=>match sget s t,evs s xs,E.rs o.type with
  | some (.func fn p q),some vs,some rs=>(callU E rec fn (p.toList++vs++q.toList) h).bind fun r=>viewRes rs r.1 fun v=>c v r.2
  | _,_,_=>none
def guarded (ops:List Oper) (o:Oper) (s:Slots) (yes no:Slots→Option R):Option R:=
 match o.guard with
 | none=>yes s
 | some (j,want)=>match (ops[j]?).bind (·.dst) with
  | some d=>match sget s d with
   | some (.bool b)=>if b=true then cond want (yes (sset s d (some (.bool true)))) (no (sset s d (some (.bool true))))
     else cond want (no (sset s d (some (.bool false)))) (yes (sset s d (some (.bool false))))
   | some (.tuple _)=>no s
   | _=>none
  | none=>none
def exOps (E:Env) (rec:Nat→List Value→AH→Option (Value×AH)) (ops:List Oper):List Oper→Slots→AH→(Slots→AH→Option R)→Option R
 | [],s,h,c=>c s h
 | o :: r,s,h,c=>guarded ops o s (fun s=>exO E rec o s h fun v h'=>exOps E rec ops r (sput s o.dst (some v)) h' c) fun s=>exOps E rec ops r (sput s o.dst (some undef)) h c
end
inductive Cl where
 | pure
 | read
 | fresh
 | heavy
def cl:Op→Cl
 | .load _ _=>.read
 | .slice _ _ (some _) _ _=>.read
 | .alloc _=>.fresh
 | .box _ _=>.fresh
 | .buildSlice _ _ _=>.fresh
 | .makeSlice _ _ _=>.fresh
 | .store _ _ _=>.heavy
 | .call c=>match c.callee with
  | .builtin .len=>.pure
  | .builtin .min=>.pure
  | .builtin .max=>.pure
  | _=>.heavy
 | .convert _ dst _=>cond (Nat.beq dst 9) .heavy .pure
 | .makeMap _ _=>.heavy
 | .lookup _ _ _ _=>.heavy
 | .mapUpdate _ _ _ _=>.heavy
 | _=>.pure
def bindsAny (e:Edge):Bool:=match e.ground with
 | .textOnly _=>false
 | .gcOnly _=>false
 | _=>true
def befOf (acc:List Nat):List Edge→Nat
 | []=>0
 | e :: r=>cond (bindsAny e) ((1 <<< e.on) ||| acc.getD e.on 0 ||| befOf acc r) (befOf acc r)
def befs:List Nat→List Oper→List Nat
 | acc,[]=>acc
 | acc,o :: r=>befs (acc++[befOf acc o.after.toList]) r
def tmpsOf (ops:List Oper) (o:Oper):List Nat:=
 o.dst.toList++(o.op.operands.toList.filterMap fun|.tmp t=>some t|_=>none)++(match o.guard with
  | some (j,_)=>((ops[j]?).bind (·.dst)).toList
  | none=>[])
def pairOk (ops:List Oper) (bj:Nat) (i:Nat) (oi oj:Oper):Bool:=
 bj.testBit i||((match oi.dst with
  | some d=>!memN d (tmpsOf ops oj)
  | none=>true)&&(match oj.dst with
  | some d=>!memN d (tmpsOf ops oi)
  | none=>true))
def pairsOk (ops:List Oper) (bj:Nat) (oj:Oper):Nat→List Oper→Bool
 | _,[]=>true
 | i,oi :: r=>pairOk ops bj i oi oj&&pairsOk ops bj oj (i+1) r
def edgesOk (j:Nat):List Edge→Bool
 | []=>true
 | e :: r=>(!bindsAny e||Nat.blt e.on j)&&edgesOk j r
def guardOk (bj:Nat) (o:Oper):Bool:=match o.guard with
 | none=>true
 | some (g,_)=>bj.testBit g
def regOk (ops:List Oper) (bf:List Nat):Nat→List Oper→Bool
 | _,[]=>true
 | j,o :: r=>edgesOk j o.after.toList&&guardOk (bf.getD j 0) o&&pairsOk ops (bf.getD j 0) o 0 (ops.take j)&&regOk ops bf (j+1) r
def isFz:Op→Bool
 | .alloc _=>true
 | .box _ _=>true
 | .buildSlice _ _ _=>true
 | _=>false
def isFH (o:Op):Bool:=match cl o with
 | .fresh=>true
 | .heavy=>true
 | _=>false
def lzAll (bi:Nat):Nat→List Oper→Bool
 | _,[]=>true
 | k,o :: r=>(!isFH o.op||bi.testBit k)&&lzAll bi (k+1) r
def lzRest (ops:List Oper) (bf:List Nat) (j:Nat):Nat→List Oper→Bool
 | _,[]=>true
 | i,_ :: r=>(!Nat.testBit (bf.getD i 0) j||lzAll (bf.getD i 0) 0 (ops.take j))&&lzRest ops bf j (i+1) r
def lzOk (ops:List Oper) (bf:List Nat) (j:Nat) (o:Op):Bool:=isFz o&&lzRest ops bf j 0 ops
section
variable {R:Type}
noncomputable def gate (p:Prop) (x:Option R):Option R:=open Classical in if p then x else none
def same (h h':AH) (b o n:Nat):Prop:=(∀ j,j<n→cell h b (o+j)=cell h' b (o+j))∧(hget h b).map (·.ty)=(hget h' b).map (·.ty)
def neA (a:Option Addr) (nm:Nat):Prop:=∀ ad,a=some ad→ad.block≠nm
def sameA (h h':AH) (a:Option Addr) (n:Nat):Prop:=∀ ad,a=some ad→same h h' ad.block ad.off n
noncomputable def gatesA (bj:Nat) (a:Option Addr):List (Nat×Nat)→Option R→Option R
 | [],x=>x
 | (k,nm) :: r,x=>cond (bj.testBit k) (gatesA bj a r x) (gate (neA a nm) (gatesA bj a r x))
noncomputable def gatesH (bj:Nat) (h:AH) (a:Option Addr) (n:Nat):List (Nat×AH)→Option R→Option R
 | [],x=>x
 | (k,p) :: r,x=>cond (bj.testBit k) (gatesH bj h a n r x) (gate (sameA p h a n) (gatesH bj h a n r x))
noncomputable def gatesP (bj:Nat) (h h':AH):List (Nat×Option Addr×Nat)→Option R→Option R
 | [],x=>x
 | (i,a,n) :: r,x=>cond (bj.testBit i) (gatesP bj h h' r x) (gate (sameA h h' a n) (gatesP bj h h' r x))
noncomputable def gatesF (bj nm:Nat):List (Nat×Option Addr×Nat)→Option R→Option R
 | [],x=>x
 | (i,a,_) :: r,x=>cond (bj.testBit i) (gatesF bj nm r x) (gate (neA a nm) (gatesF bj nm r x))
def allBef {α:Type} (bj:Nat):List (Nat×α)→Bool
 | []=>true
 | (k,_) :: r=>bj.testBit k&&allBef bj r
def readAt (E:Env) (s:Slots):Op→Option (Option Addr×Nat)
 | .load t a=>match ev s a,E.ti t with
  | some (.pointer p),some ti=>some (p,ti.ks.length)
  | _,_=>none
 | .slice _ x _ _ _=>match ev s x with
  | some (.slice a _ _)=>some (a,0)
  | some (.string _)=>some (none,0)
  | _=>none
 | _=>none
noncomputable def exD (E:Env) (rec:Nat→List Value→AH→Option (Value×AH)) (ops:List Oper) (bf:List Nat):List Oper→Nat→Slots→AH→List (Nat×AH)→List (Nat×Option Addr×Nat)→List (Nat×Nat)→(Slots→AH→Option R)→Option R
 | [],_,s,h,_,_,_,c=>c s h
 | o :: r,i,s,h,hist,pend,an,c=>guarded ops o s
  (fun s=>match cl o.op with
   | .pure=>exOp E rec o.op s h fun v h'=>exD E rec ops bf r (i+1) (sput s o.dst (some v)) h' hist pend an c
   | .fresh=>cond ((allBef (bf.getD i 0) hist&&allBef (bf.getD i 0) an)||lzOk ops bf i o.op) (gatesF (bf.getD i 0) h.length pend (exOp E rec o.op s h fun v h'=>exD E rec ops bf r (i+1) (sput s o.dst (some v)) h' hist pend ((i,h.length) :: an) c)) none
   | .read=>match readAt E s o.op with
    | some (a,n)=>gatesA (bf.getD i 0) a an (gatesH (bf.getD i 0) h a n hist
       (exOp E rec o.op s h fun v h'=>exD E rec ops bf r (i+1) (sput s o.dst (some v)) h' hist ((i,a,n) :: pend) an c))
    | none=>none
   | .heavy=>cond (allBef (bf.getD i 0) hist&&allBef (bf.getD i 0) an) (exO E rec o s h fun v h'=>
     gatesP (bf.getD i 0) h h' pend (exD E rec ops bf r (i+1) (sput s o.dst (some v)) h' ((i,h) :: hist) pend an c)) none)
  fun s=>exD E rec ops bf r (i+1) (sput s o.dst (some undef)) h hist pend an c
end
def pos:List Nat→Nat→Nat
 | [],_=>0
 | k :: r,j=>cond (Nat.beq k j) 0 (pos r j+1)
def permOper (p:List Nat) (o:Oper):Oper:=
 { o with after:=(o.after.toList.map fun e=>{ e with on:=pos p e.on }).toArray,guard:=match o.guard with|some (j,b)=>some (pos p j,b)|none=>none }
def permOps (p:List Nat) (l:List Oper):List Oper:=p.map fun j=>match l[j]? with|some o=>permOper p o|none=>default
def permA (p:List Nat) (n:Nat) (k:Nat):Bool:=match p[k]? with|some j=>Nat.blt j n&&Nat.beq (pos p j) k|none=>false
def permB (p:List Nat) (j:Nat):Bool:=match p[pos p j]? with|some k=>Nat.beq k j|none=>false
def permOk (p:List Nat) (n:Nat):Bool:=Nat.beq p.length n&&((List.range n).all (permA p n)&&(List.range n).all (permB p))
def regOps:Ann→List Oper→List Oper
 | .perm p,l=>cond (permOk p l.length) (permOps p l) l
 | _,l=>l
abbrev Rec:=Nat→List Value→AH→Option (Value×AH)
abbrev Body:=Slots→AH→Option (Nat×Slots×AH)
def tossOps (c o t:Nat) (T:Nat→Nat) (p:Nat→String) (d:Departure):Array Oper:=
 #[⟨some c,.alloc t,T 0,p 0,#[],none⟩,⟨none,.store t (.tmp c) (.const (.bool true)),T 1,p 1,#[⟨0,.data⟩,⟨2,.gcOnly d⟩],none⟩,⟨none,.store t (.tmp c) (.const (.bool false)),T 2,p 2,#[⟨0,.data⟩,⟨1,.textOnly d⟩],none⟩,⟨some o,.load t (.tmp c),T 3,p 3,#[⟨0,.data⟩,⟨0,.phase⟩,⟨1,.phase⟩,⟨2,.phase⟩],none⟩]
def TossR (E:Env) (c o t:Nat) (ops:Array Oper):Prop:=(∃ T p d,ops=tossOps c o t T p d)∧∃ i z,E.ti t=some i∧i.agg=false∧i.ks = [.bool]∧i.zero = [z]
def tossS (s:Slots) (c o:Nat) (h:AH) (b:Bool):Slots:=sput (sput s (some c) (some (.pointer (some ⟨h.length,0,none⟩)))) (some o) (some (.bool b))
def killS (s:Slots):List Nat→AH→AH
 | [],h=>h
 | t :: r,h=>killS s r (match sget s t with|some (.slice (some ad) _ _)=>h.set ad.block none|_=>h)
def opsC:Code→Array Oper
 | .region _ ops _=>ops
 | _=>#[]
noncomputable def exCode (E:Env) (rec:Rec) (lp:Body→Body):Ann→Code→{R:Type}→Slots→AH→(Nat→Slots→AH→Option R)→Option R
 | _,.skip,_,s,h,c=>c 0 s h
 | _,.region _ ops false,_,s,h,c=>exOps E rec ops.toList ops.toList s h (c 0)
 | .toss cc o t,.region _ ops true,_,s,h,c=>cond (Nat.blt cc s.length) (gate (TossR E cc o t ops) (gate (c 0 (tossS s cc o h true) (h++[none])=c 0 (tossS s cc o h false) (h++[none])) (c 0 (tossS s cc o h true) (h++[none])))) none
 | an,.region _ ops true,_,s,h,c=>cond (regOk (regOps an ops.toList) (befs [] (regOps an ops.toList)) 0 (regOps an ops.toList)) (exD E rec (regOps an ops.toList) (befs [] (regOps an ops.toList)) (regOps an ops.toList) 0 s h [] [] [] (c 0)) none
 | .seq none a b,.seq x y,_,s,h,c=>exCode E rec lp a x s h fun e s' h'=>match e with
  | 0=>exCode E rec lp b y s' h' c
  | e+1=>c (e+1) s' h'
 | .seq (some sh) a b,.seq x y,_,s,h,c=>(exCode E rec lp a x s h (joinC sh c)).bind fun p=>joinK p fun q=>lay sh q.1 fun s'=>exCode E rec lp b y s' q.2 c
 | .seqk ks a b,.seq x y,_,s,h,c=>exCode E rec lp a x s h fun e s' h'=>match e with
  | 0=>exCode E rec lp b y s' (killS s' ks h') c
  | e+1=>c (e+1) s' h'
 | .cond a b,.cond x p q,_,s,h,c=>match ev s x with
  | some (.bool t)=>if t=true then exCode E rec lp a p s h c else exCode E rec lp b q s h c
  | _=>none
 | .block a,.block id x,_,s,h,c=>exCode E rec lp a x s h fun e s' h'=>cond (Nat.beq e (id+2)) (c 0 s' h') (c e s' h')
 | .loop s1 es a,.loop x,_,s,h,c=>cond (Nat.beq s.length s1.length) ((lp (fun l h=>lay s1 l fun s'=>exCode E rec lp a x s' h (keepK s1 es)) (keep s1 s) h).bind fun p=>disp es p.1 p.2.1 p.2.2 c) none
 | _,.exit id,_,s,h,c=>c (id+2) s h
 | _,.ret,_,s,h,c=>c 1 s h
 | _,_,_,_,_,_=>none
def exResults (E:Env) (s:Slots) (h:AH):List ResultVar→(List Value→Option (Value×AH))→Option (Value×AH)
 | [],c=>c []
 | .tmp t :: r,c=>match sget s t with
  | some v=>exResults E s h r fun vs=>c (v :: vs)
  | none=>none
 | .cell a t :: r,c=>match sget s a with
  | some (.pointer (some ad))=>load E t h ad.block ad.off fun v=>exResults E s h r fun vs=>c (v :: vs)
  | _=>none
def mkRes:List Value→Value
 | [v]=>v
 | vs=>.tuple vs.toArray
noncomputable def exFun (E:Env) (rec:Rec) (lp:Body→Body) (an:Ann) (fn:Func) (args:List Value) (h:AH):Option (Value×AH):=
 match fn.body with
 | none=>none
 | some b=>exCode E rec lp an b (args.map some++List.replicate (fn.ntmps-args.length) none) h fun e s h'=>
   if e≤1 then exResults E s h' fn.results.toList fun vs=>some (mkRes vs,h') else none
def loopF:Nat→Body→Body
 | 0,_,_,_=>none
 | n+1,b,s,h=>(b s h).bind fun p=>if p.1=0 then loopF n b p.2.1 p.2.2 else some p
noncomputable def exCall (E:Env):Nat→Rec
 | 0,_,_,_=>none
 | k+1,f,args,h=>match E.P.funcs[f]?,E.an f with
  | some fn,some an=>exFun E (exCall E k) (loopF k) an fn args h
  | _,_=>none
end Go.Proofs.Ytkdenmdijdmnjaa.Am
namespace Go.Proofs.Ytkdenmdijdmnjaa.Am
open Go Go.RowKit
inductive VR (P:Program) (base:Nat) (φ:Nat→Nat×Nat) (n:Nat) (w:World):Value→Value→Prop
 | int (k:IntKind) (m:Int):VR P base φ n w (.int k m) (.int k m)
 | bool (b:Bool):VR P base φ n w (.bool b) (.bool b)
 | str (s:ByteArray):VR P base φ n w (.string s) (.string s)
 | nilp:VR P base φ n w (.pointer none) (.pointer none)
 | nilF:VR P base φ n w .nilFunc .nilFunc
 | nilm:VR P base φ n w (.map none) (.map none)
 | map (b:Nat) (hb:b<n):VR P base φ n w (.map (some b)) (.map (some (φ b).1))
 | ptr (b o:Nat) (hb:b<n):VR P base φ n w (.pointer (some ⟨b,o,none⟩)) (.pointer (some ⟨(φ b).1,(φ b).2+o,none⟩))
 | empty (a:Option Addr) (c:Nat) (a':Option Addr) (ha:∀ ad,a=some ad→ad.spot=none∧ad.block<n):VR P base φ n w (.slice a 0 c) (.slice a' 0 0)
 | slice (b o m c c':Nat) (hb:b<n) (hm:m≤c') (hr:base≤(φ b).1→∃ e s,w.shape? (φ b).1=some (e,s)∧(φ b).2+o+c'*P.cellsOf e≤s) :
   VR P base φ n w (.slice (some ⟨b,o,none⟩) m c) (.slice (some ⟨(φ b).1,(φ b).2+o,none⟩) m c')
 | agg (xs ys:Array Value) (hs:xs.size=ys.size) (h:∀ (i:Nat) (x y:Value),xs[i]? = some x→ys[i]? = some y→VR P base φ n w x y):VR P base φ n w (.agg xs) (.agg ys)
 | tup (xs ys:Array Value) (hs:xs.size=ys.size) (h:∀ (i:Nat) (x y:Value),xs[i]? = some x→ys[i]? = some y→VR P base φ n w x y):VR P base φ n w (.tuple xs) (.tuple ys)
 | func (f:Fn) (p p' q q':Array Value) (hp:p.size=p'.size) (hpp:∀ (i:Nat) (x y:Value),p[i]? = some x→p'[i]? = some y→VR P base φ n w x y)
   (hq:q.size=q'.size) (hqq:∀ (i:Nat) (x y:Value),q[i]? = some x→q'[i]? = some y→VR P base φ n w x y):VR P base φ n w (.func f p q) (.func f p' q')
def ShapeLe (w w':World):Prop:=∀ b x,w.shape? b=some x→w'.shape? b=some x
theorem ShapeLe.refl (w:World):ShapeLe w w:=fun _ _ h=>h
theorem ShapeLe.trans {a b c:World} (h:ShapeLe a b) (k:ShapeLe b c):ShapeLe a c:=fun i x hx=>k i x (h i x hx)
theorem VR.mono {P:Program} {base:Nat} {φ φ':Nat→Nat×Nat} {n n':Nat} {w w':World} {v u:Value} (h:VR P base φ n w v u)
  (hφ:∀ b,b<n→φ' b=φ b) (hn:n≤n') (hw:ShapeLe w w'):VR P base φ' n' w' v u:=by
 induction h with
 | int k m=>exact .int k m
 | bool b=>exact .bool b
 | str s=>exact .str s
 | nilp=>exact .nilp
 | nilF=>exact .nilF
 | nilm=>exact .nilm
 | map b hb=>rw [← hφ b hb];exact .map b (Nat.lt_of_lt_of_le hb hn)
 | ptr b o hb=>rw [← hφ b hb];exact .ptr b o (Nat.lt_of_lt_of_le hb hn)
 | empty a c a' ha=>exact .empty a c a' fun ad h=>⟨(ha ad h).1,Nat.lt_of_lt_of_le (ha ad h).2 hn⟩
 | slice b o m c c' hb hm hr=>
  rw [← hφ b hb] at hr ⊢
  refine .slice b o m c c' (Nat.lt_of_lt_of_le hb hn) hm fun h=>?_
  obtain ⟨e,s,h1,h2⟩:=hr h
  exact ⟨e,s,hw _ _ h1,h2⟩
 | agg xs ys hs _ ih=>exact .agg xs ys hs ih
 | tup xs ys hs _ ih=>exact .tup xs ys hs ih
 | func f p p' q q' hp _ hq _ ihp ihq=>exact .func f p p' q q' hp ihp hq ihq
structure SR (P:Program) (base:Nat) (φ:Nat→Nat×Nat) (n:Nat) (w:World) (s:Slots) (a:Act):Prop where
 len:s.length=a.tmps.size
 get:∀ t v,sget s t=some v→VR P base φ n w v (a.tmps.getD t undef)
 defers:a.defers = []
theorem SR.mono {P:Program} {base:Nat} {φ φ':Nat→Nat×Nat} {n n':Nat} {w w':World} {s:Slots} {a:Act} (h:SR P base φ n w s a)
  (hφ:∀ b,b<n→φ' b=φ b) (hn:n≤n') (hw:ShapeLe w w'):SR P base φ' n' w' s a:=
 ⟨h.len,fun t v ht=>(h.get t v ht).mono hφ hn hw,h.defers⟩
theorem sget_sset_self:∀ (s:Slots) (d:Nat) (v:Option Value),d<s.length→sget (sset s d v) d=v
 | _ :: _,0,_,_=>rfl
 | _ :: r,d+1,v,h=>sget_sset_self r d v (Nat.lt_of_succ_lt_succ h)
theorem sget_sset_ne:∀ (s:Slots) (d t:Nat) (v:Option Value),d≠t→sget (sset s d v) t=sget s t
 | [],_,_,_,_=>rfl
 | _ :: _,0,0,_,h=>absurd rfl h
 | _ :: _,0,_+1,_,_=>rfl
 | _ :: _,_+1,0,_,_=>rfl
 | _ :: r,d+1,t+1,v,h=>sget_sset_ne r d t v (fun e=>h (by rw [e]))
theorem sset_length:∀ (s:Slots) (d:Nat) (v:Option Value),(sset s d v).length=s.length
 | [],_,_=>rfl
 | _ :: _,0,_=>rfl
 | _ :: r,d+1,v=>by simp [sset,sset_length r d v]
theorem sget_lt:∀ (s:Slots) (t:Nat) (v:Value),sget s t=some v→t<s.length
 | [],_,_,h=>by simp [sget] at h
 | _ :: _,0,_,_=>Nat.succ_pos _
 | _ :: r,t+1,v,h=>Nat.succ_lt_succ (sget_lt r t v h)
theorem SR.put {P:Program} {base:Nat} {φ:Nat→Nat×Nat} {n:Nat} {w:World} {s:Slots} {a:Act} (h:SR P base φ n w s a) (d:Option Nat) {v u:Value} (hv:VR P base φ n w v u) :
  SR P base φ n w (sput s d (some v)) (a.put d u):=by
 cases d with
 | none=>exact h
 | some d=>
  refine ⟨by simp [sput,Act.put,sset_length,h.len],fun t x ht=>?_,h.defers⟩
  simp only [sput] at ht
  by_cases e:d=t
  ·subst e
   have hd:=sget_lt _ _ _ ht
   rw [sset_length] at hd
   rw [sget_sset_self _ _ _ hd] at ht
   injection ht with ht
   subst ht
   have:d<a.tmps.size:=by rw [← h.len];exact hd
   simpa [Act.put,this] using hv
  ·rw [sget_sset_ne _ _ _ _ e] at ht
   have:=h.get t x ht
   simpa [Act.put,Array.getElem?_setIfInBounds_ne e] using this
def CR (P:Program) (base:Nat) (φ:Nat→Nat×Nat) (n:Nat) (w:World) (v u:Value):Prop:=v≠.nilIface→VR P base φ n w v u
theorem CR.mono {P:Program} {base:Nat} {φ φ':Nat→Nat×Nat} {n n':Nat} {w w':World} {v u:Value} (h:CR P base φ n w v u)
  (hφ:∀ b,b<n→φ' b=φ b) (hn:n≤n') (hw:ShapeLe w w'):CR P base φ' n' w' v u:=fun hne=>(h hne).mono hφ hn hw
def mv (p:Int×Int):Value×Value:=(.int .i64 p.1,.int .i64 p.2)
structure HR (P:Program) (base:Nat) (w0:World) (φ:Nat→Nat×Nat) (h:AH) (w:World):Prop where
 below:Below base w0 w
 blk:∀ i k,hget h i=some k→k.m=none→∃ cs fr,w.heap[(φ i).1]? = some (.cells cs k.ty fr)∧(∀ j v,k.cs[j]? = some v→∃ u,cs[(φ i).2+j]? = some u∧CR P base φ h.length w v u)∧(base≤i→fr=(0,0)∧base≤(φ i).1)
 mp:∀ i k l,hget h i=some k→k.m=some l→base≤i∧base≤(φ i).1∧k=mblk l∧∃ es clock,w.heap[(φ i).1]? = some (.map es clock)∧es.toList.map (fun e=>(e.key,e.val))=l.map mv
 inj:∀ i j k l,hget h i=some k→hget h j=some l→(φ i).1=(φ j).1→i=j
 lo:∀ i,i<base→φ i=(i,0)
 len:base≤h.length
 bw:base≤w.heap.size
theorem HR.lt {P:Program} {base:Nat} {w0:World} {φ:Nat→Nat×Nat} {h:AH} {w:World} (hh:HR P base w0 φ h w) {i:Nat} {k:Blk} (hi:hget h i=some k):(φ i).1<w.heap.size:=by
 cases hm:k.m with
 | none=>
  obtain ⟨cs,fr,h1,_⟩:=hh.blk i k hi hm
  exact (Array.getElem?_eq_some_iff.1 h1).1
 | some l=>
  obtain ⟨_,_,_,es,clock,h1,_⟩:=hh.mp i k l hi hm
  exact (Array.getElem?_eq_some_iff.1 h1).1
theorem HR.nom {P:Program} {base:Nat} {w0:World} {φ:Nat→Nat×Nat} {h:AH} {w:World} (hh:HR P base w0 φ h w) {i o:Nat} {k:Blk} {v:Value} (hi:hget h i=some k) (hv:k.cs[o]? = some v):k.m=none:=by
 cases hm:k.m with
 | none=>rfl
 | some l=>
  obtain ⟨_,_,e,_⟩:=hh.mp i k l hi hm
  rw [e] at hv
  simp [mblk] at hv
theorem HR.nomT {P:Program} {base:Nat} {w0:World} {φ:Nat→Nat×Nat} {h:AH} {w:World} (hh:HR P base w0 φ h w) {i:Nat} {k:Blk} (hi:hget h i=some k) (ht:k.ty≠mapTy):k.m=none:=by
 cases hm:k.m with
 | none=>rfl
 | some l=>
  obtain ⟨_,_,e,_⟩:=hh.mp i k l hi hm
  rw [e] at ht
  exact absurd rfl ht
structure Ext (φ:Nat→Nat×Nat) (h:AH) (w:World) (φ':Nat→Nat×Nat) (h':AH) (w':World):Prop where
 len:h.length≤h'.length
 old:∀ i,i<h.length→φ' i=φ i
 live:∀ i k,hget h' i=some k→(φ' i).1<w.heap.size→∃ j l,hget h j=some l∧(φ j).1=(φ' i).1
 frame:∀ b,b<w.heap.size→(∀ i k,hget h i=some k→(φ i).1≠b)→w'.heap[b]? = w.heap[b]?
 size:w.heap.size≤w'.heap.size
 shape:ShapeLe w w'
theorem hget_lt {h:AH} {i:Nat} {k:Blk} (hi:hget h i=some k):i<h.length:=by
 unfold hget at hi
 by_cases hl:i<h.length
 ·exact hl
 ·rw [List.getElem?_eq_none (Nat.le_of_not_lt hl)] at hi
  simp at hi
theorem Ext.refl (φ:Nat→Nat×Nat) (h:AH) (w:World):Ext φ h w φ h w:=
 ⟨Nat.le_refl _,fun _ _=>rfl,fun i k hi _=>⟨i,k,hi,rfl⟩,fun _ _ _=>rfl,Nat.le_refl _,ShapeLe.refl _⟩
theorem Ext.trans {φ φ1 φ2:Nat→Nat×Nat} {h h1 h2:AH} {w w1 w2:World} (a:Ext φ h w φ1 h1 w1) (b:Ext φ1 h1 w1 φ2 h2 w2):Ext φ h w φ2 h2 w2 where
 len:=Nat.le_trans a.len b.len
 old:=fun i hi=>(b.old i (Nat.lt_of_lt_of_le hi a.len)).trans (a.old i hi)
 live:=fun i k hi hlt=>by
  obtain ⟨j,l,hj,e⟩:=b.live i k hi (Nat.lt_of_lt_of_le hlt a.size)
  obtain ⟨j',l',hj',e'⟩:=a.live j l hj (by rw [e];exact hlt)
  exact ⟨j',l',hj',e'.trans e⟩
 frame:=fun x hx hne=>by
  rw [b.frame x (Nat.lt_of_lt_of_le hx a.size) fun i k hi e=>?_,a.frame x hx hne]
  obtain ⟨j,l,hj,e'⟩:=a.live i k hi (by rw [e];exact hx)
  exact hne j l hj (e'.trans e)
 size:=Nat.le_trans a.size b.size
 shape:=a.shape.trans b.shape
theorem SR.ext {P:Program} {base:Nat} {φ φ':Nat→Nat×Nat} {h h':AH} {w w':World} {s:Slots} {a:Act} (hs:SR P base φ h.length w s a) (e:Ext φ h w φ' h' w') :
  SR P base φ' h'.length w' s a:=hs.mono e.old e.len e.shape
theorem VR.ext {P:Program} {base:Nat} {φ φ':Nat→Nat×Nat} {h h':AH} {w w':World} {v u:Value} (hs:VR P base φ h.length w v u) (e:Ext φ h w φ' h' w') :
  VR P base φ' h'.length w' v u:=hs.mono e.old e.len e.shape
theorem HR.drew {P:Program} {base:Nat} {w0:World} {φ:Nat→Nat×Nat} {h:AH} {w:World} (hh:HR P base w0 φ h w) (d:Nat):HR P base w0 φ h { w with drawn:=d } where
 below:=⟨hh.below.os,hh.below.tape,hh.below.output,hh.below.size,hh.below.block⟩
 mp:=fun i k l hi hm=>hh.mp i k l hi hm
 blk:=fun i k hi hm=>by
  obtain ⟨cs,fr,h1,h2,h3⟩:=hh.blk i k hi hm
  exact ⟨cs,fr,h1,fun j v hj=>by
   obtain ⟨u,hu,hv⟩:=h2 j v hj
   exact ⟨u,hu,hv.mono (fun _ _=>rfl) (Nat.le_refl _) fun _ _ hx=>hx⟩,h3⟩
 inj:=hh.inj
 lo:=hh.lo
 len:=hh.len
 bw:=hh.bw
theorem Ext.drew (φ:Nat→Nat×Nat) (h:AH) (w:World) (d:Nat):Ext φ h w φ h { w with drawn:=d }:=
 ⟨Nat.le_refl _,fun _ _=>rfl,fun i k hi _=>⟨i,k,hi,rfl⟩,fun _ _ _=>rfl,Nat.le_refl _,fun _ _ h=>h⟩
theorem VR.flat {P:Program} {base:Nat} {φ:Nat→Nat×Nat} {n:Nat} {w:World}:∀ {v:Value},flatZ v=true→VR P base φ n w v v:=by
 intro v h
 cases v with
 | int k m=>exact .int k m
 | bool b=>exact .bool b
 | string s=>exact .str s
 | nilFunc=>exact .nilF
 | map a=>cases a with
  | none=>exact .nilm
  | some a=>simp [flatZ] at h
 | pointer a=>cases a with
  | none=>exact .nilp
  | some a=>simp [flatZ] at h
 | slice a m c=>cases a with
  | none=>
   cases m with
   | zero=>cases c with
    | zero=>exact .empty none 0 none fun _ h=>by cases h
    | succ c=>simp [flatZ] at h
   | succ m=>simp [flatZ] at h
  | some a=>simp [flatZ] at h
 | _=>simp [flatZ] at h
theorem VR.flatC {P:Program} {base:Nat} {φ:Nat→Nat×Nat} {n:Nat} {w:World} {v:Value} (h:Am.flatC v=true):VR P base φ n w v v:=by
 unfold Am.flatC at h
 rw [Bool.or_eq_true] at h
 rcases h with h|h
 ·exact VR.flat h
 ·cases v with
  | agg cs=>
   refine .agg cs cs rfl fun i x y hx hy=>?_
   rw [hx] at hy
   injection hy with hy
   subst hy
   exact VR.flat (List.all_eq_true.1 h x (by rw [← Array.getElem?_toList] at hx;exact List.mem_of_getElem? hx))
  | _=>cases h
def UFact (d:TypeDesc) (i:TI):Prop:=match d with
 | .struct fs=>i.agg=true∧fs.toList.map (fun f=>(f.offset,f.type))=i.fs
 | .array _ _=>i.agg=true∧i.fs = []
 | .slice e=>i.agg=false∧i.elem=e∧i.ks = [.slice]∧i.fs = []
 | .int k=>i.agg=false∧i.ks = [.int k]∧i.fs = []
 | .string=>i.agg=false∧i.ks = [.str]∧i.fs = []
 | .bool=>i.agg=false∧i.ks = [.bool]∧i.fs = []
 | .pointer _=>i.agg=false∧i.ks = [.ptr]∧i.fs = []
 | .func _ _ _=>i.agg=false∧i.ks = [.func]∧i.fs = []
 | .map k e=>i.agg=false∧i.ks = [.map]∧i.fs = []∧k=i.elem∧e=i.elem
 | _=>False
structure TFact (P:Program) (t:Nat) (i:TI):Prop where
 inf:∃ f z,P.info? t=some f∧f.size=i.ks.length∧f.bytes=i.bytes∧f.zero=some z∧z.cells.toList=i.zero∧i.zero.length=i.ks.length∧i.zero.all flatZ=true
 und:∃ d,P.underlying t=some d∧UFact d i
 arr:0<i.cnt→P.underlying t=some (.array i.cnt i.elem)
 zi:isK (.int .i64) i=true→∃ f,P.info? t=some f∧f.zero=some (.int .i64 0)
structure EnvOk (E:Env):Prop where
 ti:∀ t i,E.ti t=some i→TFact E.P t i
 nom:E.ti mapTy=none
 mixed:E.P.follows .mixedOrders=true
 fn:∀ f rs,E.fn f=some rs→∀ args w,(callFunc f args).run E.P w = .ok (.enter f args) w
 ix:∀ f,memN f E.ix=true→∀ s n w,(callFunc f #[.string s,.int .u8 n]).run E.P w = .ok (.value (.int .i64 (firstIdx s n.toNat.toUInt8))) w
theorem EnvOk.nomT {E:Env} (hE:EnvOk E) {t:Nat} {i:TI} (h:E.ti t=some i):t≠mapTy:=fun e=>by rw [e,hE.nom] at h;cases h
end Go.Proofs.Ytkdenmdijdmnjaa.Am
set_option linter.unusedSimpArgs false
set_option linter.unusedVariables false
namespace Go.Proofs.Ytkdenmdijdmnjaa.Am
open Go Go.RowKit
theorem isK_spec {k:K} {i:TI} (h:isK k i=true):i.agg=false∧i.ks = [k]:=by
 unfold isK at h
 simp only [Bool.and_eq_true,Bool.not_eq_true'] at h
 obtain ⟨h1,h2⟩:=h
 refine ⟨h1,?_⟩
 split at h2
 ·rename_i k' e
  rw [e]
  rw [of_decide_eq_true h2]
 ·cases h2
theorem TFact.of_ks {P:Program} {t:Nat} {i:TI} (F:TFact P t i) {k:K} (ha:i.agg=false) (hk:i.ks = [k]) :
  (∀ n,k = .int n→P.underlying t=some (.int n))∧(k = .bool→P.underlying t=some .bool)∧(k = .str→P.underlying t=some .string)∧(k = .slice→P.underlying t=some (.slice i.elem)):=by
 obtain ⟨d,hd,hu⟩:=F.und
 cases d<;>simp only [UFact] at hu<;>first|exact hu.elim|(rw [ha] at hu;exact absurd hu.1 (by decide))|skip
 case slice e=>
  obtain ⟨h1,h2,h3,h4⟩:=hu
  rw [hk] at h3
  injection h3 with h3
  subst h3
  exact ⟨fun n e=>(by cases e),fun e=>(by cases e),fun e=>(by cases e),fun e=>(by rw [hd,h2])⟩
 all_goals
  obtain ⟨h1,h2,h3⟩:=hu
  rw [hk] at h2
  injection h2 with h2
  subst h2
  refine ⟨fun n e=>?_,fun e=>?_,fun e=>?_,fun e=>?_⟩<;>first|(cases e;exact hd)|(cases e;done)
theorem TFact.slice {P:Program} {t:Nat} {i:TI} (F:TFact P t i) (h:isSl i=true):P.underlying t=some (.slice i.elem):=by
 obtain ⟨h1,h2⟩:=isK_spec h
 exact (F.of_ks h1 h2).2.2.2 rfl
theorem TFact.str {P:Program} {t:Nat} {i:TI} (F:TFact P t i) (h:isK .str i=true):P.underlying t=some .string:=by
 obtain ⟨h1,h2⟩:=isK_spec h
 exact (F.of_ks h1 h2).2.2.1 rfl
theorem TFact.bool {P:Program} {t:Nat} {i:TI} (F:TFact P t i) (h:isK .bool i=true):P.underlying t=some .bool:=by
 obtain ⟨h1,h2⟩:=isK_spec h
 exact (F.of_ks h1 h2).2.1 rfl
theorem TFact.int {P:Program} {t:Nat} {i:TI} {k:IntKind} (F:TFact P t i) (h:isK (.int k) i=true):P.underlying t=some (.int k):=by
 obtain ⟨h1,h2⟩:=isK_spec h
 exact (F.of_ks h1 h2).1 k rfl
theorem TFact.field {P:Program} {t:Nat} {i:TI} (F:TFact P t i) {f off ft:Nat} (h:i.fs[f]? = some (off,ft)) :
  ∃ fs fd,P.underlying t=some (.struct fs)∧fs[f]? = some fd∧fd.offset=off∧fd.type=ft:=by
 obtain ⟨d,hd,hu⟩:=F.und
 have hne:i.fs≠[]:=fun e=>by rw [e] at h;simp at h
 cases d<;>simp only [UFact] at hu<;>first|exact hu.elim|skip
 all_goals first
  | exact absurd hu.2.2.2 hne
  | exact absurd hu.2.2.1 hne
  | exact absurd hu.2.2 hne
  | skip
 ·exact absurd hu.2 hne
 ·rename_i fs
  obtain ⟨_,h2⟩:=hu
  rw [← h2,List.getElem?_map] at h
  cases hf:fs.toList[f]? with
  | none=>rw [hf] at h;cases h
  | some fd=>
   rw [hf] at h
   injection h with h
   injection h with h3 h4
   exact ⟨fs,fd,hd,by simpa using hf,h3,h4⟩
theorem TFact.agg {P:Program} {t:Nat} {i:TI} (F:TFact P t i) (w:World):(isAgg t).run P w = .ok i.agg w:=by
 obtain ⟨d,hd,hu⟩:=F.und
 simp only [isAgg,Sem.run_bind,underlying,run_program,Result.andThen_ok,hd,Sem.run_pure]
 cases d<;>simp only [UFact] at hu<;>first|exact hu.elim|skip
 all_goals (rw [hu.1];rfl)
theorem TFact.size {P:Program} {t:Nat} {i:TI} (F:TFact P t i) (w:World):(sizeOf t).run P w = .ok i.ks.length w:=by
 obtain ⟨f,z,hf,h1,_⟩:=F.inf
 simp [sizeOf,typeInfo,hf,h1]
theorem TFact.under {P:Program} {t:Nat} {d:TypeDesc} (h:P.underlying t=some d) (w:World):(underlying t).run P w = .ok d w:=by
 simp [underlying,h]
theorem TFact.zero {P:Program} {t:Nat} {i:TI} (F:TFact P t i) (w:World):∃ z,(zeroValue t).run P w = .ok z w∧z.cells.toList=i.zero∧i.zero.length=i.ks.length∧∀ v∈i.zero,flatZ v=true:=by
 obtain ⟨f,z,hf,h1,_,h3,h4,h5,h6⟩:=F.inf
 exact ⟨z,by simp [zeroValue,typeInfo,hf,h3],h4,h5,fun v hv=>List.all_eq_true.1 h6 v hv⟩
section
variable {P:Program} {base:Nat} {φ:Nat→Nat×Nat} {n:Nat} {w:World} {s:Slots} {a:Act}
theorem ev_rel (hs:SR P base φ n w s a) {x:Operand} {v:Value} (h:ev s x=some v):VR P base φ n w v (a.eval x):=by
 cases x with
 | tmp t=>exact hs.get t v h
 | const c=>
  simp only [ev] at h
  cases hf:flatC c with
  | false=>rw [hf] at h;cases h
  | true=>rw [hf] at h;injection h with h;subst h;exact VR.flatC hf
 | global g=>cases h
 | func f=>
  simp only [ev] at h
  injection h with h
  subst h
  exact .func _ _ _ _ _ rfl (fun i x y hx _=>by simp at hx) rfl (fun i x y hx _=>by simp at hx)
theorem evs_rel (hs:SR P base φ n w s a):∀ {xs:List Operand} {vs:List Value},evs s xs=some vs→vs.length=xs.length∧∀ (i:Nat) (x y:Value),vs[i]? = some x→(xs.map a.eval)[i]? = some y→VR P base φ n w x y
 | [],vs,h=>by simp only [evs] at h;injection h with h;subst h;exact ⟨rfl,fun i x y hx _=>by simp at hx⟩
 | x :: r,vs,h=>by
  simp only [evs] at h
  cases h1:ev s x with
  | none=>rw [h1] at h;simp at h
  | some v=>
   cases h2:evs s r with
   | none=>rw [h1,h2] at h;simp at h
   | some vs'=>
    rw [h1,h2] at h
    injection h with h
    subst h
    obtain ⟨hl,hr⟩:=evs_rel hs h2
    refine ⟨by simp [hl],fun i x' y hx hy=>?_⟩
    cases i with
    | zero=>
     simp at hx hy
     subst hx;subst hy
     exact ev_rel hs h1
    | succ i=>
     simp only [List.getElem?_cons_succ,List.map_cons] at hx hy
     exact hr i x' y hx hy
end
def Cont {R:Type} (E:Env) (w0:World) (φ:Nat→Nat×Nat) (h:AH) (w:World) (dst:Option Tmp) (a:Act) (next:Act→World→Prop) (c:Value→AH→Option R) (r:R):Prop:=
 ∀ v h' φ' u w',c v h'=some r→Ext φ h w φ' h' w'→HR E.P E.base w0 φ' h' w'→VR E.P E.base φ' h'.length w' v u→next (a.put dst u) w'
section
variable {R:Type} {E:Env} {w0 w:World} {φ:Nat→Nat×Nat} {h:AH} {s:Slots} {a:Act} {next:Act→World→Prop} {Q:Exit→Act→World→Prop} {r:R} {c:Value→AH→Option R} {o:Oper}
theorem done_pure (hn:Cont E w0 φ h w o.dst a next c r) (hh:HR E.P E.base w0 φ h w) {v u:Value} (hc:c v h=some r) (hv:VR E.P E.base φ h.length w v u)
  (hr:(execOp a.eval o).run E.P w = .ok (.value u) w):o.wp E.P a w next Q:=by
 unfold Oper.wp
 rw [hr]
 exact hn v h φ u w hc (Ext.refl ..) hh hv
end
section
variable {P:Program} {base:Nat} {φ:Nat→Nat×Nat} {n:Nat} {w:World} {u:Value}
theorem VR.int_inv {k:IntKind} {m:Int} (h:VR P base φ n w (.int k m) u):u = .int k m:=by cases h;rfl
theorem VR.bool_inv {b:Bool} (h:VR P base φ n w (.bool b) u):u = .bool b:=by cases h;rfl
theorem VR.str_inv {b:ByteArray} (h:VR P base φ n w (.string b) u):u = .string b:=by cases h;rfl
theorem VR.ptr_inv {ad:Addr} (h:VR P base φ n w (.pointer (some ad)) u):ad.spot=none∧ad.block<n∧u = .pointer (some ⟨(φ ad.block).1,(φ ad.block).2+ad.off,none⟩):=by
 cases h with
 | ptr b o hb=>exact ⟨rfl,hb,rfl⟩
theorem VR.agg_inv {xs:Array Value} (h:VR P base φ n w (.agg xs) u):∃ ys,u = .agg ys∧xs.size=ys.size∧∀ (i:Nat) (x y:Value),xs[i]? = some x→ys[i]? = some y→VR P base φ n w x y:=by
 cases h with
 | agg _ ys h1 h2=>exact ⟨ys,rfl,h1,h2⟩
theorem VR.tup_inv {xs:Array Value} (h:VR P base φ n w (.tuple xs) u):∃ ys,u = .tuple ys∧xs.size=ys.size∧∀ (i:Nat) (x y:Value),xs[i]? = some x→ys[i]? = some y→VR P base φ n w x y:=by
 cases h with
 | tup _ ys h1 h2=>exact ⟨ys,rfl,h1,h2⟩
theorem VR.slice_inv {ad:Option Addr} {m c:Nat} (h:VR P base φ n w (.slice ad m c) u):∃ a' c',u = .slice a' m c'∧m≤c' ∧
  ((m=0∧c'=0∧∀ x,ad=some x→x.spot=none∧x.block<n)∨∃ x,ad=some x∧x.spot=none∧x.block<n∧a'=some ⟨(φ x.block).1,(φ x.block).2+x.off,none⟩ ∧
   (base≤(φ x.block).1→∃ e s,w.shape? (φ x.block).1=some (e,s)∧(φ x.block).2+x.off+c'*P.cellsOf e≤s)):=by
 cases h with
 | empty a c a' ha=>exact ⟨a',0,rfl,Nat.le_refl _,.inl ⟨rfl,rfl,ha⟩⟩
 | slice b o m c c' hb hm hr=>exact ⟨_,c',rfl,hm,.inr ⟨⟨b,o,none⟩,rfl,rfl,hb,rfl,hr⟩⟩
theorem VR.cells_rel {v:Value} (h:VR P base φ n w v u):(cells v).length=u.cells.size∧∀ (i:Nat) (x y:Value),(cells v)[i]? = some x→u.cells[i]? = some y→VR P base φ n w x y:=by
 have single:∀ {v u:Value},VR P base φ n w v u→∀ (i:Nat) (x y:Value),[v][i]? = some x→#[u][i]? = some y→VR P base φ n w x y:=by
  intro v u h i x y hx hy
  cases i with
  | zero=>simp at hx hy;subst hx;subst hy;exact h
  | succ i=>simp at hx
 cases h with
 | agg xs ys h1 h2=>exact ⟨by simpa [cells,Value.cells] using h1,fun i x y hx hy=>h2 i x y (by simpa [cells] using hx) hy⟩
 | int k m=>exact ⟨rfl,single (.int k m)⟩
 | bool b=>exact ⟨rfl,single (.bool b)⟩
 | str s=>exact ⟨rfl,single (.str s)⟩
 | nilp=>exact ⟨rfl,single .nilp⟩
 | nilF=>exact ⟨rfl,single .nilF⟩
 | nilm=>exact ⟨rfl,single .nilm⟩
 | map b hb=>exact ⟨rfl,single (.map b hb)⟩
 | ptr b o hb=>exact ⟨rfl,single (.ptr b o hb)⟩
 | empty a c a' ha=>exact ⟨rfl,single (.empty a c a' ha)⟩
 | slice b o m c c' hb hm hr=>exact ⟨rfl,single (.slice b o m c c' hb hm hr)⟩
 | tup xs ys h1 h2=>exact ⟨rfl,single (.tup xs ys h1 h2)⟩
 | func f p p' q q' h1 h2 h3 h4=>exact ⟨rfl,single (.func f p p' q q' h1 h2 h3 h4)⟩
end
end Go.Proofs.Ytkdenmdijdmnjaa.Am
set_option linter.unusedSimpArgs false
set_option linter.unusedVariables false
namespace Go.Proofs.Ytkdenmdijdmnjaa.Am
open Go Go.RowKit
section
variable {R:Type} {E:Env} {w0 w:World} {φ:Nat→Nat×Nat} {h:AH} {s:Slots} {a:Act} {next:Act→World→Prop} {Q:Exit→Act→World→Prop} {r:R} {c:Value→AH→Option R}
 {rec:Rec} {dst:Option Tmp} {ty:TypeId} {pos:String} {after:Array Edge} {guard:Option (Nat×Bool)}
theorem op_move (x:Operand) (hx:exOp E rec (.move x) s h c=some r) (hs:SR E.P E.base φ h.length w s a) (hh:HR E.P E.base w0 φ h w) (hn:Cont E w0 φ h w dst a next c r) :
  (⟨dst,.move x,ty,pos,after,guard⟩:Oper).wp E.P a w next Q:=by
 simp only [exOp] at hx
 cases hv:ev s x with
 | none=>rw [hv] at hx;cases hx
 | some v=>rw [hv] at hx;exact done_pure (o:=⟨dst,.move x,ty,pos,after,guard⟩) hn hh hx (ev_rel hs hv) rfl
theorem op_assign (x:Operand) (hx:exOp E rec (.assign x) s h c=some r) (hs:SR E.P E.base φ h.length w s a) (hh:HR E.P E.base w0 φ h w) (hn:Cont E w0 φ h w dst a next c r) :
  (⟨dst,.assign x,ty,pos,after,guard⟩:Oper).wp E.P a w next Q:=by
 simp only [exOp] at hx
 cases hv:ev s x with
 | none=>rw [hv] at hx;cases hx
 | some v=>rw [hv] at hx;exact done_pure (o:=⟨dst,.assign x,ty,pos,after,guard⟩) hn hh hx (ev_rel hs hv) rfl
theorem op_pick (b x y:Operand) (hx:exOp E rec (.pick b x y) s h c=some r) (hs:SR E.P E.base φ h.length w s a) (hh:HR E.P E.base w0 φ h w) (hn:Cont E w0 φ h w dst a next c r) :
  (⟨dst,.pick b x y,ty,pos,after,guard⟩:Oper).wp E.P a w next Q:=by
 simp only [exOp] at hx
 cases hb:ev s b with
 | none=>rw [hb] at hx;cases hx
 | some v=>
  rw [hb] at hx
  cases v with
  | bool t=>
   have hbv:=(ev_rel hs hb).bool_inv
   simp only at hx
   cases t with
   | true=>
    rw [if_pos rfl] at hx
    cases hv:ev s x with
    | none=>rw [hv] at hx;cases hx
    | some v=>rw [hv] at hx;exact done_pure (o:=⟨dst,.pick b x y,ty,pos,after,guard⟩) hn hh hx (ev_rel hs hv) (by simp [execOp,hbv,asBool])
   | false=>
    rw [if_neg (by decide)] at hx
    cases hv:ev s y with
    | none=>rw [hv] at hx;cases hx
    | some v=>rw [hv] at hx;exact done_pure (o:=⟨dst,.pick b x y,ty,pos,after,guard⟩) hn hh hx (ev_rel hs hv) (by simp [execOp,hbv,asBool])
  | _=>cases hx
theorem op_nil (x:Operand) (hx:exOp E rec (.nilCheck x) s h c=some r) (hs:SR E.P E.base φ h.length w s a) (hh:HR E.P E.base w0 φ h w) (hn:Cont E w0 φ h w dst a next c r) :
  (⟨dst,.nilCheck x,ty,pos,after,guard⟩:Oper).wp E.P a w next Q:=by
 simp only [exOp] at hx
 cases hv:ev s x with
 | none=>rw [hv] at hx;cases hx
 | some v=>
  rw [hv] at hx
  have hr:=ev_rel hs hv
  split at hx
  ·rename_i ad e
   injection e with e
   subst e
   cases ad with
   | none=>cases hx
   | some ad=>
    simp only [Option.bind_some] at hx
    obtain ⟨_,_,hu⟩:=hr.ptr_inv
    rw [hu] at hr
    exact done_pure (o:=⟨dst,.nilCheck x,ty,pos,after,guard⟩) hn hh hx hr (by simp [execOp,hu])
  ·rename_i f p q e
   injection e with e
   subst e
   generalize hue:a.eval x=u at hr
   cases hr with
   | func _ _ p' _ q' h1 h2 h3 h4=>
    exact done_pure (o:=⟨dst,.nilCheck x,ty,pos,after,guard⟩) hn hh hx (.func _ _ p' _ q' h1 h2 h3 h4) (by simp [execOp,hue])
  ·cases hx
theorem intV_sound {op:BinOp} {k:IntKind} {m n:Int} {t:TypeId} (cc:Value→Option R) (hx:intV op k m n cc=some r) (h1:op≠.shl) (h2:op≠.shr) :
  ∃ v,cc v=some r∧(∀ P base φ N w,VR P base φ N w v v)∧∀ w x y,(do eqGuard op t x y (.int k m) (.int k n);binOp op t (.int k m) (.int k n):Sem Value).run E.P w = .ok v w:=by
 have hg:∀ x y,eqGuard op t x y (.int k m) (.int k n)=pure ():=by
  intro x y
  cases op<;>rfl
 cases op<;>simp only [intV] at hx<;>first|(cases hx;done)|skip
 case quo=>
  split at hx
  ·cases hx
  ·rename_i hz
   exact ⟨_,hx,fun _ _ _ _ _=>.int _ _,fun w x y=>by simp [hg,binOp,Op.intDiv,hz]⟩
 case rem=>
  split at hx
  ·cases hx
  ·rename_i hz
   exact ⟨_,hx,fun _ _ _ _ _=>.int _ _,fun w x y=>by simp [hg,binOp,Op.intDiv,hz]⟩
 case add=>exact ⟨_,hx,fun _ _ _ _ _=>.int _ _,fun w x y=>by simp [hg,binOp,Op.intArith]⟩
 case sub=>exact ⟨_,hx,fun _ _ _ _ _=>.int _ _,fun w x y=>by simp [hg,binOp,Op.intArith]⟩
 case mul=>exact ⟨_,hx,fun _ _ _ _ _=>.int _ _,fun w x y=>by simp [hg,binOp,Op.intArith]⟩
 case and=>exact ⟨_,hx,fun _ _ _ _ _=>.int _ _,fun w x y=>by (simp [hg,binOp];rfl)⟩
 case or=>exact ⟨_,hx,fun _ _ _ _ _=>.int _ _,fun w x y=>by (simp [hg,binOp];rfl)⟩
 case xor=>exact ⟨_,hx,fun _ _ _ _ _=>.int _ _,fun w x y=>by (simp [hg,binOp];rfl)⟩
 all_goals exact ⟨_,hx,fun _ _ _ _ _=>.bool _,fun w x y=>by simp [hg,binOp,Op.intCmp]⟩
theorem strV_sound {op:BinOp} {m n:ByteArray} {t:TypeId} (cc:Value→Option R) (hx:strV op m n cc=some r) :
  ∃ v,cc v=some r∧(∀ P base φ N w,VR P base φ N w v v)∧∀ w x y,(do eqGuard op t x y (.string m) (.string n);binOp op t (.string m) (.string n):Sem Value).run E.P w = .ok v w:=by
 have hg:∀ x y,eqGuard op t x y (.string m) (.string n)=pure ():=by
  intro x y
  cases op<;>rfl
 cases op<;>simp only [strV] at hx<;>first|(cases hx;done)|skip
 case add=>
  split at hx
  ·rename_i hz
   have hz':¬(((m.size+n.size:Nat):Int)>IntKind.i64.max):=by
    simp [IntKind.max,IntKind.bits,IntKind.signed];omega
   exact ⟨_,hx,fun _ _ _ _ _=>.str _,fun w x y=>by
    rw [hg]
    simp only [Sem.run_bind,Sem.run_pure,Result.andThen_ok,binOp,Op.stringOp]
    rw [if_neg hz'];rfl⟩
  ·cases hx
 all_goals exact ⟨_,hx,fun _ _ _ _ _=>.bool _,fun w x y=>by simp [hg,binOp,Op.stringOp]⟩
theorem op_bin (hE:EnvOk E) (op:BinOp) (t:TypeId) (x y:Operand) (t':TypeId) (hx:exOp E rec (.binOp op t x y t') s h c=some r) (hs:SR E.P E.base φ h.length w s a) (hh:HR E.P E.base w0 φ h w) (hn:Cont E w0 φ h w dst a next c r) :
  (⟨dst,.binOp op t x y t',ty,pos,after,guard⟩:Oper).wp E.P a w next Q:=by
 simp only [exOp] at hx
 split at hx
 ·rename_i va vb i h1 h2 h3
  have ra:=ev_rel hs h1
  have rb:=ev_rel hs h2
  unfold binV at hx
  split at hx
  ·rename_i k m k' n
   have ea:=ra.int_inv
   have eb:=rb.int_inv
   have hg:∀ op' k2 n2,(op' = .shl∨op' = .shr)→eqGuard op' t x y (.int k m) (.int k2 n2)=pure ():=by
    intro op' k2 n2 ho
    rcases ho with rfl|rfl<;>rfl
   split at hx
   ·split at hx
    ·cases hx
    ·rename_i hneg
     exact done_pure (o:=⟨dst,.binOp _ t x y t',ty,pos,after,guard⟩) hn hh hx (.int _ _) (by simp [execOp,ea,eb,hg,binOp,Op.shift,hneg])
   ·split at hx
    ·cases hx
    ·rename_i hneg
     exact done_pure (o:=⟨dst,.binOp _ t x y t',ty,pos,after,guard⟩) hn hh hx (.int _ _) (by simp [execOp,ea,eb,hg,binOp,Op.shift,hneg])
   ·rename_i hn1 hn2
    split at hx
    ·rename_i hk
     subst hk
     obtain ⟨v,hc,hv,hrun⟩:=intV_sound (E:=E) (t:=t) _ hx hn1 hn2
     have:=hrun w x y
     exact done_pure (o:=⟨dst,.binOp op t x y t',ty,pos,after,guard⟩) hn hh hc (hv _ _ _ _ _) (by
      simp only [execOp,ea,eb,Sem.run_bind] at this ⊢
      rw [this];rfl)
    ·cases hx
  ·rename_i m n
   have ea:=ra.str_inv
   have eb:=rb.str_inv
   obtain ⟨v,hc,hv,hrun⟩:=strV_sound (E:=E) (t:=t) _ hx
   have:=hrun w x y
   exact done_pure (o:=⟨dst,.binOp op t x y t',ty,pos,after,guard⟩) hn hh hc (hv _ _ _ _ _) (by
    simp only [execOp,ea,eb,Sem.run_bind] at this ⊢
    rw [this];rfl)
  ·rename_i m n
   have ea:=ra.bool_inv
   have eb:=rb.bool_inv
   cases hb:isK .bool i with
   | false=>rw [hb] at hx;cases hx
   | true=>
    rw [hb] at hx
    have hu:=(hE.ti t i h3).bool hb
    simp only [cond_true] at hx
    split at hx
    ·exact done_pure (o:=⟨dst,.binOp _ t x y t',ty,pos,after,guard⟩) hn hh hx (.bool _) (by
      have hq:=run_equal_bool (P:=E.P) w t m n hu
      have hg1:eqGuard .eql t x y (.bool m) (.bool n)=pure ():=rfl
      have hg2:eqGuard .neq t x y (.bool m) (.bool n)=pure ():=rfl
      simp only [execOp,ea,eb,hg1,hg2,binOp,Sem.run_bind,Sem.run_pure,Result.andThen_ok,hq])
    ·exact done_pure (o:=⟨dst,.binOp _ t x y t',ty,pos,after,guard⟩) hn hh hx (.bool _) (by
      have hq:=run_equal_bool (P:=E.P) w t m n hu
      have hg1:eqGuard .eql t x y (.bool m) (.bool n)=pure ():=rfl
      have hg2:eqGuard .neq t x y (.bool m) (.bool n)=pure ():=rfl
      simp only [execOp,ea,eb,hg1,hg2,binOp,Sem.run_bind,Sem.run_pure,Result.andThen_ok,hq])
    ·cases hx
  ·cases hx
 ·cases hx
theorem op_un (op:UnOp) (t:TypeId) (x:Operand) (hx:exOp E rec (.unOp op t x) s h c=some r) (hs:SR E.P E.base φ h.length w s a) (hh:HR E.P E.base w0 φ h w) (hn:Cont E w0 φ h w dst a next c r) :
  (⟨dst,.unOp op t x,ty,pos,after,guard⟩:Oper).wp E.P a w next Q:=by
 simp only [exOp] at hx
 cases hv:ev s x with
 | none=>rw [hv] at hx;cases hx
 | some v=>
  rw [hv] at hx
  have hr:=ev_rel hs hv
  simp only [unV] at hx
  split at hx
  ·have e:=hr.int_inv
   exact done_pure (o:=⟨dst,.unOp _ t x,ty,pos,after,guard⟩) hn hh hx (.int _ _) (by simp [execOp,e,Op.unary,Op.intArith])
  ·have e:=hr.bool_inv
   exact done_pure (o:=⟨dst,.unOp _ t x,ty,pos,after,guard⟩) hn hh hx (.bool _) (by simp [execOp,e,Op.unary])
  ·cases hx
theorem op_extract (t:Operand) (j:Nat) (hx:exOp E rec (.extract t j) s h c=some r) (hs:SR E.P E.base φ h.length w s a) (hh:HR E.P E.base w0 φ h w) (hn:Cont E w0 φ h w dst a next c r) :
  (⟨dst,.extract t j,ty,pos,after,guard⟩:Oper).wp E.P a w next Q:=by
 simp only [exOp] at hx
 split at hx
 ·rename_i vs h1
  obtain ⟨ys,e,hl,hr⟩:=(ev_rel hs h1).tup_inv
  split at hx
  ·rename_i v hv
   have hlt:j<ys.size:=by
    have:=(List.getElem?_eq_some_iff.1 hv).1
    rw [← hl];simpa using this
   exact done_pure (o:=⟨dst,.extract t j,ty,pos,after,guard⟩) hn hh hx (hr j v ys[j] (by simpa using hv) (Array.getElem?_eq_getElem hlt)) (by
    simp [execOp,e,Instr.extract,Array.getElem?_eq_getElem hlt])
  ·cases hx
 ·cases hx
theorem op_func (f:Fn) (p q:Array Operand) (hx:exOp E rec (.makeFunc f p q) s h c=some r) (hs:SR E.P E.base φ h.length w s a) (hh:HR E.P E.base w0 φ h w) (hn:Cont E w0 φ h w dst a next c r) :
  (⟨dst,.makeFunc f p q,ty,pos,after,guard⟩:Oper).wp E.P a w next Q:=by
 simp only [exOp] at hx
 split at hx
 ·rename_i vs ws h1 h2
  obtain ⟨l1,r1⟩:=evs_rel hs h1
  obtain ⟨l2,r2⟩:=evs_rel hs h2
  refine done_pure (o:=⟨dst,.makeFunc f p q,ty,pos,after,guard⟩) hn hh hx (.func f vs.toArray (p.map a.eval) ws.toArray (q.map a.eval) ?_ ?_ ?_ ?_) (by simp [execOp,Instr.makeFunc])
  ·simpa using l1
  ·intro i x y hx hy
   exact r1 i x y (by simpa using hx) (by simpa [List.getElem?_map] using hy)
  ·simpa using l2
  ·intro i x y hx hy
   exact r2 i x y (by simpa using hx) (by simpa [List.getElem?_map] using hy)
 ·cases hx
theorem op_fieldAddr (hE:EnvOk E) (t:TypeId) (x:Operand) (f:Nat) (hx:exOp E rec (.fieldAddr t x f) s h c=some r) (hs:SR E.P E.base φ h.length w s a) (hh:HR E.P E.base w0 φ h w) (hn:Cont E w0 φ h w dst a next c r) :
  (⟨dst,.fieldAddr t x f,ty,pos,after,guard⟩:Oper).wp E.P a w next Q:=by
 simp only [exOp] at hx
 split at hx
 ·rename_i ad i h1 h2
  obtain ⟨hsp,hlt,e⟩:=(ev_rel hs h1).ptr_inv
  split at hx
  ·rename_i off ft hf
   split at hx
   ·rename_i j hj
    cases hb:Nat.blt 0 j.ks.length with
    | false=>rw [hb] at hx;cases hx
    | true=>
     rw [hb] at hx
     simp only [cond_true] at hx
     obtain ⟨fs,fd,hu,hfd,ho,hft⟩:=(hE.ti t i h2).field hf
     have hz:=(hE.ti ft j hj).size w
     have hne:j.ks.length≠0:=by
      have:0<j.ks.length:=by simpa [Nat.blt_eq] using hb
      omega
     have hpl:(fieldPlace ⟨(φ ad.block).1,(φ ad.block).2+ad.off,none⟩ fd).run E.P w = .ok ⟨(φ ad.block).1,(φ ad.block).2+(ad.off+off),none⟩ w:=by
      simp only [fieldPlace,hft,Sem.run_bind,hz,Result.andThen_ok,if_neg hne,Sem.run_pure,ho]
      congr 1
      unfold Addr.add
      split
      ·rename_i h0;subst h0;rfl
      ·simp [Nat.add_assoc]
     refine done_pure (o:=⟨dst,.fieldAddr t x f,ty,pos,after,guard⟩) hn hh hx (.ptr ad.block (ad.off+off) hlt) ?_
     simp only [execOp,e,Instr.fieldAt,Sem.run_bind,TFact.under hu,Result.andThen_ok]
     simp [hfd,Instr.sureAddr,hpl]
   ·cases hx
  ·cases hx
 ·cases hx
end
end Go.Proofs.Ytkdenmdijdmnjaa.Am
set_option linter.unusedSimpArgs false
set_option linter.unusedVariables false
namespace Go.Proofs.Ytkdenmdijdmnjaa.Am
open Go Go.RowKit
theorem hget_some {h:AH} {b:Nat} {k:Blk}:hget h b=some k↔h[b]? = some (some k):=by
 unfold hget
 cases hb:h[b]? with
 | none=>simp
 | some x=>simp
theorem hget_append_lt {h g:AH} {b:Nat} (hb:b<h.length):hget (h++g) b=hget h b:=by
 unfold hget;rw [List.getElem?_append_left hb]
theorem hget_append_new {h:AH} {x:Option Blk}:hget (h++[x]) h.length=x:=by
 unfold hget;simp
theorem hget_append_ge {h:AH} {x:Option Blk} {b:Nat} (hb:h.length<b):hget (h++[x]) b=none:=by
 unfold hget;rw [List.getElem?_eq_none (by simp;omega)];rfl
theorem cell_some {h:AH} {b o:Nat} {v:Value} (hc:cell h b o=some v):∃ k,hget h b=some k∧k.cs[o]? = some v:=by
 unfold cell at hc
 cases hk:hget h b with
 | none=>rw [hk] at hc;cases hc
 | some k=>rw [hk] at hc;exact ⟨k,rfl,hc⟩
section
variable {E:Env} {w0 w:World} {φ:Nat→Nat×Nat} {h:AH}
theorem HR.cell (hh:HR E.P E.base w0 φ h w) {b o:Nat} {v:Value} (hc:Am.cell h b o=some v) :
  ∃ u,w.cell? ⟨(φ b).1,(φ b).2+o,none⟩=some u∧CR E.P E.base φ h.length w v u:=by
 obtain ⟨k,hk,hv⟩:=cell_some hc
 obtain ⟨cs,fr,h1,h2,_⟩:=hh.blk b k hk (hh.nom hk hv)
 obtain ⟨u,hu,hr⟩:=h2 o v hv
 exact ⟨u,by simp [World.cell?,h1,hu],hr⟩
end
theorem viewO_some {R:Type} {k:K} {v:Option Value} {c:Value→Option R} {r:R} (h:viewO k v c=some r) :
  ∃ x y,v=some x∧c y=some r∧∀ P base φ n w u,CR P base φ n w x u→VR P base φ n w y u:=by
 cases v with
 | none=>cases k<;>simp [viewO] at h
 | some x=>
  cases k with
  | int k=>
   simp only [viewO,Option.bind_some] at h
   cases x with
   | int k' n=>
    simp only [getI] at h
    split at h
    ·rename_i e;subst e;exact ⟨_,_,rfl,h,fun _ _ _ _ _ _ hr=>hr (by simp)⟩
    ·cases h
   | _=>cases h
  | bool=>cases x<;>simp [viewO,getB] at h;exact ⟨_,_,rfl,h,fun _ _ _ _ _ _ hr=>hr (by simp)⟩
  | str=>cases x<;>simp [viewO,getStr] at h;exact ⟨_,_,rfl,h,fun _ _ _ _ _ _ hr=>hr (by simp)⟩
  | ptr=>cases x<;>simp [viewO,getP] at h;exact ⟨_,_,rfl,h,fun _ _ _ _ _ _ hr=>hr (by simp)⟩
  | map=>
   cases x<;>simp only [viewO,getM,Option.bind_some] at h<;>first|(cases h;done)|skip
   rename_i a
   cases a with
   | none=>cases h
   | some a=>exact ⟨_,_,rfl,h,fun _ _ _ _ _ _ hr=>hr (by simp)⟩
  | func=>cases x<;>simp [viewO,getF] at h;exact ⟨_,_,rfl,h,fun _ _ _ _ _ _ hr=>hr (by simp)⟩
  | addr=>
   cases x<;>simp only [viewO,getA,Option.bind_some] at h<;>first|(cases h;done)|skip
   rename_i a
   cases a with
   | none=>cases h
   | some a=>exact ⟨_,_,rfl,h,fun _ _ _ _ _ _ hr=>hr (by simp)⟩
  | slice=>
   cases x<;>simp [viewO,getS] at h
   refine ⟨_,_,rfl,h,fun _ _ _ _ _ _ hr=>?_⟩
   cases hr (by simp) with
   | empty a c a' ha=>exact .empty _ _ _ ha
   | slice b o _ _ c' hb hm hr2=>exact .slice b o _ _ c' hb hm hr2
theorem viewMany_some {R:Type} {at_:Nat→Option Value}:∀ {ks:List K} {o:Nat} {c:List Value→Option R} {r:R},viewMany at_ o ks c=some r →
  ∃ vs,vs.length=ks.length∧c vs=some r∧∀ (i:Nat) (y:Value),vs[i]? = some y→∃ x,at_ (o+i)=some x∧∀ P base φ n w u,CR P base φ n w x u→VR P base φ n w y u
 | [],o,c,r,h=>⟨[],rfl,h,fun i y hy=>by simp at hy⟩
 | k :: ks,o,c,r,h=>by
  simp only [viewMany] at h
  obtain ⟨x,y,hx,hc,hr⟩:=viewO_some h
  obtain ⟨vs,hl,hc2,hv⟩:=viewMany_some hc
  refine ⟨y :: vs,by simp [hl],hc2,fun i z hz=>?_⟩
  cases i with
  | zero=>simp at hz;subst hz;exact ⟨x,hx,hr⟩
  | succ i=>
   simp only [List.getElem?_cons_succ] at hz
   obtain ⟨x',hx',hr'⟩:=hv i z hz
   exact ⟨x',by rw [← hx'];congr 1;omega,hr'⟩
section
variable {R:Type} {E:Env} {w0 w:World} {φ:Nat→Nat×Nat} {h:AH} {s:Slots} {a:Act} {next:Act→World→Prop} {Q:Exit→Act→World→Prop} {r:R} {c:Value→AH→Option R}
 {rec:Rec} {dst:Option Tmp} {ty:TypeId} {pos:String} {after:Array Edge} {guard:Option (Nat×Bool)}
theorem load_sound (hE:EnvOk E) (hh:HR E.P E.base w0 φ h w) {t b o:Nat} {cc:Value→Option R} (hx:load E t h b o cc=some r) :
  ∃ v u,cc v=some r∧VR E.P E.base φ h.length w v u∧(loadVar t ⟨(φ b).1,(φ b).2+o,none⟩).run E.P w = .ok u w:=by
 unfold load at hx
 cases hi:E.ti t with
 | none=>rw [hi] at hx;cases hx
 | some i=>
  rw [hi] at hx
  have F:=hE.ti t i hi
  cases hag:i.agg with
  | true=>
   simp only [hag] at hx
   obtain ⟨vs,hl,hc,hv⟩:=viewMany_some hx
   have hcells:∀ j,j<vs.length→∃ u,w.cell? ((⟨(φ b).1,(φ b).2+o,none⟩:Addr).add j)=some u∧∀ y,vs[j]? = some y→VR E.P E.base φ h.length w y u:=by
    intro j hj
    obtain ⟨x,hx',hr'⟩:=hv j vs[j] (List.getElem?_eq_getElem hj)
    obtain ⟨u,hu,hr⟩:=hh.cell hx'
    refine ⟨u,?_,fun y hy=>?_⟩
    ·rw [← hu]
     congr 1
     unfold Addr.add
     split
     ·rename_i e;subst e;rfl
     ·simp [Nat.add_assoc]
    ·rw [List.getElem?_eq_getElem hj] at hy
     injection hy with hy
     subst hy
     exact hr' _ _ _ _ _ _ hr
   let f:Nat→Value:=fun j=>if hj:j<vs.length then (hcells j hj).choose else undef
   have hf:∀ j,j<vs.length→w.cell? ((⟨(φ b).1,(φ b).2+o,none⟩:Addr).add j)=some (f j):=by
    intro j hj
    simp only [f,hj,dite_true]
    exact (hcells j hj).choose_spec.1
   refine ⟨.agg vs.toArray,.agg ((List.range vs.length).map f).toArray,hc,.agg _ _ (by simp) ?_,?_⟩
   ·intro j y u hy hu
    have hj:j<vs.length:=by
     have:=(Array.getElem?_eq_some_iff.1 hy).1
     simpa using this
    simp [hj] at hu
    rw [← hu]
    simp only [f,hj,dite_true]
    exact (hcells j hj).choose_spec.2 y (by simpa using hy)
   ·simp only [loadVar,Sem.run_bind,F.agg w,Result.andThen_ok,hag,if_true,F.size w,← hl,run_loadCells w _ _ f hf,Sem.run_pure]
  | false=>
   simp only [hag] at hx
   split at hx
   ·rename_i k hk
    obtain ⟨x,y,hx',hc,hr'⟩:=viewO_some hx
    obtain ⟨u,hu,hr⟩:=hh.cell hx'
    refine ⟨y,u,hc,hr' _ _ _ _ _ _ hr,?_⟩
    simp [loadVar,F.agg w,hag,hu]
   ·cases hx
theorem op_load (hE:EnvOk E) (t:TypeId) (x:Operand) (hx:exOp E rec (.load t x) s h c=some r) (hs:SR E.P E.base φ h.length w s a) (hh:HR E.P E.base w0 φ h w) (hn:Cont E w0 φ h w dst a next c r) :
  (⟨dst,.load t x,ty,pos,after,guard⟩:Oper).wp E.P a w next Q:=by
 simp only [exOp] at hx
 split at hx
 ·rename_i ad h1
  obtain ⟨hsp,hlt,e⟩:=(ev_rel hs h1).ptr_inv
  obtain ⟨v,u,hc,hr,hrun⟩:=load_sound hE hh hx
  exact done_pure (o:=⟨dst,.load t x,ty,pos,after,guard⟩) hn hh hc hr (by simp [execOp,e,Instr.loadAt,Instr.sureAddr,hrun])
 ·cases hx
theorem HR.push (hh:HR E.P E.base w0 φ h w) (cs:List Value) (t:TypeId) (us:Array Value) (w1:World) (hw1:∃ d,w1=({ w with drawn:=d }:World).alloc (.cells us t))
  (hl:∀ (j:Nat) (v:Value),cs[j]? = some v→∃ u,us[j]? = some u∧CR E.P E.base φ h.length w v u) :
  ∃ φ',Ext φ h w φ' (h++[some ⟨cs,t⟩]) w1∧HR E.P E.base w0 φ' (h++[some ⟨cs,t⟩]) w1∧φ' h.length=(w.heap.size,0)∧w1.heap[w.heap.size]? = some (.cells us t (0,0))∧w1.heap.size=w.heap.size+1:=by
 obtain ⟨d,rfl⟩:=hw1
 let φ':Nat→Nat×Nat:=fun i=>if i=h.length then (w.heap.size,0) else φ i
 have hold:∀ i,i<h.length→φ' i=φ i:=fun i hi=>by simp only [φ'];rw [if_neg (by omega)]
 have hnew:φ' h.length=(w.heap.size,0):=by simp [φ']
 have hhp:∀ b,b<w.heap.size→((({ w with drawn:=d }:World).alloc (.cells us t)).heap)[b]? = w.heap[b]?:=fun b hb=>Below.heap_alloc _ _ _ hb
 have hnb:((({ w with drawn:=d }:World).alloc (.cells us t)).heap)[w.heap.size]? = some (.cells us t (0,0)):=heap_alloc_new _ _
 have hsz:(({ w with drawn:=d }:World).alloc (.cells us t)).heap.size=w.heap.size+1:=by simp
 have hshape:ShapeLe w (({ w with drawn:=d }:World).alloc (.cells us t)):=by
  intro b x hx
  have hb:b<w.heap.size:=by
   simp only [World.shape?] at hx
   by_cases hb:b<w.heap.size
   ·exact hb
   ·rw [Array.getElem?_eq_none (Nat.le_of_not_lt hb)] at hx;cases hx
  simp only [World.shape?,hhp b hb]
  exact hx
 have hbl:∀ i k,hget h i=some k→(φ i).1<w.heap.size:=fun i k hi=>hh.lt hi
 have hcase:∀ i k,hget (h++[some ⟨cs,t⟩]) i=some k→(i<h.length∧hget h i=some k)∨(i=h.length∧k=⟨cs,t⟩):=fun i k hi=>by
  rcases Nat.lt_trichotomy i h.length with hlt|heq|hgt
  ·exact .inl ⟨hlt,by rw [hget_append_lt hlt] at hi;exact hi⟩
  ·subst heq;rw [hget_append_new] at hi;injection hi with hi;exact .inr ⟨rfl,hi.symm⟩
  ·rw [hget_append_ge hgt] at hi;cases hi
 refine ⟨φ',⟨by simp,hold,?_,fun b hb _=>hhp b hb,by rw [hsz];omega,hshape⟩,⟨?_,?_,?_,?_,?_,?_,?_⟩,hnew,hnb,hsz⟩
 ·intro i k hi hlt
  rcases hcase i k hi with ⟨h1,h2⟩|⟨h1,_⟩
  ·exact ⟨i,k,h2,by rw [hold i h1]⟩
  ·subst h1;rw [hnew] at hlt;exact absurd hlt (Nat.lt_irrefl _)
 ·exact hh.below.trans ⟨rfl,rfl,rfl,by rw [hsz];omega,fun b hb=>hhp b (Nat.lt_of_lt_of_le hb hh.bw)⟩
 ·intro i k hi hm
  rcases hcase i k hi with ⟨h1,h2⟩|⟨h1,h2⟩
  ·obtain ⟨cs',fr,g1,g2,g3⟩:=hh.blk i k h2 hm
   rw [hold i h1]
   refine ⟨cs',fr,by rw [hhp _ (hbl i k h2)];exact g1,fun j v hj=>?_,g3⟩
   obtain ⟨u,hu,hv⟩:=g2 j v hj
   exact ⟨u,hu,hv.mono hold (by simp) hshape⟩
  ·subst h1;subst h2
   rw [hnew]
   refine ⟨us,(0,0),hnb,fun j v hj=>?_,fun _=>⟨rfl,hh.bw⟩⟩
   obtain ⟨u,hu,hv⟩:=hl j v hj
   exact ⟨u,by simpa using hu,hv.mono hold (by simp) hshape⟩
 ·intro i k l hi hm
  rcases hcase i k hi with ⟨h1,h2⟩|⟨h1,h2⟩
  ·obtain ⟨g0,g1,g2,es,clock,g3,g4⟩:=hh.mp i k l h2 hm
   rw [hold i h1]
   exact ⟨g0,g1,g2,es,clock,by rw [hhp _ (hbl i k h2)];exact g3,g4⟩
  ·subst h2;cases hm
 ·intro i j k l hi hj e
  rcases hcase i k hi with ⟨h1,h2⟩|⟨h1,h2⟩<;>rcases hcase j l hj with ⟨g1,g2⟩|⟨g1,g2⟩
  ·rw [hold i h1,hold j g1] at e;exact hh.inj i j k l h2 g2 e
  ·subst g1;rw [hold i h1,hnew] at e
   have:=hbl i k h2
   simp at e;omega
  ·subst h1;rw [hold j g1,hnew] at e
   have:=hbl j l g2
   simp at e;omega
  ·omega
 ·intro i hi;rw [hold i (Nat.lt_of_lt_of_le hi hh.len)];exact hh.lo i hi
 ·have:=hh.len;simp;omega
 ·rw [hsz];have:=hh.bw;omega
theorem alloc_drawn (w:World) (o:Obj):w.alloc o=({ w with drawn:=w.drawn }:World).alloc o:=rfl
theorem op_alloc (hE:EnvOk E) (t:TypeId) (hx:exOp E rec (.alloc t) s h c=some r) (hs:SR E.P E.base φ h.length w s a) (hh:HR E.P E.base w0 φ h w) (hn:Cont E w0 φ h w dst a next c r) :
  (⟨dst,.alloc t,ty,pos,after,guard⟩:Oper).wp E.P a w next Q:=by
 simp only [exOp] at hx
 split at hx
 ·rename_i i hi
  obtain ⟨z,hz,h1,h2,h3⟩:=(hE.ti t i hi).zero w
  obtain ⟨φ',e1,e2,e3,_⟩:=hh.push i.zero t z.cells (w.alloc (.cells z.cells t)) ⟨w.drawn,rfl⟩ (fun j v hj=>by
   rw [← h1] at hj
   exact ⟨v,by simpa using hj,fun _=>VR.flat (h3 v (by rw [← h1];exact List.mem_of_getElem? hj))⟩)
  unfold Oper.wp
  have hr:(execOp a.eval (⟨dst,.alloc t,ty,pos,after,guard⟩:Oper)).run E.P w = .ok (.value (.pointer (some ⟨w.heap.size,0,none⟩))) (w.alloc (.cells z.cells t)):=by
   simp [execOp,Instr.alloc,hz,newVar,newRow]
  rw [hr]
  refine hn _ _ φ' _ _ hx e1 e2 ?_
  have:=VR.ptr (P:=E.P) (base:=E.base) (φ:=φ') (n:=(h++[some (⟨i.zero,t⟩:Blk)]).length) (w:=w.alloc (.cells z.cells t)) h.length 0 (by simp)
  rw [e3] at this
  exact this
 ·cases hx
theorem op_box (hE:EnvOk E) (t:TypeId) (x:Operand) (hx:exOp E rec (.box t x) s h c=some r) (hs:SR E.P E.base φ h.length w s a) (hh:HR E.P E.base w0 φ h w) (hn:Cont E w0 φ h w dst a next c r) :
  (⟨dst,.box t x,ty,pos,after,guard⟩:Oper).wp E.P a w next Q:=by
 simp only [exOp] at hx
 split at hx
 ·rename_i v hv
  split at hx
  ·rename_i i hi
   cases hb:Nat.beq (cells v).length i.ks.length with
   | false=>rw [hb] at hx;cases hx
   | true=>
    rw [hb] at hx
    simp only [cond_true] at hx
    obtain ⟨hl,hr⟩:=(ev_rel hs hv).cells_rel
    obtain ⟨φ',e1,e2,e3,_⟩:=hh.push (cells v) t (a.eval x).cells (w.alloc (.cells (a.eval x).cells t)) ⟨w.drawn,rfl⟩ (fun j y hj=>by
     have hlt:j<(a.eval x).cells.size:=by rw [← hl];exact (List.getElem?_eq_some_iff.1 hj).1
     exact ⟨_,Array.getElem?_eq_getElem hlt,fun _=>hr j y _ hj (Array.getElem?_eq_getElem hlt)⟩)
    unfold Oper.wp
    have hrun:(execOp a.eval (⟨dst,.box t x,ty,pos,after,guard⟩:Oper)).run E.P w = .ok (.value (.pointer (some ⟨w.heap.size,0,none⟩))) (w.alloc (.cells (a.eval x).cells t)):=by
     simp [execOp,Instr.box,newVar,newRow]
    rw [hrun]
    refine hn _ _ φ' _ _ hx e1 e2 ?_
    have:=VR.ptr (P:=E.P) (base:=E.base) (φ:=φ') (n:=(h++[some (⟨cells v,t⟩:Blk)]).length) (w:=w.alloc (.cells (a.eval x).cells t)) h.length 0 (by simp)
    rw [e3] at this
    exact this
  ·cases hx
 ·cases hx
end
end Go.Proofs.Ytkdenmdijdmnjaa.Am
set_option linter.unusedSimpArgs false
set_option linter.unusedVariables false
namespace Go.Proofs.Ytkdenmdijdmnjaa.Am
open Go Go.RowKit
theorem VR.oneCell {P:Program} {base:Nat} {φ:Nat→Nat×Nat} {n:Nat} {w:World} {v u:Value} (h:VR P base φ n w v u) (hl:leaf v=true):u.oneCell'=true:=by
 cases h<;>first|rfl|(simp [leaf] at hl)
theorem hget_set_self {h:AH} {b:Nat} {x:Option Blk} (hb:b<h.length):hget (h.set b x) b=x:=by
 unfold hget;rw [List.getElem?_set_self hb];rfl
theorem hget_set_ne {h:AH} {b i:Nat} {x:Option Blk} (hb:b≠i):hget (h.set b x) i=hget h i:=by
 unfold hget;rw [List.getElem?_set_ne hb]
theorem setAt_get {cs vs:List Value} {o:Nat} (ho:o+vs.length≤cs.length) (j:Nat) :
  (setAt cs o vs)[j]? = if o≤j∧j<o+vs.length then vs[j-o]? else cs[j]?:=by
 unfold setAt
 by_cases h1:j<o
 ·rw [if_neg (by omega),List.append_assoc,List.getElem?_append_left (by simp;omega),List.getElem?_take_of_lt h1]
 ·by_cases h2:j<o+vs.length
  ·rw [if_pos ⟨by omega,h2⟩,List.append_assoc,List.getElem?_append_right (by simp;omega),List.getElem?_append_left (by simp;omega)]
   congr 1
   simp;omega
  ·rw [if_neg (by omega),List.getElem?_append_right (by simp;omega),List.getElem?_drop]
   congr 1
   simp;omega
section
variable {R:Type} {E:Env} {w0 w:World} {φ:Nat→Nat×Nat} {h:AH} {s:Slots} {a:Act} {next:Act→World→Prop} {Q:Exit→Act→World→Prop} {r:R} {c:Value→AH→Option R}
 {rec:Rec} {dst:Option Tmp} {ty:TypeId} {pos:String} {after:Array Edge} {guard:Option (Nat×Bool)}
theorem setRow_shape (w:World) (g:Nat) (old cs:Array Value) (t:TypeId) (fr:Nat×Nat) (hg:w.heap[g]? = some (.cells old t fr)) (hs:cs.size=old.size):ShapeLe w (w.setRow g cs):=by
 intro b x hx
 by_cases e:b=g
 ·subst e
  simp only [World.shape?,setRow_heap w b old cs t fr hg]
  simp only [World.shape?,hg] at hx
  rw [hs];exact hx
 ·simp only [World.shape?,setRow_other w g b cs e]
  exact hx
theorem HR.write (hh:HR E.P E.base w0 φ h w) {b o:Nat} {k:Blk} (hk:hget h b=some k) (hb:E.base≤b) {vs us:List Value} (hl:us.length=vs.length) (ho:o+vs.length≤k.cs.length) (hpos:0<vs.length)
  (hr:∀ (j:Nat) (x y:Value),vs[j]? = some x→us[j]? = some y→VR E.P E.base φ h.length w x y) :
  ∃ cur,w.heap[(φ b).1]? = some (.cells cur k.ty (0,0))∧(φ b).2+o+us.length≤cur.size ∧
   Ext φ h w φ (h.set b (some ⟨setAt k.cs o vs,k.ty⟩)) (w.setRow (φ b).1 (cur.toList.take ((φ b).2+o)++us++cur.toList.drop ((φ b).2+o+us.length)).toArray) ∧
   HR E.P E.base w0 φ (h.set b (some ⟨setAt k.cs o vs,k.ty⟩)) (w.setRow (φ b).1 (cur.toList.take ((φ b).2+o)++us++cur.toList.drop ((φ b).2+o+us.length)).toArray):=by
 have hkm:k.m=none:=hh.nom (o:=o) hk (List.getElem?_eq_getElem (by omega))
 obtain ⟨cur,fr,h1,h2,h3⟩:=hh.blk b k hk hkm
 obtain ⟨rfl,hbase⟩:=h3 hb
 have hlt:=hget_lt hk
 have hfit:(φ b).2+o+us.length≤cur.size:=by
  have hj:o+vs.length-1<k.cs.length:=by omega
  obtain ⟨u,hu,_⟩:=h2 (o+vs.length-1) _ (List.getElem?_eq_getElem hj)
  have:=(Array.getElem?_eq_some_iff.1 hu).1
  omega
 generalize hnc:(cur.toList.take ((φ b).2+o)++us++cur.toList.drop ((φ b).2+o+us.length)).toArray=nc
 have hsz:nc.size=cur.size:=by
  rw [← hnc]
  simp
  omega
 have hget:∀ j,nc[j]? = if (φ b).2+o≤j∧j<(φ b).2+o+us.length then us[j-((φ b).2+o)]? else cur[j]?:=by
  intro j
  have:=setAt_get (cs:=cur.toList) (vs:=us) (o:=(φ b).2+o) (by simpa using hfit) j
  rw [← hnc]
  simp only [setAt] at this
  simpa using this
 have hshape:=setRow_shape w (φ b).1 cur nc k.ty (0,0) h1 hsz
 have hbl:∀ i l,Am.hget h i=some l→i≠b→(φ i).1≠(φ b).1:=fun i l hi hne e=>hne (hh.inj i b l k hi hk e)
 refine ⟨cur,h1,hfit,?_⟩
 rw [hnc]
 refine ⟨⟨by simp,fun _ _=>rfl,fun i l hi _=>?_,fun x _ hx=>?_,by simp,hshape⟩,⟨?_,?_,?_,?_,?_,by simpa using hh.len,by simpa using hh.bw⟩⟩
 ·by_cases e:b=i
  ·subst e;exact ⟨b,k,hk,rfl⟩
  ·rw [hget_set_ne e] at hi;exact ⟨i,l,hi,rfl⟩
 ·exact setRow_other w _ x nc (fun e=>hx b k hk e.symm)
 ·exact hh.below.trans ⟨rfl,rfl,rfl,by simp,fun x hx=>setRow_other w _ x nc (by omega)⟩
 ·intro i l hi hm
  by_cases e:b=i
  ·subst e
   rw [hget_set_self hlt] at hi
   injection hi with hi
   subst hi
   refine ⟨nc,(0,0),setRow_heap w _ cur nc k.ty (0,0) h1,fun j v hj=>?_,h3⟩
   simp only at hj
   rw [setAt_get ho] at hj
   split at hj
   ·rename_i hin
    have hlt2:j-o<us.length:=by omega
    refine ⟨us[j-o],?_,fun _=>(hr (j-o) v us[j-o] hj (List.getElem?_eq_getElem hlt2)).mono (fun _ _=>rfl) (by simp) hshape⟩
    rw [hget,if_pos ⟨by omega,by omega⟩,show (φ b).2+j-((φ b).2+o)=j-o from by omega]
    exact List.getElem?_eq_getElem hlt2
   ·rename_i hout
    obtain ⟨u,hu,hv⟩:=h2 j v hj
    exact ⟨u,by rw [hget,if_neg (by omega)];exact hu,hv.mono (fun _ _=>rfl) (by simp) hshape⟩
  ·rw [hget_set_ne e] at hi
   obtain ⟨cs,fr,g1,g2,g3⟩:=hh.blk i l hi hm
   refine ⟨cs,fr,by rw [setRow_other w _ _ nc (hbl i l hi (Ne.symm e))];exact g1,fun j v hj=>?_,g3⟩
   obtain ⟨u,hu,hv⟩:=g2 j v hj
   exact ⟨u,hu,hv.mono (fun _ _=>rfl) (by simp) hshape⟩
 ·intro i l m hi hm
  by_cases e:b=i
  ·subst e
   rw [hget_set_self hlt] at hi
   injection hi with hi
   subst hi
   cases hm
  ·rw [hget_set_ne e] at hi
   obtain ⟨g0,g1,g2,es,clock,g3,g4⟩:=hh.mp i l m hi hm
   exact ⟨g0,g1,g2,es,clock,by rw [setRow_other w _ _ nc (hbl i l hi (Ne.symm e))];exact g3,g4⟩
 ·intro i j l m hi hj e
  have live:∀ {x y},Am.hget (h.set b (some ⟨setAt k.cs o vs,k.ty⟩)) x=some y→∃ z,Am.hget h x=some z:=by
   intro x y hx
   by_cases e:b=x
   ·subst e;exact ⟨k,hk⟩
   ·rw [hget_set_ne e] at hx;exact ⟨y,hx⟩
  obtain ⟨l',hl'⟩:=live hi
  obtain ⟨m',hm'⟩:=live hj
  exact hh.inj i j l' m' hl' hm' e
 ·exact hh.lo
theorem wr_some {base:Nat} {h h':AH} {b o:Nat} {vs:List Value} (hx:wr base h b o vs=some h'):base≤b∧∃ k,hget h b=some k∧o+vs.length≤k.cs.length∧h'=h.set b (some ⟨setAt k.cs o vs,k.ty⟩):=by
 unfold wr at hx
 split at hx
 ·rename_i hb
  cases hk:hget h b with
  | none=>rw [hk] at hx;cases hx
  | some k=>
   rw [hk] at hx
   simp only [Option.bind_some] at hx
   split at hx
   ·rename_i ho
    injection hx with hx
    exact ⟨hb,k,rfl,ho,hx.symm⟩
   ·cases hx
 ·cases hx
theorem undef_rel {P:Program} {base:Nat} {φ:Nat→Nat×Nat} {n:Nat} {w:World}:VR P base φ n w undef undef:=.tup _ _ rfl fun i x y hx _=>by simp [undef] at hx
theorem op_store (hE:EnvOk E) (t:TypeId) (x y:Operand) (hx:exOp E rec (.store t x y) s h c=some r) (hs:SR E.P E.base φ h.length w s a) (hh:HR E.P E.base w0 φ h w) (hn:Cont E w0 φ h w dst a next c r) :
  (⟨dst,.store t x y,ty,pos,after,guard⟩:Oper).wp E.P a w next Q:=by
 simp only [exOp] at hx
 split at hx
 ·rename_i ad v h1 h2
  split at hx
  ·rename_i i hi
   cases hb:(Nat.beq (cells v).length i.ks.length&&(cells v).all leaf&&Nat.blt 0 i.ks.length) with
   | false=>rw [hb] at hx;cases hx
   | true=>
    rw [hb] at hx
    simp only [cond_true] at hx
    simp only [Bool.and_eq_true,Nat.blt_eq] at hb
    obtain ⟨⟨hb1,hb2⟩,hb3⟩:=hb
    have hlen:=Nat.eq_of_beq_eq_true hb1
    cases hw:wr E.base h ad.block ad.off (cells v) with
    | none=>rw [hw] at hx;cases hx
    | some h'=>
     rw [hw] at hx
     simp only [Option.bind_some] at hx
     obtain ⟨hbase,k,hk,ho,rfl⟩:=wr_some hw
     obtain ⟨hsp,hlt,e⟩:=(ev_rel hs h1).ptr_inv
     obtain ⟨hl,hr⟩:=(ev_rel hs h2).cells_rel
     obtain ⟨cur,g1,g2,g3,g4⟩:=hh.write hk hbase (vs:=cells v) (us:=(a.eval y).cells.toList) (by simp [hl]) ho (by omega) (fun j p q hp hq=>hr j p q hp (by simpa using hq))
     have h1c:∀ u∈(a.eval y).cells.toList,u.oneCell'=true:=by
      intro u hu
      obtain ⟨j,hj,rfl⟩:=List.mem_iff_getElem.1 hu
      have hj':j<(cells v).length:=by rw [hl];simpa using hj
      refine (hr j _ _ (List.getElem?_eq_getElem hj') ?_).oneCell (List.all_eq_true.1 hb2 _ (List.getElem_mem hj'))
      simp at hj ⊢
     have hst:=run_storeCells_at E.P (φ ad.block).1 ((φ ad.block).2+ad.off) k.ty (a.eval y).cells.toList 0 cur w g1 (by simpa using g2) h1c
     unfold Oper.wp
     have hrun:(execOp a.eval (⟨dst,.store t x y,ty,pos,after,guard⟩:Oper)).run E.P w = .ok .skip (w.setRow (φ ad.block).1 (cur.toList.take ((φ ad.block).2+ad.off)++(a.eval y).cells.toList++cur.toList.drop ((φ ad.block).2+ad.off+(a.eval y).cells.toList.length)).toArray):=by
      have hsz:=(hE.ti t i hi).size w
      simp only [execOp,Instr.storeAt,e,Instr.sureAddr,storeVar,Sem.run_bind,Sem.run_pure,Result.andThen_ok,hsz]
      rw [if_neg (by rw [← hl,hlen];simp)]
      simp only [Nat.add_zero] at hst
      rw [hst]
      rfl
     rw [hrun]
     exact hn _ _ φ _ _ hx g3 g4 undef_rel
  ·cases hx
 ·cases hx
theorem op_field (hE:EnvOk E) (t:TypeId) (x:Operand) (f:Nat) (hx:exOp E rec (.field t x f) s h c=some r) (hs:SR E.P E.base φ h.length w s a) (hh:HR E.P E.base w0 φ h w) (hn:Cont E w0 φ h w dst a next c r) :
  (⟨dst,.field t x f,ty,pos,after,guard⟩:Oper).wp E.P a w next Q:=by
 simp only [exOp] at hx
 split at hx
 ·rename_i cs i h1 h2
  obtain ⟨ys,e,hl,hr⟩:=(ev_rel hs h1).agg_inv
  split at hx
  ·rename_i off ft hf
   obtain ⟨fs,fd,hu,hfd,ho,hft⟩:=(hE.ti t i h2).field hf
   split at hx
   ·rename_i j hj
    have hag:=(hE.ti ft j hj).agg w
    have hsz:=(hE.ti ft j hj).size w
    cases hb:j.agg with
    | true=>
     simp only [hb] at hx
     cases hc:Nat.ble (off+j.ks.length) cs.toList.length with
     | false=>rw [hc] at hx;cases hx
     | true=>
      rw [hc] at hx
      simp only [cond_true] at hx
      have hle:=Nat.le_of_ble_eq_true hc
      refine done_pure (o:=⟨dst,.field t x f,ty,pos,after,guard⟩) hn hh hx (.agg _ (ys.extract off (off+j.ks.length)) ?_ ?_) ?_
      ·have:cs.toList.length=ys.size:=by simpa using hl
       simp;omega
      ·intro n p q hp hq
       simp only [List.getElem?_toArray,List.getElem?_take,List.getElem?_drop] at hp
       rw [Array.getElem?_extract] at hq
       split at hp
       ·split at hq
        ·exact hr (off+n) p q (by simpa using hp) hq
        ·cases hq
       ·cases hp
      ·simp only [execOp,e,Instr.field,Sem.run_bind,TFact.under hu,Result.andThen_ok]
       simp [hfd,asAgg,part,hft,hag,hb,hsz,ho]
    | false=>
     simp only [hb] at hx
     split at hx
     ·rename_i v hv
      have hlt:off<ys.size:=by
       have:=(List.getElem?_eq_some_iff.1 hv).1
       have h2:cs.toList.length=ys.size:=by simpa using hl
       omega
      refine done_pure (o:=⟨dst,.field t x f,ty,pos,after,guard⟩) hn hh hx (hr off v ys[off] (by simpa using hv) (Array.getElem?_eq_getElem hlt)) ?_
      simp only [execOp,e,Instr.field,Sem.run_bind,TFact.under hu,Result.andThen_ok]
      simp [hfd,asAgg,part,hft,hag,hb,ho,Array.getElem?_eq_getElem hlt]
     ·cases hx
   ·cases hx
  ·cases hx
 ·cases hx
theorem op_indexAddr (hE:EnvOk E) (t:TypeId) (x y:Operand) (hx:exOp E rec (.indexAddr t x y) s h c=some r) (hs:SR E.P E.base φ h.length w s a) (hh:HR E.P E.base w0 φ h w) (hn:Cont E w0 φ h w dst a next c r) :
  (⟨dst,.indexAddr t x y,ty,pos,after,guard⟩:Oper).wp E.P a w next Q:=by
 simp only [exOp] at hx
 split at hx
 ·rename_i ad n c0 k i ti h1 h2 h3
  split at hx
  ·rename_i j hj
   cases hb:isSl ti with
   | false=>rw [hb] at hx;cases hx
   | true=>
    rw [hb] at hx
    simp only [Bool.not_true,cond_false] at hx
    split at hx
    ·rename_i hi
     cases ad with
     | none=>cases hx
     | some ad=>
      simp only [Option.bind_some] at hx
      obtain ⟨a',c',e,hm,hor⟩:=(ev_rel hs h1).slice_inv
      have ei:=(ev_rel hs h2).int_inv
      have hu:=(hE.ti t ti h3).slice hb
      have hsz:=(hE.ti ti.elem j hj).size w
      rcases hor with ⟨h0,_⟩|⟨z,hz,hsp,hlt,ha',_⟩
      ·omega
      ·injection hz with hz
       subst hz
       refine done_pure (o:=⟨dst,.indexAddr t x y,ty,pos,after,guard⟩) hn hh hx (.ptr ad.block (ad.off+i.toNat*j.ks.length) hlt) ?_
       have hadd:(⟨(φ ad.block).1,(φ ad.block).2+ad.off,none⟩:Addr).add (i.toNat*j.ks.length)=⟨(φ ad.block).1,(φ ad.block).2+(ad.off+i.toNat*j.ks.length),none⟩:=by
        unfold Addr.add
        split
        ·rename_i h0;rw [h0];rfl
        ·simp [Nat.add_assoc]
       simp only [execOp,e,ei,ha',Instr.indexAt,Sem.run_bind,TFact.under hu,Result.andThen_ok,asIntOf,Sem.run_pure]
       simp [hi,hsz,hadd]
    ·cases hx
  ·cases hx
 ·rename_i ad k i ti h1 h2 h3
  split at hx
  ·rename_i j hj
   cases hb:Nat.blt 0 ti.cnt with
   | false=>rw [hb] at hx;cases hx
   | true=>
    rw [hb] at hx
    simp only [cond_true] at hx
    split at hx
    ·rename_i hi
     have hb:0<ti.cnt:=by simpa [Nat.blt_eq] using hb
     obtain ⟨hsp,hlt,e⟩:=(ev_rel hs h1).ptr_inv
     have ei:=(ev_rel hs h2).int_inv
     have hu:=(hE.ti t ti h3).arr hb
     have hsz:=(hE.ti ti.elem j hj).size w
     refine done_pure (o:=⟨dst,.indexAddr t x y,ty,pos,after,guard⟩) hn hh hx (.ptr ad.block (ad.off+i.toNat*j.ks.length) hlt) ?_
     have hadd:(⟨(φ ad.block).1,(φ ad.block).2+ad.off,none⟩:Addr).add (i.toNat*j.ks.length)=⟨(φ ad.block).1,(φ ad.block).2+(ad.off+i.toNat*j.ks.length),none⟩:=by
      unfold Addr.add
      split
      ·rename_i h0;rw [h0];rfl
      ·simp [Nat.add_assoc]
     simp only [execOp,e,ei,Instr.indexAt,Sem.run_bind,TFact.under hu,Result.andThen_ok,asIntOf,Sem.run_pure,Instr.sureAddr]
     simp [hi,hsz,hadd]
    ·cases hx
  ·cases hx
 ·cases hx
theorem op_index (hE:EnvOk E) (t:TypeId) (x y:Operand) (hx:exOp E rec (.index t x y) s h c=some r) (hs:SR E.P E.base φ h.length w s a) (hh:HR E.P E.base w0 φ h w) (hn:Cont E w0 φ h w dst a next c r) :
  (⟨dst,.index t x y,ty,pos,after,guard⟩:Oper).wp E.P a w next Q:=by
 simp only [exOp] at hx
 split at hx
 ·rename_i v k i ti h1 h2 h3
  cases hb:isK .str ti with
  | false=>rw [hb] at hx;cases hx
  | true=>
   rw [hb] at hx
   simp only [Bool.not_true,cond_false] at hx
   split at hx
   ·rename_i hi
    have e:=(ev_rel hs h1).str_inv
    have ei:=(ev_rel hs h2).int_inv
    have hu:=(hE.ti t ti h3).str hb
    have hlt:i.toNat<v.size:=by omega
    have hd:v.data.toList.getD i.toNat 0=v[i.toNat]:=by
     have:i.toNat<v.data.toList.length:=by simpa using hlt
     rw [List.getD_eq_getElem?_getD,List.getElem?_eq_getElem this]
     rfl
    refine done_pure (o:=⟨dst,.index t x y,ty,pos,after,guard⟩) hn hh hx (.int _ _) ?_
    rw [hd]
    simp only [execOp,e,ei,Instr.index,Sem.run_bind,TFact.under hu,Result.andThen_ok,asIntOf,Sem.run_pure]
    rw [if_pos hi.1,getElem?_pos v i.toNat hlt]
    rfl
   ·cases hx
 ·cases hx
end
end Go.Proofs.Ytkdenmdijdmnjaa.Am
set_option linter.unusedSimpArgs false
set_option linter.unusedVariables false
namespace Go.Proofs.Ytkdenmdijdmnjaa.Am
open Go Go.RowKit
theorem rep_length (z:List Value):∀ n,(rep z n).length=n*z.length
 | 0=>by simp [rep]
 | n+1=>by simp [rep,rep_length z n,Nat.succ_mul,Nat.add_comm]
theorem rep_get (z:List Value):∀ (n j:Nat),j<n*z.length→(rep z n)[j]? = z[j % z.length]?
 | 0,j,h=>by simp at h
 | n+1,j,h=>by
  simp only [rep]
  by_cases hj:j<z.length
  ·rw [List.getElem?_append_left hj,Nat.mod_eq_of_lt hj]
  ·have h2:j-z.length<n*z.length:=by rw [Nat.succ_mul] at h;omega
   rw [List.getElem?_append_right (by omega),rep_get z n _ h2]
   congr 1
   have:j=(j-z.length)+z.length:=by omega
   conv=>rhs;rw [this]
   simp
theorem zerosArr (z:Array Value) (m j:Nat) (hz:0<z.size) (hj:j<m):((Array.range m).map (z[· % z.size]!))[j]? = z[j % z.size]?:=by
 have h1:j % z.size<z.size:=Nat.mod_lt _ hz
 simp [hj,Array.getElem?_eq_getElem h1,h1]
theorem foldl_set (off:Nat):∀ (vs:List Value) (k:Nat) (cs:Array Value),off+k+vs.length≤cs.size →
  ((vs.zipIdx k).foldl (fun cs (p:Value×Nat)=>cs.setIfInBounds (off+p.2) p.1) cs).size=cs.size ∧
  ∀ n,((vs.zipIdx k).foldl (fun cs (p:Value×Nat)=>cs.setIfInBounds (off+p.2) p.1) cs)[n]? = if off+k≤n∧n<off+k+vs.length then vs[n-(off+k)]? else cs[n]?
 | [],k,cs,_=>⟨rfl,fun n=>by simp;omega⟩
 | v :: vs,k,cs,h=>by
  simp only [List.length_cons] at h
  obtain ⟨h1,h2⟩:=foldl_set off vs (k+1) (cs.setIfInBounds (off+k) v) (by simp;omega)
  simp only [List.zipIdx_cons,List.foldl_cons]
  refine ⟨by rw [h1];simp,fun n=>?_⟩
  rw [h2]
  by_cases c1:n=off+k
  ·subst c1
   rw [if_neg (by omega),if_pos (by simp)]
   have:off+k<cs.size:=by omega
   simp [this]
  ·by_cases c2:off+(k+1)≤n∧n<off+(k+1)+vs.length
   ·rw [if_pos c2,if_pos (by simp;omega)]
    have:n-(off+k)=(n-(off+(k+1)))+1:=by omega
    rw [this]
    rfl
   ·rw [if_neg c2,if_neg (by simp;omega),Array.getElem?_setIfInBounds_ne (by omega)]
section
variable {P:Program} {base:Nat} {φ:Nat→Nat×Nat} {n:Nat} {w:World}
def Rows2 (P:Program) (base:Nat) (φ:Nat→Nat×Nat) (n:Nat) (w:World) (cs:List Value) (us:Array Value):Prop:=
 cs.length=us.size∧∀ (j:Nat) (x y:Value),cs[j]? = some x→us[j]? = some y→VR P base φ n w x y
theorem Rows2.put {cs:List Value} {us:Array Value} (h:Rows2 P base φ n w cs us) {v u:Value} (hv:VR P base φ n w v u) (off:Nat) (hf:off+(cells v).length≤cs.length) :
  Rows2 P base φ n w (setAt cs off (cells v)) (u.cells.zipIdx.foldl (fun cs (p:Value×Nat)=>cs.setIfInBounds (off+p.2) p.1) us):=by
 obtain ⟨hl,hr⟩:=hv.cells_rel
 have hfold:u.cells.zipIdx.foldl (fun cs (p:Value×Nat)=>cs.setIfInBounds (off+p.2) p.1) us=(u.cells.toList.zipIdx 0).foldl (fun cs (p:Value×Nat)=>cs.setIfInBounds (off+p.2) p.1) us:=by
  rw [← Array.foldl_toList];simp
 rw [hfold]
 obtain ⟨g1,g2⟩:=foldl_set off u.cells.toList 0 us (by simp;rw [← hl,← h.1];omega)
 refine ⟨?_,fun j x y hx hy=>?_⟩
 ·rw [g1,← h.1];simp [setAt];omega
 ·rw [setAt_get hf] at hx
  rw [g2] at hy
  have hl':u.cells.toList.length=(cells v).length:=by simp [hl]
  simp only [Nat.add_zero,hl'] at hy
  split at hx
  ·rename_i c
   rw [if_pos c] at hy
   exact hr (j-off) x y hx (by simpa using hy)
  ·rename_i c
   rw [if_neg c] at hy
   exact h.2 j x y hx hy
theorem evP_rel {s:Slots} {a:Act} (hs:SR P base φ n w s a):∀ {ps:List (Nat×Operand)} {vs:List (Nat×Value)},evP s ps=some vs →
  vs.length=ps.length∧∀ (j:Nat) (p:Nat×Value) (q:Nat×Operand),vs[j]? = some p→ps[j]? = some q→p.1=q.1∧VR P base φ n w p.2 (a.eval q.2)
 | [],vs,h=>by simp only [evP] at h;injection h with h;subst h;exact ⟨rfl,fun j p q hp _=>by simp at hp⟩
 | (i,x) :: r,vs,h=>by
  simp only [evP] at h
  cases h1:ev s x with
  | none=>rw [h1] at h;simp at h
  | some v=>
   cases h2:evP s r with
   | none=>rw [h1,h2] at h;simp at h
   | some vs'=>
    rw [h1,h2] at h
    injection h with h
    subst h
    obtain ⟨hl,hr⟩:=evP_rel hs h2
    refine ⟨by simp [hl],fun j p q hp hq=>?_⟩
    cases j with
    | zero=>simp at hp hq;subst hp;subst hq;exact ⟨rfl,ev_rel hs h1⟩
    | succ j=>simp only [List.getElem?_cons_succ] at hp hq;exact hr j p q hp hq
end
section
variable {R:Type} {E:Env} {w0 w:World} {φ:Nat→Nat×Nat} {h:AH} {s:Slots} {a:Act} {next:Act→World→Prop} {Q:Exit→Act→World→Prop} {r:R} {c:Value→AH→Option R}
 {rec:Rec} {dst:Option Tmp} {ty:TypeId} {pos:String} {after:Array Edge} {guard:Option (Nat×Bool)}
theorem fillR_sound (sz:Nat):∀ (vs:List (Nat×Value)) (us:List (Nat×Value)) (cs:List Value) (ws:Array Value) (out:List Value),fillR sz cs vs=some out→vs.length=us.length →
  (∀ (j:Nat) (p q:Nat×Value),vs[j]? = some p→us[j]? = some q→p.1=q.1∧VR E.P E.base φ h.length w p.2 q.2)→Rows2 E.P E.base φ h.length w cs ws →
  ∃ o2,Instr.fill (fun i=>some (i*sz,sz)) ws us=some o2∧Rows2 E.P E.base φ h.length w out o2
 | [],us,cs,ws,out,hf,hl,hr,hc=>by
  have:us = []:=List.eq_nil_of_length_eq_zero (by simpa using hl.symm)
  subst this
  simp only [fillR] at hf
  injection hf with hf
  subst hf
  exact ⟨ws,rfl,hc⟩
 | (i,v) :: vs,[],cs,ws,out,hf,hl,hr,hc=>by simp at hl
 | (i,v) :: vs,(i',u) :: us,cs,ws,out,hf,hl,hr,hc=>by
  obtain ⟨e,hv⟩:=hr 0 (i,v) (i',u) rfl rfl
  simp only at e
  subst e
  simp only [fillR] at hf
  cases hb:(Nat.beq (cells v).length sz&&Nat.ble (i*sz+sz) cs.length) with
  | false=>rw [hb] at hf;cases hf
  | true=>
   rw [hb] at hf
   simp only [cond_true] at hf
   simp only [Bool.and_eq_true] at hb
   have e1:=Nat.eq_of_beq_eq_true hb.1
   have e2:=Nat.le_of_ble_eq_true hb.2
   have hput:=hc.put hv (i*sz) (by rw [e1];exact e2)
   obtain ⟨o2,h1,h2⟩:=fillR_sound sz vs us _ _ out hf (by simpa using hl) (fun j p q hp hq=>hr (j+1) p q hp hq) hput
   refine ⟨o2,?_,h2⟩
   have hcl:(cells v).length=u.cells.size:=hv.cells_rel.1
   simp only [Instr.fill]
   rw [if_neg (by have:=hc.1;simp;omega)]
   exact h1
theorem fillS_sound {fs:List (Nat×Nat)} {places:Nat→Option (Nat×Nat)} :
  ∀ (vs:List (Nat×Value)) (us:List (Nat×Value)) (cs:List Value) (ws:Array Value) (out:List Value),fillS fs cs vs=some out→fsOk E fs vs=true→vs.length=us.length →
  (∀ (i off t:Nat) j,fs[i]? = some (off,t)→E.ti t=some j→places i=some (off,j.ks.length)) →
  (∀ (j:Nat) (p q:Nat×Value),vs[j]? = some p→us[j]? = some q→p.1=q.1∧VR E.P E.base φ h.length w p.2 q.2)→Rows2 E.P E.base φ h.length w cs ws →
  ∃ o2,Instr.fill places ws us=some o2∧Rows2 E.P E.base φ h.length w out o2
 | [],us,cs,ws,out,hf,_,hl,_,hr,hc=>by
  have:us = []:=List.eq_nil_of_length_eq_zero (by simpa using hl.symm)
  subst this
  simp only [fillS] at hf
  injection hf with hf
  subst hf
  exact ⟨ws,rfl,hc⟩
 | (i,v) :: vs,[],cs,ws,out,hf,_,hl,_,hr,hc=>by simp at hl
 | (i,v) :: vs,(i',u) :: us,cs,ws,out,hf,hok,hl,hpl,hr,hc=>by
  obtain ⟨e,hv⟩:=hr 0 (i,v) (i',u) rfl rfl
  simp only at e
  subst e
  simp only [fillS] at hf
  simp only [fsOk,Bool.and_eq_true] at hok
  obtain ⟨hok1,hok2⟩:=hok
  cases hfi:fs[i]? with
  | none=>rw [hfi] at hf;cases hf
  | some p=>
   obtain ⟨off,t⟩:=p
   rw [hfi] at hf hok1
   simp only at hf hok1
   cases hj:E.ti t with
   | none=>rw [hj] at hok1;cases hok1
   | some j=>
    rw [hj] at hok1
    simp only at hok1
    have e1:=Nat.eq_of_beq_eq_true hok1
    cases hb:Nat.ble (off+(cells v).length) cs.length with
    | false=>rw [hb] at hf;cases hf
    | true=>
     rw [hb] at hf
     simp only [cond_true] at hf
     have e2:=Nat.le_of_ble_eq_true hb
     have hput:=hc.put hv off e2
     obtain ⟨o2,h1,h2⟩:=fillS_sound vs us _ _ out hf hok2 (by simpa using hl) hpl (fun j p q hp hq=>hr (j+1) p q hp hq) hput
     refine ⟨o2,?_,h2⟩
     have hcl:(cells v).length=u.cells.size:=hv.cells_rel.1
     simp only [Instr.fill,hpl i off t j hfi hj]
     rw [if_neg (by have:=hc.1;simp;omega)]
     exact h1
end
end Go.Proofs.Ytkdenmdijdmnjaa.Am
set_option linter.unusedSimpArgs false
set_option linter.unusedVariables false
namespace Go.Proofs.Ytkdenmdijdmnjaa.Am
open Go Go.RowKit
section
variable {R:Type} {E:Env} {w0 w:World} {φ:Nat→Nat×Nat} {h:AH} {s:Slots} {a:Act} {next:Act→World→Prop} {Q:Exit→Act→World→Prop} {r:R} {c:Value→AH→Option R}
 {rec:Rec} {dst:Option Tmp} {ty:TypeId} {pos:String} {after:Array Edge} {guard:Option (Nat×Bool)}
theorem places_of (hE:EnvOk E):∀ (fs:List Field) (is:List (Nat×Nat)),fs.map (fun f=>(f.offset,f.type))=is→allTi E is=true →
  ∃ places,fs.mapM (fun f=>(E.P.info? f.type).map fun i=>(f.offset,i.size))=some places∧∀ (i off t:Nat) j,is[i]? = some (off,t)→E.ti t=some j→places[i]? = some (off,j.ks.length)
 | [],is,h,_=>by subst h;exact ⟨[],by simp,fun i off t j hi _=>by simp at hi⟩
 | f :: fs,is,h,hall=>by
  subst h
  simp only [List.map_cons,allTi,Bool.and_eq_true] at hall
  obtain ⟨h1,h2⟩:=hall
  obtain ⟨places,hp,hr⟩:=places_of hE fs _ rfl h2
  cases hj:E.ti f.type with
  | none=>rw [hj] at h1;cases h1
  | some j=>
   obtain ⟨inf,z,hi,hsz,_⟩:=(hE.ti f.type j hj).inf
   refine ⟨(f.offset,inf.size) :: places,by simp [hi,hp],fun i off t j' hi' hj'=>?_⟩
   cases i with
   | zero=>
    simp at hi'
    obtain ⟨e1,e2⟩:=hi'
    subst e1;subst e2
    rw [hj] at hj'
    injection hj' with hj'
    subst hj'
    simp [hsz]
   | succ i=>simp only [List.map_cons,List.getElem?_cons_succ] at hi' ⊢;exact hr i off t j' hi' hj'
theorem flatRows (l:List Value) (hl:∀ v∈l,flatZ v=true):Rows2 E.P E.base φ h.length w l l.toArray:=
 ⟨by simp,fun j x y hx hy=>by
  simp only [List.getElem?_toArray] at hy
  rw [hx] at hy
  injection hy with hy
  subst hy
  exact VR.flat (hl x (List.mem_of_getElem? hx))⟩
theorem TFact.struct {P:Program} {t:Nat} {i:TI} (F:TFact P t i) (hne:i.fs≠[]):∃ fs,P.underlying t=some (.struct fs)∧fs.toList.map (fun f=>(f.offset,f.type))=i.fs:=by
 obtain ⟨d,hd,hu⟩:=F.und
 cases d<;>simp only [UFact] at hu<;>first|exact hu.elim|skip
 all_goals first
  | exact absurd hu.2.2.2 hne
  | exact absurd hu.2.2.1 hne
  | exact absurd hu.2.2 hne
  | skip
 ·exact absurd hu.2 hne
 ·exact ⟨_,hd,hu.2⟩
theorem op_build (hE:EnvOk E) (t:TypeId) (ps:Array (Nat×Operand)) (hx:exOp E rec (.build t ps) s h c=some r) (hs:SR E.P E.base φ h.length w s a) (hh:HR E.P E.base w0 φ h w) (hn:Cont E w0 φ h w dst a next c r) :
  (⟨dst,.build t ps,ty,pos,after,guard⟩:Oper).wp E.P a w next Q:=by
 simp only [exOp] at hx
 split at hx
 ·rename_i vs i h1 h2
  cases hb:(Nat.blt 0 i.fs.length&&allTi E i.fs&&fsOk E i.fs vs) with
  | false=>rw [hb] at hx;cases hx
  | true=>
   rw [hb] at hx
   simp only [cond_true] at hx
   simp only [Bool.and_eq_true,Nat.blt_eq] at hb
   obtain ⟨⟨hb0,hb1⟩,hb2⟩:=hb
   split at hx
   ·rename_i cs hcs
    obtain ⟨inf,z,hinf,hisz,_,hz,hzc,hzl,hzf⟩:=(hE.ti t i h2).inf
    obtain ⟨el,er⟩:=evP_rel hs h1
    obtain ⟨fs,hu,hmap⟩:=(hE.ti t i h2).struct (fun e=>by rw [e] at hb0;simp at hb0)
    obtain ⟨places,hp,hpl⟩:=places_of hE fs.toList i.fs hmap hb1
    have hpl':∀ (k off ft:Nat) j,i.fs[k]? = some (off,ft)→E.ti ft=some j→(fun k=>places.toArray[k]?) k=some (off,j.ks.length):=fun k off ft j h1 h2=>by simpa using hpl k off ft j h1 h2
    have hrows:=flatRows (E:=E) (φ:=φ) (h:=h) (w:=w) i.zero (fun v hv=>List.all_eq_true.1 hzf v hv)
    have hza:i.zero.toArray=z.cells:=by rw [← hzc]
    rw [hza] at hrows
    obtain ⟨o2,g1,g2⟩:=fillS_sound (E:=E) (w:=w) (φ:=φ) (h:=h) (fs:=i.fs) (places:=fun k=>places.toArray[k]?) vs (ps.toList.map fun p=>(p.1,a.eval p.2)) i.zero z.cells cs hcs hb2 (by simpa using el) hpl'
     (fun j p q hp hq=>by
      rw [List.getElem?_map] at hq
      cases hq':ps.toList[j]? with
      | none=>rw [hq'] at hq;cases hq
      | some q'=>
       rw [hq'] at hq
       injection hq with hq
       subst hq
       exact er j p q' hp hq') hrows
    have hrun:(Instr.build t (ps.map fun p=>(p.1,a.eval p.2))).run E.P w = .ok (.agg o2) w:=by
     refine run_build w t _ o2 ?_
     simp only [Program.built,hinf,hu,hz,hp]
     simpa using g1
    refine done_pure (o:=⟨dst,.build t ps,ty,pos,after,guard⟩) hn hh hx (.agg cs.toArray o2 (by simpa using g2.1) (fun j x y hx hy=>g2.2 j x y (by simpa using hx) hy)) ?_
    simp only [execOp]
    have:(ps.map fun x=>match x with|(i,x)=>(i,a.eval x))=ps.map fun p=>(p.1,a.eval p.2):=rfl
    rw [this]
    simp only [Sem.run_bind,hrun,Result.andThen_ok,Sem.run_pure]
   ·cases hx
 ·cases hx
theorem new_slice {φ':Nat→Nat×Nat} {n0 n m:Nat} {w1:World} {cs us:Nat} {t:Nat} (h0:φ' n0=(w.heap.size,0)) (hn:n0<n) {ucs:Array Value} (hb:w1.heap[w.heap.size]? = some (.cells ucs t (0,0))) {c':Nat} (hm:m≤c') (hf:c'*E.P.cellsOf t≤ucs.size) :
  VR E.P E.base φ' n w1 (.slice (some ⟨n0,0,none⟩) m m) (.slice (some ⟨w.heap.size,0,none⟩) m c'):=by
 have:=VR.slice (P:=E.P) (base:=E.base) (φ:=φ') (n:=n) (w:=w1) n0 0 m m c' hn hm (fun _=>⟨t,ucs.size,by simp [World.shape?,h0,hb],by rw [h0];simpa using hf⟩)
 rw [h0] at this
 exact this
theorem TFact.cellsOf {P:Program} {t:Nat} {i:TI} (F:TFact P t i):P.cellsOf t=i.ks.length:=by
 obtain ⟨f,z,hf,h1,_⟩:=F.inf
 simp [Program.cellsOf,hf,h1]
theorem op_buildSlice (hE:EnvOk E) (t:TypeId) (m:Nat) (ps:Array (Nat×Operand)) (hx:exOp E rec (.buildSlice t m ps) s h c=some r) (hs:SR E.P E.base φ h.length w s a) (hh:HR E.P E.base w0 φ h w) (hn:Cont E w0 φ h w dst a next c r) :
  (⟨dst,.buildSlice t m ps,ty,pos,after,guard⟩:Oper).wp E.P a w next Q:=by
 simp only [exOp] at hx
 split at hx
 ·rename_i vs i h1 h2
  split at hx
  ·rename_i j hj
   cases hb:(isSl i&&Nat.blt 0 j.ks.length&&Nat.ble (m*j.ks.length) 16777216) with
   | false=>rw [hb] at hx;cases hx
   | true=>
    rw [hb] at hx
    simp only [cond_true] at hx
    simp only [Bool.and_eq_true,Nat.blt_eq] at hb
    obtain ⟨⟨hb0,hb1⟩,hb2⟩:=hb
    have hb2:=Nat.le_of_ble_eq_true hb2
    split at hx
    ·rename_i cs hcs
     have F:=hE.ti i.elem j hj
     obtain ⟨z,hz,hzc,hzl,hzf⟩:=F.zero w
     obtain ⟨el,er⟩:=evP_rel hs h1
     have hu:=(hE.ti t i h2).slice hb0
     have hzs:z.cells.size=j.ks.length:=by rw [← hzl,← hzc];simp
     let zs:Array Value:=(Array.range (m*j.ks.length)).map ((if m*j.ks.length=0 then #[] else z.cells)[· % (if m*j.ks.length=0 then #[] else z.cells).size]!)
     have hrows:Rows2 E.P E.base φ h.length w (rep j.zero m) zs:=by
      refine ⟨by simp [zs,rep_length,hzl],fun k x y hx hy=>?_⟩
      have hk:k<m*j.ks.length:=by
       have:=(List.getElem?_eq_some_iff.1 hx).1
       rw [rep_length,hzl] at this;exact this
      have hne:m*j.ks.length≠0:=by omega
      rw [rep_get _ _ _ (by rw [hzl];exact hk)] at hx
      simp only [zs,if_neg hne] at hy
      rw [zerosArr z.cells _ k (by omega) hk] at hy
      rw [← hzc] at hx
      simp only [Array.length_toList,Array.getElem?_toList] at hx
      rw [hx] at hy
      injection hy with hy
      subst hy
      exact VR.flat (hzf x (by rw [← hzc];exact List.mem_of_getElem? (by simpa using hx)))
     obtain ⟨o2,g1,g2⟩:=fillR_sound (E:=E) (w:=w) (φ:=φ) (h:=h) j.ks.length vs (ps.toList.map fun p=>(p.1,a.eval p.2)) (rep j.zero m) zs cs hcs (by simpa using el)
      (fun k p q hp hq=>by
       rw [List.getElem?_map] at hq
       cases hq':ps.toList[k]? with
       | none=>rw [hq'] at hq;cases hq
       | some q'=>
        rw [hq'] at hq
        injection hq with hq
        subst hq
        exact er k p q' hp hq') hrows
     have hlen:cs.length=m*j.ks.length:=by
      have:∀ (vs:List (Nat×Value)) (cs out:List Value),fillR j.ks.length cs vs=some out→out.length=cs.length:=by
       intro vs
       induction vs with
       | nil=>intro cs out h;simp only [fillR] at h;injection h with h;rw [h]
       | cons p vs ih=>
        intro cs out h
        obtain ⟨k,v⟩:=p
        simp only [fillR] at h
        cases hb:(Nat.beq (cells v).length j.ks.length&&Nat.ble (k*j.ks.length+j.ks.length) cs.length) with
        | false=>rw [hb] at h;cases h
        | true=>
         rw [hb] at h
         simp only [cond_true] at h
         simp only [Bool.and_eq_true] at hb
         have e1:=Nat.eq_of_beq_eq_true hb.1
         have e2:=Nat.le_of_ble_eq_true hb.2
         rw [ih _ _ h]
         simp [setAt];omega
      rw [this vs _ _ hcs,rep_length,hzl]
     obtain ⟨φ',e1,e2,e3,e4,_⟩:=hh.push cs i.elem o2 (w.alloc (.cells o2 i.elem)) ⟨w.drawn,rfl⟩ (fun k v hv=>by
      have hlt:k<o2.size:=by rw [← g2.1];exact (List.getElem?_eq_some_iff.1 hv).1
      exact ⟨_,Array.getElem?_eq_getElem hlt,fun _=>g2.2 k v _ hv (Array.getElem?_eq_getElem hlt)⟩)
     unfold Oper.wp
     have hrun:(execOp a.eval (⟨dst,.buildSlice t m ps,ty,pos,after,guard⟩:Oper)).run E.P w = .ok (.value (.slice (some ⟨w.heap.size,0,none⟩) m m)) (w.alloc (.cells o2 i.elem)):=by
      have hps:(ps.map fun x=>match x with|(i,x)=>(i,a.eval x)).toList=ps.toList.map fun p=>(p.1,a.eval p.2):=by simp
      simp only [execOp,Instr.buildSlice,Sem.run_bind,TFact.under hu,Result.andThen_ok,F.size w]
      rw [if_neg (by omega)]
      by_cases h0:m*j.ks.length=0
      ·simp only [h0,if_true,Sem.run_bind,Sem.run_pure,Result.andThen_ok,hps]
       simp only [zs,h0,if_true] at g1
       rw [g1]
       simp [newRow]
      ·simp only [if_neg h0,Sem.run_bind,Sem.run_pure,hz,Result.andThen_ok,hps]
       simp only [zs,if_neg h0] at g1
       rw [g1]
       simp [newRow]
     rw [hrun]
     refine hn _ _ φ' _ _ hx e1 e2 (new_slice (E:=E) (cs:=0) (us:=0) e3 (by simp) e4 (Nat.le_refl _) ?_)
     rw [F.cellsOf,← g2.1,hlen]
     exact Nat.le_refl _
    ·cases hx
  ·cases hx
 ·cases hx
end
end Go.Proofs.Ytkdenmdijdmnjaa.Am
