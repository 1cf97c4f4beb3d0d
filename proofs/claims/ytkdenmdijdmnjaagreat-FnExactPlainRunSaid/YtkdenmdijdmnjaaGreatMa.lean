/- An abstract machine: what Go's code does to slots and to a heap of blocks whose numbers are given out in order, told by plain functions.
Conditions: none (definitions). -/
import Derived.Orders
import Derived.Below
import Derived.Laws.Externs
import Derived.Laws.AppendOwn
import Derived.Laws.Cells
import Derived.Laws.CopyRow
import Derived.Laws.Entries
import Derived.Laws.Small
import Derived.ArgAppend
import Derived.Laws.Slices
import Derived.Laws.MakeOwn
namespace Go.Proofs.YtkdenmdijdmnjaaGreat.Am
open Go
open _root_.Array renaming getElem?_eq_getElem->eZ,getElem?_eq_some_iff->f_,getElem?_setIfInBounds_ne->Gd,getElem?_toList->Jr,range->ZH
open _root_.Bool renaming and_eq_true->bz,not_true->yy
open _root_.Go.Instr renaming field->Vv,fill->EB,indexAt->Vw,sureAddr->Ez
open _root_.Go.Result renaming andThen_ok->dI
open _root_.Go.Sem renaming run_bind->dB,run_pure->eF
open _root_.Go.World renaming shape?->jK
open _root_.List renaming all_eq_true->ik,append_assoc->Vs,eq_nil_of_length_eq_zero->iL,getElem?_append_left->gE,getElem?_append_right->jL,getElem?_cons_succ->mC,getElem?_drop->bZ,getElem?_eq_getElem->bk,getElem?_eq_none->cE,getElem?_eq_some_iff->bY,getElem?_map->gD,getElem?_toArray->OU,map_cons->mD,mem_of_getElem?->dX,range->dM
open _root_.Nat renaming add_assoc->bO,add_zero->mG,beq->bg,ble->dC,blt->cx,blt_eq->e_,eq_of_beq_eq_true->dk,le_of_ble_eq_true->iK,le_of_not_lt->OO,le_refl->aT,le_trans->gi,lt_of_lt_of_le->cW,succ_mul->OW
open _root_.Option renaming bind_some->aJ
variable{a:Act}{vs:List Value}{b base n n' o t:Nat}{bN φ:Nat->Nat×Nat}{P:Program}{R:Type}{u v:Value}{w w' w0:World}
inductive K where
 | int (k:IntKind)
 | bool
 | str
 | slice
 | ptr
 | func
 | addr
 | map
 deriving DecidableEq
structure TI where
 agg:Bool
 ks:List K
 elem:Nat
 fs:List (Nat×Nat)
 zero:List Value
 bytes:Nat
 QX:Nat
variable{i:TI}
def mw(k:K)(i:TI):Bool:=!i.agg&&(match i.ks with
 | [k']=>decide (k=k')
 | _=>false)
def lN(i:TI):Bool:=mw .slice i
structure ZB where
 m:Option (List (Int×Int))
instance:Inhabited ZB:=⟨⟨none⟩⟩
structure df where
 cs:List Value
 ty:Nat
 [mp:Inhabited ZB]
variable{x:Option df}{k:df}
def df.m(k:df):Option (List (Int×Int)):=k.mp.default.m
def Gc:Nat:=4294967295
def tv(l:List (Int×Int)):df:=@df.mk [] Gc ⟨⟨some l⟩⟩
def sQ:List (Int×Int)->Int->Option Int
 | [],_=>none
 | (a,b) :: r,k=>if k=a then some b else sQ r k
def yo:List (Int×Int)->Int->Int->List (Int×Int)
 | [],k,v=>[(k,v)]
 | (a,b) :: r,k,v=>if k=a then (k,v) :: r else (a,b) :: yo r k v
abbrev az:=List (Option Value)
variable{s:az}
abbrev AH:=List (Option df)
variable{h h':AH}
abbrev Shape:=List (Option (Bool×List K))
inductive bL where
 | leaf
 | seq (j:Option Shape) (a b:bL)
 | cond (a b:bL)
 | block (a:bL)
 | loop (s1:Shape) (es:List (Nat×Shape)) (a:bL)
 | perm (p:List Nat)
 | qx (c o t:Nat)
 | wk (ks:List Nat) (a b:bL)
structure Env where
 P:Program
 tab:List (Nat×TI)
 fns:List (Nat×List (Bool×List K))
 ann:List (Nat×bL)
 base:Nat
 ix:List Nat
 iH:List (Nat×List (Bool×List K))
def yp(t:Nat):List Nat->Bool
 | []=>false
 | x :: r=>bg x t||yp t r
def find{α:Type}:List (Nat×α)->Nat->Option α
 | [],_=>none
 | (k,i) :: r,t=>cond (bg k t) (some i) (find r t)
def Env.ti(E:Env)(t:Nat):Option TI:=find E.tab t
def Env.an(E:Env)(f:Nat):Option bL:=find E.ann f
def Env.fn(E:Env)(f:Nat):Option (List (Bool×List K)):=find E.fns f
def ay:az->Nat->Option Value
 | [],_=>none
 | x :: _,0=>x
 | _ :: r,n+1=>ay r n
def pX:az->Nat->Option Value->az
 | [],_,_=>[]
 | _ :: r,0,v=>v :: r
 | x :: r,n+1,v=>x :: pX r n v
def gO(s:az):Option Nat->Option Value->az
 | none,_=>s
 | some d,v=>pX s d v
def jU:Value->Bool
 | .int _ _=>true
 | .bool _=>true
 | .string _=>true
 | .pointer none=>true
 | .slice none 0 0=>true
 | .nilFunc=>true
 | .map none=>true
 | _=>false
def ux(v:Value):Bool:=jU v||(match v with|.agg cs=>cs.toList.all jU|_=>false)
def ev(s:az):Operand->Option Value
 | .tmp t=>ay s t
 | .const v=>cond (ux v) (some v) none
 | .global _=>none
 | .func f=>some (.func (.func f) #[] #[])
def uy(s:az):List Operand->Option (List Value)
 | []=>some []
 | x :: r=>match ev s x,uy s r with
  | some v,some vs=>some (v :: vs)
  | _,_=>none
def bD(h:AH)(b:Nat):Option df:=(h[b]?).getD none
def cell(h:AH)(b o:Nat):Option Value:=(bD h b).bind λk=>k.cs[o]?
def Bi(h:AH)(b:Nat):Option (List (Int×Int)):=(bD h b).bind df.m
def au(k:IntKind):Value->Option Int
 | .int k' n=>if k'=k then some n else none
 | _=>none
def aO:Value->Option Bool
 | .bool b=>some b
 | _=>none
def aK:Value->Option ByteArray
 | .string s=>some s
 | _=>none
def aN:Value->Option (Option Addr×Nat)
 | .slice a n _=>some (a,n)
 | _=>none
def OK:Value->Option (Option Addr)
 | .pointer a=>some a
 | _=>none
def HF:Value->Option Addr
 | .pointer a=>a
 | _=>none
def getM:Value->Option Nat
 | .map b=>b
 | _=>none
def Vl:Value->Option (Fn×Array Value×Array Value)
 | .func f a b=>some (f,a,b)
 | _=>none
def leaf:Value->Bool
 | .agg _=>false
 | .tuple _=>false
 | .nilIface=>false
 | _=>true
def cells:Value->List Value
 | .agg cs=>cs.toList
 | v=>[v]
section
variable {R:Type}
def fL(k:K)(v:Option Value)(c:Value->Option R):Option R:=
 match k with
 | .int k=>(v.bind (au k)).bind λn=>c (.int k n)
 | .bool=>(v.bind aO).bind λb=>c (.bool b)
 | .str=>(v.bind aK).bind λs=>c (.string s)
 | .slice=>(v.bind aN).bind λs=>c (.slice s.1 s.2 s.2)
 | .ptr=>(v.bind OK).bind λa=>c (.pointer a)
 | .func=>(v.bind Vl).bind λf=>c (.func f.1 f.2.1 f.2.2)
 | .addr=>(v.bind HF).bind λa=>c (.pointer (some a))
 | .map=>(v.bind getM).bind λb=>c (.map (some b))
def eu(at_:Nat->Option Value):Nat->List K->(List Value->Option R)->Option R
 | _,[],c=>c []
 | o,k :: ks,c=>fL k (at_ o) λv=>eu at_ (o+1) ks λvs=>c (v :: vs)
def ig(n:Nat):Value->Option (List Value)
 | .agg cs=>cond (bg cs.toList.length n) (some cs.toList) none
 | _=>none
def cM(n:Nat):Value->Option (List Value)
 | .tuple cs=>cond (bg cs.toList.length n) (some cs.toList) none
 | _=>none
def lO(sh:Bool×List K)(v:Option Value)(c:Value->Option R):Option R:=
 match sh with
 | (true,ks)=>(v.bind (ig ks.length)).bind λl=>eu (λi=>l[i]?) 0 ks λvs=>c (.agg vs.toArray)
 | (false,[k])=>fL k v c
 | (false,_)=>none
def jv(l:List Value):Nat->List (Bool×List K)->(List Value->Option R)->Option R
 | _,[],c=>c []
 | i,sh :: r,c=>lO sh l[i]? λx=>jv l (i+1) r λxs=>c (x :: xs)
def fU(rs:List (Bool×List K))(v:Value)(c:Value->Option R):Option R:=
 match rs with
 | []=>(cM 0 v).bind λ_=>c undef
 | [sh]=>lO sh (some v) c
 | sh :: r=>(cM (sh :: r).length v).bind λl=>jv l 0 (sh :: r) λxs=>c (.tuple xs.toArray)
def ax:Shape->az->az
 | [],_=>[]
 | none :: sh,s=>ax sh s.tail
 | some _ :: sh,s=>ay s 0 :: ax sh s.tail
def lay:Shape->az->(az->Option R)->Option R
 | [],_,c=>c []
 | none :: sh,l,c=>lay sh l λr=>c (none :: r)
 | some k :: sh,l,c=>lO k (ay l 0) λv=>lay sh l.tail λr=>c (some v :: r)
def Bj:List (Nat×Shape)->Nat->az->AH->(Nat->az->AH->Option R)->Option R
 | [],_,_,_,_=>none
 | (e,sh) :: r,n,l,h,c=>if n=e then lay sh l λs'=>c e s' h else Bj r n l h c
def bH{T:Type}:Sum T R->(T->Option R)->Option R
 | .inl q,k=>k q
 | .inr r,_=>some r
def xf(sh:Shape)(c:Nat->az->AH->Option R):Nat->az->AH->Option (Sum (az×AH) R)
 | 0,s,h=>cond (bg s.length sh.length) (some (.inl (ax sh s,h))) none
 | e+1,s,h=>(c (e+1) s h).map .inr
def nj(s1:Shape)(es:List (Nat×Shape))(e:Nat)(s:az)(h:AH):Option (Nat×az×AH):=
 cond (bg s.length s1.length) (match e with
  | 0=>some (0,ax s1 s,h)
  | e+1=>match find es (e+1) with
   | some sh=>cond (bg s.length sh.length) (some (e+1,ax sh s,h)) none
   | none=>none) none
def load(E:Env)(t:Nat)(h:AH)(b o:Nat)(c:Value->Option R):Option R:=
 match E.ti t with
 | none=>none
 | some i=>match i.agg with
  | true=>eu (cell h b) o i.ks λvs=>c (.agg vs.toArray)
  | false=>match i.ks with
   | [k]=>fL k (cell h b o) c
   | _=>none
end
def setAt(cs:List Value)(o:Nat)(vs:List Value):List Value:=cs.take o++vs++cs.drop (o+vs.length)
def wr(base:Nat)(h:AH)(b o:Nat)(vs:List Value):Option AH:=
 if base<=b then (bD h b).bind λk=>if o+vs.length<=k.cs.length then some (h.set b (some ⟨setAt k.cs o vs,k.ty⟩)) else none else none
def br(h:AH)(a:Option Addr)(n:Nat):Option (List Value):=
 if n=0 then some [] else a.bind λad=>(bD h ad.block).bind λk=>if ad.off+n<=k.cs.length/\((k.cs.drop ad.off).take n).all leaf=true then some ((k.cs.drop ad.off).take n) else none
def N4:List Value->Option (List Int)
 | []=>some []
 | .int .u8 n :: r=>(N4 r).map (n :: ·)
 | _=>none
def yq(ns:List Int):ByteArray:=ns.foldl (λr n=>r.push (UInt8.ofNat n.toNat)) ByteArray.empty
def mB(s:ByteArray):List Value:=s.data.toList.map λb=>.int .u8 b.toNat
def grow(base:Nat)(h:AH)(t:Nat)(sz bytes:Nat)(a:Option Addr)(n:Nat)(new:List Value)(m:Nat):Option (Value×AH):=
 if (n+m)*bytes<=140737488355328/\n+m<=9223372036854775807 then
  match a with
  | none=>if n=0 then some (.slice (some ⟨h.length,0,none⟩) m m,h++[some ⟨new,t⟩]) else none
  | some ad=>(bD h ad.block).bind λk=>
   if base<=ad.block/\k.ty=t/\ad.off+n*sz<=k.cs.length then
    some (.slice (some ⟨h.length,0,none⟩) (n+m) (n+m),h.set ad.block none++[some ⟨(k.cs.drop ad.off).take (n*sz)++new,t⟩])
   else none
 else none
def app(base:Nat)(h:AH)(t:Nat)(sz bytes:Nat)(a:Option Addr)(n:Nat)(src:Option (List Value))(m:Nat):Option (Value×AH):=
 if m=0 then some (.slice a n n,h) else src.bind λnew=>grow base h t sz bytes a n new m
def lz(z:List Value):Nat->List Value
 | 0=>[]
 | n+1=>z++lz z n
def Bk(fs:List (Nat×Nat)):List Value->List (Nat×Value)->Option (List Value)
 | cs,[]=>some cs
 | cs,(i,v) :: r=>match fs[i]? with
  | some (off,_)=>cond (dC (off+(cells v).length) cs.length) (Bk fs (setAt cs off (cells v)) r) none
  | none=>none
def nT(sz:Nat):List Value->List (Nat×Value)->Option (List Value)
 | cs,[]=>some cs
 | cs,(i,v) :: r=>cond (bg (cells v).length sz&&dC (i*sz+sz) cs.length) (nT sz (setAt cs (i*sz) (cells v)) r) none
def N5(s:az):List (Nat×Operand)->Option (List (Nat×Value))
 | []=>some []
 | (i,x) :: r=>match ev s x,N5 s r with
  | some v,some vs=>some ((i,v) :: vs)
  | _,_=>none
def Bl(E:Env):List (Nat×Nat)->Bool
 | []=>true
 | (_,t) :: r=>(E.ti t).isSome&&Bl E r
def Jk(E:Env)(fs:List (Nat×Nat)):List (Nat×Value)->Bool
 | []=>true
 | (i,v) :: r=>(match fs[i]? with
  | some (_,t)=>match E.ti t with
   | some j=>bg (cells v).length j.ks.length
   | none=>false
  | none=>false)&&Jk E fs r
section
variable {R:Type}
def HG(op:BinOp)(k:IntKind)(m n:Int)(c:Value->Option R):Option R:=
 match op with
 | .add=>c (.int k (k.wrap (m+n)))
 | .sub=>c (.int k (k.wrap (m-n)))
 | .mul=>c (.int k (k.wrap (m*n)))
 | .quo=>if n=0 then none else c (.int k (k.wrap (m.tdiv n)))
 | .rem=>if n=0 then none else c (.int k (m.tmod n))
 | .and=>c (.int k (Go.bits .and k m n))
 | .or=>c (.int k (Go.bits .or k m n))
 | .xor=>c (.int k (Go.bits .xor k m n))
 | .eql=>c (.bool (m==n))
 | .neq=>c (.bool (m != n))
 | .lss=>c (.bool (decide (m<n)))
 | .leq=>c (.bool (decide (m<=n)))
 | .gtr=>c (.bool (decide (m>n)))
 | .geq=>c (.bool (decide (m>=n)))
 | _=>none
def HH(op:BinOp)(x y:ByteArray)(c:Value->Option R):Option R:=
 match op with
 | .add=>if x.size+y.size<=9223372036854775807 then c (.string (x++y)) else none
 | .eql=>c (.bool (x.toList==y.toList))
 | .neq=>c (.bool (!(x.toList==y.toList)))
 | .lss=>c (.bool (Op.bytesLess x.toList y.toList))
 | _=>none
def Jl(op:BinOp)(i:TI)(a b:Value)(c:Value->Option R):Option R:=
 match a,b with
 | .int k m,.int k' n=>match op with
  | .shl=>if n<0 then none else c (.int k (k.wrap (m*2 ^ min n.toNat k.bits)))
  | .shr=>if n<0 then none else c (.int k (m.fdiv (2 ^ min n.toNat k.bits)))
  | op=>if k=k' then HG op k m n c else none
 | .string x,.string y=>HH op x y c
 | .bool x,.bool y=>cond (mw .bool i) (match op with
  | .eql=>c (.bool (x==y))
  | .neq=>c (.bool (!(x==y)))
  | _=>none) none
 | _,_=>none
def ZC(op:UnOp)(a:Value)(c:Value->Option R):Option R:=
 match op,a with
 | .neg,.int k n=>c (.int k (k.wrap (0-n)))
 | .not,.bool b=>c (.bool (!b))
 | _,_=>none
def jZ(base:Nat)(h:AH)(a:Option Addr)(t l:Nat):Bool:=bg l 0||(match a with
 | none=>true
 | some ad=>cx ad.block base||(match bD h ad.block with
  | some k=>bg k.ty t
  | none=>false))
def dm(a:Option Addr)(n:Nat):Option Addr:=a.map λad=>⟨ad.block,ad.off+n,none⟩
def kE(s:az)(x:Option Operand)(d:Int):Option Int:=
 match x with
 | none=>some d
 | some y=>match ev s y with
  | some (.int _ n)=>some n
  | _=>none
def yr:Value->List Value->(Value->Option R)->Option R
 | v,[],c=>c v
 | v,u :: r,c=>match v,u with
  | .int k x,.int _ y=>yr (.int k (if y<x then y else x)) r c
  | _,_=>none
def yt:Value->List Value->(Value->Option R)->Option R
 | v,[],c=>c v
 | v,u :: r,c=>match v,u with
  | .int k x,.int _ y=>yt (.int k (if y>x then y else x)) r c
  | _,_=>none
def uz(E:Env)(ts:List Nat)(vs:List Value)(h:AH)(c:Value->AH->Option R):Option R:=
 match vs,ts with
 | [v],[t]=>match E.ti t with
  | some i=>match v with
   | .slice _ n _=>cond (lN i) (c (.int .i64 n) h) none
   | .string s=>cond (mw .str i) (c (.int .i64 s.size) h) none
   | _=>none
  | none=>none
 | _,_=>none
def lP(E:Env)(ts:List Nat)(vs:List Value)(h:AH)(c:Value->AH->Option R):Option R:=
 match vs,ts with
 | [v,x],[t,u]=>match E.ti t,E.ti u with
  | some i,some l=>match E.ti i.elem with
   | some j=>cond (lN i&&cx 0 j.ks.length) (match v with
    | .slice a n _=>match x with
     | .slice a2 m _=>cond (bg t u) ((app E.base h i.elem j.ks.length j.bytes a n (br h a2 (m*j.ks.length)) m).bind λp=>fL .slice (some p.1) λv=>c v p.2) none
     | .string y=>cond (mw .str l&&mw (.int .u8) j) ((app E.base h i.elem 1 j.bytes a n (some (mB y)) y.size).bind λp=>fL .slice (some p.1) λv=>c v p.2) none
     | .int .i64 m=>cond (mw (.int .i64) l) (if 0<=m/\m<=140737488355328 then (app E.base h i.elem j.ks.length j.bytes a n (some (lz j.zero m.toNat)) m.toNat).bind λp=>fL .slice (some p.1) λv=>c v p.2 else none) none
     | _=>none
    | _=>none) none
   | none=>none
  | _,_=>none
 | _,_=>none
def OL(vs:List Value)(c:Value->Option R):Option R:=
 match vs with
 | [.string s,.int .u8 n]=>c (.int .i64 (firstIdx s n.toNat.toUInt8))
 | _=>none
def pd(E:Env)(b:Builtin)(ts:List Nat)(vs:List Value)(h:AH)(c:Value->AH->Option R):Option R:=
 match b with
 | .len=>uz E ts vs h c
 | .min=>match vs with
  | v :: r=>yr v r λx=>c x h
  | []=>none
 | .max=>match vs with
  | v :: r=>yt v r λx=>c x h
  | []=>none
 | .append=>lP E ts vs h c
 | _=>none
def bG(E:Env)(rec:Nat->List Value->AH->Option (Value×AH))(o:Op)(s:az)(h:AH)(c:Value->AH->Option R):Option R:=
 match o with
 | .move x=>match ev s x with
  | some v=>c v h
  | none=>none
 | .assign x=>match ev s x with
  | some v=>c v h
  | none=>none
 | .pick b x y=>match ev s b with
  | some (.bool t)=>if t=true then (match ev s x with
    | some v=>c v h
    | none=>none) else (match ev s y with
    | some v=>c v h
    | none=>none)
  | _=>none
 | .alloc t=>match E.ti t with
  | some i=>c (.pointer (some ⟨h.length,0,none⟩)) (h++[some ⟨i.zero,t⟩])
  | none=>none
 | .box t x=>match ev s x with
  | some v=>match E.ti t with
   | some i=>cond (bg (cells v).length i.ks.length) (c (.pointer (some ⟨h.length,0,none⟩)) (h++[some ⟨cells v,t⟩])) none
   | none=>none
  | none=>none
 | .build t ps=>match N5 s ps.toList,E.ti t with
  | some vs,some i=>cond (cx 0 i.fs.length&&Bl E i.fs&&Jk E i.fs vs) (match Bk i.fs i.zero vs with
    | some cs=>c (.agg cs.toArray) h
    | none=>none) none
  | _,_=>none
 | .buildSlice t n ps=>match N5 s ps.toList,E.ti t with
  | some vs,some i=>match E.ti i.elem with
   | some j=>cond (lN i&&cx 0 j.ks.length&&dC (n*j.ks.length) 16777216) (match nT j.ks.length (lz j.zero n) vs with
    | some cs=>c (.slice (some ⟨h.length,0,none⟩) n n) (h++[some ⟨cs,i.elem⟩])
    | none=>none) none
   | none=>none
  | _,_=>none
 | .load t a=>match ev s a with
  | some (.pointer (some ad))=>load E t h ad.block ad.off λv=>c v h
  | _=>none
 | .store t a x=>match ev s a,ev s x with
  | some (.pointer (some ad)),some v=>match E.ti t with
   | some i=>cond (bg (cells v).length i.ks.length&&(cells v).all leaf&&cx 0 i.ks.length) ((wr E.base h ad.block ad.off (cells v)).bind λh'=>c undef h') none
   | none=>none
  | _,_=>none
 | .nilCheck x=>match ev s x with
  | some (.pointer a)=>a.bind λad=>c (.pointer (some ad)) h
  | some (.func (.func f) p q)=>c (.func (.func f) p q) h
  | _=>none
 | .binOp op t x y _=>match ev s x,ev s y,E.ti t with
  | some a,some b,some i=>Jl op i a b λv=>c v h
  | _,_,_=>none
 | .unOp op _ x=>match ev s x with
  | some a=>ZC op a λv=>c v h
  | none=>none
 | .convert src dst x=>match ev s x,E.ti src,E.ti dst with
  | some (.int _ n),some _,some i=>cond i.agg none <| match i.ks with
   | [.int k]=>c (.int k (k.wrap n)) h
   | _=>none
  | some (.slice a n _),some i0,some i=>cond (bg dst 9&&mw .str i&&lN i0) (match E.ti i0.elem with
   | some j=>cond (mw (.int .u8) j) (((br h a n).bind N4).bind λns=>c (.string (yq ns)) h) none
   | none=>none) none
  | _,_,_=>none
 | .makeSlice t l m=>match ev s l,ev s m,E.ti t with
  | some (.int .i64 n),some (.int .i64 n'),some i=>match E.ti i.elem with
   | some j=>cond (!(lN i&&cx 0 j.ks.length)) none <| if n=n'/\0<=n/\n*j.bytes<=140737488355328/\n<=140737488355328 then c (.slice (some ⟨h.length,0,none⟩) n.toNat n.toNat) (h++[some ⟨lz j.zero n.toNat,i.elem⟩]) else none
   | none=>none
  | _,_,_=>none
 | .slice t x lo hi none=>match ev s x with
  | some (.string v)=>match kE s lo 0,kE s hi v.size,E.ti t with
   | some l,some r,some i=>cond (!mw .str i) none <| if 0<=l/\l<=r/\r<=(v.size:Int) then c (.string (v.extract l.toNat r.toNat)) h else none
   | _,_,_=>none
  | some (.slice a n _)=>match E.ti t with
   | some i=>match E.ti i.elem with
    | some j=>match kE s lo 0,kE s hi n with
     | some l,some r=>cond (!lN i) none <| if 0<=l/\l<=r/\r<=(n:Int)/\jZ E.base h a i.elem l.toNat=true then c (.slice (dm a (l.toNat*j.ks.length)) (r.toNat-l.toNat) (r.toNat-l.toNat)) h else none
     | _,_=>none
    | none=>none
   | none=>none
  | _=>none
 | .fieldAddr t x f=>match ev s x,E.ti t with
  | some (.pointer (some ad)),some i=>match i.fs[f]? with
   | some (off,ft)=>match E.ti ft with
    | some j=>cond (cx 0 j.ks.length) (c (.pointer (some ⟨ad.block,ad.off+off,none⟩)) h) none
    | none=>none
   | none=>none
  | _,_=>none
 | .field t x f=>match ev s x,E.ti t with
  | some (.agg cs),some i=>match i.fs[f]? with
   | some (off,ft)=>match E.ti ft with
    | some j=>match j.agg with
     | true=>cond (dC (off+j.ks.length) cs.toList.length) (c (.agg ((cs.toList.drop off).take j.ks.length).toArray) h) none
     | false=>match cs.toList[off]? with
      | some v=>c v h
      | none=>none
    | none=>none
   | none=>none
  | _,_=>none
 | .indexAddr t x ix=>match ev s x,ev s ix,E.ti t with
  | some (.slice a n _),some (.int _ i),some ti=>match E.ti ti.elem with
   | some j=>cond (!lN ti) none (if 0<=i/\i<(n:Int) then a.bind λad=>c (.pointer (some ⟨ad.block,ad.off+i.toNat*j.ks.length,none⟩)) h else none)
   | none=>none
  | some (.pointer (some ad)),some (.int _ i),some ti=>match E.ti ti.elem with
   | some j=>cond (cx 0 ti.QX) (if 0<=i/\i<(ti.QX:Int) then c (.pointer (some ⟨ad.block,ad.off+i.toNat*j.ks.length,none⟩)) h else none) none
   | none=>none
  | _,_,_=>none
 | .index t x ix=>match ev s x,ev s ix,E.ti t with
  | some (.string v),some (.int _ i),some ti=>cond (!mw .str ti) none <| if 0<=i/\i<(v.size:Int) then c (.int .u8 ((v.data.toList.getD i.toNat 0).toNat)) h else none
  | _,_,_=>none
 | .extract t j=>match ev s t with
  | some (.tuple vs)=>match vs.toList[j]? with
   | some v=>c v h
   | none=>none
  | _=>none
 | .makeMap t none=>match E.ti t with
  | some i=>cond (mw .map i) (c (.map (some h.length)) (h++[some (tv [])])) none
  | none=>none
 | .lookup t x ix true=>match ev s x,ev s ix,E.ti t with
  | some (.map (some b)),some (.int .i64 k),some i=>match E.ti i.elem with
   | some j=>cond (mw .map i&&mw (.int .i64) j) ((Bi h b).bind λl=>c (.tuple #[.int .i64 ((sQ l k).getD 0),.bool (sQ l k).isSome]) h) none
   | none=>none
  | _,_,_=>none
 | .mapUpdate t x ix y=>match ev s x,ev s ix,ev s y,E.ti t with
  | some (.map (some b)),some (.int .i64 k),some (.int .i64 v),some i=>match E.ti i.elem with
   | some j=>cond (mw .map i&&mw (.int .i64) j) ((Bi h b).bind λl=>c undef (h.set b (some (tv (yo l k v))))) none
   | none=>none
  | _,_,_,_=>none
 | .makeFunc fn p q=>match uy s p.toList,uy s q.toList with
  | some vs,some ws=>c (.func fn vs.toArray ws.toArray) h
  | _,_=>none
 | .call cc=>match uy s cc.args.toList with
  | some vs=>match cc.callee with
   | .builtin b=>pd E b cc.argTypes.toList vs h c
   | .value f=>match ev s f with
    | some (.func (.func g) p q)=>match E.fn g with
     | some rs=>(rec g (p.toList++vs++q.toList) h).bind λr=>fU rs r.1 λv=>c v r.2
     | none=>cond (yp g E.ix) (OL (p.toList++vs++q.toList) λv=>c v h) none
    | _=>none
   | _=>none
  | none=>none
 | _=>none
def tS:Op->Option (Nat×List Operand)
 | .call c=>match c.callee with
  | .value (.tmp t)=>some (t,c.args.toList)
  | _=>none
 | _=>none
def Env.rs(E:Env)(t:Nat):Option (List (Bool×List K)):=find E.iH t
def nl(E:Env)(rec:Nat->List Value->AH->Option (Value×AH))(fn:Fn)(as:List Value)(h:AH):Option (Value×AH):=
 match fn with
 | .func g=>match E.fn g with
  | some rs=>(rec g as h).bind λr=>fU rs r.1 λv=>some (v,r.2)
  | none=>none
 | _=>none
def tT(E:Env)(rec:Nat->List Value->AH->Option (Value×AH))(o:Oper)(s:az)(h:AH)(c:Value->AH->Option R):Option R:=
 match tS o.op with
 | none=>bG E rec o.op s h c
 | some (t,xs)=>match ay s t,uy s xs,E.rs o.type with
  | some (.func fn p q),some vs,some rs=>(nl E rec fn (p.toList++vs++q.toList) h).bind λr=>fU rs r.1 λv=>c v r.2
  | _,_,_=>none
def guarded(ops:List Oper)(o:Oper)(s:az)(OM no:az->Option R):Option R:=
 match o.guard with
 | none=>OM s
 | some (j,want)=>match (ops[j]?).bind (·.dst) with
  | some d=>match ay s d with
   | some (.bool b)=>if b=true then cond want (OM (pX s d (some (.bool true)))) (no (pX s d (some (.bool true))))
     else cond want (no (pX s d (some (.bool false)))) (OM (pX s d (some (.bool false))))
   | some (.tuple _)=>no s
   | _=>none
  | none=>none
def pM(E:Env)(rec:Nat->List Value->AH->Option (Value×AH))(ops:List Oper):List Oper->az->AH->(az->AH->Option R)->Option R
 | [],s,h,c=>c s h
 | o :: r,s,h,c=>guarded ops o s (λs=>tT E rec o s h λv h'=>pM E rec ops r (gO s o.dst (some v)) h' c) λs=>pM E rec ops r (gO s o.dst (some undef)) h c
end
inductive Cl where
 | pure
 | read
 | fresh
 | fZ
def cl:Op->Cl
 | .load _ _=>.read
 | .slice _ _ (some _) _ _=>.read
 | .alloc _=>.fresh
 | .box _ _=>.fresh
 | .buildSlice _ _ _=>.fresh
 | .makeSlice _ _ _=>.fresh
 | .store _ _ _=>.fZ
 | .call c=>match c.callee with
  | .builtin .len=>.pure
  | .builtin .min=>.pure
  | .builtin .max=>.pure
  | _=>.fZ
 | .convert _ dst _=>cond (bg dst 9) .fZ .pure
 | .makeMap _ _=>.fZ
 | .lookup _ _ _ _=>.fZ
 | .mapUpdate _ _ _ _=>.fZ
 | _=>.pure
def fp(e:Edge):Bool:=match e.ground with
 | .textOnly _=>false
 | .gcOnly _=>false
 | _=>true
def sR(acc:List Nat):List Edge->Nat
 | []=>0
 | e :: r=>cond (fp e) ((1 <<< e.on) ||| acc.getD e.on 0 ||| sR acc r) (sR acc r)
def ij:List Nat->List Oper->List Nat
 | acc,[]=>acc
 | acc,o :: r=>ij (acc++[sR acc o.after.toList]) r
def tmpsOf(ops:List Oper)(o:Oper):List Nat:=
 o.dst.toList++(o.op.operands.toList.filterMap fun|.tmp t=>some t|_=>none)++(match o.guard with
  | some (j,_)=>((ops[j]?).bind (·.dst)).toList
  | none=>[])
def yu(ops:List Oper)(bj:Nat)(i:Nat)(oi oj:Oper):Bool:=
 bj.testBit i||((match oi.dst with
  | some d=>!yp d (tmpsOf ops oj)
  | none=>true)&&(match oj.dst with
  | some d=>!yp d (tmpsOf ops oi)
  | none=>true))
def qy(ops:List Oper)(bj:Nat)(oj:Oper):Nat->List Oper->Bool
 | _,[]=>true
 | i,oi :: r=>yu ops bj i oi oj&&qy ops bj oj (i+1) r
def qz(j:Nat):List Edge->Bool
 | []=>true
 | e :: r=>(!fp e||cx e.on j)&&qz j r
def ON(bj:Nat)(o:Oper):Bool:=match o.guard with
 | none=>true
 | some (g,_)=>bj.testBit g
def nU(ops:List Oper)(bf:List Nat):Nat->List Oper->Bool
 | _,[]=>true
 | j,o :: r=>qz j o.after.toList&&ON (bf.getD j 0) o&&qy ops (bf.getD j 0) o 0 (ops.take j)&&nU ops bf (j+1) r
def HI:Op->Bool
 | .alloc _=>true
 | .box _ _=>true
 | .buildSlice _ _ _=>true
 | _=>false
def Jm(o:Op):Bool:=match cl o with
 | .fresh=>true
 | .fZ=>true
 | _=>false
def Bm(bi:Nat):Nat->List Oper->Bool
 | _,[]=>true
 | k,o :: r=>(!Jm o.op||bi.testBit k)&&Bm bi (k+1) r
def yv(ops:List Oper)(bf:List Nat)(j:Nat):Nat->List Oper->Bool
 | _,[]=>true
 | i,_ :: r=>(!Nat.testBit (bf.getD i 0) j||Bm (bf.getD i 0) 0 (ops.take j))&&yv ops bf j (i+1) r
def Er(ops:List Oper)(bf:List Nat)(j:Nat)(o:Op):Bool:=HI o&&yv ops bf j 0 ops
section
variable {R:Type}
noncomputable def gate(p:Prop)(x:Option R):Option R:=open Classical in if p then x else none
def same(h h':AH)(b o n:Nat):Prop:=(∀ j,j<n->cell h b (o+j)=cell h' b (o+j))/\(bD h b).map (·.ty)=(bD h' b).map (·.ty)
def fP(a:Option Addr)(nm:Nat):Prop:=∀ ad,a=some ad->ad.block≠nm
def bc(h h':AH)(a:Option Addr)(n:Nat):Prop:=∀ ad,a=some ad->same h h' ad.block ad.off n
noncomputable def nV(bj:Nat)(a:Option Addr):List (Nat×Nat)->Option R->Option R
 | [],x=>x
 | (k,nm) :: r,x=>cond (bj.testBit k) (nV bj a r x) (gate (fP a nm) (nV bj a r x))
noncomputable def nW(bj:Nat)(h:AH)(a:Option Addr)(n:Nat):List (Nat×AH)->Option R->Option R
 | [],x=>x
 | (k,p) :: r,x=>cond (bj.testBit k) (nW bj h a n r x) (gate (bc p h a n) (nW bj h a n r x))
noncomputable def nX(bj:Nat)(h h':AH):List (Nat×Option Addr×Nat)->Option R->Option R
 | [],x=>x
 | (i,a,n) :: r,x=>cond (bj.testBit i) (nX bj h h' r x) (gate (bc h h' a n) (nX bj h h' r x))
noncomputable def nY(bj nm:Nat):List (Nat×Option Addr×Nat)->Option R->Option R
 | [],x=>x
 | (i,a,_) :: r,x=>cond (bj.testBit i) (nY bj nm r x) (gate (fP a nm) (nY bj nm r x))
def dS{α:Type}(bj:Nat):List (Nat×α)->Bool
 | []=>true
 | (k,_) :: r=>bj.testBit k&&dS bj r
def pY(E:Env)(s:az):Op->Option (Option Addr×Nat)
 | .load t a=>match ev s a,E.ti t with
  | some (.pointer p),some ti=>some (p,ti.ks.length)
  | _,_=>none
 | .slice _ x _ _ _=>match ev s x with
  | some (.slice a _ _)=>some (a,0)
  | some (.string _)=>some (none,0)
  | _=>none
 | _=>none
noncomputable def AX(E:Env)(rec:Nat->List Value->AH->Option (Value×AH))(ops:List Oper)(bf:List Nat):List Oper->Nat->az->AH->List (Nat×AH)->List (Nat×Option Addr×Nat)->List (Nat×Nat)->(az->AH->Option R)->Option R
 | [],_,s,h,_,_,_,c=>c s h
 | o :: r,i,s,h,Bn,Es,an,c=>guarded ops o s
  (λs=>match cl o.op with
   | .pure=>bG E rec o.op s h λv h'=>AX E rec ops bf r (i+1) (gO s o.dst (some v)) h' Bn Es an c
   | .fresh=>cond ((dS (bf.getD i 0) Bn&&dS (bf.getD i 0) an)||Er ops bf i o.op) (nY (bf.getD i 0) h.length Es (bG E rec o.op s h λv h'=>AX E rec ops bf r (i+1) (gO s o.dst (some v)) h' Bn Es ((i,h.length) :: an) c)) none
   | .read=>match pY E s o.op with
    | some (a,n)=>nV (bf.getD i 0) a an (nW (bf.getD i 0) h a n Bn
       (bG E rec o.op s h λv h'=>AX E rec ops bf r (i+1) (gO s o.dst (some v)) h' Bn ((i,a,n) :: Es) an c))
    | none=>none
   | .fZ=>cond (dS (bf.getD i 0) Bn&&dS (bf.getD i 0) an) (tT E rec o s h λv h'=>
     nX (bf.getD i 0) h h' Es (AX E rec ops bf r (i+1) (gO s o.dst (some v)) h' ((i,h) :: Bn) Es an c)) none)
  λs=>AX E rec ops bf r (i+1) (gO s o.dst (some undef)) h Bn Es an c
end
def pos:List Nat->Nat->Nat
 | [],_=>0
 | k :: r,j=>cond (bg k j) 0 (pos r j+1)
def jB(p:List Nat)(o:Oper):Oper:=
 { o with after:=(o.after.toList.map λe=>{ e with on:=pos p e.on }).toArray,guard:=match o.guard with|some (j,b)=>some (pos p j,b)|none=>none }
def fV(p:List Nat)(l:List Oper):List Oper:=p.map λj=>match l[j]? with|some o=>jB p o|none=>default
def QY(p:List Nat)(n:Nat)(k:Nat):Bool:=match p[k]? with|some j=>cx j n&&bg (pos p j) k|none=>false
def QZ(p:List Nat)(j:Nat):Bool:=match p[pos p j]? with|some k=>bg k j|none=>false
def lA(p:List Nat)(n:Nat):Bool:=bg p.length n&&((dM n).all (QY p n)&&(dM n).all (QZ p))
def cN:bL->List Oper->List Oper
 | .perm p,l=>cond (lA p l.length) (fV p l) l
 | _,l=>l
abbrev Rec:=Nat->List Value->AH->Option (Value×AH)
abbrev Body:=az->AH->Option (Nat×az×AH)
def db(c o t:Nat)(T:Nat->Nat)(p:Nat->String)(d:Departure):Array Oper:=
 #[⟨some c,.alloc t,T 0,p 0,#[],none⟩,⟨none,.store t (.tmp c) (.const (.bool true)),T 1,p 1,#[⟨0,.data⟩,⟨2,.gcOnly d⟩],none⟩,⟨none,.store t (.tmp c) (.const (.bool false)),T 2,p 2,#[⟨0,.data⟩,⟨1,.textOnly d⟩],none⟩,⟨some o,.load t (.tmp c),T 3,p 3,#[⟨0,.data⟩,⟨0,.phase⟩,⟨1,.phase⟩,⟨2,.phase⟩],none⟩]
def Jn(E:Env)(c o t:Nat)(ops:Array Oper):Prop:=(∃ T p d,ops=db c o t T p d)/\∃ i z,E.ti t=some i/\i.agg=false/\i.ks = [.bool]/\i.zero = [z]
def Bo(s:az)(c o:Nat)(h:AH)(b:Bool):az:=gO (gO s (some c) (some (.pointer (some ⟨h.length,0,none⟩)))) (some o) (some (.bool b))
def np(s:az):List Nat->AH->AH
 | [],h=>h
 | t :: r,h=>np s r (match ay s t with|some (.slice (some ad) _ _)=>h.set ad.block none|_=>h)
def aeS:Code->Array Oper
 | .region _ ops _=>ops
 | _=>#[]
noncomputable def aP(E:Env)(rec:Rec)(lp:Body->Body):bL->Code->{R:Type}->az->AH->(Nat->az->AH->Option R)->Option R
 | _,.skip,_,s,h,c=>c 0 s h
 | _,.region _ ops false,_,s,h,c=>pM E rec ops.toList ops.toList s h (c 0)
 | .qx cc o t,.region _ ops true,_,s,h,c=>cond (cx cc s.length) (gate (Jn E cc o t ops) (gate (c 0 (Bo s cc o h true) (h++[none])=c 0 (Bo s cc o h false) (h++[none])) (c 0 (Bo s cc o h true) (h++[none])))) none
 | an,.region _ ops true,_,s,h,c=>cond (nU (cN an ops.toList) (ij [] (cN an ops.toList)) 0 (cN an ops.toList)) (AX E rec (cN an ops.toList) (ij [] (cN an ops.toList)) (cN an ops.toList) 0 s h [] [] [] (c 0)) none
 | .seq none a b,.seq x y,_,s,h,c=>aP E rec lp a x s h λe s' h'=>match e with
  | 0=>aP E rec lp b y s' h' c
  | e+1=>c (e+1) s' h'
 | .seq (some sh) a b,.seq x y,_,s,h,c=>(aP E rec lp a x s h (xf sh c)).bind λp=>bH p λq=>lay sh q.1 λs'=>aP E rec lp b y s' q.2 c
 | .wk ks a b,.seq x y,_,s,h,c=>aP E rec lp a x s h λe s' h'=>match e with
  | 0=>aP E rec lp b y s' (np s' ks h') c
  | e+1=>c (e+1) s' h'
 | .cond a b,.cond x p q,_,s,h,c=>match ev s x with
  | some (.bool t)=>if t=true then aP E rec lp a p s h c else aP E rec lp b q s h c
  | _=>none
 | .block a,.block id x,_,s,h,c=>aP E rec lp a x s h λe s' h'=>cond (bg e (id+2)) (c 0 s' h') (c e s' h')
 | .loop s1 es a,.loop x,_,s,h,c=>cond (bg s.length s1.length) ((lp (λl h=>lay s1 l λs'=>aP E rec lp a x s' h (nj s1 es)) (ax s1 s) h).bind λp=>Bj es p.1 p.2.1 p.2.2 c) none
 | _,.exit id,_,s,h,c=>c (id+2) s h
 | _,.ret,_,s,h,c=>c 1 s h
 | _,_,_,_,_,_=>none
def jh(E:Env)(s:az)(h:AH):List ResultVar->(List Value->Option (Value×AH))->Option (Value×AH)
 | [],c=>c []
 | .tmp t :: r,c=>match ay s t with
  | some v=>jh E s h r λvs=>c (v :: vs)
  | none=>none
 | .cell a t :: r,c=>match ay s a with
  | some (.pointer (some ad))=>load E t h ad.block ad.off λv=>jh E s h r λvs=>c (v :: vs)
  | _=>none
def Jo:List Value->Value
 | [v]=>v
 | vs=>.tuple vs.toArray
noncomputable def sS(E:Env)(rec:Rec)(lp:Body->Body)(an:bL)(fn:Func)(args:List Value)(h:AH):Option (Value×AH):=
 match fn.body with
 | none=>none
 | some b=>aP E rec lp an b (args.map some++List.replicate (fn.ntmps-args.length) none) h λe s h'=>
   if e<=1 then jh E s h' fn.results.toList λvs=>some (Jo vs,h') else none
def dO:Nat->Body->Body
 | 0,_,_,_=>none
 | n+1,b,s,h=>(b s h).bind λp=>if p.1=0 then dO n b p.2.1 p.2.2 else some p
noncomputable def dG(E:Env):Nat->Rec
 | 0,_,_,_=>none
 | k+1,f,args,h=>match E.P.funcs[f]?,E.an f with
  | some fn,some an=>sS E (dG E k) (dO k) an fn args h
  | _,_=>none
open Go.RowKit
inductive VR (P:Program) (base:Nat) (φ:Nat->Nat×Nat) (n:Nat) (w:World):Value->Value->Prop
 | int (k:IntKind) (m:Int):VR P base φ n w (.int k m) (.int k m)
 | bool (b:Bool):VR P base φ n w (.bool b) (.bool b)
 | str (s:ByteArray):VR P base φ n w (.string s) (.string s)
 | HJ:VR P base φ n w (.pointer none) (.pointer none)
 | HK:VR P base φ n w .nilFunc .nilFunc
 | Jp:VR P base φ n w (.map none) (.map none)
 | map (b:Nat) (hb:b<n):VR P base φ n w (.map (some b)) (.map (some (φ b).1))
 | ptr (b o:Nat) (hb:b<n):VR P base φ n w (.pointer (some ⟨b,o,none⟩)) (.pointer (some ⟨(φ b).1,(φ b).2+o,none⟩))
 | empty (a:Option Addr) (c:Nat) (a':Option Addr) (ha:∀ ad,a=some ad->ad.spot=none/\ad.block<n):VR P base φ n w (.slice a 0 c) (.slice a' 0 0)
 | slice (b o m c c':Nat) (hb:b<n) (hm:m<=c') (hr:base<=(φ b).1->∃ e s,w.shape? (φ b).1=some (e,s)/\(φ b).2+o+c'*P.cellsOf e<=s) :
   VR P base φ n w (.slice (some ⟨b,o,none⟩) m c) (.slice (some ⟨(φ b).1,(φ b).2+o,none⟩) m c')
 | agg (xs ys:Array Value) (hs:xs.size=ys.size) (h:∀ (i:Nat) (x y:Value),xs[i]? = some x->ys[i]? = some y->VR P base φ n w x y):VR P base φ n w (.agg xs) (.agg ys)
 | N6 (xs ys:Array Value) (hs:xs.size=ys.size) (h:∀ (i:Nat) (x y:Value),xs[i]? = some x->ys[i]? = some y->VR P base φ n w x y):VR P base φ n w (.tuple xs) (.tuple ys)
 | func (f:Fn) (p p' q q':Array Value) (hp:p.size=p'.size) (Q0:∀ (i:Nat) (x y:Value),p[i]? = some x->p'[i]? = some y->VR P base φ n w x y)
   (hq:q.size=q'.size) (Q1:∀ (i:Nat) (x y:Value),q[i]? = some x->q'[i]? = some y->VR P base φ n w x y):VR P base φ n w (.func f p q) (.func f p' q')
def cO(w w':World):Prop:=∀ b x,w.shape? b=some x->w'.shape? b=some x
theorem cO.refl(w:World):cO w w:=λ_ _ h=>h
theorem cO.trans{a b c:World}(h:cO a b)(k:cO b c):cO a c:=λi x hx=>k i x (h i x hx)
theorem VR.mono(h:VR P base φ n w v u)
  (Vm:∀ b,b<n->bN b=φ b)(hn:n<=n')(hw:cO w w'):VR P base bN n' w' v u:=by
 induction h with
 | int k m=>exact .int k m
 | bool b=>exact .bool b
 | str s=>exact .str s
 | HJ=>exact .HJ
 | HK=>exact .HK
 | Jp=>exact .Jp
 | map b hb=>rw [<- Vm b hb];exact .map b (cW hb hn)
 | ptr b o hb=>rw [<- Vm b hb];exact .ptr b o (cW hb hn)
 | empty a c a' ha=>exact .empty a c a' λad h=>⟨(ha ad h).1,cW (ha ad h).2 hn⟩
 | slice b o m c c' hb hm hr=>
  rw [<- Vm b hb] at hr ⊢
  refine .slice b o m c c' (cW hb hn) hm λh=>?_
  obtain ⟨e,s,h1,h2⟩:=hr h
  exact ⟨e,s,hw _ _ h1,h2⟩
 | agg xs ys hs _ ih=>exact .agg xs ys hs ih
 | N6 xs ys hs _ ih=>exact .N6 xs ys hs ih
 | func f p p' q q' hp _ hq _ ihp ihq=>exact .func f p p' q q' hp ihp hq ihq
structure SR (P:Program) (base:Nat) (φ:Nat->Nat×Nat) (n:Nat) (w:World) (s:az) (a:Act):Prop where
 len:s.length=a.tmps.size
 get:∀ t v,ay s t=some v->VR P base φ n w v (a.tmps.getD t undef)
 defers:a.defers = []
theorem SR.mono{P:Program}{base:Nat}{φ bN:Nat->Nat×Nat}{n n':Nat}{w w':World}{s:az}{a:Act}(h:SR P base φ n w s a)
  (Vm:∀ b,b<n->bN b=φ b)(hn:n<=n')(hw:cO w w'):SR P base bN n' w' s a:=
 ⟨h.len,λt v ht=>(h.get t v ht).mono Vm hn hw,h.defers⟩
theorem iJ:∀ (s:az) (d:Nat) (v:Option Value),d<s.length->ay (pX s d v) d=v
 | _ :: _,0,_,_=>rfl
 | _ :: r,d+1,v,h=>iJ r d v (Nat.lt_of_succ_lt_succ h)
theorem j0:∀ (s:az) (d t:Nat) (v:Option Value),d≠t->ay (pX s d v) t=ay s t
 | [],_,_,_,_=>rfl
 | _ :: _,0,0,_,h=>absurd rfl h
 | _ :: _,0,_+1,_,_=>rfl
 | _ :: _,_+1,0,_,_=>rfl
 | _ :: r,d+1,t+1,v,h=>j0 r d t v (λe=>h (by rw [e]))
theorem iu:∀ (s:az) (d:Nat) (v:Option Value),(pX s d v).length=s.length
 | [],_,_=>rfl
 | _ :: _,0,_=>rfl
 | _ :: r,d+1,v=>by simp [pX,iu r d v]
theorem pf:∀ (s:az) (t:Nat) (v:Value),ay s t=some v->t<s.length
 | [],_,_,h=>by simp [ay] at h
 | _ :: _,0,_,_=>Nat.succ_pos _
 | _ :: r,t+1,v,h=>Nat.succ_lt_succ (pf r t v h)
theorem SR.put{P:Program}{base:Nat}{φ:Nat->Nat×Nat}{n:Nat}{w:World}{s:az}{a:Act}(h:SR P base φ n w s a)(d:Option Nat){v u:Value}(hv:VR P base φ n w v u):
  SR P base φ n w (gO s d (some v)) (a.put d u):=by
 cases d with
 | none=>exact h
 | some d=>
  refine ⟨by simp [gO,Act.put,iu,h.len],λt x ht=>?_,h.defers⟩
  simp only [gO] at ht
  by_cases e:d=t
  ·subst e
   have hd:=pf _ _ _ ht
   rw [iu] at hd
   rw [iJ _ _ _ hd] at ht
   injection ht with ht
   subst ht
   have:d<a.tmps.size:=by rw [<- h.len];exact hd
   simpa [Act.put,this] using hv
  ·rw [j0 _ _ _ _ e] at ht
   have:=h.get t x ht
   simpa [Act.put,Gd e] using this
def CR(P:Program)(base:Nat)(φ:Nat->Nat×Nat)(n:Nat)(w:World)(v u:Value):Prop:=v≠.nilIface->VR P base φ n w v u
theorem CR.mono{P:Program}{base:Nat}{φ bN:Nat->Nat×Nat}{n n':Nat}{w w':World}{v u:Value}(h:CR P base φ n w v u)
  (Vm:∀ b,b<n->bN b=φ b)(hn:n<=n')(hw:cO w w'):CR P base bN n' w' v u:=λdv=>(h dv).mono Vm hn hw
def mv(p:Int×Int):Value×Value:=(.int .i64 p.1,.int .i64 p.2)
structure HR (P:Program) (base:Nat) (w0:World) (φ:Nat->Nat×Nat) (h:AH) (w:World):Prop where
 below:Below base w0 w
 bK:∀ i k,bD h i=some k->k.m=none->∃ cs fr,w.heap[(φ i).1]? = some (.cells cs k.ty fr)/\(∀ j v,k.cs[j]? = some v->∃ u,cs[(φ i).2+j]? = some u/\CR P base φ h.length w v u)/\(base<=i->fr=(0,0)/\base<=(φ i).1)
 mp:∀ i k l,bD h i=some k->k.m=some l->base<=i/\base<=(φ i).1/\k=tv l/\∃ es clock,w.heap[(φ i).1]? = some (.map es clock)/\es.toList.map (λe=>(e.key,e.val))=l.map mv
 inj:∀ i j k l,bD h i=some k->bD h j=some l->(φ i).1=(φ j).1->i=j
 lo:∀ i,i<base->φ i=(i,0)
 len:base<=h.length
 bw:base<=w.heap.size
theorem HR.lt(hh:HR P base w0 φ h w){i:Nat}(hi:bD h i=some k):(φ i).1<w.heap.size:=by
 cases hm:k.m with
 | none=>
  obtain ⟨cs,fr,h1,_⟩:=hh.bK i k hi hm
  exact (f_.1 h1).1
 | some l=>
  obtain ⟨_,_,_,es,clock,h1,_⟩:=hh.mp i k l hi hm
  exact (f_.1 h1).1
theorem HR.nom(hh:HR P base w0 φ h w){i:Nat}(hi:bD h i=some k)(hv:k.cs[o]? = some v):k.m=none:=by
 cases hm:k.m with
 | none=>rfl
 | some l=>
  obtain ⟨_,_,e,_⟩:=hh.mp i k l hi hm
  rw [e] at hv
  simp [tv] at hv
theorem HR.Jq(hh:HR P base w0 φ h w){i:Nat}(hi:bD h i=some k)(ht:k.ty≠Gc):k.m=none:=by
 cases hm:k.m with
 | none=>rfl
 | some l=>
  obtain ⟨_,_,e,_⟩:=hh.mp i k l hi hm
  rw [e] at ht
  exact absurd rfl ht
structure Ext (φ:Nat->Nat×Nat) (h:AH) (w:World) (bN:Nat->Nat×Nat) (h':AH) (w':World):Prop where
 len:h.length<=h'.length
 pJ:∀ i,i<h.length->bN i=φ i
 live:∀ i k,bD h' i=some k->(bN i).1<w.heap.size->∃ j l,bD h j=some l/\(φ j).1=(bN i).1
 frame:∀ b,b<w.heap.size->(∀ i k,bD h i=some k->(φ i).1≠b)->w'.heap[b]? = w.heap[b]?
 size:w.heap.size<=w'.heap.size
 shape:cO w w'
theorem di{i:Nat}(hi:bD h i=some k):i<h.length:=by
 unfold bD at hi
 by_cases hl:i<h.length
 ·exact hl
 ·rw [cE (OO hl)] at hi
  simp at hi
theorem Ext.refl(φ:Nat->Nat×Nat)(h:AH)(w:World):Ext φ h w φ h w:=
 ⟨aT _,λ_ _=>rfl,λi k hi _=>⟨i,k,hi,rfl⟩,λ_ _ _=>rfl,aT _,cO.refl _⟩
theorem Ext.trans{φ φ1 vY:Nat->Nat×Nat}{h h1 h2:AH}{w w1 w2:World}(a:Ext φ h w φ1 h1 w1)(b:Ext φ1 h1 w1 vY h2 w2):Ext φ h w vY h2 w2 where
 len:=gi a.len b.len
 pJ:=λi hi=>(b.pJ i (cW hi a.len)).trans (a.pJ i hi)
 live:=λi k hi aS=>by
  obtain ⟨j,l,hj,e⟩:=b.live i k hi (cW aS a.size)
  obtain ⟨j',l',pZ,e'⟩:=a.live j l hj (by rw [e];exact aS)
  exact ⟨j',l',pZ,e'.trans e⟩
 frame:=λx hx dv=>by
  rw [b.frame x (cW hx a.size) λi k hi e=>?_,a.frame x hx dv]
  obtain ⟨j,l,hj,e'⟩:=a.live i k hi (by rw [e];exact hx)
  exact dv j l hj (e'.trans e)
 size:=gi a.size b.size
 shape:=a.shape.trans b.shape
theorem SR.ext(hs:SR P base φ h.length w s a)(e:Ext φ h w bN h' w'):
  SR P base bN h'.length w' s a:=hs.mono e.pJ e.len e.shape
theorem VR.ext(hs:VR P base φ h.length w v u)(e:Ext φ h w bN h' w'):
  VR P base bN h'.length w' v u:=hs.mono e.pJ e.len e.shape
theorem HR.drew(hh:HR P base w0 φ h w)(d:Nat):HR P base w0 φ h { w with drawn:=d } where
 below:=⟨hh.below.os,hh.below.tape,hh.below.output,hh.below.size,hh.below.block⟩
 mp:=λi k l hi hm=>hh.mp i k l hi hm
 bK:=λi k hi hm=>by
  obtain ⟨cs,fr,h1,h2,h3⟩:=hh.bK i k hi hm
  exact ⟨cs,fr,h1,λj v hj=>by
   obtain ⟨u,hu,hv⟩:=h2 j v hj
   exact ⟨u,hu,hv.mono (λ_ _=>rfl) (aT _) λ_ _ hx=>hx⟩,h3⟩
 inj:=hh.inj
 lo:=hh.lo
 len:=hh.len
 bw:=hh.bw
theorem Ext.drew(φ:Nat->Nat×Nat)(h:AH)(w:World)(d:Nat):Ext φ h w φ h { w with drawn:=d }:=
 ⟨aT _,λ_ _=>rfl,λi k hi _=>⟨i,k,hi,rfl⟩,λ_ _ _=>rfl,aT _,λ_ _ h=>h⟩
theorem VR.flat:∀ {v:Value},jU v=true->VR P base φ n w v v:=by
 intro v h
 cases v with
 | int k m=>exact .int k m
 | bool b=>exact .bool b
 | string s=>exact .str s
 | nilFunc=>exact .HK
 | map a=>cases a with
  | none=>exact .Jp
  | some a=>simp [jU] at h
 | pointer a=>cases a with
  | none=>exact .HJ
  | some a=>simp [jU] at h
 | slice a m c=>cases a with
  | none=>
   cases m with
   | zero=>cases c with
    | zero=>exact .empty none 0 none λ_ h=>by cases h
    | succ c=>simp [jU] at h
   | succ m=>simp [jU] at h
  | some a=>simp [jU] at h
 | _=>simp [jU] at h
theorem VR.ux{P:Program}{base:Nat}{φ:Nat->Nat×Nat}{n:Nat}{w:World}{v:Value}(h:Am.ux v=true):VR P base φ n w v v:=by
 unfold Am.ux at h
 rw [Bool.or_eq_true] at h
 rcases h with h|h
 ·exact VR.flat h
 ·cases v with
  | agg cs=>
   refine .agg cs cs rfl λi x y hx hy=>?_
   rw [hx] at hy
   injection hy with hy
   subst hy
   exact VR.flat (ik.1 h x (by rw [<- Jr] at hx;exact dX hx))
  | _=>cases h
def uA(d:TypeDesc)(i:TI):Prop:=match d with
 | .struct fs=>i.agg=true/\fs.toList.map (λf=>(f.offset,f.type))=i.fs
 | .array _ _=>i.agg=true/\i.fs = []
 | .slice e=>i.agg=false/\i.elem=e/\i.ks = [.slice]/\i.fs = []
 | .int k=>i.agg=false/\i.ks = [.int k]/\i.fs = []
 | .string=>i.agg=false/\i.ks = [.str]/\i.fs = []
 | .bool=>i.agg=false/\i.ks = [.bool]/\i.fs = []
 | .pointer _=>i.agg=false/\i.ks = [.ptr]/\i.fs = []
 | .func _ _ _=>i.agg=false/\i.ks = [.func]/\i.fs = []
 | .map k e=>i.agg=false/\i.ks = [.map]/\i.fs = []/\k=i.elem/\e=i.elem
 | _=>False
structure bh (P:Program) (t:Nat) (i:TI):Prop where
 inf:∃ f z,P.info? t=some f/\f.size=i.ks.length/\f.bytes=i.bytes/\f.zero=some z/\z.cells.toList=i.zero/\i.zero.length=i.ks.length/\i.zero.all jU=true
 Vn:∃ d,P.underlying t=some d/\uA d i
 YW:0<i.QX->P.underlying t=some (.array i.QX i.elem)
 zi:mw (.int .i64) i=true->∃ f,P.info? t=some f/\f.zero=some (.int .i64 0)
structure dq (E:Env):Prop where
 ti:∀ t i,E.ti t=some i->bh E.P t i
 nom:E.ti Gc=none
 mixed:E.P.follows .mixedOrders=true
 fn:∀ f rs,E.fn f=some rs->∀ args w,(callFunc f args).run E.P w = .ok (.enter f args) w
 ix:∀ f,yp f E.ix=true->∀ s n w,(callFunc f #[.string s,.int .u8 n]).run E.P w = .ok (.value (.int .i64 (firstIdx s n.toNat.toUInt8))) w
theorem dq.Jq{E:Env}(hE:dq E)(h:E.ti t=some i):t≠Gc:=λe=>by rw [e,hE.nom] at h;cases h
set_option linter.unusedSimpArgs false
set_option linter.unusedVariables false
theorem lQ{k:K}(h:mw k i=true):i.agg=false/\i.ks = [k]:=by
 unfold mw at h
 simp only [bz,Bool.not_eq_true'] at h
 obtain ⟨h1,h2⟩:=h
 refine ⟨h1,?_⟩
 split at h2
 ·rename_i k' e
  rw [e]
  rw [of_decide_eq_true h2]
 ·cases h2
theorem bh.Bp(F:bh P t i){k:K}(ha:i.agg=false)(hk:i.ks = [k]):
  (∀ n,k = .int n->P.underlying t=some (.int n))/\(k = .bool->P.underlying t=some .bool)/\(k = .str->P.underlying t=some .string)/\(k = .slice->P.underlying t=some (.slice i.elem)):=by
 obtain ⟨d,hd,hu⟩:=F.Vn
 cases d<;>simp only [uA] at hu<;>first|exact hu.elim|(rw [ha] at hu;exact absurd hu.1 (by decide))|skip
 case slice e=>
  obtain ⟨h1,h2,h3,h4⟩:=hu
  rw [hk] at h3
  injection h3 with h3
  subst h3
  exact ⟨λn e=>(by cases e),λe=>(by cases e),λe=>(by cases e),λe=>(by rw [hd,h2])⟩
 all_goals
  obtain ⟨h1,h2,h3⟩:=hu
  rw [hk] at h2
  injection h2 with h2
  subst h2
  refine ⟨λn e=>?_,λe=>?_,λe=>?_,λe=>?_⟩<;>first|(cases e;exact hd)|(cases e;done)
theorem bh.slice(F:bh P t i)(h:lN i=true):P.underlying t=some (.slice i.elem):=by
 obtain ⟨h1,h2⟩:=lQ h
 exact (F.Bp h1 h2).2.2.2 rfl
theorem bh.str(F:bh P t i)(h:mw .str i=true):P.underlying t=some .string:=by
 obtain ⟨h1,h2⟩:=lQ h
 exact (F.Bp h1 h2).2.2.1 rfl
theorem bh.bool(F:bh P t i)(h:mw .bool i=true):P.underlying t=some .bool:=by
 obtain ⟨h1,h2⟩:=lQ h
 exact (F.Bp h1 h2).2.1 rfl
theorem bh.int{k:IntKind}(F:bh P t i)(h:mw (.int k) i=true):P.underlying t=some (.int k):=by
 obtain ⟨h1,h2⟩:=lQ h
 exact (F.Bp h1 h2).1 k rfl
theorem bh.field(F:bh P t i){f off ft:Nat}(h:i.fs[f]? = some (off,ft)):
  ∃ fs fd,P.underlying t=some (.struct fs)/\fs[f]? = some fd/\fd.offset=off/\fd.type=ft:=by
 obtain ⟨d,hd,hu⟩:=F.Vn
 have dv:i.fs≠[]:=λe=>by rw [e] at h;simp at h
 cases d<;>simp only [uA] at hu<;>first|exact hu.elim|skip
 all_goals first
  | exact absurd hu.2.2.2 dv
  | exact absurd hu.2.2.1 dv
  | exact absurd hu.2.2 dv
  | skip
 ·exact absurd hu.2 dv
 ·rename_i fs
  obtain ⟨_,h2⟩:=hu
  rw [<- h2,gD] at h
  cases hf:fs.toList[f]? with
  | none=>rw [hf] at h;cases h
  | some fd=>
   rw [hf] at h
   injection h with h
   injection h with h3 h4
   exact ⟨fs,fd,hd,by simpa using hf,h3,h4⟩
theorem bh.agg(F:bh P t i)(w:World):(isAgg t).run P w = .ok i.agg w:=by
 obtain ⟨d,hd,hu⟩:=F.Vn
 simp only [isAgg,dB,underlying,run_program,dI,hd,eF]
 cases d<;>simp only [uA] at hu<;>first|exact hu.elim|skip
 all_goals (rw [hu.1];rfl)
theorem bh.size(F:bh P t i)(w:World):(sizeOf t).run P w = .ok i.ks.length w:=by
 obtain ⟨f,z,hf,h1,_⟩:=F.inf
 simp [sizeOf,typeInfo,hf,h1]
theorem bh.under{d:TypeDesc}(h:P.underlying t=some d)(w:World):(underlying t).run P w = .ok d w:=by
 simp [underlying,h]
theorem bh.zero(F:bh P t i)(w:World):∃ z,(zeroValue t).run P w = .ok z w/\z.cells.toList=i.zero/\i.zero.length=i.ks.length/\∀ v∈i.zero,jU v=true:=by
 obtain ⟨f,z,hf,h1,_,h3,h4,h5,h6⟩:=F.inf
 exact ⟨z,by simp [zeroValue,typeInfo,hf,h3],h4,h5,λv hv=>ik.1 h6 v hv⟩
section
variable {P:Program} {base:Nat} {φ:Nat->Nat×Nat} {n:Nat} {w:World} {s:az} {a:Act}
theorem cm(hs:SR P base φ n w s a){x:Operand}(h:ev s x=some v):VR P base φ n w v (a.eval x):=by
 cases x with
 | tmp t=>exact hs.get t v h
 | const c=>
  simp only [ev] at h
  cases hf:ux c with
  | false=>rw [hf] at h;cases h
  | true=>rw [hf] at h;injection h with h;subst h;exact VR.ux hf
 | global g=>cases h
 | func f=>
  simp only [ev] at h
  injection h with h
  subst h
  exact .func _ _ _ _ _ rfl (λi x y hx _=>by simp at hx) rfl (λi x y hx _=>by simp at hx)
theorem jw(hs:SR P base φ n w s a):∀ {xs:List Operand} {vs:List Value},uy s xs=some vs->vs.length=xs.length/\∀ (i:Nat) (x y:Value),vs[i]? = some x->(xs.map a.eval)[i]? = some y->VR P base φ n w x y
 | [],vs,h=>by simp only [uy] at h;injection h with h;subst h;exact ⟨rfl,λi x y hx _=>by simp at hx⟩
 | x :: r,vs,h=>by
  simp only [uy] at h
  cases h1:ev s x with
  | none=>rw [h1] at h;simp at h
  | some v=>
   cases h2:uy s r with
   | none=>rw [h1,h2] at h;simp at h
   | some ji=>
    rw [h1,h2] at h
    injection h with h
    subst h
    obtain ⟨hl,hr⟩:=jw hs h2
    refine ⟨by simp [hl],λi x' y hx hy=>?_⟩
    cases i with
    | zero=>
     simp at hx hy
     subst hx;subst hy
     exact cm hs h1
    | succ i=>
     simp only [mC,mD] at hx hy
     exact hr i x' y hx hy
end
def gQ(E:Env)(w0:World)(φ:Nat->Nat×Nat)(h:AH)(w:World)(dst:Option Tmp)(a:Act)(next:Act->World->Prop)(c:Value->AH->Option R)(r:R):Prop:=
 ∀ v h' bN u w',c v h'=some r->Ext φ h w bN h' w'->HR E.P E.base w0 bN h' w'->VR E.P E.base bN h'.length w' v u->next (a.put dst u) w'
section
variable {R:Type} {E:Env} {w0 w:World} {φ:Nat->Nat×Nat} {h:AH} {s:az} {a:Act} {next:Act->World->Prop} {Q:Exit->Act->World->Prop} {r:R} {c:Value->AH->Option R} {o:Oper}
theorem bq(hn:gQ E w0 φ h w o.dst a next c r)(hh:HR E.P E.base w0 φ h w)(hc:c v h=some r)(hv:VR E.P E.base φ h.length w v u)
  (hr:(execOp a.eval o).run E.P w = .ok (.value u) w):o.wp E.P a w next Q:=by
 unfold Oper.wp
 rw [hr]
 exact hn v h φ u w hc (Ext.refl ..) hh hv
end
section
variable {P:Program} {base:Nat} {φ:Nat->Nat×Nat} {n:Nat} {w:World} {u:Value}
theorem VR.dP{k:IntKind}{m:Int}(h:VR P base φ n w (.int k m) u):u = .int k m:=by cases h;rfl
theorem VR.lR{b:Bool}(h:VR P base φ n w (.bool b) u):u = .bool b:=by cases h;rfl
theorem VR.mE{b:ByteArray}(h:VR P base φ n w (.string b) u):u = .string b:=by cases h;rfl
theorem VR.pg{ad:Addr}(h:VR P base φ n w (.pointer (some ad)) u):ad.spot=none/\ad.block<n/\u = .pointer (some ⟨(φ ad.block).1,(φ ad.block).2+ad.off,none⟩):=by
 cases h with
 | ptr b o hb=>exact ⟨rfl,hb,rfl⟩
theorem VR.Ge{xs:Array Value}(h:VR P base φ n w (.agg xs) u):∃ ys,u = .agg ys/\xs.size=ys.size/\∀ (i:Nat) (x y:Value),xs[i]? = some x->ys[i]? = some y->VR P base φ n w x y:=by
 cases h with
 | agg _ ys h1 h2=>exact ⟨ys,rfl,h1,h2⟩
theorem VR.Gf{xs:Array Value}(h:VR P base φ n w (.tuple xs) u):∃ ys,u = .tuple ys/\xs.size=ys.size/\∀ (i:Nat) (x y:Value),xs[i]? = some x->ys[i]? = some y->VR P base φ n w x y:=by
 cases h with
 | N6 _ ys h1 h2=>exact ⟨ys,rfl,h1,h2⟩
theorem VR.jj{ad:Option Addr}{m c:Nat}(h:VR P base φ n w (.slice ad m c) u):∃ a' c',u = .slice a' m c'/\m<=c' /\
  ((m=0/\c'=0/\∀ x,ad=some x->x.spot=none/\x.block<n)\/∃ x,ad=some x/\x.spot=none/\x.block<n/\a'=some ⟨(φ x.block).1,(φ x.block).2+x.off,none⟩ /\
   (base<=(φ x.block).1->∃ e s,w.shape? (φ x.block).1=some (e,s)/\(φ x.block).2+x.off+c'*P.cellsOf e<=s)):=by
 cases h with
 | empty a c a' ha=>exact ⟨a',0,rfl,aT _,.inl ⟨rfl,rfl,ha⟩⟩
 | slice b o m c c' hb hm hr=>exact ⟨_,c',rfl,hm,.inr ⟨⟨b,o,none⟩,rfl,rfl,hb,rfl,hr⟩⟩
theorem VR.kq(h:VR P base φ n w v u):(cells v).length=u.cells.size/\∀ (i:Nat) (x y:Value),(cells v)[i]? = some x->u.cells[i]? = some y->VR P base φ n w x y:=by
 have single:∀ {v u:Value},VR P base φ n w v u->∀ (i:Nat) (x y:Value),[v][i]? = some x->#[u][i]? = some y->VR P base φ n w x y:=by
  intro v u h i x y hx hy
  cases i with
  | zero=>simp at hx hy;subst hx;subst hy;exact h
  | succ i=>simp at hx
 cases h with
 | agg xs ys h1 h2=>exact ⟨by simpa [cells,Value.cells] using h1,λi x y hx hy=>h2 i x y (by simpa [cells] using hx) hy⟩
 | int k m=>exact ⟨rfl,single (.int k m)⟩
 | bool b=>exact ⟨rfl,single (.bool b)⟩
 | str s=>exact ⟨rfl,single (.str s)⟩
 | HJ=>exact ⟨rfl,single .HJ⟩
 | HK=>exact ⟨rfl,single .HK⟩
 | Jp=>exact ⟨rfl,single .Jp⟩
 | map b hb=>exact ⟨rfl,single (.map b hb)⟩
 | ptr b o hb=>exact ⟨rfl,single (.ptr b o hb)⟩
 | empty a c a' ha=>exact ⟨rfl,single (.empty a c a' ha)⟩
 | slice b o m c c' hb hm hr=>exact ⟨rfl,single (.slice b o m c c' hb hm hr)⟩
 | N6 xs ys h1 h2=>exact ⟨rfl,single (.N6 xs ys h1 h2)⟩
 | func f p p' q q' h1 h2 h3 h4=>exact ⟨rfl,single (.func f p p' q q' h1 h2 h3 h4)⟩
end
section
variable {R:Type} {E:Env} {w0 w:World} {φ:Nat->Nat×Nat} {h:AH} {s:az} {a:Act} {next:Act->World->Prop} {Q:Exit->Act->World->Prop} {r:R} {c:Value->AH->Option R}
 {rec:Rec} {dst:Option Tmp} {ty:TypeId} {pos:String} {after:Array Edge} {guard:Option (Nat×Bool)}
theorem OP(x:Operand)(hx:bG E rec (.move x) s h c=some r)(hs:SR E.P E.base φ h.length w s a)(hh:HR E.P E.base w0 φ h w)(hn:gQ E w0 φ h w dst a next c r):
  (⟨dst,.move x,ty,pos,after,guard⟩:Oper).wp E.P a w next Q:=by
 simp only [bG] at hx
 cases hv:ev s x with
 | none=>rw [hv] at hx;cases hx
 | some v=>rw [hv] at hx;exact bq (o:=⟨dst,.move x,ty,pos,after,guard⟩) hn hh hx (cm hs hv) rfl
theorem HL(x:Operand)(hx:bG E rec (.assign x) s h c=some r)(hs:SR E.P E.base φ h.length w s a)(hh:HR E.P E.base w0 φ h w)(hn:gQ E w0 φ h w dst a next c r):
  (⟨dst,.assign x,ty,pos,after,guard⟩:Oper).wp E.P a w next Q:=by
 simp only [bG] at hx
 cases hv:ev s x with
 | none=>rw [hv] at hx;cases hx
 | some v=>rw [hv] at hx;exact bq (o:=⟨dst,.assign x,ty,pos,after,guard⟩) hn hh hx (cm hs hv) rfl
theorem OQ(b x y:Operand)(hx:bG E rec (.pick b x y) s h c=some r)(hs:SR E.P E.base φ h.length w s a)(hh:HR E.P E.base w0 φ h w)(hn:gQ E w0 φ h w dst a next c r):
  (⟨dst,.pick b x y,ty,pos,after,guard⟩:Oper).wp E.P a w next Q:=by
 simp only [bG] at hx
 cases hb:ev s b with
 | none=>rw [hb] at hx;cases hx
 | some v=>
  rw [hb] at hx
  cases v with
  | bool t=>
   have hbv:=(cm hs hb).lR
   simp only at hx
   cases t with
   | true=>
    rw [if_pos rfl] at hx
    cases hv:ev s x with
    | none=>rw [hv] at hx;cases hx
    | some v=>rw [hv] at hx;exact bq (o:=⟨dst,.pick b x y,ty,pos,after,guard⟩) hn hh hx (cm hs hv) (by simp [execOp,hbv,asBool])
   | false=>
    rw [if_neg (by decide)] at hx
    cases hv:ev s y with
    | none=>rw [hv] at hx;cases hx
    | some v=>rw [hv] at hx;exact bq (o:=⟨dst,.pick b x y,ty,pos,after,guard⟩) hn hh hx (cm hs hv) (by simp [execOp,hbv,asBool])
  | _=>cases hx
theorem Vo(x:Operand)(hx:bG E rec (.nilCheck x) s h c=some r)(hs:SR E.P E.base φ h.length w s a)(hh:HR E.P E.base w0 φ h w)(hn:gQ E w0 φ h w dst a next c r):
  (⟨dst,.nilCheck x,ty,pos,after,guard⟩:Oper).wp E.P a w next Q:=by
 simp only [bG] at hx
 cases hv:ev s x with
 | none=>rw [hv] at hx;cases hx
 | some v=>
  rw [hv] at hx
  have hr:=cm hs hv
  split at hx
  ·rename_i ad e
   injection e with e
   subst e
   cases ad with
   | none=>cases hx
   | some ad=>
    simp only [aJ] at hx
    obtain ⟨_,_,hu⟩:=hr.pg
    rw [hu] at hr
    exact bq (o:=⟨dst,.nilCheck x,ty,pos,after,guard⟩) hn hh hx hr (by simp [execOp,hu])
  ·rename_i f p q e
   injection e with e
   subst e
   generalize hue:a.eval x=u at hr
   cases hr with
   | func _ _ p' _ q' h1 h2 h3 h4=>
    exact bq (o:=⟨dst,.nilCheck x,ty,pos,after,guard⟩) hn hh hx (.func _ _ p' _ q' h1 h2 h3 h4) (by simp [execOp,hue])
  ·cases hx
theorem Eu{op:BinOp}{k:IntKind}{m n:Int}{t:TypeId}(cc:Value->Option R)(hx:HG op k m n cc=some r)(h1:op≠.shl)(h2:op≠.shr):
  ∃ v,cc v=some r/\(∀ P base φ N w,VR P base φ N w v v)/\∀ w x y,(do eqGuard op t x y (.int k m) (.int k n);binOp op t (.int k m) (.int k n):Sem Value).run E.P w = .ok v w:=by
 have hg:∀ x y,eqGuard op t x y (.int k m) (.int k n)=pure ():=by
  intro x y
  cases op<;>rfl
 cases op<;>simp only [HG] at hx<;>first|(cases hx;done)|skip
 case quo=>
  split at hx
  ·cases hx
  ·rename_i hz
   exact ⟨_,hx,λ_ _ _ _ _=>.int _ _,λw x y=>by simp [hg,binOp,Op.intDiv,hz]⟩
 case rem=>
  split at hx
  ·cases hx
  ·rename_i hz
   exact ⟨_,hx,λ_ _ _ _ _=>.int _ _,λw x y=>by simp [hg,binOp,Op.intDiv,hz]⟩
 case add=>exact ⟨_,hx,λ_ _ _ _ _=>.int _ _,λw x y=>by simp [hg,binOp,Op.intArith]⟩
 case sub=>exact ⟨_,hx,λ_ _ _ _ _=>.int _ _,λw x y=>by simp [hg,binOp,Op.intArith]⟩
 case mul=>exact ⟨_,hx,λ_ _ _ _ _=>.int _ _,λw x y=>by simp [hg,binOp,Op.intArith]⟩
 case and=>exact ⟨_,hx,λ_ _ _ _ _=>.int _ _,λw x y=>by (simp [hg,binOp];rfl)⟩
 case or=>exact ⟨_,hx,λ_ _ _ _ _=>.int _ _,λw x y=>by (simp [hg,binOp];rfl)⟩
 case xor=>exact ⟨_,hx,λ_ _ _ _ _=>.int _ _,λw x y=>by (simp [hg,binOp];rfl)⟩
 all_goals exact ⟨_,hx,λ_ _ _ _ _=>.bool _,λw x y=>by simp [hg,binOp,Op.intCmp]⟩
theorem Ew{op:BinOp}{m n:ByteArray}{t:TypeId}(cc:Value->Option R)(hx:HH op m n cc=some r):
  ∃ v,cc v=some r/\(∀ P base φ N w,VR P base φ N w v v)/\∀ w x y,(do eqGuard op t x y (.string m) (.string n);binOp op t (.string m) (.string n):Sem Value).run E.P w = .ok v w:=by
 have hg:∀ x y,eqGuard op t x y (.string m) (.string n)=pure ():=by
  intro x y
  cases op<;>rfl
 cases op<;>simp only [HH] at hx<;>first|(cases hx;done)|skip
 case add=>
  split at hx
  ·rename_i hz
   have hz':¬(((m.size+n.size:Nat):Int)>IntKind.i64.max):=by
    simp [IntKind.max,IntKind.bits,IntKind.signed];omega
   exact ⟨_,hx,λ_ _ _ _ _=>.str _,λw x y=>by
    rw [hg]
    simp only [dB,eF,dI,binOp,Op.stringOp]
    rw [if_neg hz'];rfl⟩
  ·cases hx
 all_goals exact ⟨_,hx,λ_ _ _ _ _=>.bool _,λw x y=>by simp [hg,binOp,Op.stringOp]⟩
theorem Vp(hE:dq E)(op:BinOp)(t:TypeId)(x y:Operand)(t':TypeId)(hx:bG E rec (.binOp op t x y t') s h c=some r)(hs:SR E.P E.base φ h.length w s a)(hh:HR E.P E.base w0 φ h w)(hn:gQ E w0 φ h w dst a next c r):
  (⟨dst,.binOp op t x y t',ty,pos,after,guard⟩:Oper).wp E.P a w next Q:=by
 simp only [bG] at hx
 split at hx
 ·rename_i va vb i h1 h2 h3
  have ra:=cm hs h1
  have rb:=cm hs h2
  unfold Jl at hx
  split at hx
  ·rename_i k m k' n
   have ea:=ra.dP
   have eb:=rb.dP
   have hg:∀ op' k2 n2,(op' = .shl\/op' = .shr)->eqGuard op' t x y (.int k m) (.int k2 n2)=pure ():=by
    intro op' k2 n2 ho
    rcases ho with rfl|rfl<;>rfl
   split at hx
   ·split at hx
    ·cases hx
    ·rename_i HM
     exact bq (o:=⟨dst,.binOp _ t x y t',ty,pos,after,guard⟩) hn hh hx (.int _ _) (by simp [execOp,ea,eb,hg,binOp,Op.shift,HM])
   ·split at hx
    ·cases hx
    ·rename_i HM
     exact bq (o:=⟨dst,.binOp _ t x y t',ty,pos,after,guard⟩) hn hh hx (.int _ _) (by simp [execOp,ea,eb,hg,binOp,Op.shift,HM])
   ·rename_i ZD Vq
    split at hx
    ·rename_i hk
     subst hk
     obtain ⟨v,hc,hv,im⟩:=Eu (E:=E) (t:=t) _ hx ZD Vq
     have:=im w x y
     exact bq (o:=⟨dst,.binOp op t x y t',ty,pos,after,guard⟩) hn hh hc (hv _ _ _ _ _) (by
      simp only [execOp,ea,eb,dB] at this ⊢
      rw [this];rfl)
    ·cases hx
  ·rename_i m n
   have ea:=ra.mE
   have eb:=rb.mE
   obtain ⟨v,hc,hv,im⟩:=Ew (E:=E) (t:=t) _ hx
   have:=im w x y
   exact bq (o:=⟨dst,.binOp op t x y t',ty,pos,after,guard⟩) hn hh hc (hv _ _ _ _ _) (by
    simp only [execOp,ea,eb,dB] at this ⊢
    rw [this];rfl)
  ·rename_i m n
   have ea:=ra.lR
   have eb:=rb.lR
   cases hb:mw .bool i with
   | false=>rw [hb] at hx;cases hx
   | true=>
    rw [hb] at hx
    have hu:=(hE.ti t i h3).bool hb
    simp only [cond_true] at hx
    split at hx
    ·exact bq (o:=⟨dst,.binOp _ t x y t',ty,pos,after,guard⟩) hn hh hx (.bool _) (by
      have hq:=run_equal_bool (P:=E.P) w t m n hu
      have ZE:eqGuard .eql t x y (.bool m) (.bool n)=pure ():=rfl
      have ZF:eqGuard .neq t x y (.bool m) (.bool n)=pure ():=rfl
      simp only [execOp,ea,eb,ZE,ZF,binOp,dB,eF,dI,hq])
    ·exact bq (o:=⟨dst,.binOp _ t x y t',ty,pos,after,guard⟩) hn hh hx (.bool _) (by
      have hq:=run_equal_bool (P:=E.P) w t m n hu
      have ZE:eqGuard .eql t x y (.bool m) (.bool n)=pure ():=rfl
      have ZF:eqGuard .neq t x y (.bool m) (.bool n)=pure ():=rfl
      simp only [execOp,ea,eb,ZE,ZF,binOp,dB,eF,dI,hq])
    ·cases hx
  ·cases hx
 ·cases hx
theorem ZG(op:UnOp)(t:TypeId)(x:Operand)(hx:bG E rec (.unOp op t x) s h c=some r)(hs:SR E.P E.base φ h.length w s a)(hh:HR E.P E.base w0 φ h w)(hn:gQ E w0 φ h w dst a next c r):
  (⟨dst,.unOp op t x,ty,pos,after,guard⟩:Oper).wp E.P a w next Q:=by
 simp only [bG] at hx
 cases hv:ev s x with
 | none=>rw [hv] at hx;cases hx
 | some v=>
  rw [hv] at hx
  have hr:=cm hs hv
  simp only [ZC] at hx
  split at hx
  ·have e:=hr.dP
   exact bq (o:=⟨dst,.unOp _ t x,ty,pos,after,guard⟩) hn hh hx (.int _ _) (by simp [execOp,e,Op.unary,Op.intArith])
  ·have e:=hr.lR
   exact bq (o:=⟨dst,.unOp _ t x,ty,pos,after,guard⟩) hn hh hx (.bool _) (by simp [execOp,e,Op.unary])
  ·cases hx
theorem Ex(t:Operand)(j:Nat)(hx:bG E rec (.extract t j) s h c=some r)(hs:SR E.P E.base φ h.length w s a)(hh:HR E.P E.base w0 φ h w)(hn:gQ E w0 φ h w dst a next c r):
  (⟨dst,.extract t j,ty,pos,after,guard⟩:Oper).wp E.P a w next Q:=by
 simp only [bG] at hx
 split at hx
 ·rename_i vs h1
  obtain ⟨ys,e,hl,hr⟩:=(cm hs h1).Gf
  split at hx
  ·rename_i v hv
   have aS:j<ys.size:=by
    have:=(bY.1 hv).1
    rw [<- hl];simpa using this
   exact bq (o:=⟨dst,.extract t j,ty,pos,after,guard⟩) hn hh hx (hr j v ys[j] (by simpa using hv) (eZ aS)) (by
    simp [execOp,e,Instr.extract,eZ aS])
  ·cases hx
 ·cases hx
theorem OR(f:Fn)(p q:Array Operand)(hx:bG E rec (.makeFunc f p q) s h c=some r)(hs:SR E.P E.base φ h.length w s a)(hh:HR E.P E.base w0 φ h w)(hn:gQ E w0 φ h w dst a next c r):
  (⟨dst,.makeFunc f p q,ty,pos,after,guard⟩:Oper).wp E.P a w next Q:=by
 simp only [bG] at hx
 split at hx
 ·rename_i vs ws h1 h2
  obtain ⟨l1,r1⟩:=jw hs h1
  obtain ⟨l2,r2⟩:=jw hs h2
  refine bq (o:=⟨dst,.makeFunc f p q,ty,pos,after,guard⟩) hn hh hx (.func f vs.toArray (p.map a.eval) ws.toArray (q.map a.eval) ?_ ?_ ?_ ?_) (by simp [execOp,Instr.makeFunc])
  ·simpa using l1
  ·intro i x y hx hy
   exact r1 i x y (by simpa using hx) (by simpa [gD] using hy)
  ·simpa using l2
  ·intro i x y hx hy
   exact r2 i x y (by simpa using hx) (by simpa [gD] using hy)
 ·cases hx
theorem yw(hE:dq E)(t:TypeId)(x:Operand)(f:Nat)(hx:bG E rec (.fieldAddr t x f) s h c=some r)(hs:SR E.P E.base φ h.length w s a)(hh:HR E.P E.base w0 φ h w)(hn:gQ E w0 φ h w dst a next c r):
  (⟨dst,.fieldAddr t x f,ty,pos,after,guard⟩:Oper).wp E.P a w next Q:=by
 simp only [bG] at hx
 split at hx
 ·rename_i ad i h1 h2
  obtain ⟨Ey,aS,e⟩:=(cm hs h1).pg
  split at hx
  ·rename_i off ft hf
   split at hx
   ·rename_i j hj
    cases hb:cx 0 j.ks.length with
    | false=>rw [hb] at hx;cases hx
    | true=>
     rw [hb] at hx
     simp only [cond_true] at hx
     obtain ⟨fs,fd,hu,Js,ho,hft⟩:=(hE.ti t i h2).field hf
     have hz:=(hE.ti ft j hj).size w
     have dv:j.ks.length≠0:=by
      have:0<j.ks.length:=by simpa [e_] using hb
      omega
     have AY:(fieldPlace ⟨(φ ad.block).1,(φ ad.block).2+ad.off,none⟩ fd).run E.P w = .ok ⟨(φ ad.block).1,(φ ad.block).2+(ad.off+off),none⟩ w:=by
      simp only [fieldPlace,hft,dB,hz,dI,if_neg dv,eF,ho]
      congr 1
      unfold Addr.add
      split
      ·rename_i h0;subst h0;rfl
      ·simp [bO]
     refine bq (o:=⟨dst,.fieldAddr t x f,ty,pos,after,guard⟩) hn hh hx (.ptr ad.block (ad.off+off) aS) ?_
     simp only [execOp,e,Instr.fieldAt,dB,bh.under hu,dI]
     simp [Js,Ez,AY]
   ·cases hx
  ·cases hx
 ·cases hx
end
theorem rJ:bD h b=some k↔h[b]? = some (some k):=by
 unfold bD
 cases hb:h[b]? with
 | none=>simp
 | some x=>simp
theorem eG{g:AH}(hb:b<h.length):bD (h++g) b=bD h b:=by
 unfold bD;rw [gE hb]
theorem dU:bD (h++[x]) h.length=x:=by
 unfold bD;simp
theorem fq(hb:h.length<b):bD (h++[x]) b=none:=by
 unfold bD;rw [cE (by simp;omega)];rfl
theorem HN(hc:cell h b o=some v):∃ k,bD h b=some k/\k.cs[o]? = some v:=by
 unfold cell at hc
 cases hk:bD h b with
 | none=>rw [hk] at hc;cases hc
 | some k=>rw [hk] at hc;exact ⟨k,rfl,hc⟩
section
variable {E:Env} {w0 w:World} {φ:Nat->Nat×Nat} {h:AH}
theorem HR.cell(hh:HR E.P E.base w0 φ h w){b o:Nat}{v:Value}(hc:Am.cell h b o=some v):
  ∃ u,w.cell? ⟨(φ b).1,(φ b).2+o,none⟩=some u/\CR E.P E.base φ h.length w v u:=by
 obtain ⟨k,hk,hv⟩:=HN hc
 obtain ⟨cs,fr,h1,h2,_⟩:=hh.bK b k hk (hh.nom hk hv)
 obtain ⟨u,hu,hr⟩:=h2 o v hv
 exact ⟨u,by simp [World.cell?,h1,hu],hr⟩
end
theorem mF{k:K}{v:Option Value}{c:Value->Option R}{r:R}(h:fL k v c=some r):
  ∃ x y,v=some x/\c y=some r/\∀ P base φ n w u,CR P base φ n w x u->VR P base φ n w y u:=by
 cases v with
 | none=>cases k<;>simp [fL] at h
 | some x=>
  cases k with
  | int k=>
   simp only [fL,aJ] at h
   cases x with
   | int k' n=>
    simp only [au] at h
    split at h
    ·rename_i e;subst e;exact ⟨_,_,rfl,h,λ_ _ _ _ _ _ hr=>hr (by simp)⟩
    ·cases h
   | _=>cases h
  | bool=>cases x<;>simp [fL,aO] at h;exact ⟨_,_,rfl,h,λ_ _ _ _ _ _ hr=>hr (by simp)⟩
  | str=>cases x<;>simp [fL,aK] at h;exact ⟨_,_,rfl,h,λ_ _ _ _ _ _ hr=>hr (by simp)⟩
  | ptr=>cases x<;>simp [fL,OK] at h;exact ⟨_,_,rfl,h,λ_ _ _ _ _ _ hr=>hr (by simp)⟩
  | map=>
   cases x<;>simp only [fL,getM,aJ] at h<;>first|(cases h;done)|skip
   rename_i a
   cases a with
   | none=>cases h
   | some a=>exact ⟨_,_,rfl,h,λ_ _ _ _ _ _ hr=>hr (by simp)⟩
  | func=>cases x<;>simp [fL,Vl] at h;exact ⟨_,_,rfl,h,λ_ _ _ _ _ _ hr=>hr (by simp)⟩
  | addr=>
   cases x<;>simp only [fL,HF,aJ] at h<;>first|(cases h;done)|skip
   rename_i a
   cases a with
   | none=>cases h
   | some a=>exact ⟨_,_,rfl,h,λ_ _ _ _ _ _ hr=>hr (by simp)⟩
  | slice=>
   cases x<;>simp [fL,aN] at h
   refine ⟨_,_,rfl,h,λ_ _ _ _ _ _ hr=>?_⟩
   cases hr (by simp) with
   | empty a c a' ha=>exact .empty _ _ _ ha
   | slice b o _ _ c' hb hm wl=>exact .slice b o _ _ c' hb hm wl
theorem lB{R:Type}{at_:Nat->Option Value}:∀ {ks:List K} {o:Nat} {c:List Value->Option R} {r:R},eu at_ o ks c=some r ->
  ∃ vs,vs.length=ks.length/\c vs=some r/\∀ (i:Nat) (y:Value),vs[i]? = some y->∃ x,at_ (o+i)=some x/\∀ P base φ n w u,CR P base φ n w x u->VR P base φ n w y u
 | [],o,c,r,h=>⟨[],rfl,h,λi y hy=>by simp at hy⟩
 | k :: ks,o,c,r,h=>by
  simp only [eu] at h
  obtain ⟨x,y,hx,hc,hr⟩:=mF h
  obtain ⟨vs,hl,AZ,hv⟩:=lB hc
  refine ⟨y :: vs,by simp [hl],AZ,λi z hz=>?_⟩
  cases i with
  | zero=>simp at hz;subst hz;exact ⟨x,hx,hr⟩
  | succ i=>
   simp only [mC] at hz
   obtain ⟨x',j6,Jt⟩:=hv i z hz
   exact ⟨x',by rw [<- j6];congr 1;omega,Jt⟩
section
variable {R:Type} {E:Env} {w0 w:World} {φ:Nat->Nat×Nat} {h:AH} {s:az} {a:Act} {next:Act->World->Prop} {Q:Exit->Act->World->Prop} {r:R} {c:Value->AH->Option R}
 {rec:Rec} {dst:Option Tmp} {ty:TypeId} {pos:String} {after:Array Edge} {guard:Option (Nat×Bool)}
theorem uB(hE:dq E)(hh:HR E.P E.base w0 φ h w){cc:Value->Option R}(hx:load E t h b o cc=some r):
  ∃ v u,cc v=some r/\VR E.P E.base φ h.length w v u/\(loadVar t ⟨(φ b).1,(φ b).2+o,none⟩).run E.P w = .ok u w:=by
 unfold load at hx
 cases hi:E.ti t with
 | none=>rw [hi] at hx;cases hx
 | some i=>
  rw [hi] at hx
  have F:=hE.ti t i hi
  cases Ju:i.agg with
  | true=>
   simp only [Ju] at hx
   obtain ⟨vs,hl,hc,hv⟩:=lB hx
   have EA:∀ j,j<vs.length->∃ u,w.cell? ((⟨(φ b).1,(φ b).2+o,none⟩:Addr).add j)=some u/\∀ y,vs[j]? = some y->VR E.P E.base φ h.length w y u:=by
    intro j hj
    obtain ⟨x,j6,Jt⟩:=hv j vs[j] (bk hj)
    obtain ⟨u,hu,hr⟩:=hh.cell j6
    refine ⟨u,?_,λy hy=>?_⟩
    ·rw [<- hu]
     congr 1
     unfold Addr.add
     split
     ·rename_i e;subst e;rfl
     ·simp [bO]
    ·rw [bk hj] at hy
     injection hy with hy
     subst hy
     exact Jt _ _ _ _ _ _ hr
   let f:Nat->Value:=λj=>if hj:j<vs.length then (EA j hj).choose else undef
   have hf:∀ j,j<vs.length->w.cell? ((⟨(φ b).1,(φ b).2+o,none⟩:Addr).add j)=some (f j):=by
    intro j hj
    simp only [f,hj,dite_true]
    exact (EA j hj).choose_spec.1
   refine ⟨.agg vs.toArray,.agg ((dM vs.length).map f).toArray,hc,.agg _ _ (by simp) ?_,?_⟩
   ·intro j y u hy hu
    have hj:j<vs.length:=by
     have:=(f_.1 hy).1
     simpa using this
    simp [hj] at hu
    rw [<- hu]
    simp only [f,hj,dite_true]
    exact (EA j hj).choose_spec.2 y (by simpa using hy)
   ·simp only [loadVar,dB,F.agg w,dI,Ju,if_true,F.size w,<- hl,run_loadCells w _ _ f hf,eF]
  | false=>
   simp only [Ju] at hx
   split at hx
   ·rename_i k hk
    obtain ⟨x,y,j6,hc,Jt⟩:=mF hx
    obtain ⟨u,hu,hr⟩:=hh.cell j6
    refine ⟨y,u,hc,Jt _ _ _ _ _ _ hr,?_⟩
    simp [loadVar,F.agg w,Ju,hu]
   ·cases hx
theorem OS(hE:dq E)(t:TypeId)(x:Operand)(hx:bG E rec (.load t x) s h c=some r)(hs:SR E.P E.base φ h.length w s a)(hh:HR E.P E.base w0 φ h w)(hn:gQ E w0 φ h w dst a next c r):
  (⟨dst,.load t x,ty,pos,after,guard⟩:Oper).wp E.P a w next Q:=by
 simp only [bG] at hx
 split at hx
 ·rename_i ad h1
  obtain ⟨Ey,aS,e⟩:=(cm hs h1).pg
  obtain ⟨v,u,hc,hr,im⟩:=uB hE hh hx
  exact bq (o:=⟨dst,.load t x,ty,pos,after,guard⟩) hn hh hc hr (by simp [execOp,e,Instr.loadAt,Ez,im])
 ·cases hx
theorem HR.push(hh:HR E.P E.base w0 φ h w)(cs:List Value)(t:TypeId)(us:Array Value)(w1:World)(hw1:∃ d,w1=({ w with drawn:=d }:World).alloc (.cells us t))
  (hl:∀ (j:Nat) (v:Value),cs[j]? = some v->∃ u,us[j]? = some u/\CR E.P E.base φ h.length w v u):
  ∃ bN,Ext φ h w bN (h++[some ⟨cs,t⟩]) w1/\HR E.P E.base w0 bN (h++[some ⟨cs,t⟩]) w1/\bN h.length=(w.heap.size,0)/\w1.heap[w.heap.size]? = some (.cells us t (0,0))/\w1.heap.size=w.heap.size+1:=by
 obtain ⟨d,rfl⟩:=hw1
 let bN:Nat->Nat×Nat:=λi=>if i=h.length then (w.heap.size,0) else φ i
 have hold:∀ i,i<h.length->bN i=φ i:=λi hi=>by simp only [bN];rw [if_neg (by omega)]
 have gF:bN h.length=(w.heap.size,0):=by simp [bN]
 have N7:∀ b,b<w.heap.size->((({ w with drawn:=d }:World).alloc (.cells us t)).heap)[b]? = w.heap[b]?:=λb hb=>Below.heap_alloc _ _ _ hb
 have Q2:((({ w with drawn:=d }:World).alloc (.cells us t)).heap)[w.heap.size]? = some (.cells us t (0,0)):=heap_alloc_new _ _
 have jk:(({ w with drawn:=d }:World).alloc (.cells us t)).heap.size=w.heap.size+1:=by simp
 have fR:cO w (({ w with drawn:=d }:World).alloc (.cells us t)):=by
  intro b x hx
  have hb:b<w.heap.size:=by
   simp only [jK] at hx
   by_cases hb:b<w.heap.size
   ·exact hb
   ·rw [Array.getElem?_eq_none (OO hb)] at hx;cases hx
  simp only [jK,N7 b hb]
  exact hx
 have eN:∀ i k,bD h i=some k->(φ i).1<w.heap.size:=λi k hi=>hh.lt hi
 have fh:∀ i k,bD (h++[some ⟨cs,t⟩]) i=some k->(i<h.length/\bD h i=some k)\/(i=h.length/\k=⟨cs,t⟩):=λi k hi=>by
  rcases Nat.lt_trichotomy i h.length with aS|I4|uC
  ·exact .inl ⟨aS,by rw [eG aS] at hi;exact hi⟩
  ·subst I4;rw [dU] at hi;injection hi with hi;exact .inr ⟨rfl,hi.symm⟩
  ·rw [fq uC] at hi;cases hi
 refine ⟨bN,⟨by simp,hold,?_,λb hb _=>N7 b hb,by rw [jk];omega,fR⟩,⟨?_,?_,?_,?_,?_,?_,?_⟩,gF,Q2,jk⟩
 ·intro i k hi aS
  rcases fh i k hi with ⟨h1,h2⟩|⟨h1,_⟩
  ·exact ⟨i,k,h2,by rw [hold i h1]⟩
  ·subst h1;rw [gF] at aS;exact absurd aS (Nat.lt_irrefl _)
 ·exact hh.below.trans ⟨rfl,rfl,rfl,by rw [jk];omega,λb hb=>N7 b (cW hb hh.bw)⟩
 ·intro i k hi hm
  rcases fh i k hi with ⟨h1,h2⟩|⟨h1,h2⟩
  ·obtain ⟨fy,fr,g1,g2,g3⟩:=hh.bK i k h2 hm
   rw [hold i h1]
   refine ⟨fy,fr,by rw [N7 _ (eN i k h2)];exact g1,λj v hj=>?_,g3⟩
   obtain ⟨u,hu,hv⟩:=g2 j v hj
   exact ⟨u,hu,hv.mono hold (by simp) fR⟩
  ·subst h1;subst h2
   rw [gF]
   refine ⟨us,(0,0),Q2,λj v hj=>?_,λ_=>⟨rfl,hh.bw⟩⟩
   obtain ⟨u,hu,hv⟩:=hl j v hj
   exact ⟨u,by simpa using hu,hv.mono hold (by simp) fR⟩
 ·intro i k l hi hm
  rcases fh i k hi with ⟨h1,h2⟩|⟨h1,h2⟩
  ·obtain ⟨g0,g1,g2,es,clock,g3,g4⟩:=hh.mp i k l h2 hm
   rw [hold i h1]
   exact ⟨g0,g1,g2,es,clock,by rw [N7 _ (eN i k h2)];exact g3,g4⟩
  ·subst h2;cases hm
 ·intro i j k l hi hj e
  rcases fh i k hi with ⟨h1,h2⟩|⟨h1,h2⟩<;>rcases fh j l hj with ⟨g1,g2⟩|⟨g1,g2⟩
  ·rw [hold i h1,hold j g1] at e;exact hh.inj i j k l h2 g2 e
  ·subst g1;rw [hold i h1,gF] at e
   have:=eN i k h2
   simp at e;omega
  ·subst h1;rw [hold j g1,gF] at e
   have:=eN j l g2
   simp at e;omega
  ·omega
 ·intro i hi;rw [hold i (cW hi hh.len)];exact hh.lo i hi
 ·have:=hh.len;simp;omega
 ·rw [jk];have:=hh.bw;omega
theorem Q3(w:World)(o:Obj):w.alloc o=({ w with drawn:=w.drawn }:World).alloc o:=rfl
theorem Jv(hE:dq E)(t:TypeId)(hx:bG E rec (.alloc t) s h c=some r)(hs:SR E.P E.base φ h.length w s a)(hh:HR E.P E.base w0 φ h w)(hn:gQ E w0 φ h w dst a next c r):
  (⟨dst,.alloc t,ty,pos,after,guard⟩:Oper).wp E.P a w next Q:=by
 simp only [bG] at hx
 split at hx
 ·rename_i i hi
  obtain ⟨z,hz,h1,h2,h3⟩:=(hE.ti t i hi).zero w
  obtain ⟨bN,e1,e2,e3,_⟩:=hh.push i.zero t z.cells (w.alloc (.cells z.cells t)) ⟨w.drawn,rfl⟩ (λj v hj=>by
   rw [<- h1] at hj
   exact ⟨v,by simpa using hj,λ_=>VR.flat (h3 v (by rw [<- h1];exact dX hj))⟩)
  unfold Oper.wp
  have hr:(execOp a.eval (⟨dst,.alloc t,ty,pos,after,guard⟩:Oper)).run E.P w = .ok (.value (.pointer (some ⟨w.heap.size,0,none⟩))) (w.alloc (.cells z.cells t)):=by
   simp [execOp,Instr.alloc,hz,newVar,newRow]
  rw [hr]
  refine hn _ _ bN _ _ hx e1 e2 ?_
  have:=VR.ptr (P:=E.P) (base:=E.base) (φ:=bN) (n:=(h++[some (⟨i.zero,t⟩:df)]).length) (w:=w.alloc (.cells z.cells t)) h.length 0 (by simp)
  rw [e3] at this
  exact this
 ·cases hx
theorem Vr(hE:dq E)(t:TypeId)(x:Operand)(hx:bG E rec (.box t x) s h c=some r)(hs:SR E.P E.base φ h.length w s a)(hh:HR E.P E.base w0 φ h w)(hn:gQ E w0 φ h w dst a next c r):
  (⟨dst,.box t x,ty,pos,after,guard⟩:Oper).wp E.P a w next Q:=by
 simp only [bG] at hx
 split at hx
 ·rename_i v hv
  split at hx
  ·rename_i i hi
   cases hb:bg (cells v).length i.ks.length with
   | false=>rw [hb] at hx;cases hx
   | true=>
    rw [hb] at hx
    simp only [cond_true] at hx
    obtain ⟨hl,hr⟩:=(cm hs hv).kq
    obtain ⟨bN,e1,e2,e3,_⟩:=hh.push (cells v) t (a.eval x).cells (w.alloc (.cells (a.eval x).cells t)) ⟨w.drawn,rfl⟩ (λj y hj=>by
     have aS:j<(a.eval x).cells.size:=by rw [<- hl];exact (bY.1 hj).1
     exact ⟨_,eZ aS,λ_=>hr j y _ hj (eZ aS)⟩)
    unfold Oper.wp
    have im:(execOp a.eval (⟨dst,.box t x,ty,pos,after,guard⟩:Oper)).run E.P w = .ok (.value (.pointer (some ⟨w.heap.size,0,none⟩))) (w.alloc (.cells (a.eval x).cells t)):=by
     simp [execOp,Instr.box,newVar,newRow]
    rw [im]
    refine hn _ _ bN _ _ hx e1 e2 ?_
    have:=VR.ptr (P:=E.P) (base:=E.base) (φ:=bN) (n:=(h++[some (⟨cells v,t⟩:df)]).length) (w:=w.alloc (.cells (a.eval x).cells t)) h.length 0 (by simp)
    rw [e3] at this
    exact this
  ·cases hx
 ·cases hx
end
theorem VR.Gg(h:VR P base φ n w v u)(hl:leaf v=true):u.oneCell'=true:=by
 cases h<;>first|rfl|(simp [leaf] at hl)
theorem du(hb:b<h.length):bD (h.set b x) b=x:=by
 unfold bD;rw [List.getElem?_set_self hb];rfl
theorem dz{i:Nat}(hb:b≠i):bD (h.set b x) i=bD h i:=by
 unfold bD;rw [List.getElem?_set_ne hb]
theorem cY{cs:List Value}(ho:o+vs.length<=cs.length)(j:Nat):
  (setAt cs o vs)[j]? = if o<=j/\j<o+vs.length then vs[j-o]? else cs[j]?:=by
 unfold setAt
 by_cases h1:j<o
 ·rw [if_neg (by omega),Vs,gE (by simp;omega),List.getElem?_take_of_lt h1]
 ·by_cases h2:j<o+vs.length
  ·rw [if_pos ⟨by omega,h2⟩,Vs,jL (by simp;omega),gE (by simp;omega)]
   congr 1
   simp;omega
  ·rw [if_neg (by omega),jL (by simp;omega),bZ]
   congr 1
   simp;omega
section
variable {R:Type} {E:Env} {w0 w:World} {φ:Nat->Nat×Nat} {h:AH} {s:az} {a:Act} {next:Act->World->Prop} {Q:Exit->Act->World->Prop} {r:R} {c:Value->AH->Option R}
 {rec:Rec} {dst:Option Tmp} {ty:TypeId} {pos:String} {after:Array Edge} {guard:Option (Nat×Bool)}
theorem qA(w:World)(g:Nat)(pJ cs:Array Value)(t:TypeId)(fr:Nat×Nat)(hg:w.heap[g]? = some (.cells pJ t fr))(hs:cs.size=pJ.size):cO w (w.setRow g cs):=by
 intro b x hx
 by_cases e:b=g
 ·subst e
  simp only [jK,setRow_heap w b pJ cs t fr hg]
  simp only [jK,hg] at hx
  rw [hs];exact hx
 ·simp only [jK,setRow_other w g b cs e]
  exact hx
theorem HR.write(hh:HR E.P E.base w0 φ h w)(hk:bD h b=some k)(hb:E.base<=b){us:List Value}(hl:us.length=vs.length)(ho:o+vs.length<=k.cs.length)(Jw:0<vs.length)
  (hr:∀ (j:Nat) (x y:Value),vs[j]? = some x->us[j]? = some y->VR E.P E.base φ h.length w x y):
  ∃ nq,w.heap[(φ b).1]? = some (.cells nq k.ty (0,0))/\(φ b).2+o+us.length<=nq.size /\
   Ext φ h w φ (h.set b (some ⟨setAt k.cs o vs,k.ty⟩)) (w.setRow (φ b).1 (nq.toList.take ((φ b).2+o)++us++nq.toList.drop ((φ b).2+o+us.length)).toArray) /\
   HR E.P E.base w0 φ (h.set b (some ⟨setAt k.cs o vs,k.ty⟩)) (w.setRow (φ b).1 (nq.toList.take ((φ b).2+o)++us++nq.toList.drop ((φ b).2+o+us.length)).toArray):=by
 have p_:k.m=none:=hh.nom (o:=o) hk (bk (by omega))
 obtain ⟨nq,fr,h1,h2,h3⟩:=hh.bK b k hk p_
 obtain ⟨rfl,xg⟩:=h3 hb
 have aS:=di hk
 have Jx:(φ b).2+o+us.length<=nq.size:=by
  have hj:o+vs.length-1<k.cs.length:=by omega
  obtain ⟨u,hu,_⟩:=h2 (o+vs.length-1) _ (bk hj)
  have:=(f_.1 hu).1
  omega
 generalize Vt:(nq.toList.take ((φ b).2+o)++us++nq.toList.drop ((φ b).2+o+us.length)).toArray=nc
 have jk:nc.size=nq.size:=by
  rw [<- Vt]
  simp
  omega
 have bD:∀ j,nc[j]? = if (φ b).2+o<=j/\j<(φ b).2+o+us.length then us[j-((φ b).2+o)]? else nq[j]?:=by
  intro j
  have:=cY (cs:=nq.toList) (vs:=us) (o:=(φ b).2+o) (by simpa using Jx) j
  rw [<- Vt]
  simp only [setAt] at this
  simpa using this
 have fR:=qA w (φ b).1 nq nc k.ty (0,0) h1 jk
 have eN:∀ i l,Am.bD h i=some l->i≠b->(φ i).1≠(φ b).1:=λi l hi dv e=>dv (hh.inj i b l k hi hk e)
 refine ⟨nq,h1,Jx,?_⟩
 rw [Vt]
 refine ⟨⟨by simp,λ_ _=>rfl,λi l hi _=>?_,λx _ hx=>?_,by simp,fR⟩,⟨?_,?_,?_,?_,?_,by simpa using hh.len,by simpa using hh.bw⟩⟩
 ·by_cases e:b=i
  ·subst e;exact ⟨b,k,hk,rfl⟩
  ·rw [dz e] at hi;exact ⟨i,l,hi,rfl⟩
 ·exact setRow_other w _ x nc (λe=>hx b k hk e.symm)
 ·exact hh.below.trans ⟨rfl,rfl,rfl,by simp,λx hx=>setRow_other w _ x nc (by omega)⟩
 ·intro i l hi hm
  by_cases e:b=i
  ·subst e
   rw [du aS] at hi
   injection hi with hi
   subst hi
   refine ⟨nc,(0,0),setRow_heap w _ nq nc k.ty (0,0) h1,λj v hj=>?_,h3⟩
   simp only at hj
   rw [cY ho] at hj
   split at hj
   ·rename_i Eb
    have jl:j-o<us.length:=by omega
    refine ⟨us[j-o],?_,λ_=>(hr (j-o) v us[j-o] hj (bk jl)).mono (λ_ _=>rfl) (by simp) fR⟩
    rw [bD,if_pos ⟨by omega,by omega⟩,show (φ b).2+j-((φ b).2+o)=j-o from by omega]
    exact bk jl
   ·rename_i Bq
    obtain ⟨u,hu,hv⟩:=h2 j v hj
    exact ⟨u,by rw [bD,if_neg (by omega)];exact hu,hv.mono (λ_ _=>rfl) (by simp) fR⟩
  ·rw [dz e] at hi
   obtain ⟨cs,fr,g1,g2,g3⟩:=hh.bK i l hi hm
   refine ⟨cs,fr,by rw [setRow_other w _ _ nc (eN i l hi (Ne.symm e))];exact g1,λj v hj=>?_,g3⟩
   obtain ⟨u,hu,hv⟩:=g2 j v hj
   exact ⟨u,hu,hv.mono (λ_ _=>rfl) (by simp) fR⟩
 ·intro i l m hi hm
  by_cases e:b=i
  ·subst e
   rw [du aS] at hi
   injection hi with hi
   subst hi
   cases hm
  ·rw [dz e] at hi
   obtain ⟨g0,g1,g2,es,clock,g3,g4⟩:=hh.mp i l m hi hm
   exact ⟨g0,g1,g2,es,clock,by rw [setRow_other w _ _ nc (eN i l hi (Ne.symm e))];exact g3,g4⟩
 ·intro i j l m hi hj e
  have live:∀ {x y},Am.bD (h.set b (some ⟨setAt k.cs o vs,k.ty⟩)) x=some y->∃ z,Am.bD h x=some z:=by
   intro x y hx
   by_cases e:b=x
   ·subst e;exact ⟨k,hk⟩
   ·rw [dz e] at hx;exact ⟨y,hx⟩
  obtain ⟨l',Vu⟩:=live hi
  obtain ⟨m',Jy⟩:=live hj
  exact hh.inj i j l' m' Vu Jy e
 ·exact hh.lo
theorem OT{h:AH}(hx:wr base h b o vs=some h'):base<=b/\∃ k,bD h b=some k/\o+vs.length<=k.cs.length/\h'=h.set b (some ⟨setAt k.cs o vs,k.ty⟩):=by
 unfold wr at hx
 split at hx
 ·rename_i hb
  cases hk:bD h b with
  | none=>rw [hk] at hx;cases hx
  | some k=>
   rw [hk] at hx
   simp only [aJ] at hx
   split at hx
   ·rename_i ho
    injection hx with hx
    exact ⟨hb,k,rfl,ho,hx.symm⟩
   ·cases hx
 ·cases hx
theorem lS{φ:Nat->Nat×Nat}{w:World}:VR P base φ n w undef undef:=.N6 _ _ rfl λi x y hx _=>by simp [undef] at hx
theorem Jz(hE:dq E)(t:TypeId)(x y:Operand)(hx:bG E rec (.store t x y) s h c=some r)(hs:SR E.P E.base φ h.length w s a)(hh:HR E.P E.base w0 φ h w)(hn:gQ E w0 φ h w dst a next c r):
  (⟨dst,.store t x y,ty,pos,after,guard⟩:Oper).wp E.P a w next Q:=by
 simp only [bG] at hx
 split at hx
 ·rename_i ad v h1 h2
  split at hx
  ·rename_i i hi
   cases hb:(bg (cells v).length i.ks.length&&(cells v).all leaf&&cx 0 i.ks.length) with
   | false=>rw [hb] at hx;cases hx
   | true=>
    rw [hb] at hx
    simp only [cond_true] at hx
    simp only [bz,e_] at hb
    obtain ⟨⟨jM,jx⟩,hb3⟩:=hb
    have hlen:=dk jM
    cases hw:wr E.base h ad.block ad.off (cells v) with
    | none=>rw [hw] at hx;cases hx
    | some h'=>
     rw [hw] at hx
     simp only [aJ] at hx
     obtain ⟨xg,k,hk,ho,rfl⟩:=OT hw
     obtain ⟨Ey,aS,e⟩:=(cm hs h1).pg
     obtain ⟨hl,hr⟩:=(cm hs h2).kq
     obtain ⟨nq,g1,g2,g3,g4⟩:=hh.write hk xg (vs:=cells v) (us:=(a.eval y).cells.toList) (by simp [hl]) ho (by omega) (λj p q hp hq=>hr j p q hp (by simpa using hq))
     have h1c:∀ u∈(a.eval y).cells.toList,u.oneCell'=true:=by
      intro u hu
      obtain ⟨j,hj,rfl⟩:=List.mem_iff_getElem.1 hu
      have pZ:j<(cells v).length:=by rw [hl];simpa using hj
      refine (hr j _ _ (bk pZ) ?_).Gg (ik.1 jx _ (List.getElem_mem pZ))
      simp at hj ⊢
     have qB:=run_storeCells_at E.P (φ ad.block).1 ((φ ad.block).2+ad.off) k.ty (a.eval y).cells.toList 0 nq w g1 (by simpa using g2) h1c
     unfold Oper.wp
     have im:(execOp a.eval (⟨dst,.store t x y,ty,pos,after,guard⟩:Oper)).run E.P w = .ok .skip (w.setRow (φ ad.block).1 (nq.toList.take ((φ ad.block).2+ad.off)++(a.eval y).cells.toList++nq.toList.drop ((φ ad.block).2+ad.off+(a.eval y).cells.toList.length)).toArray):=by
      have jk:=(hE.ti t i hi).size w
      simp only [execOp,Instr.storeAt,e,Ez,storeVar,dB,eF,dI,jk]
      rw [if_neg (by rw [<- hl,hlen];simp)]
      simp only [mG] at qB
      rw [qB]
      rfl
     rw [im]
     exact hn _ _ φ _ _ hx g3 g4 lS
  ·cases hx
 ·cases hx
theorem JA(hE:dq E)(t:TypeId)(x:Operand)(f:Nat)(hx:bG E rec (.field t x f) s h c=some r)(hs:SR E.P E.base φ h.length w s a)(hh:HR E.P E.base w0 φ h w)(hn:gQ E w0 φ h w dst a next c r):
  (⟨dst,.field t x f,ty,pos,after,guard⟩:Oper).wp E.P a w next Q:=by
 simp only [bG] at hx
 split at hx
 ·rename_i cs i h1 h2
  obtain ⟨ys,e,hl,hr⟩:=(cm hs h1).Ge
  split at hx
  ·rename_i off ft hf
   obtain ⟨fs,fd,hu,Js,ho,hft⟩:=(hE.ti t i h2).field hf
   split at hx
   ·rename_i j hj
    have Ju:=(hE.ti ft j hj).agg w
    have jk:=(hE.ti ft j hj).size w
    cases hb:j.agg with
    | true=>
     simp only [hb] at hx
     cases hc:dC (off+j.ks.length) cs.toList.length with
     | false=>rw [hc] at hx;cases hx
     | true=>
      rw [hc] at hx
      simp only [cond_true] at hx
      have hle:=iK hc
      refine bq (o:=⟨dst,.field t x f,ty,pos,after,guard⟩) hn hh hx (.agg _ (ys.extract off (off+j.ks.length)) ?_ ?_) ?_
      ·have:cs.toList.length=ys.size:=by simpa using hl
       simp;omega
      ·intro n p q hp hq
       simp only [OU,List.getElem?_take,bZ] at hp
       rw [Array.getElem?_extract] at hq
       split at hp
       ·split at hq
        ·exact hr (off+n) p q (by simpa using hp) hq
        ·cases hq
       ·cases hp
      ·simp only [execOp,e,Vv,dB,bh.under hu,dI]
       simp [Js,asAgg,part,hft,Ju,hb,jk,ho]
    | false=>
     simp only [hb] at hx
     split at hx
     ·rename_i v hv
      have aS:off<ys.size:=by
       have:=(bY.1 hv).1
       have h2:cs.toList.length=ys.size:=by simpa using hl
       omega
      refine bq (o:=⟨dst,.field t x f,ty,pos,after,guard⟩) hn hh hx (hr off v ys[off] (by simpa using hv) (eZ aS)) ?_
      simp only [execOp,e,Vv,dB,bh.under hu,dI]
      simp [Js,asAgg,part,hft,Ju,hb,ho,eZ aS]
     ·cases hx
   ·cases hx
  ·cases hx
 ·cases hx
theorem yx(hE:dq E)(t:TypeId)(x y:Operand)(hx:bG E rec (.indexAddr t x y) s h c=some r)(hs:SR E.P E.base φ h.length w s a)(hh:HR E.P E.base w0 φ h w)(hn:gQ E w0 φ h w dst a next c r):
  (⟨dst,.indexAddr t x y,ty,pos,after,guard⟩:Oper).wp E.P a w next Q:=by
 simp only [bG] at hx
 split at hx
 ·rename_i ad n c0 k i ti h1 h2 h3
  split at hx
  ·rename_i j hj
   cases hb:lN ti with
   | false=>rw [hb] at hx;cases hx
   | true=>
    rw [hb] at hx
    simp only [yy,cond_false] at hx
    split at hx
    ·rename_i hi
     cases ad with
     | none=>cases hx
     | some ad=>
      simp only [aJ] at hx
      obtain ⟨a',c',e,hm,Gh⟩:=(cm hs h1).jj
      have ei:=(cm hs h2).dP
      have hu:=(hE.ti t ti h3).slice hb
      have jk:=(hE.ti ti.elem j hj).size w
      rcases Gh with ⟨h0,_⟩|⟨z,hz,Ey,aS,Gi,_⟩
      ·omega
      ·injection hz with hz
       subst hz
       refine bq (o:=⟨dst,.indexAddr t x y,ty,pos,after,guard⟩) hn hh hx (.ptr ad.block (ad.off+i.toNat*j.ks.length) aS) ?_
       have JB:(⟨(φ ad.block).1,(φ ad.block).2+ad.off,none⟩:Addr).add (i.toNat*j.ks.length)=⟨(φ ad.block).1,(φ ad.block).2+(ad.off+i.toNat*j.ks.length),none⟩:=by
        unfold Addr.add
        split
        ·rename_i h0;rw [h0];rfl
        ·simp [bO]
       simp only [execOp,e,ei,Gi,Vw,dB,bh.under hu,dI,asIntOf,eF]
       simp [hi,jk,JB]
    ·cases hx
  ·cases hx
 ·rename_i ad k i ti h1 h2 h3
  split at hx
  ·rename_i j hj
   cases hb:cx 0 ti.QX with
   | false=>rw [hb] at hx;cases hx
   | true=>
    rw [hb] at hx
    simp only [cond_true] at hx
    split at hx
    ·rename_i hi
     have hb:0<ti.QX:=by simpa [e_] using hb
     obtain ⟨Ey,aS,e⟩:=(cm hs h1).pg
     have ei:=(cm hs h2).dP
     have hu:=(hE.ti t ti h3).YW hb
     have jk:=(hE.ti ti.elem j hj).size w
     refine bq (o:=⟨dst,.indexAddr t x y,ty,pos,after,guard⟩) hn hh hx (.ptr ad.block (ad.off+i.toNat*j.ks.length) aS) ?_
     have JB:(⟨(φ ad.block).1,(φ ad.block).2+ad.off,none⟩:Addr).add (i.toNat*j.ks.length)=⟨(φ ad.block).1,(φ ad.block).2+(ad.off+i.toNat*j.ks.length),none⟩:=by
      unfold Addr.add
      split
      ·rename_i h0;rw [h0];rfl
      ·simp [bO]
     simp only [execOp,e,ei,Vw,dB,bh.under hu,dI,asIntOf,eF,Ez]
     simp [hi,jk,JB]
    ·cases hx
  ·cases hx
 ·cases hx
theorem JC(hE:dq E)(t:TypeId)(x y:Operand)(hx:bG E rec (.index t x y) s h c=some r)(hs:SR E.P E.base φ h.length w s a)(hh:HR E.P E.base w0 φ h w)(hn:gQ E w0 φ h w dst a next c r):
  (⟨dst,.index t x y,ty,pos,after,guard⟩:Oper).wp E.P a w next Q:=by
 simp only [bG] at hx
 split at hx
 ·rename_i v k i ti h1 h2 h3
  cases hb:mw .str ti with
  | false=>rw [hb] at hx;cases hx
  | true=>
   rw [hb] at hx
   simp only [yy,cond_false] at hx
   split at hx
   ·rename_i hi
    have e:=(cm hs h1).mE
    have ei:=(cm hs h2).dP
    have hu:=(hE.ti t ti h3).str hb
    have aS:i.toNat<v.size:=by omega
    have hd:v.data.toList.getD i.toNat 0=v[i.toNat]:=by
     have:i.toNat<v.data.toList.length:=by simpa using aS
     rw [List.getD_eq_getElem?_getD,bk this]
     rfl
    refine bq (o:=⟨dst,.index t x y,ty,pos,after,guard⟩) hn hh hx (.int _ _) ?_
    rw [hd]
    simp only [execOp,e,ei,Instr.index,dB,bh.under hu,dI,asIntOf,eF]
    rw [if_pos hi.1,getElem?_pos v i.toNat aS]
    rfl
   ·cases hx
 ·cases hx
end
theorem fA(z:List Value):∀ n,(lz z n).length=n*z.length
 | 0=>by simp [lz]
 | n+1=>by simp [lz,fA z n,OW,Nat.add_comm]
theorem qC(z:List Value):∀ (n j:Nat),j<n*z.length->(lz z n)[j]? = z[j % z.length]?
 | 0,j,h=>by simp at h
 | n+1,j,h=>by
  simp only [lz]
  by_cases hj:j<z.length
  ·rw [gE hj,Nat.mod_eq_of_lt hj]
  ·have h2:j-z.length<n*z.length:=by rw [OW] at h;omega
   rw [jL (by omega),qC z n _ h2]
   congr 1
   have:j=(j-z.length)+z.length:=by omega
   conv=>rhs;rw [this]
   simp
theorem qD(z:Array Value)(m j:Nat)(hz:0<z.size)(hj:j<m):((ZH m).map (z[· % z.size]!))[j]? = z[j % z.size]?:=by
 have h1:j % z.size<z.size:=Nat.mod_lt _ hz
 simp [hj,eZ h1,h1]
theorem xh(off:Nat):∀ (vs:List Value) (k:Nat) (cs:Array Value),off+k+vs.length<=cs.size ->
  ((vs.zipIdx k).foldl (λcs (p:Value×Nat)=>cs.setIfInBounds (off+p.2) p.1) cs).size=cs.size /\
  ∀ n,((vs.zipIdx k).foldl (λcs (p:Value×Nat)=>cs.setIfInBounds (off+p.2) p.1) cs)[n]? = if off+k<=n/\n<off+k+vs.length then vs[n-(off+k)]? else cs[n]?
 | [],k,cs,_=>⟨rfl,λn=>by simp;omega⟩
 | v :: vs,k,cs,h=>by
  simp only [List.length_cons] at h
  obtain ⟨h1,h2⟩:=xh off vs (k+1) (cs.setIfInBounds (off+k) v) (by simp;omega)
  simp only [List.zipIdx_cons,List.foldl_cons]
  refine ⟨by rw [h1];simp,λn=>?_⟩
  rw [h2]
  by_cases c1:n=off+k
  ·subst c1
   rw [if_neg (by omega),if_pos (by simp)]
   have:off+k<cs.size:=by omega
   simp [this]
  ·by_cases c2:off+(k+1)<=n/\n<off+(k+1)+vs.length
   ·rw [if_pos c2,if_pos (by simp;omega)]
    have:n-(off+k)=(n-(off+(k+1)))+1:=by omega
    rw [this]
    rfl
   ·rw [if_neg c2,if_neg (by simp;omega),Gd (by omega)]
section
variable {P:Program} {base:Nat} {φ:Nat->Nat×Nat} {n:Nat} {w:World}
def pN(P:Program)(base:Nat)(φ:Nat->Nat×Nat)(n:Nat)(w:World)(cs:List Value)(us:Array Value):Prop:=
 cs.length=us.size/\∀ (j:Nat) (x y:Value),cs[j]? = some x->us[j]? = some y->VR P base φ n w x y
theorem pN.put{cs:List Value}{us:Array Value}(h:pN P base φ n w cs us)(hv:VR P base φ n w v u)(off:Nat)(hf:off+(cells v).length<=cs.length):
  pN P base φ n w (setAt cs off (cells v)) (u.cells.zipIdx.foldl (λcs (p:Value×Nat)=>cs.setIfInBounds (off+p.2) p.1) us):=by
 obtain ⟨hl,hr⟩:=hv.kq
 have ZI:u.cells.zipIdx.foldl (λcs (p:Value×Nat)=>cs.setIfInBounds (off+p.2) p.1) us=(u.cells.toList.zipIdx 0).foldl (λcs (p:Value×Nat)=>cs.setIfInBounds (off+p.2) p.1) us:=by
  rw [<- Array.foldl_toList];simp
 rw [ZI]
 obtain ⟨g1,g2⟩:=xh off u.cells.toList 0 us (by simp;rw [<- hl,<- h.1];omega)
 refine ⟨?_,λj x y hx hy=>?_⟩
 ·rw [g1,<- h.1];simp [setAt];omega
 ·rw [cY hf] at hx
  rw [g2] at hy
  have Vu:u.cells.toList.length=(cells v).length:=by simp [hl]
  simp only [mG,Vu] at hy
  split at hx
  ·rename_i c
   rw [if_pos c] at hy
   exact hr (j-off) x y hx (by simpa using hy)
  ·rename_i c
   rw [if_neg c] at hy
   exact h.2 j x y hx hy
theorem tU{s:az}{a:Act}(hs:SR P base φ n w s a):∀ {ps:List (Nat×Operand)} {vs:List (Nat×Value)},N5 s ps=some vs ->
  vs.length=ps.length/\∀ (j:Nat) (p:Nat×Value) (q:Nat×Operand),vs[j]? = some p->ps[j]? = some q->p.1=q.1/\VR P base φ n w p.2 (a.eval q.2)
 | [],vs,h=>by simp only [N5] at h;injection h with h;subst h;exact ⟨rfl,λj p q hp _=>by simp at hp⟩
 | (i,x) :: r,vs,h=>by
  simp only [N5] at h
  cases h1:ev s x with
  | none=>rw [h1] at h;simp at h
  | some v=>
   cases h2:N5 s r with
   | none=>rw [h1,h2] at h;simp at h
   | some ji=>
    rw [h1,h2] at h
    injection h with h
    subst h
    obtain ⟨hl,hr⟩:=tU hs h2
    refine ⟨by simp [hl],λj p q hp hq=>?_⟩
    cases j with
    | zero=>simp at hp hq;subst hp;subst hq;exact ⟨rfl,cm hs h1⟩
    | succ j=>simp only [mC] at hp hq;exact hr j p q hp hq
end
section
variable {R:Type} {E:Env} {w0 w:World} {φ:Nat->Nat×Nat} {h:AH} {s:az} {a:Act} {next:Act->World->Prop} {Q:Exit->Act->World->Prop} {r:R} {c:Value->AH->Option R}
 {rec:Rec} {dst:Option Tmp} {ty:TypeId} {pos:String} {after:Array Edge} {guard:Option (Nat×Bool)}
theorem nZ(sz:Nat):∀ (vs:List (Nat×Value)) (us:List (Nat×Value)) (cs:List Value) (ws:Array Value) (out:List Value),nT sz cs vs=some out->vs.length=us.length ->
  (∀ (j:Nat) (p q:Nat×Value),vs[j]? = some p->us[j]? = some q->p.1=q.1/\VR E.P E.base φ h.length w p.2 q.2)->pN E.P E.base φ h.length w cs ws ->
  ∃ o2,EB (λi=>some (i*sz,sz)) ws us=some o2/\pN E.P E.base φ h.length w out o2
 | [],us,cs,ws,out,hf,hl,hr,hc=>by
  have:us = []:=iL (by simpa using hl.symm)
  subst this
  simp only [nT] at hf
  injection hf with hf
  subst hf
  exact ⟨ws,rfl,hc⟩
 | (i,v) :: vs,[],cs,ws,out,hf,hl,hr,hc=>by simp at hl
 | (i,v) :: vs,(i',u) :: us,cs,ws,out,hf,hl,hr,hc=>by
  obtain ⟨e,hv⟩:=hr 0 (i,v) (i',u) rfl rfl
  simp only at e
  subst e
  simp only [nT] at hf
  cases hb:(bg (cells v).length sz&&dC (i*sz+sz) cs.length) with
  | false=>rw [hb] at hf;cases hf
  | true=>
   rw [hb] at hf
   simp only [cond_true] at hf
   simp only [bz] at hb
   have e1:=dk hb.1
   have e2:=iK hb.2
   have EC:=hc.put hv (i*sz) (by rw [e1];exact e2)
   obtain ⟨o2,h1,h2⟩:=nZ sz vs us _ _ out hf (by simpa using hl) (λj p q hp hq=>hr (j+1) p q hp hq) EC
   refine ⟨o2,?_,h2⟩
   have nI:(cells v).length=u.cells.size:=hv.kq.1
   simp only [EB]
   rw [if_neg (by have:=hc.1;simp;omega)]
   exact h1
theorem sT{fs:List (Nat×Nat)}{kF:Nat->Option (Nat×Nat)}:
  ∀ (vs:List (Nat×Value)) (us:List (Nat×Value)) (cs:List Value) (ws:Array Value) (out:List Value),Bk fs cs vs=some out->Jk E fs vs=true->vs.length=us.length ->
  (∀ (i off t:Nat) j,fs[i]? = some (off,t)->E.ti t=some j->kF i=some (off,j.ks.length)) ->
  (∀ (j:Nat) (p q:Nat×Value),vs[j]? = some p->us[j]? = some q->p.1=q.1/\VR E.P E.base φ h.length w p.2 q.2)->pN E.P E.base φ h.length w cs ws ->
  ∃ o2,EB kF ws us=some o2/\pN E.P E.base φ h.length w out o2
 | [],us,cs,ws,out,hf,_,hl,_,hr,hc=>by
  have:us = []:=iL (by simpa using hl.symm)
  subst this
  simp only [Bk] at hf
  injection hf with hf
  subst hf
  exact ⟨ws,rfl,hc⟩
 | (i,v) :: vs,[],cs,ws,out,hf,_,hl,_,hr,hc=>by simp at hl
 | (i,v) :: vs,(i',u) :: us,cs,ws,out,hf,g9,hl,AY,hr,hc=>by
  obtain ⟨e,hv⟩:=hr 0 (i,v) (i',u) rfl rfl
  simp only at e
  subst e
  simp only [Bk] at hf
  simp only [Jk,bz] at g9
  obtain ⟨ED,Vx⟩:=g9
  cases hfi:fs[i]? with
  | none=>rw [hfi] at hf;cases hf
  | some p=>
   obtain ⟨off,t⟩:=p
   rw [hfi] at hf ED
   simp only at hf ED
   cases hj:E.ti t with
   | none=>rw [hj] at ED;cases ED
   | some j=>
    rw [hj] at ED
    simp only at ED
    have e1:=dk ED
    cases hb:dC (off+(cells v).length) cs.length with
    | false=>rw [hb] at hf;cases hf
    | true=>
     rw [hb] at hf
     simp only [cond_true] at hf
     have e2:=iK hb
     have EC:=hc.put hv off e2
     obtain ⟨o2,h1,h2⟩:=sT vs us _ _ out hf Vx (by simpa using hl) AY (λj p q hp hq=>hr (j+1) p q hp hq) EC
     refine ⟨o2,?_,h2⟩
     have nI:(cells v).length=u.cells.size:=hv.kq.1
     simp only [EB,AY i off t j hfi hj]
     rw [if_neg (by have:=hc.1;simp;omega)]
     exact h1
end
section
variable {R:Type} {E:Env} {w0 w:World} {φ:Nat->Nat×Nat} {h:AH} {s:az} {a:Act} {next:Act->World->Prop} {Q:Exit->Act->World->Prop} {r:R} {c:Value->AH->Option R}
 {rec:Rec} {dst:Option Tmp} {ty:TypeId} {pos:String} {after:Array Edge} {guard:Option (Nat×Bool)}
theorem xi(hE:dq E):∀ (fs:List Field) (is:List (Nat×Nat)),fs.map (λf=>(f.offset,f.type))=is->Bl E is=true ->
  ∃ kF,fs.mapM (λf=>(E.P.info? f.type).map λi=>(f.offset,i.size))=some kF/\∀ (i off t:Nat) j,is[i]? = some (off,t)->E.ti t=some j->kF[i]? = some (off,j.ks.length)
 | [],is,h,_=>by subst h;exact ⟨[],by simp,λi off t j hi _=>by simp at hi⟩
 | f :: fs,is,h,lT=>by
  subst h
  simp only [mD,Bl,bz] at lT
  obtain ⟨h1,h2⟩:=lT
  obtain ⟨kF,hp,hr⟩:=xi hE fs _ rfl h2
  cases hj:E.ti f.type with
  | none=>rw [hj] at h1;cases h1
  | some j=>
   obtain ⟨inf,z,hi,jk,_⟩:=(hE.ti f.type j hj).inf
   refine ⟨(f.offset,inf.size) :: kF,by simp [hi,hp],λi off t j' lL pZ=>?_⟩
   cases i with
   | zero=>
    simp at lL
    obtain ⟨e1,e2⟩:=lL
    subst e1;subst e2
    rw [hj] at pZ
    injection pZ with pZ
    subst pZ
    simp [jk]
   | succ i=>simp only [mD,mC] at lL ⊢;exact hr i off t j' lL pZ
theorem JD(l:List Value)(hl:∀ v∈l,jU v=true):pN E.P E.base φ h.length w l l.toArray:=
 ⟨by simp,λj x y hx hy=>by
  simp only [OU] at hy
  rw [hx] at hy
  injection hy with hy
  subst hy
  exact VR.flat (hl x (dX hx))⟩
theorem bh.struct(F:bh P t i)(dv:i.fs≠[]):∃ fs,P.underlying t=some (.struct fs)/\fs.toList.map (λf=>(f.offset,f.type))=i.fs:=by
 obtain ⟨d,hd,hu⟩:=F.Vn
 cases d<;>simp only [uA] at hu<;>first|exact hu.elim|skip
 all_goals first
  | exact absurd hu.2.2.2 dv
  | exact absurd hu.2.2.1 dv
  | exact absurd hu.2.2 dv
  | skip
 ·exact absurd hu.2 dv
 ·exact ⟨_,hd,hu.2⟩
theorem JE(hE:dq E)(t:TypeId)(ps:Array (Nat×Operand))(hx:bG E rec (.build t ps) s h c=some r)(hs:SR E.P E.base φ h.length w s a)(hh:HR E.P E.base w0 φ h w)(hn:gQ E w0 φ h w dst a next c r):
  (⟨dst,.build t ps,ty,pos,after,guard⟩:Oper).wp E.P a w next Q:=by
 simp only [bG] at hx
 split at hx
 ·rename_i vs i h1 h2
  cases hb:(cx 0 i.fs.length&&Bl E i.fs&&Jk E i.fs vs) with
  | false=>rw [hb] at hx;cases hx
  | true=>
   rw [hb] at hx
   simp only [cond_true] at hx
   simp only [bz,e_] at hb
   obtain ⟨⟨Gj,jM⟩,jx⟩:=hb
   split at hx
   ·rename_i cs xj
    obtain ⟨inf,z,wm,yz,_,hz,xk,wo,I5⟩:=(hE.ti t i h2).inf
    obtain ⟨el,er⟩:=tU hs h1
    obtain ⟨fs,hu,aeT⟩:=(hE.ti t i h2).struct (λe=>by rw [e] at Gj;simp at Gj)
    obtain ⟨kF,hp,AY⟩:=xi hE fs.toList i.fs aeT jM
    have aeU:∀ (k off ft:Nat) j,i.fs[k]? = some (off,ft)->E.ti ft=some j->(λk=>kF.toArray[k]?) k=some (off,j.ks.length):=λk off ft j h1 h2=>by simpa using AY k off ft j h1 h2
    have xl:=JD (E:=E) (φ:=φ) (h:=h) (w:=w) i.zero (λv hv=>ik.1 I5 v hv)
    have hza:i.zero.toArray=z.cells:=by rw [<- xk]
    rw [hza] at xl
    obtain ⟨o2,g1,g2⟩:=sT (E:=E) (w:=w) (φ:=φ) (h:=h) (fs:=i.fs) (kF:=λk=>kF.toArray[k]?) vs (ps.toList.map λp=>(p.1,a.eval p.2)) i.zero z.cells cs xj jx (by simpa using el) aeU
     (λj p q hp hq=>by
      rw [gD] at hq
      cases Gk:ps.toList[j]? with
      | none=>rw [Gk] at hq;cases hq
      | some q'=>
       rw [Gk] at hq
       injection hq with hq
       subst hq
       exact er j p q' hp Gk) xl
    have im:(Instr.build t (ps.map λp=>(p.1,a.eval p.2))).run E.P w = .ok (.agg o2) w:=by
     refine run_build w t _ o2 ?_
     simp only [Program.built,wm,hu,hz,hp]
     simpa using g1
    refine bq (o:=⟨dst,.build t ps,ty,pos,after,guard⟩) hn hh hx (.agg cs.toArray o2 (by simpa using g2.1) (λj x y hx hy=>g2.2 j x y (by simpa using hx) hy)) ?_
    simp only [execOp]
    have:(ps.map λx=>match x with|(i,x)=>(i,a.eval x))=ps.map λp=>(p.1,a.eval p.2):=rfl
    rw [this]
    simp only [dB,im,dI,eF]
   ·cases hx
 ·cases hx
theorem rK{n0 m:Nat}{w1:World}{cs us:Nat}(h0:bN n0=(w.heap.size,0))(hn:n0<n){ucs:Array Value}(hb:w1.heap[w.heap.size]? = some (.cells ucs t (0,0))){c':Nat}(hm:m<=c')(hf:c'*E.P.cellsOf t<=ucs.size):
  VR E.P E.base bN n w1 (.slice (some ⟨n0,0,none⟩) m m) (.slice (some ⟨w.heap.size,0,none⟩) m c'):=by
 have:=VR.slice (P:=E.P) (base:=E.base) (φ:=bN) (n:=n) (w:=w1) n0 0 m m c' hn hm (λ_=>⟨t,ucs.size,by simp [jK,h0,hb],by rw [h0];simpa using hf⟩)
 rw [h0] at this
 exact this
theorem bh.cellsOf{P:Program}{t:Nat}{i:TI}(F:bh P t i):P.cellsOf t=i.ks.length:=by
 obtain ⟨f,z,hf,h1,_⟩:=F.inf
 simp [Program.cellsOf,hf,h1]
theorem wq(hE:dq E)(t:TypeId)(m:Nat)(ps:Array (Nat×Operand))(hx:bG E rec (.buildSlice t m ps) s h c=some r)(hs:SR E.P E.base φ h.length w s a)(hh:HR E.P E.base w0 φ h w)(hn:gQ E w0 φ h w dst a next c r):
  (⟨dst,.buildSlice t m ps,ty,pos,after,guard⟩:Oper).wp E.P a w next Q:=by
 simp only [bG] at hx
 split at hx
 ·rename_i vs i h1 h2
  split at hx
  ·rename_i j hj
   cases hb:(lN i&&cx 0 j.ks.length&&dC (m*j.ks.length) 16777216) with
   | false=>rw [hb] at hx;cases hx
   | true=>
    rw [hb] at hx
    simp only [cond_true] at hx
    simp only [bz,e_] at hb
    obtain ⟨⟨Gj,jM⟩,jx⟩:=hb
    have jx:=iK jx
    split at hx
    ·rename_i cs xj
     have F:=hE.ti i.elem j hj
     obtain ⟨z,hz,xk,wo,I5⟩:=F.zero w
     obtain ⟨el,er⟩:=tU hs h1
     have hu:=(hE.ti t i h2).slice Gj
     have YX:z.cells.size=j.ks.length:=by rw [<- wo,<- xk];simp
     let zs:Array Value:=(ZH (m*j.ks.length)).map ((if m*j.ks.length=0 then #[] else z.cells)[· % (if m*j.ks.length=0 then #[] else z.cells).size]!)
     have xl:pN E.P E.base φ h.length w (lz j.zero m) zs:=by
      refine ⟨by simp [zs,fA,wo],λk x y hx hy=>?_⟩
      have hk:k<m*j.ks.length:=by
       have:=(bY.1 hx).1
       rw [fA,wo] at this;exact this
      have dv:m*j.ks.length≠0:=by omega
      rw [qC _ _ _ (by rw [wo];exact hk)] at hx
      simp only [zs,if_neg dv] at hy
      rw [qD z.cells _ k (by omega) hk] at hy
      rw [<- xk] at hx
      simp only [Array.length_toList,Jr] at hx
      rw [hx] at hy
      injection hy with hy
      subst hy
      exact VR.flat (I5 x (by rw [<- xk];exact dX (by simpa using hx)))
     obtain ⟨o2,g1,g2⟩:=nZ (E:=E) (w:=w) (φ:=φ) (h:=h) j.ks.length vs (ps.toList.map λp=>(p.1,a.eval p.2)) (lz j.zero m) zs cs xj (by simpa using el)
      (λk p q hp hq=>by
       rw [gD] at hq
       cases Gk:ps.toList[k]? with
       | none=>rw [Gk] at hq;cases hq
       | some q'=>
        rw [Gk] at hq
        injection hq with hq
        subst hq
        exact er k p q' hp Gk) xl
     have hlen:cs.length=m*j.ks.length:=by
      have:∀ (vs:List (Nat×Value)) (cs out:List Value),nT j.ks.length cs vs=some out->out.length=cs.length:=by
       intro vs
       induction vs with
       | nil=>intro cs out h;simp only [nT] at h;injection h with h;rw [h]
       | cons p vs ih=>
        intro cs out h
        obtain ⟨k,v⟩:=p
        simp only [nT] at h
        cases hb:(bg (cells v).length j.ks.length&&dC (k*j.ks.length+j.ks.length) cs.length) with
        | false=>rw [hb] at h;cases h
        | true=>
         rw [hb] at h
         simp only [cond_true] at h
         simp only [bz] at hb
         have e1:=dk hb.1
         have e2:=iK hb.2
         rw [ih _ _ h]
         simp [setAt];omega
      rw [this vs _ _ xj,fA,wo]
     obtain ⟨bN,e1,e2,e3,e4,_⟩:=hh.push cs i.elem o2 (w.alloc (.cells o2 i.elem)) ⟨w.drawn,rfl⟩ (λk v hv=>by
      have aS:k<o2.size:=by rw [<- g2.1];exact (bY.1 hv).1
      exact ⟨_,eZ aS,λ_=>g2.2 k v _ hv (eZ aS)⟩)
     unfold Oper.wp
     have im:(execOp a.eval (⟨dst,.buildSlice t m ps,ty,pos,after,guard⟩:Oper)).run E.P w = .ok (.value (.slice (some ⟨w.heap.size,0,none⟩) m m)) (w.alloc (.cells o2 i.elem)):=by
      have ZJ:(ps.map λx=>match x with|(i,x)=>(i,a.eval x)).toList=ps.toList.map λp=>(p.1,a.eval p.2):=by simp
      simp only [execOp,Instr.buildSlice,dB,bh.under hu,dI,F.size w]
      rw [if_neg (by omega)]
      by_cases h0:m*j.ks.length=0
      ·simp only [h0,if_true,dB,eF,dI,ZJ]
       simp only [zs,h0,if_true] at g1
       rw [g1]
       simp [newRow]
      ·simp only [if_neg h0,dB,eF,hz,dI,ZJ]
       simp only [zs,if_neg h0] at g1
       rw [g1]
       simp [newRow]
     rw [im]
     refine hn _ _ bN _ _ hx e1 e2 (rK (E:=E) (cs:=0) (us:=0) e3 (by simp) e4 (aT _) ?_)
     rw [F.cellsOf,<- g2.1,hlen]
     exact aT _
    ·cases hx
  ·cases hx
 ·cases hx
end
end Go.Proofs.YtkdenmdijdmnjaaGreat.Am
