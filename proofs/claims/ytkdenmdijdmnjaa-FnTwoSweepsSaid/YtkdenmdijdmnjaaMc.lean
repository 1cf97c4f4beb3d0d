/- An operation of the abstract machine tells what it does apart from what follows; it looks at its operands alone.
Conditions: none. -/
import Derived.Test.YtkdenmdijdmnjaaMb
set_option linter.unusedSimpArgs false
set_option linter.unusedVariables false
namespace Go.Proofs.Ytkdenmdijdmnjaa.Am
open Go Go.RowKit
section
variable {R:Type}
theorem cn {S:Type} {b:Bool} {x:Option R} {y:Option S} {f:S→Option R} (h:x=y.bind f):cond b x none=(cond b y none).bind f:=by cases b<;>first|rfl|exact h
theorem cn' {S:Type} {b:Bool} {x:Option R} {y:Option S} {f:S→Option R} (h:x=y.bind f):cond b none x=(cond b none y).bind f:=by cases b<;>first|rfl|exact h
theorem viewO_nat (k:K) (v:Option Value) (c:Value→Option R):viewO k v c=(viewO k v some).bind c:=by
 cases k<;>simp only [viewO]<;>(first|(cases v.bind (getI _)<;>rfl)|(cases v.bind getB<;>rfl)|(cases v.bind getStr<;>rfl)|(cases v.bind getS<;>rfl)|(cases v.bind getP<;>rfl)|(cases v.bind getF<;>rfl)|(cases v.bind getA<;>rfl)|(cases v.bind getM<;>rfl))
theorem viewMany_nat (at_:Nat→Option Value):∀ (ks:List K) (o:Nat) {R:Type} (c:List Value→Option R),viewMany at_ o ks c=(viewMany at_ o ks some).bind c
 | [],_,_,_=>rfl
 | k :: ks,o,R,c=>by
  simp only [viewMany]
  rw [viewO_nat,viewO_nat (R:=List Value) k (at_ o) (fun v=>viewMany at_ (o+1) ks fun vs=>some (v :: vs))]
  cases viewO k (at_ o) some with
  | none=>rfl
  | some v=>
   simp only [Option.bind_some]
   rw [viewMany_nat at_ ks,viewMany_nat at_ ks (o+1) (fun vs=>some (v :: vs))]
   cases viewMany at_ (o+1) ks some<;>rfl
theorem viewV_nat (sh:Bool×List K) (v:Option Value) (c:Value→Option R):viewV sh v c=(viewV sh v some).bind c:=by
 obtain ⟨b,ks⟩:=sh
 cases b with
 | true=>
  simp only [viewV]
  cases v.bind (getAgg ks.length) with
  | none=>rfl
  | some l=>
   simp only [Option.bind_some]
   rw [viewMany_nat,viewMany_nat (fun i=>l[i]?) ks 0 (fun vs=>some (Value.agg vs.toArray))]
   cases viewMany (fun i=>l[i]?) 0 ks some<;>rfl
 | false=>
  match ks with
  | [k]=>exact viewO_nat k v c
  | []=>rfl
  | _ :: _ :: _=>rfl
theorem viewTup_nat (l:List Value):∀ (shs:List (Bool×List K)) (o:Nat) {R:Type} (c:List Value→Option R),viewTup l o shs c=(viewTup l o shs some).bind c
 | [],_,_,_=>rfl
 | k :: ks,o,R,c=>by
  simp only [viewTup]
  rw [viewV_nat,viewV_nat (R:=List Value) k l[o]? (fun v=>viewTup l (o+1) ks fun vs=>some (v :: vs))]
  cases viewV k l[o]? some with
  | none=>rfl
  | some v=>
   simp only [Option.bind_some]
   rw [viewTup_nat l ks,viewTup_nat l ks (o+1) (fun vs=>some (v :: vs))]
   cases viewTup l (o+1) ks some<;>rfl
theorem viewRes_nat (rs:List (Bool×List K)) (v:Value) (c:Value→Option R):viewRes rs v c=(viewRes rs v some).bind c:=by
 match rs with
 | []=>simp only [viewRes];cases getTup 0 v<;>rfl
 | [sh]=>exact viewV_nat sh (some v) c
 | sh :: sh2 :: r=>
  simp only [viewRes]
  cases getTup (sh :: sh2 :: r).length v with
  | none=>rfl
  | some l=>
   simp only [Option.bind_some]
   rw [viewTup_nat,viewTup_nat l (sh :: sh2 :: r) 0 (fun xs=>some (Value.tuple xs.toArray))]
   cases viewTup l 0 (sh :: sh2 :: r) some<;>rfl
theorem load_nat (E:Env) (t:Nat) (h:AH) (b o:Nat) (c:Value→Option R):load E t h b o c=(load E t h b o some).bind c:=by
 unfold load
 cases E.ti t with
 | none=>rfl
 | some i=>
  simp only
  cases i.agg with
  | true=>
   simp only
   rw [viewMany_nat,viewMany_nat (cell h b) i.ks o (fun vs=>some (Value.agg vs.toArray))]
   cases viewMany (cell h b) o i.ks some<;>rfl
  | false=>
   simp only
   match i.ks with
   | [k]=>exact viewO_nat k _ c
   | []=>rfl
   | _ :: _ :: _=>rfl
theorem intV_nat (op:BinOp) (k:IntKind) (m n:Int) (c:Value→Option R):intV op k m n c=(intV op k m n some).bind c:=by
 cases op<;>simp only [intV]<;>first|rfl|(split<;>rfl)
theorem strV_nat (op:BinOp) (m n:ByteArray) (c:Value→Option R):strV op m n c=(strV op m n some).bind c:=by
 cases op<;>simp only [strV]<;>first|rfl|(split<;>rfl)
theorem binV_nat (op:BinOp) (i:TI) (a b:Value) (c:Value→Option R):binV op i a b c=(binV op i a b some).bind c:=by
 unfold binV
 split
 ·split
  ·split<;>rfl
  ·split<;>rfl
  ·split
   ·exact intV_nat _ _ _ _ c
   ·rfl
 ·exact strV_nat _ _ _ c
 ·cases isK .bool i with
  | false=>rfl
  | true=>simp only [cond_true];split<;>rfl
 ·rfl
theorem unV_nat (op:UnOp) (a:Value) (c:Value→Option R):unV op a c=(unV op a some).bind c:=by
 unfold unV;split<;>rfl
theorem minV_nat:∀ (vs:List Value) (v:Value) (c:Value→Option R),minV v vs c=(minV v vs some).bind c
 | [],v,c=>by cases v<;>rfl
 | u :: r,v,c=>by
  simp only [minV]
  split
  ·exact minV_nat r _ c
  ·rfl
theorem maxV_nat:∀ (vs:List Value) (v:Value) (c:Value→Option R),maxV v vs c=(maxV v vs some).bind c
 | [],v,c=>by cases v<;>rfl
 | u :: r,v,c=>by
  simp only [maxV]
  split
  ·exact maxV_nat r _ c
  ·rfl
theorem bind_pair {α:Type} (x:Option Value) (h:AH) (c:Value→AH→Option R):(x.bind fun v=>c v h)=((x.bind fun v=>some (v,h)).bind fun p=>c p.1 p.2):=by cases x<;>rfl
theorem exLen_nat (E:Env) (ts:List Nat) (vs:List Value) (h:AH) (c:Value→AH→Option R):exLen E ts vs h c=(exLen E ts vs h fun v h=>some (v,h)).bind fun p=>c p.1 p.2:=by
 unfold exLen
 split
 ·split
  ·split
   ·cases isSl _<;>rfl
   ·cases isK .str _<;>rfl
   ·rfl
  ·rfl
 ·rfl
theorem app_nat (x:Option (Value×AH)) (c:Value→AH→Option R):(x.bind fun p=>viewO .slice (some p.1) fun v=>c v p.2)=(x.bind fun p=>viewO .slice (some p.1) fun v=>some (v,p.2)).bind fun p=>c p.1 p.2:=by
 cases x with
 | none=>rfl
 | some p=>
  simp only [Option.bind_some]
  rw [viewO_nat,viewO_nat (c:=fun v=>some (v,p.2))]
  exact bind_pair (α:=Unit) _ _ _
theorem exAppend_nat (E:Env) (ts:List Nat) (vs:List Value) (h:AH) (c:Value→AH→Option R):exAppend E ts vs h c=(exAppend E ts vs h fun v h=>some (v,h)).bind fun p=>c p.1 p.2:=by
 unfold exAppend
 split
 ·split
  ·split
   ·refine cn ?_
    split
    ·split
     ·exact cn (app_nat _ c)
     ·exact cn (app_nat _ c)
     ·refine cn ?_
      split
      ·exact app_nat _ c
      ·rfl
     ·rfl
    ·rfl
   ·rfl
  ·rfl
 ·rfl
end
theorem exOp_nat {R:Type} (E:Env) (rec:Rec) (o:Op) (s:Slots) (h:AH) (c:Value→AH→Option R) :
  exOp E rec o s h c=(exOp E rec o s h fun v h=>some (v,h)).bind fun p=>c p.1 p.2:=by
 cases o<;>simp only [exOp]<;>try rfl
 case move=>split<;>rfl
 case assign=>split<;>rfl
 case pick=>(split<;>try rfl)<;>(split<;>split<;>rfl)
 case alloc=>split<;>rfl
 case box=>
  split
  ·split
   ·cases Nat.beq _ _<;>rfl
   ·rfl
  ·rfl
 case build=>
  split
  ·refine cn ?_
   split<;>rfl
  ·rfl
 case buildSlice=>
  split
  ·split
   ·refine cn ?_
    split<;>rfl
   ·rfl
  ·rfl
 case load=>
  split
  ·rw [load_nat,load_nat (c:=fun v=>some (v,h))];exact bind_pair (α:=Unit) _ _ _
  ·rfl
 case store=>
  split
  ·split
   ·refine cn ?_
    cases wr _ _ _ _ _<;>rfl
   ·rfl
  ·rfl
 case nilCheck=>
  split
  ·rename_i a _;cases a<;>rfl
  ·rfl
  ·rfl
 case binOp=>
  split
  ·rw [binV_nat,binV_nat (c:=fun v=>some (v,h))];exact bind_pair (α:=Unit) _ _ _
  ·rfl
 case unOp=>
  split
  ·rw [unV_nat,unV_nat (c:=fun v=>some (v,h))];exact bind_pair (α:=Unit) _ _ _
  ·rfl
 case convert=>
  split
  ·refine cn' ?_
   split<;>rfl
  ·refine cn ?_
   split
   ·refine cn ?_
    cases (rawAt _ _ _).bind u8s<;>rfl
   ·rfl
  ·rfl
 case makeSlice=>
  split
  ·split
   ·refine cn' ?_
    split<;>rfl
   ·rfl
  ·rfl
 case slice t x lo hi mx=>
  cases mx with
  | some m=>rfl
  | none=>
   simp only
   split
   ·split
    ·refine cn' ?_
     split<;>rfl
    ·rfl
   ·split
    ·split
     ·split
      ·refine cn' ?_
       split<;>rfl
      ·rfl
     ·rfl
    ·rfl
   ·rfl
 case fieldAddr=>
  split
  ·split
   ·split
    ·exact cn rfl
    ·rfl
   ·rfl
  ·rfl
 case field=>
  split
  ·split
   ·split
    ·rename_i j _
     cases j.agg with
     | true=>exact cn rfl
     | false=>simp only;split<;>rfl
    ·rfl
   ·rfl
  ·rfl
 case indexAddr=>
  split
  ·split
   ·refine cn' ?_
    split
    ·rw [Option.bind_assoc];rfl
    ·rfl
   ·rfl
  ·split
   ·refine cn ?_
    split<;>rfl
   ·rfl
  ·rfl
 case index=>
  split
  ·refine cn' ?_
   split<;>rfl
  ·rfl
 case extract=>
  split
  ·split<;>rfl
  ·rfl
 case makeFunc=>split<;>rfl
 case makeMap t x=>
  cases x with
  | some x=>rfl
  | none=>
   simp only
   split
   ·exact cn rfl
   ·rfl
 case lookup t x y ok=>
  cases ok with
  | false=>rfl
  | true=>
   simp only
   split
   ·split
    ·refine cn ?_
     cases mget _ _<;>rfl
    ·rfl
   ·rfl
 case mapUpdate=>
  split
  ·split
   ·refine cn ?_
    cases mget _ _<;>rfl
   ·rfl
  ·rfl
 case call cc=>
  split
  ·split
   ·unfold exBuiltin
    split
    ·exact exLen_nat _ _ _ _ c
    ·split
     ·rw [minV_nat,minV_nat (c:=fun v=>some (v,h))];exact bind_pair (α:=Unit) _ _ _
     ·rfl
    ·split
     ·rw [maxV_nat,maxV_nat (c:=fun v=>some (v,h))];exact bind_pair (α:=Unit) _ _ _
     ·rfl
    ·exact exAppend_nat _ _ _ _ c
    ·rfl
   ·split
    ·split
     ·rename_i rs _
      cases rec _ _ _ with
      | none=>rfl
      | some p=>
       simp only [Option.bind_some]
       rw [viewRes_nat,viewRes_nat (c:=fun v=>some (v,p.2))];exact bind_pair (α:=Unit) _ _ _
     ·refine cn ?_
      unfold idxV
      split<;>rfl
    ·rfl
   ·rfl
  ·rfl
def opTmps (o:Op):List Nat:=o.operands.toList.filterMap fun|.tmp t=>some t|_=>none
theorem ev_congr {s s':Slots} {x:Operand} (h:∀ t,x = .tmp t→sget s t=sget s' t):ev s x=ev s' x:=by
 cases x with
 | tmp t=>exact h t rfl
 | _=>rfl
theorem evs_congr {s s':Slots}:∀ {xs:List Operand},(∀ t,Operand.tmp t∈xs→sget s t=sget s' t)→evs s xs=evs s' xs
 | [],_=>rfl
 | x :: r,h=>by
  simp only [evs]
  rw [ev_congr (s:=s) (s':=s') (x:=x) (fun t e=>h t (by rw [e];exact List.mem_cons_self ..)),evs_congr (xs:=r) fun t ht=>h t (List.mem_cons_of_mem _ ht)]
theorem evP_congr {s s':Slots}:∀ {xs:List (Nat×Operand)},(∀ t,Operand.tmp t∈xs.map (·.2)→sget s t=sget s' t)→evP s xs=evP s' xs
 | [],_=>rfl
 | (i,x) :: r,h=>by
  simp only [evP]
  rw [ev_congr (s:=s) (s':=s') (x:=x) (fun t e=>h t (by rw [e];simp)),evP_congr (xs:=r) fun t ht=>h t (by simp at ht ⊢;exact .inr ht)]
theorem mem_opTmps {o:Op} {t:Nat}:t∈opTmps o↔Operand.tmp t∈o.operands.toList:=by
 unfold opTmps
 rw [List.mem_filterMap]
 constructor
 ·rintro ⟨x,hx,he⟩
  cases x<;>simp at he
  subst he;exact hx
 ·intro h;exact ⟨_,h,rfl⟩
theorem bound_congr {s s':Slots} {x:Option Operand} {d:Int} (h:∀ t,x=some (.tmp t)→sget s t=sget s' t):bound s x d=bound s' x d:=by
 cases x with
 | none=>rfl
 | some y=>
  simp only [bound]
  rw [ev_congr (s:=s) (s':=s') (x:=y) fun t e=>h t (by rw [e])]
theorem exOp_congr {R:Type} (E:Env) (rec:Rec) (o:Op) {s s':Slots} (h:AH) (c:Value→AH→Option R) (hs:∀ t,t∈opTmps o→sget s t=sget s' t):exOp E rec o s h c=exOp E rec o s' h c:=by
 simp only [mem_opTmps] at hs
 cases o<;>simp only [exOp]<;>try rfl
 case move x=>rw [ev_congr (s:=s) (s':=s') (x:=x) fun t e=>hs t (by simp [Op.operands,e])]
 case assign x=>rw [ev_congr (s:=s) (s':=s') (x:=x) fun t e=>hs t (by simp [Op.operands,e])]
 case pick b x y=>rw [ev_congr (s:=s) (s':=s') (x:=b) fun t e=>hs t (by simp [Op.operands,e]),ev_congr (s:=s) (s':=s') (x:=x) fun t e=>hs t (by simp [Op.operands,e]),ev_congr (s:=s) (s':=s') (x:=y) fun t e=>hs t (by simp [Op.operands,e])]
 case box t x=>rw [ev_congr (s:=s) (s':=s') (x:=x) fun t e=>hs t (by simp [Op.operands,e])]
 case build t ps=>rw [evP_congr (s:=s) (s':=s') fun t e=>hs t (by simpa [Op.operands] using e)]
 case buildSlice t n ps=>rw [evP_congr (s:=s) (s':=s') fun t e=>hs t (by simpa [Op.operands] using e)]
 case load t a=>rw [ev_congr (s:=s) (s':=s') (x:=a) fun t e=>hs t (by simp [Op.operands,e])]
 case store t a x=>rw [ev_congr (s:=s) (s':=s') (x:=a) fun t e=>hs t (by simp [Op.operands,e]),ev_congr (s:=s) (s':=s') (x:=x) fun t e=>hs t (by simp [Op.operands,e])]
 case nilCheck x=>rw [ev_congr (s:=s) (s':=s') (x:=x) fun t e=>hs t (by simp [Op.operands,e])]
 case binOp op t x y _=>rw [ev_congr (s:=s) (s':=s') (x:=x) fun t e=>hs t (by simp [Op.operands,e]),ev_congr (s:=s) (s':=s') (x:=y) fun t e=>hs t (by simp [Op.operands,e])]
 case unOp op t x=>rw [ev_congr (s:=s) (s':=s') (x:=x) fun t e=>hs t (by simp [Op.operands,e])]
 case convert a b x=>rw [ev_congr (s:=s) (s':=s') (x:=x) fun t e=>hs t (by simp [Op.operands,e])]
 case makeSlice t l m=>rw [ev_congr (s:=s) (s':=s') (x:=l) fun t e=>hs t (by simp [Op.operands,e]),ev_congr (s:=s) (s':=s') (x:=m) fun t e=>hs t (by simp [Op.operands,e])]
 case slice t x lo hi mx=>
  cases mx with
  | some m=>rfl
  | none=>
   simp only
   have hl:∀ d,bound s lo d=bound s' lo d:=fun d=>bound_congr fun t e=>hs t (by simp [Op.operands,e])
   have hh:∀ d,bound s hi d=bound s' hi d:=fun d=>bound_congr fun t e=>hs t (by simp [Op.operands,e])
   simp only [hl,hh]
   rw [ev_congr (s:=s) (s':=s') (x:=x) fun t e=>hs t (by simp [Op.operands,e])]
 case fieldAddr t x f=>rw [ev_congr (s:=s) (s':=s') (x:=x) fun t e=>hs t (by simp [Op.operands,e])]
 case field t x f=>rw [ev_congr (s:=s) (s':=s') (x:=x) fun t e=>hs t (by simp [Op.operands,e])]
 case indexAddr t x i=>rw [ev_congr (s:=s) (s':=s') (x:=x) fun t e=>hs t (by simp [Op.operands,e]),ev_congr (s:=s) (s':=s') (x:=i) fun t e=>hs t (by simp [Op.operands,e])]
 case index t x i=>rw [ev_congr (s:=s) (s':=s') (x:=x) fun t e=>hs t (by simp [Op.operands,e]),ev_congr (s:=s) (s':=s') (x:=i) fun t e=>hs t (by simp [Op.operands,e])]
 case makeMap t x=>
  cases x with
  | some x=>rfl
  | none=>rfl
 case lookup t x i ok=>
  cases ok with
  | false=>rfl
  | true=>
   simp only
   rw [ev_congr (s:=s) (s':=s') (x:=x) fun t e=>hs t (by simp [Op.operands,e]),ev_congr (s:=s) (s':=s') (x:=i) fun t e=>hs t (by simp [Op.operands,e])]
 case mapUpdate t x i y=>rw [ev_congr (s:=s) (s':=s') (x:=x) fun t e=>hs t (by simp [Op.operands,e]),ev_congr (s:=s) (s':=s') (x:=i) fun t e=>hs t (by simp [Op.operands,e]),ev_congr (s:=s) (s':=s') (x:=y) fun t e=>hs t (by simp [Op.operands,e])]
 case extract x i=>rw [ev_congr (s:=s) (s':=s') (x:=x) fun t e=>hs t (by simp [Op.operands,e])]
 case makeFunc f p q=>rw [evs_congr (s:=s) (s':=s') (xs:=p.toList) fun t e=>hs t (by simp [Op.operands];exact .inl (by simpa using e)),evs_congr (s:=s) (s':=s') (xs:=q.toList) fun t e=>hs t (by simp [Op.operands];exact .inr (by simpa using e))]
 case call cc=>
  obtain ⟨callee,xs,ts⟩:=cc
  have hx:evs s xs.toList=evs s' xs.toList:=evs_congr fun t e=>hs t (by cases callee<;>simp [Op.operands,Call.operands]<;>first|exact (by simpa using e)|exact .inr (by simpa using e))
  cases callee with
  | builtin b=>simp only [hx]
  | invoke r n=>simp only [hx]
  | value f=>
   simp only [hx]
   rw [ev_congr (s:=s) (s':=s') (x:=f) fun t e=>hs t (by simp [Op.operands,Call.operands,e])]
theorem callU_nat {R:Type} (E:Env) (rec:Rec) (fn:Fn) (as:List Value) (h:AH) (rs:List (Bool×List K)) (c:Value→AH→Option R) :
  ((callU E rec fn as h).bind fun r=>viewRes rs r.1 fun v=>c v r.2)=((callU E rec fn as h).bind fun r=>viewRes rs r.1 fun v=>some (v,r.2)).bind fun p=>c p.1 p.2:=by
 cases callU E rec fn as h with
 | none=>rfl
 | some p=>
  simp only [Option.bind_some]
  rw [viewRes_nat,viewRes_nat (c:=fun v=>some (v,p.2))]
  exact bind_pair (α:=Unit) _ _ _
theorem exO_nat {R:Type} (E:Env) (rec:Rec) (o:Oper) (s:Slots) (h:AH) (c:Value→AH→Option R) :
  exO E rec o s h c=(exO E rec o s h fun v h=>some (v,h)).bind fun p=>c p.1 p.2:=by
 unfold exO
 split
 ·exact exOp_nat E rec o.op s h c
 ·split
  ·exact callU_nat E rec _ _ h _ c
  ·rfl
theorem tmpCall_some {o:Op} {t:Nat} {xs:List Operand} (h:tmpCall o=some (t,xs)):∃ cc,o = .call cc∧cc.callee = .value (.tmp t)∧cc.args.toList=xs:=by
 unfold tmpCall at h
 split at h
 ·rename_i c
  split at h
  ·rename_i t' hc
   injection h with h
   injection h with h1 h2
   subst h1
   exact ⟨c,rfl,hc,h2⟩
  ·cases h
 ·cases h
theorem exO_congr {R:Type} (E:Env) (rec:Rec) (o:Oper) {s s':Slots} (h:AH) (c:Value→AH→Option R) (hs:∀ t,t∈opTmps o.op→sget s t=sget s' t):exO E rec o s h c=exO E rec o s' h c:=by
 unfold exO
 split
 ·exact exOp_congr E rec o.op h c hs
 ·rename_i t xs ht
  obtain ⟨cc,e1,e2,e3⟩:=tmpCall_some ht
  simp only [mem_opTmps] at hs
  rw [e1] at hs
  have h1:sget s t=sget s' t:=hs t (by simp [Op.operands,Call.operands,e2])
  have h2:evs s xs=evs s' xs:=evs_congr fun u hu=>hs u (by
   rw [← e3] at hu
   simp [Op.operands,Call.operands,e2]
   exact .inr (by simpa using hu))
  rw [h1,h2]
end Go.Proofs.Ytkdenmdijdmnjaa.Am
set_option linter.unusedSimpArgs false
set_option linter.unusedVariables false
namespace Go.Proofs.Ytkdenmdijdmnjaa.Am
open Go Go.RowKit
theorem pureC {R:Type} (E:Env) (rec:Rec) (o:Op) (s:Slots) (h g:AH) (c:Value→AH→Option R) (hc:cl o = .pure):exOp E rec o s h c=exOp E rec o s g (fun v _=>c v h):=by
 cases o<;>simp only [exOp]<;>try rfl
 case load=>simp [cl] at hc
 case alloc=>simp [cl] at hc
 case box=>simp [cl] at hc
 case buildSlice=>simp [cl] at hc
 case makeSlice=>simp [cl] at hc
 case store=>simp [cl] at hc
 case makeMap=>simp [cl] at hc
 case lookup=>simp [cl] at hc
 case mapUpdate=>simp [cl] at hc
 case convert src dst x=>
  have hq:Nat.beq dst 9=false:=by
   cases hq:Nat.beq dst 9 with
   | false=>rfl
   | true=>simp [cl,hq] at hc
  simp only [hq,Bool.false_and,cond_false]
 case slice t x lo hi mx=>
  cases mx with
  | some m=>rfl
  | none=>
   cases lo with
   | some l=>simp [cl] at hc
   | none=>
    simp only [bound]
    split
    ·rfl
    ·split
     ·split
      ·split
       ·rename_i hq _
        injection hq with hq
        subst hq
        have e:∀ g ad t,okTy E.base g ad t (Int.toNat 0)=true:=fun g ad t=>rfl
        simp only [e]
       ·rfl
      ·rfl
     ·rfl
    ·rfl
 case call cc=>
  obtain ⟨callee,xs,ts⟩:=cc
  cases callee with
  | invoke=>simp [cl] at hc
  | value=>simp [cl] at hc
  | builtin b=>
   simp only
   split
   ·cases b<;>first|(simp [cl] at hc;done)|skip
    ·simp only [exBuiltin,exLen]
    ·rfl
    ·rfl
   ·rfl
theorem pure_heap {E:Env} {rec:Rec} {o:Op} {s:Slots} {h h':AH} {v:Value} (hc:cl o = .pure) (hx:exOp E rec o s h (fun v h=>some (v,h))=some (v,h')) :
  h'=h∧∀ g,exOp E rec o s g (fun v h=>some (v,h))=some (v,g):=by
 have key:∀ g,∃ p2,exOp E rec o s g (fun v h=>some (v,h))=some (v,p2)∧h'=h∧p2=g:=by
  intro g
  rw [pureC E rec o s h g _ hc,exOp_nat] at hx
  cases hp:exOp E rec o s g (fun v h=>some (v,h)) with
  | none=>rw [hp] at hx;cases hx
  | some p=>
   obtain ⟨p1,p2⟩:=p
   rw [hp] at hx
   simp only [Option.bind_some] at hx
   injection hx with hx
   injection hx with h1 h2
   subst h1
   refine ⟨p2,rfl,h2.symm,?_⟩
   have:=hp
   rw [pureC E rec o s g g _ hc,exOp_nat,hp] at this
   simp only [Option.bind_some] at this
   injection this with this
   injection this with _ h3
   exact h3.symm
 obtain ⟨_,_,h1,_⟩:=key h
 refine ⟨h1,fun g=>?_⟩
 obtain ⟨p2,h2,_,h3⟩:=key g
 rw [h2,h3]
theorem same_trans {a b c:AH} {x o n:Nat} (h:same a b x o n) (k:same b c x o n):same a c x o n:=⟨fun j hj=>(h.1 j hj).trans (k.1 j hj),h.2.trans k.2⟩
theorem same_refl (a:AH) (x o n:Nat):same a a x o n:=⟨fun _ _=>rfl,rfl⟩
theorem same_symm {a b:AH} {x o n:Nat} (h:same a b x o n):same b a x o n:=⟨fun j hj=>(h.1 j hj).symm,h.2.symm⟩
theorem viewMany_congr {R:Type} {at1 at2:Nat→Option Value}:∀ (ks:List K) (o:Nat) (c:List Value→Option R),(∀ j,j<ks.length→at1 (o+j)=at2 (o+j))→viewMany at1 o ks c=viewMany at2 o ks c
 | [],_,_,_=>rfl
 | k :: ks,o,c,h=>by
  simp only [viewMany]
  rw [show at1 o=at2 o from h 0 (by simp)]
  congr 1
  funext v
  exact viewMany_congr ks (o+1) _ fun j hj=>by
   have:=h (j+1) (by simp;omega)
   rw [show o+1+j=o+(j+1) from by omega];exact this
theorem load_congr {R:Type} {E:Env} {t:Nat} {ti:TI} (ht:E.ti t=some ti) {h g:AH} {b o:Nat} (c:Value→Option R) (hs:same h g b o ti.ks.length):load E t h b o c=load E t g b o c:=by
 unfold load
 rw [ht]
 simp only
 cases ti.agg with
 | true=>exact viewMany_congr _ _ _ hs.1
 | false=>
  simp only
  split
  ·rename_i k hk
   have:=hs.1 0 (by rw [hk];simp)
   rw [Nat.add_zero] at this
   rw [this]
  ·rfl
theorem okTy_congr {base:Nat} {h g:AH} {ad:Addr} {t l:Nat} (hs:(hget h ad.block).map (·.ty)=(hget g ad.block).map (·.ty)):okTy base h (some ad) t l=okTy base g (some ad) t l:=by
 unfold okTy
 congr 1
 simp only
 congr 1
 cases hh:hget h ad.block<;>cases hg:hget g ad.block<;>rw [hh,hg] at hs<;>simp at hs
 simp only [hs]
theorem readC {R:Type} {E:Env} {rec:Rec} {o:Op} {s:Slots} {h g:AH} {ra:Option Addr×Nat} (c:Value→AH→Option R) (hc:cl o = .read) (hr:readAt E s o=some ra) (hs:sameA h g ra.1 ra.2) :
  exOp E rec o s h c=exOp E rec o s g (fun v _=>c v h):=by
 cases o<;>first|(simp [cl] at hc;done)|(simp only [cl] at hc;revert hc;cases Nat.beq _ 9<;>(intro hc;cases hc);done)|skip
 case load t a=>
  simp only [exOp]
  simp only [readAt] at hr
  split at hr
  ·rename_i p ti h1 h2
   injection hr with hr
   subst hr
   rw [h1]
   cases p with
   | none=>rfl
   | some ad=>exact load_congr h2 _ (hs ad rfl)
  ·cases hr
 case slice t x lo hi mx=>
  cases mx with
  | some m=>rfl
  | none=>
   simp only [exOp]
   simp only [readAt] at hr
   split at hr
   ·rename_i ad n c0 h1
    injection hr with hr
    subst hr
    rw [h1]
    simp only
    have e:∀ t l,okTy E.base h ad t l=okTy E.base g ad t l:=fun t l=>by
     cases ad with
     | none=>rfl
     | some ad=>exact okTy_congr (hs ad rfl).2
    simp only [e]
   ·rename_i v h1
    rw [h1]
   ·cases hr
 case call cc=>
  obtain ⟨callee,xs,ts⟩:=cc
  cases callee with
  | builtin b=>cases b<;>simp [cl] at hc
  | _=>simp [cl] at hc
theorem read_heap {E:Env} {rec:Rec} {o:Op} {s:Slots} {h h':AH} {v:Value} {ra:Option Addr×Nat} (hc:cl o = .read) (hr:readAt E s o=some ra) (hx:exOp E rec o s h (fun v h=>some (v,h))=some (v,h')) :
  h'=h∧∀ g,sameA h g ra.1 ra.2→exOp E rec o s g (fun v h=>some (v,h))=some (v,g):=by
 have key:∀ g,sameA h g ra.1 ra.2→∃ p2,exOp E rec o s g (fun v h=>some (v,h))=some (v,p2)∧h'=h∧p2=g:=by
  intro g hs
  rw [readC _ hc hr hs,exOp_nat] at hx
  cases hp:exOp E rec o s g (fun v h=>some (v,h)) with
  | none=>rw [hp] at hx;cases hx
  | some p=>
   obtain ⟨p1,p2⟩:=p
   rw [hp] at hx
   simp only [Option.bind_some] at hx
   injection hx with hx
   injection hx with h1 h2
   subst h1
   refine ⟨p2,rfl,h2.symm,?_⟩
   have:=hp
   rw [readC _ hc hr (fun ad _=>same_refl g ad.block ad.off ra.2),exOp_nat,hp] at this
   simp only [Option.bind_some] at this
   injection this with this
   injection this with _ h3
   exact h3.symm
 obtain ⟨_,_,h1,_⟩:=key h fun _ _=>same_refl ..
 refine ⟨h1,fun g hs=>?_⟩
 obtain ⟨p2,h2,_,h3⟩:=key g hs
 rw [h2,h3]
theorem fresh_heap {E:Env} {rec:Rec} {o:Op} {s:Slots} {h h':AH} {v:Value} (hc:cl o = .fresh) (hx:exOp E rec o s h (fun v h=>some (v,h))=some (v,h')):∃ k,h'=h++[some k]:=by
 cases o<;>first|(simp [cl] at hc;done)|(simp only [cl] at hc;revert hc;cases Nat.beq _ 9<;>(intro hc;cases hc);done)|skip
 case alloc t=>
  simp only [exOp] at hx
  split at hx
  ·injection hx with hx;injection hx with _ hx;exact ⟨_,hx.symm⟩
  ·cases hx
 case box t x=>
  simp only [exOp] at hx
  split at hx
  ·split at hx
   ·rename_i i _
    cases hb:Nat.beq (cells _).length i.ks.length with
    | false=>rw [hb] at hx;cases hx
    | true=>rw [hb] at hx;injection hx with hx;injection hx with _ hx;exact ⟨_,hx.symm⟩
   ·cases hx
  ·cases hx
 case buildSlice t n ps=>
  simp only [exOp] at hx
  split at hx
  ·split at hx
   ·rename_i vs i _ _ _ j _
    cases hb:(isSl i&&Nat.blt 0 j.ks.length&&Nat.ble (n*j.ks.length) 16777216) with
    | false=>rw [hb] at hx;cases hx
    | true=>
     rw [hb] at hx
     simp only [cond_true] at hx
     split at hx
     ·injection hx with hx;injection hx with _ hx;exact ⟨_,hx.symm⟩
     ·cases hx
   ·cases hx
  ·cases hx
 case makeSlice t l m=>
  simp only [exOp] at hx
  split at hx
  ·split at hx
   ·rename_i i _ _ _ _ j _
    cases hb:(!(isSl i&&Nat.blt 0 j.ks.length)) with
    | true=>rw [hb] at hx;cases hx
    | false=>
     rw [hb] at hx
     simp only [cond_false] at hx
     split at hx
     ·injection hx with hx;injection hx with _ hx;exact ⟨_,hx.symm⟩
     ·cases hx
   ·cases hx
  ·cases hx
 case slice t x lo hi mx=>cases lo<;>simp [cl] at hc
 case call cc=>
  obtain ⟨callee,xs,ts⟩:=cc
  cases callee with
  | builtin b=>cases b<;>simp [cl] at hc
  | _=>simp [cl] at hc
theorem exO_fresh {R:Type} {E:Env} {rec:Rec} {o:Oper} {s:Slots} {h:AH} {c:Value→AH→Option R} (hc:cl o.op = .fresh):exO E rec o s h c=exOp E rec o.op s h c:=by
 unfold exO
 split
 ·rfl
 ·rename_i t xs ht
  obtain ⟨cc,e1,e2,_⟩:=tmpCall_some ht
  rw [e1] at hc
  simp [cl,e2] at hc
end Go.Proofs.Ytkdenmdijdmnjaa.Am
set_option linter.unusedSimpArgs false
set_option linter.unusedVariables false
namespace Go.Proofs.Ytkdenmdijdmnjaa.Am
open Go Go.RowKit
theorem sset_same:∀ (s:Slots) (d:Nat) (v:Value),sget s d=some v→sset s d (some v)=s
 | [],_,_,h=>rfl
 | x :: r,0,v,h=>by simp only [sget] at h;rw [h];rfl
 | x :: r,d+1,v,h=>by simp only [sset];rw [sset_same r d v h]
section
variable {P:Program} {base:Nat} {φ:Nat→Nat×Nat} {n:Nat} {w:World} {s:Slots} {a:Act}
def gv (ops:List Oper) (o:Oper) (s:Slots) (b:Bool):Prop:=match o.guard with
 | none=>b=true
 | some (j,want)=>∃ d,(ops[j]?).bind (·.dst)=some d∧((∃ x,sget s d=some (.bool x)∧b=decide (x=want))∨((∃ x,sget s d=some (.tuple x))∧b=false))
theorem guarded_some {R:Type} {ops:List Oper} {o:Oper} {yes no:Slots→Option R} {r:R} (h:guarded ops o s yes no=some r):(gv ops o s true∧yes s=some r)∨(gv ops o s false∧no s=some r):=by
 unfold guarded at h
 unfold gv
 cases hg:o.guard with
 | none=>rw [hg] at h;exact .inl ⟨rfl,h⟩
 | some p=>
  obtain ⟨j,want⟩:=p
  rw [hg] at h
  simp only at h ⊢
  cases hd:(ops[j]?).bind (·.dst) with
  | none=>rw [hd] at h;cases h
  | some d=>
   rw [hd] at h
   simp only at h
   split at h
   ·rename_i b hb
    cases b with
    | true=>
     rw [if_pos rfl,sset_same _ _ _ hb] at h
     cases want with
     | true=>exact .inl ⟨⟨d,rfl,.inl ⟨true,hb,rfl⟩⟩,h⟩
     | false=>exact .inr ⟨⟨d,rfl,.inl ⟨true,hb,rfl⟩⟩,h⟩
    | false=>
     rw [if_neg (by decide),sset_same _ _ _ hb] at h
     cases want with
     | true=>exact .inr ⟨⟨d,rfl,.inl ⟨false,hb,rfl⟩⟩,h⟩
     | false=>exact .inl ⟨⟨d,rfl,.inl ⟨false,hb,rfl⟩⟩,h⟩
   ·rename_i x hx
    exact .inr ⟨⟨d,rfl,.inr ⟨⟨x,hx⟩,by trivial⟩⟩,h⟩
   ·cases h
theorem gv_wanted {ops:Array Oper} {o:Oper} {b:Bool} (hs:SR P base φ n w s a) (h:gv ops.toList o s b):Region.wanted o (yielded ops a.tmps)=b:=by
 unfold gv at h
 unfold Region.wanted
 cases hg:o.guard with
 | none=>rw [hg] at h;exact h.symm
 | some p=>
  obtain ⟨j,want⟩:=p
  rw [hg] at h
  simp only at h ⊢
  obtain ⟨d,hd,hor⟩:=h
  have hd':(ops[j]?).bind (·.dst)=some d:=by simpa using hd
  unfold yielded
  rw [hd']
  simp only [Option.bind_some]
  rcases hor with ⟨x,hx,rfl⟩|⟨⟨x,hx⟩,rfl⟩
  ·have hlt:=sget_lt _ _ _ hx
   rw [hs.len] at hlt
   have hv:=(hs.get d _ hx).bool_inv
   rw [Array.getD_eq_getD_getElem?,Array.getElem?_eq_getElem hlt] at hv
   rw [Array.getElem?_eq_getElem hlt]
   simp only [Option.getD_some] at hv
   rw [hv]
   cases x<;>cases want<;>rfl
  ·have hlt:=sget_lt _ _ _ hx
   rw [hs.len] at hlt
   have hv:=(hs.get d _ hx)
   rw [Array.getD_eq_getD_getElem?,Array.getElem?_eq_getElem hlt] at hv
   rw [Array.getElem?_eq_getElem hlt]
   simp only [Option.getD_some] at hv
   generalize a.tmps[d]=u at hv ⊢
   cases hv
   cases want<;>rfl
end
section
variable {R:Type} {E:Env} {w0:World} {Q:Exit→Act→World→Prop} {r:R} {rec:Rec}
theorem exOps_sound (hE:EnvOk E) (hrec:RecOk E w0 rec) (ops:Array Oper) (c:Slots→AH→Option R):∀ (l:List Oper) (s:Slots) (h:AH) (a:Act) (w:World) (φ:Nat→Nat×Nat),
  exOps E rec ops.toList l s h c=some r→SR E.P E.base φ h.length w s a→HR E.P E.base w0 φ h w →
  (∀ s' h' φ' a' w',c s' h'=some r→Ext φ h w φ' h' w'→HR E.P E.base w0 φ' h' w'→SR E.P E.base φ' h'.length w' s' a'→Q .normal a' w')→wpList E.P ops Q l a w
 | [],s,h,a,w,φ,hx,hs,hh,hQ=>hQ s h φ a w hx (Ext.refl ..) hh hs
 | o :: l,s,h,a,w,φ,hx,hs,hh,hQ=>by
  simp only [exOps] at hx
  rcases guarded_some hx with ⟨hg,hx⟩|⟨hg,hx⟩
  ·have hw:=gv_wanted hs hg
   simp only [wpList,hw,if_true]
   refine .inl (exO_sound hE hrec o hx hs hh fun v h' φ' u w' hc e1 e2 e3=>?_)
   exact exOps_sound hE hrec ops c l _ h' _ w' φ' hc ((hs.ext e1).put o.dst e3) e2 fun s2 h2 φ2 a2 w2 q1 q2 q3 q4=>hQ s2 h2 φ2 a2 w2 q1 (e1.trans q2) q3 q4
  ·have hw:=gv_wanted hs hg
   simp only [wpList,hw]
   exact exOps_sound hE hrec ops c l _ h _ w φ hx (hs.put o.dst undef_rel) hh hQ
end
end Go.Proofs.Ytkdenmdijdmnjaa.Am
set_option linter.unusedSimpArgs false
set_option linter.unusedVariables false
namespace Go.Proofs.Ytkdenmdijdmnjaa.Am
open Go Go.RowKit
abbrev pair:Value→AH→Option (Value×AH):=fun v h=>some (v,h)
structure St where
 s:Slots
 h:AH
 hi:List (Nat×AH)
 pe:List (Nat×Option Addr×Nat)
 an:List (Nat×Nat)
inductive StepV (E:Env) (rec:Rec) (ops:List Oper) (bf:List Nat) (b j:Nat) (o:Oper) (A B:St):Option Value→Prop
 | skip (g:gv ops o A.s false) (e:B=⟨sput A.s o.dst (some undef),A.h,A.hi,A.pe,A.an⟩):StepV E rec ops bf b j o A B none
 | pure (v:Value) (g:gv ops o A.s true) (k:cl o.op = .pure) (x:exOp E rec o.op A.s A.h pair=some (v,B.h)) (e:B=⟨sput A.s o.dst (some v),B.h,A.hi,A.pe,A.an⟩):StepV E rec ops bf b j o A B (some v)
 | fresh (v:Value) (g:gv ops o A.s true) (k:cl o.op = .fresh) (x:exOp E rec o.op A.s A.h pair=some (v,B.h)) (ol:(allBef b A.hi=true∧allBef b A.an=true)∨lzOk ops bf j o.op=true)
   (g1:∀ i a n,(i,a,n)∈A.pe→b.testBit i=false→neA a A.h.length)
   (e:B=⟨sput A.s o.dst (some v),B.h,A.hi,A.pe,(j,A.h.length) :: A.an⟩):StepV E rec ops bf b j o A B (some v)
 | read (v:Value) (a:Option Addr) (n:Nat) (g:gv ops o A.s true) (k:cl o.op = .read) (x:exOp E rec o.op A.s A.h pair=some (v,B.h)) (ra:readAt E A.s o.op=some (a,n))
   (g1:∀ k nm,(k,nm)∈A.an→b.testBit k=false→neA a nm) (g2:∀ k p,(k,p)∈A.hi→b.testBit k=false→sameA p A.h a n)
   (e:B=⟨sput A.s o.dst (some v),B.h,A.hi,(j,a,n) :: A.pe,A.an⟩):StepV E rec ops bf b j o A B (some v)
 | heavy (v:Value) (g:gv ops o A.s true) (k:cl o.op = .heavy) (x:exO E rec o A.s A.h pair=some (v,B.h)) (o1:allBef b A.hi=true) (o2:allBef b A.an=true)
   (g1:∀ i a n,(i,a,n)∈A.pe→b.testBit i=false→sameA A.h B.h a n)
   (e:B=⟨sput A.s o.dst (some v),B.h,(j,A.h) :: A.hi,A.pe,A.an⟩):StepV E rec ops bf b j o A B (some v)
theorem gate_some {R:Type} {p:Prop} {x:Option R} {r:R} (h:gate p x=some r):p∧x=some r:=by
 unfold gate at h
 split at h
 ·rename_i hp;exact ⟨hp,h⟩
 ·cases h
theorem gatesA_some {R:Type} {bj:Nat} {b:Option Addr} {x:Option R} {r:R}:∀ {l:List (Nat×Nat)},gatesA bj b l x=some r→x=some r∧∀ k nm,(k,nm)∈l→bj.testBit k=false→neA b nm
 | [],h=>⟨h,fun k nm hm _=>by cases hm⟩
 | (k,nm) :: l,h=>by
  simp only [gatesA] at h
  cases hb:bj.testBit k with
  | true=>
   rw [hb] at h
   obtain ⟨h1,h2⟩:=gatesA_some h
   refine ⟨h1,fun k' nm' hm hf=>?_⟩
   rcases List.mem_cons.1 hm with e|hm
   ·injection e with e1 e2;subst e1;rw [hb] at hf;cases hf
   ·exact h2 k' nm' hm hf
  | false=>
   rw [hb] at h
   obtain ⟨hp,h⟩:=gate_some h
   obtain ⟨h1,h2⟩:=gatesA_some h
   refine ⟨h1,fun k' nm' hm hf=>?_⟩
   rcases List.mem_cons.1 hm with e|hm
   ·injection e with e1 e2;subst e1;subst e2;exact hp
   ·exact h2 k' nm' hm hf
theorem gatesH_some {R:Type} {bj n:Nat} {b:Option Addr} {h0:AH} {x:Option R} {r:R}:∀ {l:List (Nat×AH)},gatesH bj h0 b n l x=some r→x=some r∧∀ k p,(k,p)∈l→bj.testBit k=false→sameA p h0 b n
 | [],h=>⟨h,fun k nm hm _=>by cases hm⟩
 | (k,p) :: l,h=>by
  simp only [gatesH] at h
  cases hb:bj.testBit k with
  | true=>
   rw [hb] at h
   obtain ⟨h1,h2⟩:=gatesH_some h
   refine ⟨h1,fun k' nm' hm hf=>?_⟩
   rcases List.mem_cons.1 hm with e|hm
   ·injection e with e1 e2;subst e1;rw [hb] at hf;cases hf
   ·exact h2 k' nm' hm hf
  | false=>
   rw [hb] at h
   obtain ⟨hp,h⟩:=gate_some h
   obtain ⟨h1,h2⟩:=gatesH_some h
   refine ⟨h1,fun k' nm' hm hf=>?_⟩
   rcases List.mem_cons.1 hm with e|hm
   ·injection e with e1 e2;subst e1;subst e2;exact hp
   ·exact h2 k' nm' hm hf
theorem gatesP_some {R:Type} {bj:Nat} {h0 h1:AH} {x:Option R} {r:R}:∀ {l:List (Nat×Option Addr×Nat)},gatesP bj h0 h1 l x=some r→x=some r∧∀ i b n,(i,b,n)∈l→bj.testBit i=false→sameA h0 h1 b n
 | [],h=>⟨h,fun i b n hm _=>by cases hm⟩
 | (i,b,n) :: l,h=>by
  simp only [gatesP] at h
  cases hb:bj.testBit i with
  | true=>
   rw [hb] at h
   obtain ⟨h1,h2⟩:=gatesP_some h
   refine ⟨h1,fun i' b' n' hm hf=>?_⟩
   rcases List.mem_cons.1 hm with e|hm
   ·injection e with e1 e2;subst e1;rw [hb] at hf;cases hf
   ·exact h2 i' b' n' hm hf
  | false=>
   rw [hb] at h
   obtain ⟨hp,h⟩:=gate_some h
   obtain ⟨h1,h2⟩:=gatesP_some h
   refine ⟨h1,fun i' b' n' hm hf=>?_⟩
   rcases List.mem_cons.1 hm with e|hm
   ·injection e with e1 e2
    injection e2 with e2 e3
    subst e1;subst e2;subst e3;exact hp
   ·exact h2 i' b' n' hm hf
theorem gatesF_some {R:Type} {bj nm:Nat} {x:Option R} {r:R}:∀ {l:List (Nat×Option Addr×Nat)},gatesF bj nm l x=some r→x=some r∧∀ i b n,(i,b,n)∈l→bj.testBit i=false→neA b nm
 | [],h=>⟨h,fun i b n hm _=>by cases hm⟩
 | (i,b,n) :: l,h=>by
  simp only [gatesF] at h
  cases hb:bj.testBit i with
  | true=>
   rw [hb] at h
   obtain ⟨h1,h2⟩:=gatesF_some h
   refine ⟨h1,fun i' b' n' hm hf=>?_⟩
   rcases List.mem_cons.1 hm with e|hm
   ·injection e with e1 e2;subst e1;rw [hb] at hf;cases hf
   ·exact h2 i' b' n' hm hf
  | false=>
   rw [hb] at h
   obtain ⟨hp,h⟩:=gate_some h
   obtain ⟨h1,h2⟩:=gatesF_some h
   refine ⟨h1,fun i' b' n' hm hf=>?_⟩
   rcases List.mem_cons.1 hm with e|hm
   ·injection e with e1 e2
    injection e2 with e2 e3
    subst e2;exact hp
   ·exact h2 i' b' n' hm hf
theorem exOp_pair {R:Type} {E:Env} {rec:Rec} {o:Op} {s:Slots} {h:AH} {c:Value→AH→Option R} {r:R} (hx:exOp E rec o s h c=some r):∃ v h',exOp E rec o s h pair=some (v,h')∧c v h'=some r:=by
 rw [exOp_nat] at hx
 cases hp:exOp E rec o s h (fun v h=>some (v,h)) with
 | none=>rw [hp] at hx;cases hx
 | some p=>rw [hp] at hx;exact ⟨p.1,p.2,rfl,hx⟩
theorem exO_pair {R:Type} {E:Env} {rec:Rec} {o:Oper} {s:Slots} {h:AH} {c:Value→AH→Option R} {r:R} (hx:exO E rec o s h c=some r):∃ v h',exO E rec o s h pair=some (v,h')∧c v h'=some r:=by
 rw [exO_nat] at hx
 cases hp:exO E rec o s h (fun v h=>some (v,h)) with
 | none=>rw [hp] at hx;cases hx
 | some p=>rw [hp] at hx;exact ⟨p.1,p.2,rfl,hx⟩
theorem exD_trace {R:Type} {E:Env} {rec:Rec} {ops:List Oper} {bf:List Nat} {c:Slots→AH→Option R} {r:R}:∀ (l:List Oper) (i:Nat) (s:Slots) (h:AH) (hi:List (Nat×AH)) (pe:List (Nat×Option Addr×Nat)) (an:List (Nat×Nat)),
  exD E rec ops bf l i s h hi pe an c=some r→∃ (T:Nat→St) (V:Nat→Option Value),T i=⟨s,h,hi,pe,an⟩∧c (T (i+l.length)).s (T (i+l.length)).h=some r ∧
   ∀ k o,l[k]? = some o→StepV E rec ops bf (bf.getD (i+k) 0) (i+k) o (T (i+k)) (T (i+k+1)) (V (i+k))
 | [],i,s,h,hi,pe,an,hx=>⟨fun _=>⟨s,h,hi,pe,an⟩,fun _=>none,rfl,hx,fun k o ho=>by simp at ho⟩
 | o :: l,i,s,h,hi,pe,an,hx=>by
  have build:∀ (B:St) (v:Option Value),StepV E rec ops bf (bf.getD i 0) i o ⟨s,h,hi,pe,an⟩ B v→exD E rec ops bf l (i+1) B.s B.h B.hi B.pe B.an c=some r →
    ∃ (T:Nat→St) (V:Nat→Option Value),T i=⟨s,h,hi,pe,an⟩∧c (T (i+(o :: l).length)).s (T (i+(o :: l).length)).h=some r ∧
     ∀ k o',(o :: l)[k]? = some o'→StepV E rec ops bf (bf.getD (i+k) 0) (i+k) o' (T (i+k)) (T (i+k+1)) (V (i+k)):=by
   intro B v hst hrest
   obtain ⟨T,V,h1,h2,h3⟩:=exD_trace l (i+1) _ _ _ _ _ hrest
   refine ⟨fun j=>if j=i then ⟨s,h,hi,pe,an⟩ else T j,fun j=>if j=i then v else V j,by simp,?_,?_⟩
   ·have e:i+(o :: l).length=i+1+l.length:=by simp;omega
    have hne:i+1+l.length≠i:=by omega
    simp only [e,hne,if_false]
    exact h2
   ·intro k o' hk
    cases k with
    | zero=>
     simp at hk
     subst hk
     simp only [Nat.add_zero,if_true]
     rw [if_neg (by omega),h1]
     exact hst
    | succ k=>
     simp only [List.getElem?_cons_succ] at hk
     have:=h3 k o' hk
     have e1:i+(k+1)=i+1+k:=by omega
     have n1:i+1+k≠i:=by omega
     have n2:i+1+k+1≠i:=by omega
     rw [e1]
     simp only [n1,n2,if_false]
     exact this
  simp only [exD] at hx
  rcases guarded_some hx with ⟨hg,hx⟩|⟨hg,hx⟩
  ·cases hc:cl o.op with
   | pure=>
    rw [hc] at hx
    simp only at hx
    obtain ⟨v,h',h1,h2⟩:=exOp_pair hx
    exact build ⟨_,h',_,_,_⟩ (some v) (.pure v hg hc h1 rfl) h2
   | fresh=>
    rw [hc] at hx
    simp only at hx
    cases hb:((allBef (bf.getD i 0) hi&&allBef (bf.getD i 0) an)||lzOk ops bf i o.op) with
    | false=>rw [hb] at hx;cases hx
    | true=>
     rw [hb] at hx
     simp only [cond_true] at hx
     simp only [Bool.or_eq_true,Bool.and_eq_true] at hb
     obtain ⟨hx,g1⟩:=gatesF_some hx
     obtain ⟨v,h',h1,h2⟩:=exOp_pair hx
     exact build ⟨_,h',_,_,_⟩ (some v) (.fresh v hg hc h1 hb g1 rfl) h2
   | read=>
    rw [hc] at hx
    simp only at hx
    split at hx
    ·rename_i a n hra
     obtain ⟨hx,g1⟩:=gatesA_some hx
     obtain ⟨hx,g2⟩:=gatesH_some hx
     obtain ⟨v,h',h1,h2⟩:=exOp_pair hx
     exact build ⟨_,h',_,_,_⟩ (some v) (.read v a n hg hc h1 hra g1 g2 rfl) h2
    ·cases hx
   | heavy=>
    rw [hc] at hx
    simp only at hx
    cases hb:(allBef (bf.getD i 0) hi&&allBef (bf.getD i 0) an) with
    | false=>rw [hb] at hx;cases hx
    | true=>
     rw [hb] at hx
     simp only [cond_true] at hx
     simp only [Bool.and_eq_true] at hb
     obtain ⟨v,h',h1,h2⟩:=exO_pair hx
     obtain ⟨h2,g1⟩:=gatesP_some h2
     exact build ⟨_,h',_,_,_⟩ (some v) (.heavy v hg hc h1 hb.1 hb.2 g1 rfl) h2
  ·exact build ⟨_,h,_,_,_⟩ none (.skip hg rfl) hx
theorem allBef_mem {α:Type} {b:Nat}:∀ {l:List (Nat×α)},allBef b l=true→∀ k x,(k,x)∈l→b.testBit k=true
 | [],_,k,x,hm=>by cases hm
 | (k0,x0) :: l,h,k,x,hm=>by
  simp only [allBef,Bool.and_eq_true] at h
  rcases List.mem_cons.1 hm with e|hm
  ·injection e with e1 e2;subst e1;exact h.1
  ·exact allBef_mem h.2 k x hm
theorem bindsAny_eq (e:Edge):Region.binds .any e=bindsAny e:=by
 unfold Region.binds bindsAny
 cases e.ground<;>rfl
theorem befOf_bit {acc:List Nat} {x:Nat}:∀ {es:List Edge},(befOf acc es).testBit x=true→∃ e∈es,bindsAny e=true∧(x=e.on∨(acc.getD e.on 0).testBit x=true)
 | [],h=>by simp [befOf] at h
 | e :: r,h=>by
  simp only [befOf] at h
  cases hb:bindsAny e with
  | false=>
   rw [hb] at h
   obtain ⟨e',h1,h2⟩:=befOf_bit h
   exact ⟨e',List.mem_cons_of_mem _ h1,h2⟩
  | true=>
   rw [hb] at h
   simp only [cond_true,Nat.testBit_or,Bool.or_eq_true] at h
   rcases h with (h|h)|h
   ·refine ⟨e,List.mem_cons_self ..,hb,.inl ?_⟩
    rw [Nat.testBit_shiftLeft] at h
    simp only [Bool.and_eq_true,decide_eq_true_eq] at h
    obtain ⟨h1,h2⟩:=h
    have:x-e.on=0:=by
     cases hq:x-e.on with
     | zero=>rfl
     | succ q=>
      rw [hq] at h2
      simp [Nat.testBit_succ] at h2
    omega
   ·exact ⟨e,List.mem_cons_self ..,hb,.inr h⟩
   ·obtain ⟨e',h1,h2⟩:=befOf_bit h
    exact ⟨e',List.mem_cons_of_mem _ h1,h2⟩
theorem befs_get:∀ (l:List Oper) (acc:List Nat),(∀ j,j<acc.length→(befs acc l)[j]? = acc[j]?) ∧
  (∀ (k:Nat) (o:Oper),l[k]? = some o→∃ pre,(befs acc l)[acc.length+k]? = some (befOf pre o.after.toList)∧pre.length=acc.length+k∧∀ j,j<pre.length→pre[j]? = (befs acc l)[j]?)
 | [],acc=>⟨fun j _=>rfl,fun k o ho=>by simp at ho⟩
 | o :: l,acc=>by
  obtain ⟨h1,h2⟩:=befs_get l (acc++[befOf acc o.after.toList])
  have h0:∀ j,j<acc.length→(befs acc (o :: l))[j]? = acc[j]?:=fun j hj=>by
   simp only [befs]
   rw [h1 j (by simp;omega),List.getElem?_append_left hj]
  refine ⟨h0,fun k o' hk=>?_⟩
  cases k with
  | zero=>
   simp at hk
   subst hk
   refine ⟨acc,?_,rfl,fun j hj=>(h0 j hj).symm⟩
   simp only [befs]
   rw [h1 (acc.length+0) (by simp)]
   simp
  | succ k=>
   simp only [List.getElem?_cons_succ] at hk
   obtain ⟨pre,q1,q2,q3⟩:=h2 k o' hk
   simp only [List.length_append,List.length_singleton] at q1 q2
   exact ⟨pre,by simp only [befs];rw [show acc.length+(k+1)=acc.length+1+k from by omega];exact q1,by omega,q3⟩
theorem bf_bit {l:List Oper} {j x:Nat} {o:Oper} (ho:l[j]? = some o) (h:((befs [] l).getD j 0).testBit x=true) :
  ∃ e∈o.after.toList,bindsAny e=true∧(x=e.on∨(e.on<j∧((befs [] l).getD e.on 0).testBit x=true)):=by
 obtain ⟨_,h2⟩:=befs_get l []
 obtain ⟨pre,q1,q2,q3⟩:=h2 j o ho
 simp only [List.length_nil,Nat.zero_add] at q1 q2
 rw [List.getD_eq_getElem?_getD,q1] at h
 obtain ⟨e,h1,h2,h3⟩:=befOf_bit h
 refine ⟨e,h1,h2,h3.imp id fun h4=>?_⟩
 rw [List.getD_eq_getElem?_getD] at h4 ⊢
 by_cases hlt:e.on<j
 ·rw [q3 _ (by omega)] at h4
  exact ⟨hlt,h4⟩
 ·rw [List.getElem?_eq_none (by omega)] at h4
  simp at h4
theorem regOk_spec {ops:List Oper} {bf:List Nat}:∀ (l:List Oper) (i:Nat),regOk ops bf i l=true→∀ (k:Nat) (o:Oper),l[k]? = some o→edgesOk (i+k) o.after.toList=true∧pairsOk ops (bf.getD (i+k) 0) o 0 (ops.take (i+k))=true
 | [],_,_,k,o,ho=>by simp at ho
 | o :: l,i,h,k,o',ho=>by
  simp only [regOk,Bool.and_eq_true] at h
  obtain ⟨⟨⟨h1,h2⟩,h3⟩,h4⟩:=h
  cases k with
  | zero=>simp at ho;subst ho;exact ⟨h1,h3⟩
  | succ k=>
   simp only [List.getElem?_cons_succ] at ho
   have:=regOk_spec l (i+1) h4 k o' ho
   rw [show i+(k+1)=i+1+k from by omega]
   exact this
theorem pairsOk_spec {ops:List Oper} {bj:Nat} {oj:Oper}:∀ (l:List Oper) (i:Nat),pairsOk ops bj oj i l=true→∀ (k:Nat) (o:Oper),l[k]? = some o→pairOk ops bj (i+k) o oj=true
 | [],_,_,k,o,ho=>by simp at ho
 | o :: l,i,h,k,o',ho=>by
  simp only [pairsOk,Bool.and_eq_true] at h
  cases k with
  | zero=>simp at ho;subst ho;exact h.1
  | succ k=>
   simp only [List.getElem?_cons_succ] at ho
   have:=pairsOk_spec l (i+1) h.2 k o' ho
   rw [show i+(k+1)=i+1+k from by omega]
   exact this
theorem edgesOk_spec {j:Nat}:∀ {es:List Edge},edgesOk j es=true→∀ e∈es,bindsAny e=true→e.on<j
 | [],_,e,he,_=>by cases he
 | e0 :: r,h,e,he,hb=>by
  simp only [edgesOk,Bool.and_eq_true] at h
  rcases List.mem_cons.1 he with rfl|he
  ·rw [hb] at h
   have:=h.1
   simp only [Bool.not_true,Bool.false_or,Nat.blt_eq] at this
   exact this
  ·exact edgesOk_spec h.2 e he hb
theorem memN_of {t:Nat}:∀ {l:List Nat},t∈l→memN t l=true
 | x :: r,h=>by
  simp only [memN,Bool.or_eq_true]
  rcases List.mem_cons.1 h with rfl|h
  ·exact .inl (Nat.beq_refl t)
  ·exact .inr (memN_of h)
end Go.Proofs.Ytkdenmdijdmnjaa.Am
set_option linter.unusedSimpArgs false
set_option linter.unusedVariables false
namespace Go.Proofs.Ytkdenmdijdmnjaa.Am
open Go Go.RowKit
section
variable {E:Env} {w0 w:World} {φ:Nat→Nat×Nat} {h:AH} {s:Slots} {a:Act} {rec:Rec}
theorem alloc_shape (w:World) (us:Array Value) (t:Nat):ShapeLe w (w.alloc (.cells us t)):=by
 intro b x hx
 have hb:b<w.heap.size:=by
  simp only [World.shape?] at hx
  by_cases hb:b<w.heap.size
  ·exact hb
  ·rw [Array.getElem?_eq_none (Nat.le_of_not_lt hb)] at hx;cases hx
 simp only [World.shape?,Below.heap_alloc _ _ _ hb]
 exact hx
theorem HR.alloc (hh:HR E.P E.base w0 φ h w) (us:Array Value) (t:Nat):HR E.P E.base w0 φ h (w.alloc (.cells us t)) where
 below:=hh.below.trans ⟨rfl,rfl,rfl,by simp,fun b hb=>Below.heap_alloc _ _ _ (Nat.lt_of_lt_of_le hb hh.bw)⟩
 mp:=fun i k l hi hm=>by
  obtain ⟨g0,g1,g2,es,clock,g3,g4⟩:=hh.mp i k l hi hm
  exact ⟨g0,g1,g2,es,clock,by rw [Below.heap_alloc _ _ _ (Array.getElem?_eq_some_iff.1 g3).1];exact g3,g4⟩
 blk:=fun i k hi hm=>by
  obtain ⟨cs,fr,g1,g2,g3⟩:=hh.blk i k hi hm
  refine ⟨cs,fr,by rw [Below.heap_alloc _ _ _ (Array.getElem?_eq_some_iff.1 g1).1];exact g1,fun j v hj=>?_,g3⟩
  obtain ⟨u,hu,hv⟩:=g2 j v hj
  exact ⟨u,hu,hv.mono (fun _ _=>rfl) (Nat.le_refl _) (alloc_shape _ _ _)⟩
 inj:=hh.inj
 lo:=hh.lo
 len:=hh.len
 bw:=by have:=hh.bw;simp;omega
theorem Ext.alloc (φ:Nat→Nat×Nat) (h:AH) (w:World) (us:Array Value) (t:Nat):Ext φ h w φ h (w.alloc (.cells us t)):=
 ⟨Nat.le_refl _,fun _ _=>rfl,fun i k hi _=>⟨i,k,hi,rfl⟩,fun b hb _=>Below.heap_alloc _ _ _ hb,by simp,alloc_shape _ _ _⟩
theorem HR.attach (hh:HR E.P E.base w0 φ h w) {k:Blk} (hkm:k.m=none) {us:Array Value} {B:Nat} (hB:w.heap[B]? = some (.cells us k.ty (0,0))) (hc:∀ (j:Nat) (x:Value),k.cs[j]? = some x→∃ y,us[j]? = some y∧CR E.P E.base φ h.length w x y)
  (hb:E.base≤B) (hn:∀ i l,hget h i=some l→(φ i).1≠B) {φ':Nat→Nat×Nat} (hold:∀ i,i<h.length→φ' i=φ i) (hnew:φ' h.length=(B,0)):HR E.P E.base w0 φ' (h++[some k]) w:=by
 have hcase:∀ i l,hget (h++[some k]) i=some l→(i<h.length∧hget h i=some l)∨(i=h.length∧l=k):=fun i l hi=>by
  rcases Nat.lt_trichotomy i h.length with hlt|heq|hgt
  ·exact .inl ⟨hlt,by rw [hget_append_lt hlt] at hi;exact hi⟩
  ·subst heq;rw [hget_append_new] at hi;injection hi with hi;exact .inr ⟨rfl,hi.symm⟩
  ·rw [hget_append_ge hgt] at hi;cases hi
 refine ⟨hh.below,fun i l hi hm=>?_,fun i l m hi hm=>?_,fun i j l l' hi hj e=>?_,fun i hi=>?_,?_,hh.bw⟩
 ·rcases hcase i l hi with ⟨h1,h2⟩|⟨h1,h2⟩
  ·obtain ⟨cs,fr,g1,g2,g3⟩:=hh.blk i l h2 hm
   rw [hold i h1]
   refine ⟨cs,fr,g1,fun j v hj=>?_,g3⟩
   obtain ⟨u,hu,hv⟩:=g2 j v hj
   exact ⟨u,hu,hv.mono hold (by simp) (ShapeLe.refl _)⟩
  ·subst h1;subst h2
   rw [hnew]
   refine ⟨us,(0,0),hB,fun j v hj=>?_,fun _=>⟨rfl,hb⟩⟩
   obtain ⟨u,hu,hv⟩:=hc j v hj
   exact ⟨u,by simpa using hu,hv.mono hold (by simp) (ShapeLe.refl _)⟩
 ·rcases hcase i l hi with ⟨h1,h2⟩|⟨h1,h2⟩
  ·rw [hold i h1]
   exact hh.mp i l m h2 hm
  ·subst h2;rw [hkm] at hm;cases hm
 ·rcases hcase i l hi with ⟨h1,h2⟩|⟨h1,_⟩
  ·rcases hcase j l' hj with ⟨h3,h4⟩|⟨h3,_⟩
   ·rw [hold i h1,hold j h3] at e
    exact hh.inj i j l l' h2 h4 e
   ·subst h3
    rw [hold i h1,hnew] at e
    exact absurd e (hn i l h2)
  ·rcases hcase j l' hj with ⟨h3,h4⟩|⟨h3,_⟩
   ·subst h1
    rw [hold j h3,hnew] at e
    exact absurd e.symm (hn j l' h4)
   ·rw [h1,h3]
 ·rw [hold i (Nat.lt_of_lt_of_le hi hh.len)];exact hh.lo i hi
 ·have:=hh.len;simp;omega
theorem fillR_len {sz:Nat}:∀ {vs:List (Nat×Value)} {cs out:List Value},fillR sz cs vs=some out→out.length=cs.length
 | [],cs,out,h=>by simp only [fillR] at h;injection h with h;rw [h]
 | (k,v) :: vs,cs,out,h=>by
  simp only [fillR] at h
  cases hb:(Nat.beq (cells v).length sz&&Nat.ble (k*sz+sz) cs.length) with
  | false=>rw [hb] at h;cases h
  | true=>
   rw [hb] at h
   simp only [cond_true] at h
   simp only [Bool.and_eq_true] at hb
   have e1:=Nat.eq_of_beq_eq_true hb.1
   have e2:=Nat.le_of_ble_eq_true hb.2
   rw [fillR_len h]
   simp [setAt];omega
theorem fz_any {o:Op} (hz:isFz o=true) {v:Value} {h':AH} (hx:exOp E rec o s h pair=some (v,h')) (g:AH):∃ v2 h2,exOp E rec o s g pair=some (v2,h2):=by
 cases o<;>first|(simp [isFz] at hz;done)|skip
 case alloc t=>
  simp only [exOp] at hx ⊢
  split at hx
  ·exact ⟨_,_,rfl⟩
  ·cases hx
 case box t x=>
  simp only [exOp] at hx ⊢
  split at hx
  ·split at hx
   ·rename_i i _
    cases hb:Nat.beq (cells _).length i.ks.length with
    | false=>rw [hb] at hx;cases hx
    | true=>exact ⟨_,_,rfl⟩
   ·cases hx
  ·cases hx
 case buildSlice t m ps=>
  simp only [exOp] at hx ⊢
  split at hx
  ·split at hx
   ·rename_i vs i _ _ _ j _
    cases hb:(isSl i&&Nat.blt 0 j.ks.length&&Nat.ble (m*j.ks.length) 16777216) with
    | false=>rw [hb] at hx;cases hx
    | true=>
     rw [hb] at hx
     simp only [cond_true] at hx ⊢
     split at hx
     ·exact ⟨_,_,rfl⟩
     ·cases hx
   ·cases hx
  ·cases hx
theorem fresh_run (hE:EnvOk E) (o:Oper) (hz:isFz o.op=true) {v:Value} {h':AH} (hx:exOp E rec o.op s h pair=some (v,h')) (hs:SR E.P E.base φ h.length w s a) :
  ∃ (F:Nat→Value) (k:Blk) (us:Array Value) (u:Value),k.m=none∧v=F h.length∧h'=h++[some k]∧(∀ g,exOp E rec o.op s g pair=some (F g.length,g++[some k])) ∧
   (execOp a.eval o).run E.P w = .ok (.value u) (w.alloc (.cells us k.ty))∧(∀ (j:Nat) (x:Value),k.cs[j]? = some x→∃ y,us[j]? = some y∧CR E.P E.base φ h.length w x y) ∧
   (∀ (φ':Nat→Nat×Nat) (nm n':Nat) (w':World),φ' nm=(w.heap.size,0)→nm<n'→ShapeLe (w.alloc (.cells us k.ty)) w'→VR E.P E.base φ' n' w' (F nm) u):=by
 obtain ⟨dst,op,ty,pos,after,guard⟩:=o
 have ptr:∀ (us:Array Value) (t:Nat) (φ':Nat→Nat×Nat) (nm n':Nat) (w':World),φ' nm=(w.heap.size,0)→nm<n'→ShapeLe (w.alloc (.cells us t)) w'→VR E.P E.base φ' n' w' (.pointer (some ⟨nm,0,none⟩)) (.pointer (some ⟨w.heap.size,0,none⟩)):=by
  intro us t φ' nm n' w' e1 e2 _
  have:=VR.ptr (P:=E.P) (base:=E.base) (φ:=φ') (n:=n') (w:=w') nm 0 e2
  rw [e1] at this
  exact this
 cases op<;>first|(simp [isFz] at hz;done)|skip
 case alloc t=>
  simp only [exOp] at hx
  split at hx
  ·rename_i i hi
   injection hx with hx
   injection hx with hx1 hx2
   obtain ⟨z,hz,h1,h2,h3⟩:=(hE.ti t i hi).zero w
   refine ⟨fun n=>.pointer (some ⟨n,0,none⟩),⟨i.zero,t⟩,z.cells,.pointer (some ⟨w.heap.size,0,none⟩),rfl,hx1.symm,hx2.symm,fun g=>by simp only [exOp,hi],?_,fun j v hj=>?_,ptr _ _⟩
   ·simp [execOp,Instr.alloc,hz,newVar,newRow]
   ·simp only at hj
    rw [← h1] at hj
    exact ⟨v,by simpa using hj,fun _=>VR.flat (h3 v (by rw [← h1];exact List.mem_of_getElem? hj))⟩
  ·cases hx
 case box t x=>
  simp only [exOp] at hx
  split at hx
  ·rename_i v0 hv
   split at hx
   ·rename_i i hi
    cases hb:Nat.beq (cells v0).length i.ks.length with
    | false=>rw [hb] at hx;cases hx
    | true=>
     rw [hb] at hx
     simp only [cond_true] at hx
     injection hx with hx
     injection hx with hx1 hx2
     obtain ⟨hl,hr⟩:=(ev_rel hs hv).cells_rel
     refine ⟨fun n=>.pointer (some ⟨n,0,none⟩),⟨cells v0,t⟩,(a.eval x).cells,.pointer (some ⟨w.heap.size,0,none⟩),rfl,hx1.symm,hx2.symm,fun g=>by simp only [exOp,hv,hi,hb,cond_true],?_,fun j y hj=>?_,ptr _ _⟩
     ·simp [execOp,Instr.box,newVar,newRow]
     ·have hlt:j<(a.eval x).cells.size:=by rw [← hl];exact (List.getElem?_eq_some_iff.1 hj).1
      exact ⟨_,Array.getElem?_eq_getElem hlt,fun _=>hr j y _ hj (Array.getElem?_eq_getElem hlt)⟩
   ·cases hx
  ·cases hx
 case buildSlice t m ps=>
  simp only [exOp] at hx
  split at hx
  ·rename_i vs i h1 h2
   split at hx
   ·rename_i j hj
    cases hb:(isSl i&&Nat.blt 0 j.ks.length&&Nat.ble (m*j.ks.length) 16777216) with
    | false=>rw [hb] at hx;cases hx
    | true=>
     have hbb:=hb
     rw [hb] at hx
     simp only [cond_true] at hx
     simp only [Bool.and_eq_true,Nat.blt_eq] at hb
     obtain ⟨⟨hb0,hb1⟩,hb2⟩:=hb
     have hb2:=Nat.le_of_ble_eq_true hb2
     split at hx
     ·rename_i cs hcs
      injection hx with hx
      injection hx with hx1 hx2
      have F:=hE.ti i.elem j hj
      obtain ⟨z,hz,hzc,hzl,hzf⟩:=F.zero w
      obtain ⟨el,er⟩:=evP_rel hs h1
      have hu:=(hE.ti t i h2).slice hb0
      have hzs:z.cells.size=j.ks.length:=by rw [← hzl,← hzc];simp
      let zs:Array Value:=(Array.range (m*j.ks.length)).map ((if m*j.ks.length=0 then #[] else z.cells)[· % (if m*j.ks.length=0 then #[] else z.cells).size]!)
      have hrows:Rows2 E.P E.base φ h.length w (rep j.zero m) zs:=by
       refine ⟨by simp [zs,rep_length,hzl],fun k x y hx hy=>?_⟩
       have hk:k<m*j.ks.length:=by
        have:=(List.getElem?_eq_some_iff.1 hx).1
        rw [rep_length,hzl] at this;exact this
       have hne:m*j.ks.length≠0:=by omega
       rw [rep_get _ _ _ (by rw [hzl];exact hk)] at hx
       simp only [zs,if_neg hne] at hy
       rw [zerosArr z.cells _ k (by omega) hk] at hy
       rw [← hzc] at hx
       simp only [Array.length_toList,Array.getElem?_toList] at hx
       rw [hx] at hy
       injection hy with hy
       subst hy
       exact VR.flat (hzf x (by rw [← hzc];exact List.mem_of_getElem? (by simpa using hx)))
      obtain ⟨o2,g1,g2⟩:=fillR_sound (E:=E) (w:=w) (φ:=φ) (h:=h) j.ks.length vs (ps.toList.map fun p=>(p.1,a.eval p.2)) (rep j.zero m) zs cs hcs (by simpa using el)
       (fun k p q hp hq=>by
        rw [List.getElem?_map] at hq
        cases hq':ps.toList[k]? with
        | none=>rw [hq'] at hq;cases hq
        | some q'=>
         rw [hq'] at hq
         injection hq with hq
         subst hq
         exact er k p q' hp hq') hrows
      have hlen:cs.length=m*j.ks.length:=by rw [fillR_len hcs,rep_length,hzl]
      refine ⟨fun n=>.slice (some ⟨n,0,none⟩) m m,⟨cs,i.elem⟩,o2,.slice (some ⟨w.heap.size,0,none⟩) m m,rfl,hx1.symm,hx2.symm,fun g=>by simp only [exOp,h1,h2,hj,hbb,cond_true,hcs],?_,fun k v hv=>?_,fun φ' nm n' w' e1 e2 e3=>?_⟩
      ·have hps:(ps.map fun x=>match x with|(i,x)=>(i,a.eval x)).toList=ps.toList.map fun p=>(p.1,a.eval p.2):=by simp
       simp only [execOp,Instr.buildSlice,Sem.run_bind,TFact.under hu,Result.andThen_ok,F.size w]
       rw [if_neg (by omega)]
       by_cases h0:m*j.ks.length=0
       ·simp only [h0,if_true,Sem.run_bind,Sem.run_pure,Result.andThen_ok,hps]
        simp only [zs,h0,if_true] at g1
        rw [g1]
        simp [newRow]
       ·simp only [if_neg h0,Sem.run_bind,Sem.run_pure,hz,Result.andThen_ok,hps]
        simp only [zs,if_neg h0] at g1
        rw [g1]
        simp [newRow]
      ·have hlt:k<o2.size:=by rw [← g2.1];exact (List.getElem?_eq_some_iff.1 hv).1
       exact ⟨_,Array.getElem?_eq_getElem hlt,fun _=>g2.2 k v _ hv (Array.getElem?_eq_getElem hlt)⟩
      ·have hnb:(w.alloc (.cells o2 i.elem)).heap[w.heap.size]? = some (.cells o2 i.elem (0,0)):=heap_alloc_new _ _
       have:=VR.slice (P:=E.P) (base:=E.base) (φ:=φ') (n:=n') (w:=w') nm 0 m m m e2 (Nat.le_refl _) (fun _=>⟨i.elem,o2.size,by rw [e1];exact e3 _ _ (by simp only [World.shape?,hnb]),by rw [e1,F.cellsOf,← g2.1,hlen];simp⟩)
       rw [e1] at this
       exact this
     ·cases hx
   ·cases hx
  ·cases hx
end
end Go.Proofs.Ytkdenmdijdmnjaa.Am
set_option linter.unusedSimpArgs false
set_option linter.unusedVariables false
namespace Go.Proofs.Ytkdenmdijdmnjaa.Am
open Go Go.RowKit
theorem sput_length (s:Slots) (d:Option Nat) (v:Option Value):(sput s d v).length=s.length:=by
 cases d with
 | none=>rfl
 | some d=>exact sset_length s d v
theorem sget_sput (s:Slots) (d:Option Nat) (v:Option Value) (t:Nat):sget (sput s d v) t=if d=some t∧t<s.length then v else sget s t:=by
 cases d with
 | none=>simp [sput]
 | some d=>
  simp only [sput]
  by_cases e:d=t
  ·subst e
   by_cases hl:d<s.length
   ·rw [if_pos ⟨rfl,hl⟩,sget_sset_self _ _ _ hl]
   ·rw [if_neg (fun h=>hl h.2)]
    have:∀ (s:Slots) (d:Nat) (v:Option Value),¬d<s.length→sset s d v=s:=by
     intro s
     induction s with
     | nil=>intro d v _;rfl
     | cons x r ih=>
      intro d v h
      cases d with
      | zero=>simp at h
      | succ d=>simp only [sset];rw [ih d v (fun q=>h (by simp;omega))]
    rw [this s d v hl]
  ·rw [if_neg (fun h=>e (by injection h.1)),sget_sset_ne _ _ _ _ e]
theorem SR.congr {P:Program} {base:Nat} {φ:Nat→Nat×Nat} {n:Nat} {w:World} {s s':Slots} {a:Act} (h:SR P base φ n w s a) (hl:s'.length=s.length) (hg:∀ t,sget s' t=sget s t):SR P base φ n w s' a:=
 ⟨hl.trans h.len,fun t v ht=>h.get t v (by rw [← hg];exact ht),h.defers⟩
section
variable {R:Type} {E:Env} {w0:World} {Q:Exit→Act→World→Prop} {r:R} {rec:Rec} {ops:Array Oper} {T:Nat→St} {V:Nat→Option Value}
def isEff (o:Op):Prop:=cl o = .fresh∨cl o = .heavy
def eff (ops:Array Oper) (V:Nat→Option Value) (j:Nat):Prop:=∃ o,ops[j]? = some o∧isEff o.op∧(V j).isSome=true
def dstOf (ops:Array Oper) (j:Nat):Option Nat:=(ops[j]?).bind (·.dst)
def outOf (V:Nat→Option Value) (j:Nat):Value:=(V j).getD undef
def effB (ops:Array Oper) (V:Nat→Option Value) (j:Nat):Bool:=match ops[j]? with
 | some o=>isFH o.op&&(V j).isSome
 | none=>false
theorem isFH_iff {o:Op}:isFH o=true↔isEff o:=by
 unfold isFH isEff
 cases cl o<;>simp
theorem effB_iff {j:Nat}:effB ops V j=true↔eff ops V j:=by
 unfold effB eff
 cases h:ops[j]? with
 | none=>simp
 | some o=>simp [isFH_iff]
def wv (ops:Array Oper) (V:Nat→Option Value) (m k:Nat):Option Value:=if m≤k∧effB ops V k=true then none else some (outOf V k)
def sD (ops:Array Oper) (V:Nat→Option Value) (m:Nat) (s0:Slots) (L:Array Bool):Nat→Slots
 | 0=>s0
 | k+1=>if L.getD k false=true then sput (sD ops V m s0 L k) (dstOf ops k) (wv ops V m k) else sD ops V m s0 L k
theorem sD_succ (m:Nat) (s0:Slots) (L:Array Bool) (k:Nat):sD ops V m s0 L (k+1)=if L.getD k false=true then sput (sD ops V m s0 L k) (dstOf ops k) (wv ops V m k) else sD ops V m s0 L k:=rfl
theorem sD_length (m:Nat) (s0:Slots) (L:Array Bool):∀ k,(sD ops V m s0 L k).length=s0.length
 | 0=>rfl
 | k+1=>by
  simp only [sD]
  split
  ·rw [sput_length];exact sD_length m s0 L k
  ·exact sD_length m s0 L k
structure Region (E:Env) (rec:Rec) (ops:Array Oper) (T:Nat→St) (V:Nat→Option Value):Prop where
 ok:regOk ops.toList (befs [] ops.toList) 0 ops.toList=true
 start:(T 0).hi = []∧(T 0).pe = []∧(T 0).an = []
 step:∀ k o,ops[k]? = some o→StepV E rec ops.toList (befs [] ops.toList) ((befs [] ops.toList).getD k 0) k o (T k) (T (k+1)) (V k)
abbrev bfo (ops:Array Oper) (j:Nat):Nat:=(befs [] ops.toList).getD j 0
theorem Region.edge (G:Region E rec ops T V) {j:Nat} {o:Oper} (ho:ops[j]? = some o):∀ e∈o.after.toList,bindsAny e=true→e.on<j:=by
 have:=(regOk_spec ops.toList 0 G.ok j o (by simpa using ho)).1
 rw [Nat.zero_add] at this
 exact edgesOk_spec this
theorem Region.pairs (G:Region E rec ops T V) {i j:Nat} {oi oj:Oper} (hij:i<j) (hi:ops[i]? = some oi) (hj:ops[j]? = some oj):pairOk ops.toList (bfo ops j) i oi oj=true:=by
 have:=(regOk_spec ops.toList 0 G.ok j oj (by simpa using hj)).2
 rw [Nat.zero_add] at this
 have h2:=pairsOk_spec _ 0 this i oi (by rw [List.getElem?_take_of_lt hij];simpa using hi)
 rw [Nat.zero_add] at h2
 exact h2
theorem Region.fills (G:Region E rec ops T V) {i j:Nat} {oi oj:Oper} (hij:i<j) (hi:ops[i]? = some oi) (hj:ops[j]? = some oj) :
  (∀ t,oi.dst=some t→t∈tmpsOf ops.toList oj→(bfo ops j).testBit i=true)∧(∀ t,oj.dst=some t→t∈tmpsOf ops.toList oi→(bfo ops j).testBit i=true):=by
 have h:=G.pairs hij hi hj
 unfold pairOk at h
 simp only [Bool.or_eq_true,Bool.and_eq_true] at h
 constructor
 ·intro t ht hm
  rcases h with h|⟨h,_⟩
  ·exact h
  ·rw [ht] at h
   simp only at h
   rw [memN_of hm] at h
   cases h
 ·intro t ht hm
  rcases h with h|⟨_,h⟩
  ·exact h
  ·rw [ht] at h
   simp only at h
   rw [memN_of hm] at h
   cases h
theorem Region.slots (G:Region E rec ops T V) {k:Nat} (hk:k<ops.size):(T (k+1)).s=sput (T k).s (dstOf ops k) (some (outOf V k)):=by
 have ho:ops[k]? = some ops[k]:=Array.getElem?_eq_getElem hk
 have hd:dstOf ops k=ops[k].dst:=by simp [dstOf,ho]
 rw [hd]
 have:=G.step k _ ho
 generalize hv:V k=v at this
 cases this<;>(rename_i e;rw [e];simp [outOf,hv])
theorem Region.heap (G:Region E rec ops T V) {k:Nat} (hk:k<ops.size) (hne:¬eff ops V k):(T (k+1)).h=(T k).h:=by
 have ho:ops[k]? = some ops[k]:=Array.getElem?_eq_getElem hk
 have:=G.step k _ ho
 have hne':∀ v,V k=some v→¬isEff ops[k].op:=fun v hv he=>hne ⟨_,ho,he,by rw [hv];rfl⟩
 generalize hv:V k=v at this
 cases this with
 | skip g e=>rw [e]
 | pure v g hk x e=>exact (pure_heap hk x).1
 | fresh v g hk x ol g1 e=>exact absurd (.inl hk) (hne' v hv)
 | read v a n g hk x ra g1 g2 e=>exact (read_heap hk ra x).1
 | heavy v g hk x o1 o2 g1 e=>exact absurd (.inr hk) (hne' v hv)
theorem Region.lists (G:Region E rec ops T V) {k:Nat} (hk:k<ops.size):(∀ x,x∈(T k).hi→x∈(T (k+1)).hi)∧(∀ x,x∈(T k).pe→x∈(T (k+1)).pe)∧(∀ x,x∈(T k).an→x∈(T (k+1)).an):=by
 have ho:ops[k]? = some ops[k]:=Array.getElem?_eq_getElem hk
 have:=G.step k _ ho
 generalize hv:V k=v at this
 cases this<;>(rename_i e;rw [e];refine ⟨fun x hx=>?_,fun x hx=>?_,fun x hx=>?_⟩<;>first|exact hx|exact List.mem_cons_of_mem _ hx)
theorem Region.lists_le (G:Region E rec ops T V) {i j:Nat} (hij:i≤j) (hj:j≤ops.size):(∀ x,x∈(T i).hi→x∈(T j).hi)∧(∀ x,x∈(T i).pe→x∈(T j).pe)∧(∀ x,x∈(T i).an→x∈(T j).an):=by
 induction hij with
 | refl=>exact ⟨fun _ h=>h,fun _ h=>h,fun _ h=>h⟩
 | @step q hle ih=>
  obtain ⟨a,b,c⟩:=ih (by omega)
  obtain ⟨a',b',c'⟩:=G.lists (k:=q) (by omega)
  exact ⟨fun x h=>a' x (a x h),fun x h=>b' x (b x h),fun x h=>c' x (c x h)⟩
theorem Region.behind (G:Region E rec ops T V) {i j:Nat} (hij:i<j) (hjs:j≤ops.size) (hb:allBef (bfo ops j) (T j).hi=true∧allBef (bfo ops j) (T j).an=true) (hi:eff ops V i):(bfo ops j).testBit i=true:=by
 obtain ⟨oi,hoi,hei,hvi⟩:=hi
 have hm:(∃ x,(i,x)∈(T (i+1)).hi)∨(∃ x,(i,x)∈(T (i+1)).an):=by
  have:=G.step i _ hoi
  generalize hv:V i=v at this
  cases this with
  | skip g e=>rw [hv] at hvi;cases hvi
  | pure v g hk x e=>rcases hei with h|h<;>rw [hk] at h<;>cases h
  | fresh v g hk x ol g1 e=>rw [e];exact .inr ⟨_,List.mem_cons_self ..⟩
  | read v a n g hk x ra g1 g2 e=>rcases hei with h|h<;>rw [hk] at h<;>cases h
  | heavy v g hk x o1 o2 g1 e=>rw [e];exact .inl ⟨_,List.mem_cons_self ..⟩
 obtain ⟨l1,l2,l3⟩:=G.lists_le (i:=i+1) (j:=j) (by omega) hjs
 rcases hm with ⟨x,hm⟩|⟨x,hm⟩
 ·exact allBef_mem hb.1 i x (l1 _ hm)
 ·exact allBef_mem hb.2 i x (l3 _ hm)
def lzB (ops:Array Oper) (k:Nat):Prop:=∃ o,ops[k]? = some o∧lzOk ops.toList (befs [] ops.toList) k o.op=true
theorem lzAll_spec {bi:Nat}:∀ (l:List Oper) (k:Nat),lzAll bi k l=true→∀ (i:Nat) (o:Oper),l[i]? = some o→isFH o.op=true→bi.testBit (k+i)=true
 | [],k,h,i,o,ho,_=>by simp at ho
 | x :: r,k,h,i,o,ho,hf=>by
  simp only [lzAll,Bool.and_eq_true,Bool.or_eq_true,Bool.not_eq_true'] at h
  cases i with
  | zero=>
   simp at ho
   subst ho
   rcases h.1 with h1|h1
   ·rw [hf] at h1;cases h1
   ·exact h1
  | succ i=>
   simp only [List.getElem?_cons_succ] at ho
   have:=lzAll_spec r (k+1) h.2 i o ho hf
   rw [show k+(i+1)=k+1+i from by omega]
   exact this
theorem lzRest_spec {opl:List Oper} {bf:List Nat} {j:Nat}:∀ (l:List Oper) (i:Nat),lzRest opl bf j i l=true→∀ q,q<l.length→(bf.getD (i+q) 0).testBit j=true→lzAll (bf.getD (i+q) 0) 0 (opl.take j)=true
 | [],_,_,q,hq,_=>by simp at hq
 | x :: r,i,h,q,hq,hb=>by
  simp only [lzRest,Bool.and_eq_true,Bool.or_eq_true,Bool.not_eq_true'] at h
  cases q with
  | zero=>
   rcases h.1 with h1|h1
   ·rw [Nat.add_zero] at hb;rw [hb] at h1;cases h1
   ·exact h1
  | succ q=>
   have:=lzRest_spec r (i+1) h.2 q (by simp at hq;omega) (by rw [show i+1+q=i+(q+1) from by omega];exact hb)
   rw [show i+(q+1)=i+1+q from by omega]
   exact this
theorem lzB_spec {k i j:Nat} (hl:lzB ops k) (hi:i<ops.size) (hb:(bfo ops i).testBit k=true) (hjk:j<k) (hj:eff ops V j):(bfo ops i).testBit j=true:=by
 obtain ⟨o,ho,hz⟩:=hl
 unfold lzOk at hz
 simp only [Bool.and_eq_true] at hz
 have h1:=lzRest_spec ops.toList 0 hz.2 i (by simpa using hi) (by rw [Nat.zero_add];exact hb)
 rw [Nat.zero_add] at h1
 obtain ⟨oj,hoj,hej,_⟩:=hj
 have:=lzAll_spec _ 0 h1 j oj (by rw [List.getElem?_take_of_lt hjk];simpa using hoj) (isFH_iff.2 hej)
 rw [Nat.zero_add] at this
 exact this
theorem Region.calm (G:Region E rec ops T V) {i j:Nat} (hij:i≤j) (hj:j≤ops.size) (hne:∀ k,i≤k→k<j→¬eff ops V k):(T j).h=(T i).h:=by
 induction hij with
 | refl=>rfl
 | step hle ih=>
  rw [G.heap (by omega) (hne _ hle (by omega)),ih (by omega) fun k h1 h2=>hne k h1 (by omega)]
theorem hget_push_ne {h:AH} {x:Option Blk} {b:Nat} (hb:b≠h.length):hget (h++[x]) b=hget h b:=by
 rcases Nat.lt_or_gt_of_ne hb with h1|h1
 ·exact hget_append_lt h1
 ·rw [hget_append_ge h1]
  unfold hget
  rw [List.getElem?_eq_none (by omega)];rfl
theorem same_push {h:AH} {x:Option Blk} {b o n:Nat} (hb:b≠h.length):same h (h++[x]) b o n:=
 ⟨fun j _=>by simp only [cell,hget_push_ne hb],by rw [hget_push_ne hb]⟩
theorem Region.reads (G:Region E rec ops T V) {j:Nat} {oj:Oper} (hoj:ops[j]? = some oj) {v:Value} (hv:V j=some v) (hk:cl oj.op = .read) :
  ∃ ra,readAt E (T j).s oj.op=some ra∧exOp E rec oj.op (T j).s (T j).h pair=some (v,(T (j+1)).h)∧∀ m,m≤ops.size→(∀ k,m≤k→k<j→eff ops V k→(bfo ops j).testBit k=false)→(∀ k,j<k→k<m→eff ops V k→(bfo ops k).testBit j=false) →
   sameA (T j).h (T m).h ra.1 ra.2:=by
 have hjs:j<ops.size:=(Array.getElem?_eq_some_iff.1 hoj).1
 have hst:=G.step j _ hoj
 rw [hv] at hst
 cases hst with
 | pure v g hk' x e=>rw [hk] at hk';cases hk'
 | fresh v g hk' x ol g1 e=>rw [hk] at hk';cases hk'
 | heavy v g hk' x o1 o2 g1 e=>rw [hk] at hk';cases hk'
 | read v a n g hk' x ra g1 g2 e=>
  refine ⟨_,ra,x,fun m hm h1 h2 ad had=>?_⟩
  simp only at had ⊢
  subst had
  have hjj:(T (j+1)).h=(T j).h:=(read_heap hk' ra x).1
  by_cases hmj:m≤j
  ·-- before
   have key:∀ d m,m+d=j→(∀ k,m≤k→k<j→eff ops V k→(bfo ops j).testBit k=false)→same (T m).h (T j).h ad.block ad.off n:=by
    intro d
    induction d with
    | zero=>intro m hm _;rw [show m=j from by omega];exact same_refl ..
    | succ d ih=>
     intro m hm hb
     have hms:m<ops.size:=by omega
     have hom:ops[m]? = some ops[m]:=Array.getElem?_eq_getElem hms
     by_cases he:eff ops V m
     ·have hbit:=hb m (Nat.le_refl _) (by omega) he
      obtain ⟨o',ho',hef,hvm⟩:=he
      have hstm:=G.step m _ ho'
      obtain ⟨l1,l2,l3⟩:=G.lists_le (i:=m+1) (j:=j) (by omega) (by omega)
      generalize hvv:V m=vv at hstm
      cases hstm with
      | skip g e=>rw [hvv] at hvm;cases hvm
      | pure v g hk x e=>rcases hef with h|h<;>rw [hk] at h<;>cases h
      | read v a n g hk x ra g1 g2 e=>rcases hef with h|h<;>rw [hk] at h<;>cases h
      | heavy v g hk x o1 o2 g1' e=>exact g2 m _ (l1 _ (by rw [e];exact List.mem_cons_self ..)) hbit ad rfl
      | fresh v g hk x ol g1' e=>
       have hne:=g1 m _ (l3 _ (by rw [e];exact List.mem_cons_self ..)) hbit ad rfl
       obtain ⟨kk,hkk⟩:=fresh_heap hk x
       refine same_trans (b:=(T (m+1)).h) ?_ (ih (m+1) (by omega) fun k h1 h2=>hb k (by omega) h2)
       rw [hkk]
       exact same_push hne
     ·rw [← G.heap hms he]
      exact ih (m+1) (by omega) fun k h1 h2=>hb k (by omega) h2
   exact same_symm (key (j-m) m (by omega) h1)
  ·-- after
   have key:∀ d m,m=j+1+d→m≤ops.size→(∀ k,j<k→k<m→eff ops V k→(bfo ops k).testBit j=false)→same (T j).h (T m).h ad.block ad.off n:=by
    intro d
    induction d with
    | zero=>intro m hm _ _;rw [hm,Nat.add_zero,hjj];exact same_refl ..
    | succ d ih=>
     intro m hm hms hb
     have hlt:j+1+d<ops.size:=by omega
     have ihd:=ih (j+1+d) rfl (by omega) fun k h1 h2=>hb k h1 (by omega)
     rw [show m=j+1+d+1 from by omega]
     by_cases he:eff ops V (j+1+d)
     ·have hbit:=hb (j+1+d) (by omega) (by omega) he
      obtain ⟨o',ho',hef,hvm⟩:=he
      have hstm:=G.step _ _ ho'
      obtain ⟨l1,l2,l3⟩:=G.lists_le (i:=j+1) (j:=j+1+d) (by omega) (by omega)
      have hmem:(j,some ad,n)∈(T (j+1+d)).pe:=l2 _ (by rw [e];exact List.mem_cons_self ..)
      refine same_trans ihd ?_
      generalize hvv:V (j+1+d)=vv at hstm
      cases hstm with
      | skip g e=>rw [hvv] at hvm;cases hvm
      | pure v g hk x e=>rcases hef with h|h<;>rw [hk] at h<;>cases h
      | read v a n g hk x ra g1 g2 e=>rcases hef with h|h<;>rw [hk] at h<;>cases h
      | heavy v g hk x o1 o2 g1' e=>exact g1' _ _ _ hmem hbit ad rfl
      | fresh v g hk x ol g1' e=>
       have hne:=g1' _ _ _ hmem hbit ad rfl
       obtain ⟨kk,hkk⟩:=fresh_heap hk x
       rw [hkk]
       exact same_push hne
     ·rw [G.heap hlt he]
      exact ihd
   exact key (m-(j+1)) m (by omega) hm h2
def Closed (ops:Array Oper) (L:Array Bool):Prop:=∀ i o,ops[i]? = some o→L.getD i false=true→∀ e∈o.after.toList,bindsAny e=true→L.getD e.on false=true
theorem closed_bits {L:Array Bool} (hC:Closed ops L):∀ (j:Nat) (o:Oper),ops[j]? = some o→(∀ e∈o.after.toList,bindsAny e=true→L.getD e.on false=true)→∀ x,(bfo ops j).testBit x=true→L.getD x false=true:=by
 intro j
 induction j using Nat.strongRecOn with
 | _ j ih=>
  intro o ho he x hx
  obtain ⟨e,h1,h2,h3⟩:=bf_bit (l:=ops.toList) (by simpa using ho) hx
  rcases h3 with rfl|⟨hlt,h3⟩
  ·exact he e h1 h2
  ·cases hoe:ops[e.on]? with
   | none=>
    have:(bfo ops e.on)=0:=by
     unfold bfo
     rw [List.getD_eq_getElem?_getD]
     have hlen:∀ (l:List Oper) (acc:List Nat),(befs acc l).length=acc.length+l.length:=by
      intro l
      induction l with
      | nil=>intro acc;simp [befs]
      | cons o l ih=>intro acc;simp only [befs];rw [ih];simp;omega
     have hge:ops.size≤e.on:=by
      rcases Nat.lt_or_ge e.on ops.size with h|h
      ·rw [Array.getElem?_eq_getElem h] at hoe;cases hoe
      ·exact h
     rw [List.getElem?_eq_none (by rw [hlen];simpa using hge)]
     rfl
    rw [show (befs [] ops.toList).getD e.on 0=0 from this] at h3
    simp at h3
   | some oe=>exact ih e.on hlt oe hoe (hC e.on oe hoe (he e h1 h2)) x h3
theorem sD_agree (G:Region E rec ops T V) {L:Array Bool} (hC:Closed ops L) {j:Nat} {o:Oper} (ho:ops[j]? = some o) (hj:L.getD j false=false) (hb:∀ x,(bfo ops j).testBit x=true→L.getD x false=true) {m:Nat} (hsu:∀ k,m≤k→eff ops V k→L.getD k false=true→(bfo ops j).testBit k=false) {t:Nat} (ht:t∈tmpsOf ops.toList o) :
  sget (sD ops V m (T 0).s L ops.size) t=sget (T j).s t:=by
 have hjs:j<ops.size:=(Array.getElem?_eq_some_iff.1 ho).1
 have len:∀ k,k≤ops.size→(T k).s.length=(T 0).s.length:=by
  intro k
  induction k with
  | zero=>intro _;rfl
  | succ k ih=>intro hk;rw [G.slots (by omega),sput_length];exact ih (by omega)
 have h1:∀ k,k≤j→sget (sD ops V m (T 0).s L k) t=sget (T k).s t:=by
  intro k
  induction k with
  | zero=>intro _;rfl
  | succ k ih=>
   intro hk
   have hks:k<ops.size:=by omega
   have hok:ops[k]? = some ops[k]:=Array.getElem?_eq_getElem hks
   have hd:dstOf ops k=ops[k].dst:=by simp [dstOf,hok]
   rw [G.slots hks,sget_sput]
   by_cases hw:dstOf ops k=some t
   ·have hbit:=(G.fills (by omega) hok ho).1 t (by rw [← hd];exact hw) ht
    have:=hb k hbit
    have hwv:wv ops V m k=some (outOf V k):=by
     unfold wv
     rw [if_neg]
     rintro ⟨h1,h2⟩
     have:=hsu k h1 (effB_iff.1 h2) this
     rw [hbit] at this;cases this
    simp only [sD]
    rw [if_pos this,sget_sput,sD_length,len k (by omega),ih (by omega),hwv]
   ·rw [if_neg (fun h=>hw h.1)]
    simp only [sD]
    split
    ·rw [sget_sput,if_neg (fun h=>hw h.1)];exact ih (by omega)
    ·exact ih (by omega)
 have h2:∀ d,j+d≤ops.size→sget (sD ops V m (T 0).s L (j+d)) t=sget (T j).s t:=by
  intro d
  induction d with
  | zero=>intro _;exact h1 j (Nat.le_refl _)
  | succ d ih=>
   intro hk
   have hks:j+d<ops.size:=by omega
   have hok:ops[j+d]? = some ops[j+d]:=Array.getElem?_eq_getElem hks
   have hd:dstOf ops (j+d)=ops[j+d].dst:=by simp [dstOf,hok]
   rw [show j+(d+1)=j+d+1 from rfl,sD_succ]
   split
   ·rename_i hl
    rw [sget_sput,if_neg]
    ·exact ih (by omega)
    ·rintro ⟨hw,_⟩
     rcases Nat.eq_zero_or_pos d with rfl|hd0
     ·rw [Nat.add_zero,hj] at hl;cases hl
     ·have hbit:=(G.fills (i:=j) (j:=j+d) (by omega) ho hok).2 t (by rw [← hd];exact hw) ht
      have:=closed_bits hC (j+d) _ hok (hC (j+d) _ hok hl) j hbit
      rw [hj] at this;cases this
   ·exact ih (by omega)
 have:=h2 (ops.size-j) (by omega)
 rw [show j+(ops.size-j)=ops.size from by omega] at this
 exact this
theorem getD_set_self {L:Array Bool} {j:Nat} (h:j<L.size):(L.setIfInBounds j true).getD j false=true:=by
 simp [h]
theorem getD_set_ne' {L:Array Bool} {i j:Nat} (h:i≠j):(L.setIfInBounds i true).getD j false=L.getD j false:=by
 simp [Array.getElem?_setIfInBounds_ne h]
theorem sD_set (G:Region E rec ops T V) {L:Array Bool} (hL:L.size=ops.size) (hC:Closed ops L) {j:Nat} {o:Oper} (ho:ops[j]? = some o) (hj:L.getD j false=false) (m t:Nat) :
  sget (sD ops V m (T 0).s (L.setIfInBounds j true) ops.size) t=sget (sput (sD ops V m (T 0).s L ops.size) o.dst (wv ops V m j)) t:=by
 have hjs:j<ops.size:=(Array.getElem?_eq_some_iff.1 ho).1
 have hdj:dstOf ops j=o.dst:=by simp [dstOf,ho]
 have h1:∀ k,k≤j→sD ops V m (T 0).s (L.setIfInBounds j true) k=sD ops V m (T 0).s L k:=by
  intro k
  induction k with
  | zero=>intro _;rfl
  | succ k ih=>
   intro hk
   simp only [sD]
   rw [getD_set_ne' (by omega),ih (by omega)]
 have h2:∀ d,j+1+d≤ops.size→∀ t,sget (sD ops V m (T 0).s (L.setIfInBounds j true) (j+1+d)) t=sget (sput (sD ops V m (T 0).s L (j+1+d)) o.dst (wv ops V m j)) t:=by
  intro d
  induction d with
  | zero=>
   intro _ t
   simp only [Nat.add_zero,sD]
   rw [if_pos (getD_set_self (by omega)),h1 j (Nat.le_refl _),hj,if_neg (by decide),hdj]
  | succ d ih=>
   intro hk t
   have hks:j+1+d<ops.size:=by omega
   have hok:ops[j+1+d]? = some ops[j+1+d]:=Array.getElem?_eq_getElem hks
   have hd:dstOf ops (j+1+d)=ops[j+1+d].dst:=by simp [dstOf,hok]
   rw [show j+1+(d+1)=j+1+d+1 from rfl,sD_succ,sD_succ,getD_set_ne' (by omega)]
   split
   ·rename_i hl
    rw [sget_sput,sget_sput,sget_sput,sD_length,sput_length,sD_length,ih (by omega) t,sget_sput,sD_length]
    by_cases hw:dstOf ops (j+1+d)=some t
    ·have hne:o.dst≠some t:=by
      intro he
      have hm:t∈tmpsOf ops.toList o:=by simp [tmpsOf,he]
      have hbit:=(G.fills (i:=j) (j:=j+1+d) (by omega) ho hok).2 t (by rw [← hd];exact hw) hm
      have:=closed_bits hC (j+1+d) _ hok (hC (j+1+d) _ hok hl) j hbit
      rw [hj] at this;cases this
     have e1:¬(o.dst=some t∧t<(T 0).s.length):=fun h=>hne h.1
     simp only [e1,if_false]
    ·have e2:¬(dstOf ops (j+1+d)=some t∧t<(T 0).s.length):=fun h=>hw h.1
     simp only [e2,if_false]
   ·exact ih (by omega) t
 have:=h2 (ops.size-(j+1)) (by omega) t
 rw [show j+1+(ops.size-(j+1))=ops.size from by omega] at this
 exact this
theorem sD_front {L:Array Bool} {m m':Nat} (hmm:m≤m') (hno:∀ k,m≤k→k<m'→eff ops V k→L.getD k false=false) (s0:Slots):∀ k,sD ops V m s0 L k=sD ops V m' s0 L k
 | 0=>rfl
 | k+1=>by
  rw [sD_succ,sD_succ,sD_front hmm hno s0 k]
  by_cases hl:L.getD k false=true
  ·rw [if_pos hl,if_pos hl]
   have:wv ops V m k=wv ops V m' k:=by
    unfold wv
    by_cases h1:m'≤k∧effB ops V k=true
    ·rw [if_pos h1,if_pos ⟨by omega,h1.2⟩]
    ·rw [if_neg h1,if_neg]
     rintro ⟨h2,h3⟩
     have:=hno k h2 (by
      rcases Nat.lt_or_ge k m' with h|h
      ·exact h
      ·exact absurd ⟨h,h3⟩ h1) (effB_iff.1 h3)
     rw [hl] at this;cases this
   rw [this]
  ·rw [if_neg hl,if_neg hl]
theorem sD_commit {L:Array Bool} {m:Nat} (s0:Slots) (t:Nat):∀ k,sget (sD ops V (m+1) s0 L k) t=sget (sD ops V m s0 L k) t∨(dstOf ops m=some t∧sget (sD ops V (m+1) s0 L k) t=some (outOf V m))
 | 0=>.inl rfl
 | k+1=>by
  rw [sD_succ,sD_succ]
  by_cases hl:L.getD k false=true
  ·rw [if_pos hl,if_pos hl,sget_sput,sget_sput,sD_length,sD_length]
   by_cases e:k=m
   ·subst e
    have hw:wv ops V (k+1) k=some (outOf V k):=by unfold wv;rw [if_neg (fun h=>by omega)]
    by_cases hd:dstOf ops k=some t∧t<s0.length
    ·rw [if_pos hd,if_pos hd,hw];exact .inr ⟨hd.1,rfl⟩
    ·rw [if_neg hd,if_neg hd];exact sD_commit s0 t k
   ·have hw:wv ops V (m+1) k=wv ops V m k:=by
     unfold wv
     by_cases h1:m+1≤k∧effB ops V k=true
     ·rw [if_pos h1,if_pos ⟨by omega,h1.2⟩]
     ·rw [if_neg h1,if_neg (fun h=>h1 ⟨by omega,h.2⟩)]
    by_cases hd:dstOf ops k=some t∧t<s0.length
    ·rw [if_pos hd,if_pos hd,hw];exact .inl rfl
    ·rw [if_neg hd,if_neg hd];exact sD_commit s0 t k
  ·rw [if_neg hl,if_neg hl];exact sD_commit s0 t k
end
end Go.Proofs.Ytkdenmdijdmnjaa.Am
set_option linter.unusedSimpArgs false
set_option linter.unusedVariables false
namespace Go.Proofs.Ytkdenmdijdmnjaa.Am
open Go Go.RowKit
section
variable {R:Type} {E:Env} {w0:World} {Q:Exit→Act→World→Prop} {r:R} {rec:Rec} {ops:Array Oper} {T:Nat→St} {V:Nat→Option Value} {c:Slots→AH→Option R}
 {φ0:Nat→Nat×Nat} {wS:World}
def Susp (E:Env) (ops:Array Oper) (T:Nat→St) (V:Nat→Option Value) (wS:World) (m:Nat) (φ:Nat→Nat×Nat) (a:Act) (w:World) (B k:Nat):Prop:=
 ∃ (blk:Blk) (us:Array Value) (u:Value),blk.m=none∧(T (k+1)).h=(T k).h++[some blk]∧w.heap[B]? = some (.cells us blk.ty (0,0)) ∧
  (∀ (i:Nat) (x:Value),blk.cs[i]? = some x→∃ y,us[i]? = some y∧CR E.P E.base φ (T m).h.length w x y)∧wS.heap.size≤B∧E.base≤B∧(∀ i l,hget (T m).h i=some l→(φ i).1≠B) ∧
  (∀ d,dstOf ops k=some d→d<a.tmps.size→a.tmps.getD d undef=u) ∧
  (∀ (φ':Nat→Nat×Nat) (n':Nat) (w':World),φ' (T k).h.length=(B,0)→(T k).h.length<n'→ShapeLe w w'→VR E.P E.base φ' n' w' (outOf V k) u)
structure Stands (E:Env) (w0:World) (ops:Array Oper) (T:Nat→St) (V:Nat→Option Value) (φ0:Nat→Nat×Nat) (wS:World) (L:Array Bool) (m:Nat) (φ:Nat→Nat×Nat) (a:Act) (w:World) (Bf:Nat→Nat):Prop where
 size:L.size=ops.size
 closed:Closed ops L
 m_le:m≤ops.size
 front:∀ k,eff ops V k→k<m→L.getD k false=true
 early:∀ k,eff ops V k→m≤k→L.getD k false=true→lzB ops k∧Susp E ops T V wS m φ a w (Bf k) k
 apart:∀ k l,eff ops V k→eff ops V l→m≤k→m≤l→L.getD k false=true→L.getD l false=true→k≠l→Bf k≠Bf l
 ext:Ext φ0 (T 0).h wS φ (T m).h w
 heap:HR E.P E.base w0 φ (T m).h w
 slots:SR E.P E.base φ (T m).h.length w (sD ops V m (T 0).s L ops.size) a
theorem Susp.step {m m':Nat} {φ φ':Nat→Nat×Nat} {a:Act} {w w':World} {B k:Nat} (x:Susp E ops T V wS m φ a w B k) (e:Ext φ (T m).h w φ' (T m').h w') {dst:Option Tmp} {u:Value} (hd:∀ d,dstOf ops k=some d→dst≠some d):Susp E ops T V wS m' φ' (a.put dst u) w' B k:=by
 obtain ⟨blk,us,u0,h0,h1,h2,h3,h4,h5,h6,h7,h8⟩:=x
 have hlt:B<w.heap.size:=(Array.getElem?_eq_some_iff.1 h2).1
 refine ⟨blk,us,u0,h0,h1,?_,fun i x hx=>?_,h4,h5,fun i l hi he=>?_,fun d hdk hdl=>?_,fun φ2 n2 w2 e1 e2 e3=>h8 φ2 n2 w2 e1 e2 (e.shape.trans e3)⟩
 ·rw [e.frame B hlt h6];exact h2
 ·obtain ⟨y,hy,hc⟩:=h3 i x hx
  exact ⟨y,hy,hc.mono e.old e.len e.shape⟩
 ·obtain ⟨j,l',hj,he'⟩:=e.live i l hi (by rw [he];exact hlt)
  exact h6 j l' hj (he'.trans he)
 ·have hsz:(a.put dst u).tmps.size=a.tmps.size:=by cases dst<;>simp [Act.put]
  rw [hsz] at hdl
  rw [← h7 d hdk hdl]
  cases dst with
  | none=>rfl
  | some t=>
   have hne:t≠d:=fun hh=>hd d hdk (by rw [hh])
   simp [Act.put,Array.getElem?_setIfInBounds_ne hne]
theorem SR.putN {P:Program} {base:Nat} {φ:Nat→Nat×Nat} {n:Nat} {w:World} {s:Slots} {a:Act} (h:SR P base φ n w s a) (d:Option Nat) {u:Value}:SR P base φ n w (sput s d none) (a.put d u):=by
 cases d with
 | none=>exact h
 | some d=>
  refine ⟨by simp [sput,Act.put,sset_length,h.len],fun t x ht=>?_,h.defers⟩
  simp only [sput] at ht
  by_cases e:d=t
  ·subst e
   have hd:=sget_lt _ _ _ ht
   rw [sset_length] at hd
   rw [sget_sset_self _ _ _ hd] at ht
   cases ht
  ·rw [sget_sset_ne _ _ _ _ e] at ht
   have:=h.get t x ht
   simpa [Act.put,Array.getElem?_setIfInBounds_ne e] using this
theorem Stands.commit {L:Array Bool} {m:Nat} {φ:Nat→Nat×Nat} {a:Act} {w:World} {Bf:Nat→Nat} (H:Stands E w0 ops T V φ0 wS L m φ a w Bf) (he:eff ops V m) (hl:L.getD m false=true):∃ φ',Stands E w0 ops T V φ0 wS L (m+1) φ' a w Bf:=by
 have hms:m<ops.size:=by
  obtain ⟨o,ho,_⟩:=he
  exact (Array.getElem?_eq_some_iff.1 ho).1
 obtain ⟨hlz,blk,us,u,h0,h1,h2,h3,h4,h5,h6,h7,h8⟩:=H.early m he (Nat.le_refl _) hl
 have hlt:Bf m<w.heap.size:=(Array.getElem?_eq_some_iff.1 h2).1
 obtain ⟨φ',hold,hnew⟩:∃ φ':Nat→Nat×Nat,(∀ i,i<(T m).h.length→φ' i=φ i)∧φ' (T m).h.length=(Bf m,0):=⟨fun i=>if i=(T m).h.length then (Bf m,0) else φ i,fun i hi=>by simp only;rw [if_neg (by omega)],by simp⟩
 have hcase:∀ i l,hget ((T m).h++[some blk]) i=some l→(i<(T m).h.length∧hget (T m).h i=some l)∨i=(T m).h.length:=fun i l hi=>by
  rcases Nat.lt_trichotomy i (T m).h.length with hlt|heq|hgt
  ·exact .inl ⟨hlt,by rw [hget_append_lt hlt] at hi;exact hi⟩
  ·exact .inr heq
  ·rw [hget_append_ge hgt] at hi;cases hi
 refine ⟨φ',H.size,H.closed,hms,fun k hk hkm=>?_,fun k hk hkm hkl=>?_,fun k l hk hl' h1 h2=>H.apart k l hk hl' (by omega) (by omega),?_,?_,?_⟩
 ·rcases Nat.lt_or_ge k m with h|h
  ·exact H.front k hk h
  ·have:k=m:=by omega
   subst this;exact hl
 ·obtain ⟨z1,blk2,us2,u2,g0,g1,g2,g3,g4,g5,g6,g7,g8⟩:=H.early k hk (by omega) hkl
  refine ⟨z1,blk2,us2,u2,g0,g1,g2,fun i x hx=>?_,g4,g5,fun i l hi=>?_,g7,g8⟩
  ·obtain ⟨y,hy,hc⟩:=g3 i x hx
   exact ⟨y,hy,hc.mono hold (by rw [h1];simp) (ShapeLe.refl _)⟩
  ·rw [h1] at hi
   rcases hcase i l hi with ⟨q1,q2⟩|q1
   ·rw [hold i q1];exact g6 i l q2
   ·subst q1
    rw [hnew]
    exact H.apart m k he hk (Nat.le_refl _) (by omega) hl hkl (by omega)
 ·have e:=H.ext
  rw [h1]
  refine ⟨by have:=e.len;simp;omega,fun i hi=>by rw [hold i (Nat.lt_of_lt_of_le hi e.len)];exact e.old i hi,fun i l hi hlt'=>?_,e.frame,e.size,e.shape⟩
  rcases hcase i l hi with ⟨q1,q2⟩|q1
  ·rw [hold i q1] at hlt' ⊢
   exact e.live i l q2 hlt'
  ·subst q1
   rw [hnew] at hlt'
   simp only at hlt'
   omega
 ·rw [h1]
  exact H.heap.attach h0 h2 h3 h5 h6 hold hnew
 ·refine ⟨by rw [sD_length,← H.slots.len,sD_length],fun t v ht=>?_,H.slots.defers⟩
  rcases sD_commit (ops:=ops) (V:=V) (L:=L) (m:=m) (T 0).s t ops.size with e|⟨e1,e2⟩
  ·rw [e] at ht
   exact (H.slots.get t v ht).mono hold (by rw [h1];simp) (ShapeLe.refl _)
  ·rw [e2] at ht
   injection ht with ht
   subst ht
   rw [h7 t e1 (by
    have:=sget_lt _ _ _ e2
    rw [sD_length] at this
    rw [← H.slots.len,sD_length]
    exact this)]
   exact h8 φ' _ w hnew (by rw [h1];simp) (ShapeLe.refl _)
theorem Stands.tight (G:Region E rec ops T V) {L:Array Bool} {a:Act} {w:World} {Bf:Nat→Nat}:∀ (d m:Nat) (φ:Nat→Nat×Nat),m+d=ops.size→Stands E w0 ops T V φ0 wS L m φ a w Bf→∃ m' φ',Stands E w0 ops T V φ0 wS L m' φ' a w Bf∧(m'=ops.size∨(eff ops V m'∧L.getD m' false=false))
 | 0,m,φ,hd,H=>⟨m,φ,H,.inl (by omega)⟩
 | d+1,m,φ,hd,H=>by
  by_cases he:eff ops V m
  ·cases hl:L.getD m false with
   | true=>
    obtain ⟨φ',H'⟩:=H.commit he hl
    exact Stands.tight G d (m+1) φ' (by omega) H'
   | false=>exact ⟨m,φ,H,.inr ⟨he,hl⟩⟩
  ·have hh:=G.heap (k:=m) (by omega) he
   refine Stands.tight G d (m+1) φ (by omega) ⟨H.size,H.closed,by omega,fun k hk hkm=>?_,fun k hk hkm hkl=>?_,fun k l hk hl' h1 h2=>H.apart k l hk hl' (by omega) (by omega),by rw [hh];exact H.ext,by rw [hh];exact H.heap,?_⟩
   ·rcases Nat.lt_or_ge k m with h|h
    ·exact H.front k hk h
    ·have:k=m:=by omega
     subst this;exact absurd hk he
   ·obtain ⟨z1,x⟩:=H.early k hk (by omega) hkl
    refine ⟨z1,?_⟩
    unfold Susp at x ⊢
    rw [hh]
    exact x
   ·rw [hh,← sD_front (L:=L) (m:=m) (m':=m+1) (by omega) (fun k h1 h2 hk=>by
     have:k=m:=by omega
     subst this;exact absurd hk he)]
    exact H.slots
theorem closed_set {L:Array Bool} (hL:L.size=ops.size) (hC:Closed ops L) {j:Nat} {o:Oper} (ho:ops[j]? = some o) (he:∀ e∈o.after.toList,bindsAny e=true→L.getD e.on false=true):Closed ops (L.setIfInBounds j true):=by
 have hjs:j<ops.size:=(Array.getElem?_eq_some_iff.1 ho).1
 have keep:∀ x,L.getD x false=true→(L.setIfInBounds j true).getD x false=true:=by
  intro x hx
  by_cases e:j=x
  ·subst e;exact getD_set_self (by omega)
  ·rw [getD_set_ne' e];exact hx
 intro i o' ho' hi e hm hb
 by_cases e':j=i
 ·subst e'
  rw [ho] at ho'
  injection ho' with ho'
  subst ho'
  exact keep _ (he e hm hb)
 ·rw [getD_set_ne' e'] at hi
  exact keep _ (hC i o' ho' hi e hm hb)
theorem done_all (G:Region E rec ops T V) {L:Array Bool} {m:Nat} {φ:Nat→Nat×Nat} {a:Act} {w:World} {Bf:Nat→Nat} (H:Stands E w0 ops T V φ0 wS L m φ a w Bf) (hr:∀ j,j<ops.size→L.getD j false=true)
  (hQ:∀ φ' a' w',Ext φ0 (T 0).h wS φ' (T ops.size).h w'→HR E.P E.base w0 φ' (T ops.size).h w'→SR E.P E.base φ' (T ops.size).h.length w' (T ops.size).s a'→Q .normal a' w'):Q .normal a w:=by
 obtain ⟨m',φ',H',hm⟩:=Stands.tight G (ops.size-m) m φ (by have:=H.m_le;omega) H
 have hm:m'=ops.size:=by
  rcases hm with hm|⟨h1,h2⟩
  ·exact hm
  ·obtain ⟨o,ho,_⟩:=h1
   rw [hr m' (Array.getElem?_eq_some_iff.1 ho).1] at h2;cases h2
 subst hm
 have hs:∀ k,k≤ops.size→sD ops V ops.size (T 0).s L k=(T k).s:=by
  intro k
  induction k with
  | zero=>intro _;rfl
  | succ k ih=>
   intro hk
   have hw:wv ops V ops.size k=some (outOf V k):=by unfold wv;rw [if_neg (fun h=>by omega)]
   rw [sD_succ,if_pos (hr k (by omega)),ih (by omega),G.slots (by omega),hw]
 have h3:=H'.slots
 rw [hs _ (Nat.le_refl _)] at h3
 exact hQ φ' a w H'.ext H'.heap h3
theorem any_sound (hE:EnvOk E) (hrec:RecOk E w0 rec) (G:Region E rec ops T V)
  (hQ:∀ φ' a' w',Ext φ0 (T 0).h wS φ' (T ops.size).h w'→HR E.P E.base w0 φ' (T ops.size).h w'→SR E.P E.base φ' (T ops.size).h.length w' (T ops.size).s a'→Q .normal a' w') :
  ∀ (fuel:Nat) (L:Array Bool) (m:Nat) (φ:Nat→Nat×Nat) (a:Act) (w:World) (Bf:Nat→Nat),L.toList.count false≤fuel→Stands E w0 ops T V φ0 wS L m φ a w Bf→wpAny E.P .any ops Q fuel L a w
 | 0,L,m,φ,a,w,Bf,hf,H=>by
  have hall:∀ j,j<ops.size→L.getD j false=true:=by
   intro j hj
   have hj':j<L.size:=by rw [H.size];exact hj
   have h0:L.toList.count false=0:=by omega
   have:=List.count_eq_zero.1 h0
   cases hq:L[j] with
   | true=>simp [hj',hq]
   | false=>exact absurd (List.mem_iff_getElem.2 ⟨j,by simpa using hj',by simpa using hq⟩) this
  refine ⟨?_,done_all G H hall hQ⟩
  rw [List.eq_nil_iff_forall_not_mem]
  intro j hj
  obtain ⟨h1,o,ho,_⟩:=mem_ready.1 hj
  have hjs:j<ops.size:=(Array.getElem?_eq_some_iff.1 ho).1
  have:=hall j hjs
  have hj':j<L.size:=by rw [H.size];exact hjs
  simp [hj'] at h1 this
  rw [h1] at this;cases this
 | fuel+1,L,m0,φ00,a,w,Bf,hf,H0=>by
  obtain ⟨m,φ,H,hti⟩:=Stands.tight G (ops.size-m0) m0 φ00 (by have:=H0.m_le;omega) H0
  refine ⟨fun hr=>done_all G H (fun j=>?_) hQ,fun j hj=>?_⟩
  ·-- all done
   induction j using Nat.strongRecOn with
   | _ j ih=>
    intro hjs
    cases hq:L.getD j false with
    | true=>rfl
    | false=>
     have ho:ops[j]? = some ops[j]:=Array.getElem?_eq_getElem hjs
     have:j∈Region.ready .any ops L:=mem_ready.2 ⟨by
      have hj':j<L.size:=by rw [H.size];exact hjs
      simp [hj'] at hq ⊢
      exact hq,_,ho,fun e he hb=>by
       rw [bindsAny_eq] at hb
       have hlt:=G.edge ho e (by simpa using he) hb
       exact ih e.on hlt (by omega)⟩
     rw [hr] at this;cases this
  ·obtain ⟨h1,o,ho,hedge⟩:=mem_ready.1 hj
   have hjs:j<ops.size:=(Array.getElem?_eq_some_iff.1 ho).1
   have hj':j<L.size:=by rw [H.size];exact hjs
   have hjL:L.getD j false=false:=by simp [hj'] at h1 ⊢;exact h1
   have hedge':∀ e∈o.after.toList,bindsAny e=true→L.getD e.on false=true:=fun e he hb=>hedge e (by simpa using he) (by rw [bindsAny_eq];exact hb)
   have hbits:=closed_bits H.closed j o ho hedge'
   have hcl:=closed_set H.size H.closed ho hedge'
   have hdj:dstOf ops j=o.dst:=by simp [dstOf,ho]
   have hsu:∀ k,m≤k→eff ops V k→L.getD k false=true→(bfo ops j).testBit k=false:=by
    intro k hmk hek hkL
    cases hb:(bfo ops j).testBit k with
    | false=>rfl
    | true=>
     obtain ⟨hlz,_⟩:=H.early k hek hmk hkL
     rcases hti with h|⟨h1,h2⟩
     ·obtain ⟨ok,hok,_⟩:=hek
      have:=(Array.getElem?_eq_some_iff.1 hok).1
      omega
     ·have hne:m≠k:=fun e=>by subst e;rw [h2] at hkL;cases hkL
      have:=hbits m (lzB_spec hlz hjs hb (by omega) h1)
      rw [h2] at this;cases this
   have hapd:∀ k,m≤k→eff ops V k→L.getD k false=true→∀ d,dstOf ops k=some d→o.dst≠some d:=by
    intro k hmk hek hkL d hdk hod
    obtain ⟨ok,hok,hek1,hek2⟩:=hek
    have hdk':ok.dst=some d:=by rw [← hdk];simp [dstOf,hok]
    rcases Nat.lt_trichotomy k j with hlt|heq|hgt
    ·have:=(G.fills hlt hok ho).1 d hdk' (by simp [tmpsOf,hod])
     rw [hsu k hmk ⟨ok,hok,hek1,hek2⟩ hkL] at this;cases this
    ·subst heq;rw [hjL] at hkL;cases hkL
    ·have hbit:=(G.fills hgt ho hok).1 d hod (by simp [tmpsOf,hdk'])
     have:=closed_bits H.closed k ok hok (H.closed k ok hok hkL) j hbit
     rw [hjL] at this;cases this
   have agree:∀ t,t∈tmpsOf ops.toList o→sget (sD ops V m (T 0).s L ops.size) t=sget (T j).s t:=fun t ht=>sD_agree G H.closed ho hjL hbits hsu ht
   have hcount:(L.setIfInBounds j true).toList.count false≤fuel:=by
    rw [Array.toList_setIfInBounds,List.count_set (by simpa using hj')]
    have hq:L.toList[j]'(by simpa using hj')=false:=by simp [hj'] at hjL;simpa using hjL
    have hpos:0<L.toList.count false:=List.count_pos_iff.2 (List.mem_iff_getElem.2 ⟨j,by simpa using hj',hq⟩)
    rw [hq,if_pos (by decide),if_neg (by decide)]
    omega
   have next:∀ (m':Nat) (φ':Nat→Nat×Nat) (u:Value) (w':World),m≤m'→m'≤ops.size→(∀ k,eff ops V k→k<m'→(L.setIfInBounds j true).getD k false=true)→(∀ k,m≤k→k<m'→eff ops V k→k=j)→(eff ops V j→j<m')→Ext φ (T m).h w φ' (T m').h w'→HR E.P E.base w0 φ' (T m').h w' →
     VR E.P E.base φ' (T m').h.length w' (outOf V j) u→wpAny E.P .any ops Q fuel (L.setIfInBounds j true) (a.put o.dst u) w':=by
    intro m' φ' u w' hmm hm' hfr hbt hjm he hh hv
    refine any_sound hE hrec G hQ fuel _ m' φ' _ w' Bf hcount ⟨by simp [H.size],hcl,hm',hfr,fun k hk hkm hkl=>?_,fun k l hk hl h1 h2 h3 h4=>?_,H.ext.trans he,hh,?_⟩
    ·have hne:j≠k:=fun e=>by subst e;have:=hjm hk;omega
     rw [getD_set_ne' hne] at hkl
     obtain ⟨z1,z2⟩:=H.early k hk (by omega) hkl
     exact ⟨z1,z2.step he (hapd k (by omega) hk hkl)⟩
    ·have hn1:j≠k:=fun e=>by subst e;have:=hjm hk;omega
     have hn2:j≠l:=fun e=>by subst e;have:=hjm hl;omega
     rw [getD_set_ne' hn1] at h3
     rw [getD_set_ne' hn2] at h4
     exact H.apart k l hk hl (by omega) (by omega) h3 h4
    ·have hw:wv ops V m' j=some (outOf V j):=by
      unfold wv
      rw [if_neg]
      rintro ⟨q1,q2⟩
      have:=hjm (effB_iff.1 q2)
      omega
     have hsame:=sD_front (L:=L) (ops:=ops) (V:=V) hmm (fun k q1 q2 q3=>by rw [hbt k q1 q2 q3];exact hjL) (T 0).s ops.size
     have hsl:=H.slots
     rw [hsame] at hsl
     refine ((hsl.ext he).put o.dst hv).congr (by rw [sD_length,sput_length,sD_length]) fun t=>?_
     rw [sD_set G H.size H.closed ho hjL m' t,hw]
   have stay:∀ (φ':Nat→Nat×Nat) (u:Value) (w':World),¬eff ops V j→Ext φ (T m).h w φ' (T m).h w'→HR E.P E.base w0 φ' (T m).h w'→VR E.P E.base φ' (T m).h.length w' (outOf V j) u→wpAny E.P .any ops Q fuel (L.setIfInBounds j true) (a.put o.dst u) w':=by
    intro φ' u w' hne he hh hv
    refine next m φ' u w' (Nat.le_refl _) H.m_le (fun k hk hkm=>?_) (fun k h1 h2=>by omega) (fun h=>absurd h hne) he hh hv
    have:j≠k:=fun e=>hne (e ▸ hk)
    rw [getD_set_ne' this]
    exact H.front k hk hkm
   have hgv:∀ b,gv ops.toList o (T j).s b→Region.wanted o (yielded ops a.tmps)=b:=by
    intro b hb
    refine gv_wanted H.slots ?_
    unfold gv at hb ⊢
    cases hg:o.guard with
    | none=>rw [hg] at hb;exact hb
    | some p=>
     obtain ⟨g,want⟩:=p
     rw [hg] at hb
     simp only at hb ⊢
     obtain ⟨d,hd,hor⟩:=hb
     have:d∈tmpsOf ops.toList o:=by
      unfold tmpsOf
      rw [hg]
      simp only [List.mem_append]
      right
      rw [hd]
      simp
     rw [← agree d this] at hor
     exact ⟨d,hd,hor⟩
   have hst:=G.step j o ho
   have hopT:∀ t,t∈opTmps o.op→sget (T j).s t=sget (sD ops V m (T 0).s L ops.size) t:=fun t ht=>(agree t (by
    unfold tmpsOf
    simp only [List.mem_append]
    exact .inl (.inr ht))).symm
   have hfrontj:eff ops V j→m≤j:=fun hej=>by
    rcases Nat.lt_or_ge j m with h|h
    ·have:=H.front j hej h
     rw [hjL] at this;cases this
    ·exact h
   have frontj:eff ops V j→allBef (bfo ops j) (T j).hi=true∧allBef (bfo ops j) (T j).an=true→m=j:=by
    intro hej hall
    have hmj:=hfrontj hej
    rcases Nat.lt_or_ge m j with h|h
    ·rcases hti with h'|⟨h1,h2⟩
     ·omega
     ·have:=hbits m (G.behind h (by omega) hall h1)
      rw [h2] at this;cases this
    ·omega
   have heavy:∀ (v:Value),eff ops V j→allBef (bfo ops j) (T j).hi=true∧allBef (bfo ops j) (T j).an=true→exO E rec o (T j).s (T j).h pair=some (v,(T (j+1)).h)→V j=some v→o.wp E.P a w (wpAny E.P .any ops Q fuel (L.setIfInBounds j true)) Q:=by
    intro v hej hall hx hVj
    have hmj:=frontj hej hall
    subst hmj
    rw [exO_congr E rec o (T m).h _ hopT] at hx
    refine exO_sound hE hrec o hx H.slots H.heap fun v2 h2 φ' u w' hc e1 e2 e3=>?_
    injection hc with hc
    injection hc with hc1 hc2
    subst hc1;subst hc2
    refine next (m+1) φ' u w' (by omega) (by omega) (fun k hk hkm=>?_) (fun k h1 h2 _=>by omega) (fun _=>by omega) e1 e2 (by simp only [outOf,hVj];exact e3)
    by_cases e:m=k
    ·subst e;exact getD_set_self hj'
    ·rw [getD_set_ne' e];exact H.front k hk (by omega)
   have opw:∀ (v:Value),¬eff ops V j→exOp E rec o.op (sD ops V m (T 0).s L ops.size) (T m).h pair=some (v,(T m).h)→V j=some v→o.wp E.P a w (wpAny E.P .any ops Q fuel (L.setIfInBounds j true)) Q:=by
    intro v hne hx hVj
    refine op_sound hE hrec o hx H.slots H.heap fun v2 h2 φ' u w' hc e1 e2 e3=>?_
    injection hc with hc
    injection hc with hc1 hc2
    subst hc1;subst hc2
    exact stay φ' u w' hne e1 e2 (by simp only [outOf,hVj];exact e3)
   unfold wpOp
   rw [ho]
   simp only
   generalize hV:V j=vv at hst
   cases hst with
   | skip g e=>
    rw [hgv _ g]
    simp only [Bool.false_eq_true,if_false]
    refine stay φ undef w ?_ (Ext.refl ..) H.heap ?_
    ·rintro ⟨o',ho',_,hv⟩
     rw [hV] at hv;cases hv
    ·simp only [outOf,hV];exact undef_rel
   | pure v g hk x e=>
    rw [hgv _ g,if_pos rfl]
    have hne:¬eff ops V j:=by
     rintro ⟨o',ho',hef,hv⟩
     rw [ho] at ho';injection ho' with ho';subst ho'
     rcases hef with h|h<;>rw [hk] at h<;>cases h
    have hx2:=(pure_heap hk x).2 (T m).h
    rw [exOp_congr E rec o.op (T m).h _ hopT] at hx2
    exact .inl (opw v hne hx2 hV)
   | fresh v g hk x ol g1 e=>
    rw [hgv _ g,if_pos rfl]
    have hef:eff ops V j:=⟨o,ho,.inl hk,by rw [hV];rfl⟩
    rcases ol with hall|hlz
    ·refine .inl (heavy v hef hall ?_ hV)
     rw [exO_fresh hk]
     exact x
    ·have hmj:=hfrontj hef
     have hfz:isFz o.op=true:=by
      unfold lzOk at hlz
      simp only [Bool.and_eq_true] at hlz
      exact hlz.1
     rw [exOp_congr E rec o.op (T j).h _ hopT] at x
     obtain ⟨blk0,hblk0⟩:=fresh_heap hk x
     have hx2:∃ v2 h2,exOp E rec o.op (sD ops V m (T 0).s L ops.size) (T m).h pair=some (v2,h2):=fz_any hfz x (T m).h
     obtain ⟨v2,h2,hx2⟩:=hx2
     obtain ⟨F,blk,us,u,f0,f1,f2,f3,f4,f5,f6⟩:=fresh_run hE o hfz hx2 H.slots
     have hxj:=f3 (T j).h
     rw [x] at hxj
     injection hxj with hxj
     injection hxj with hv1 hh1
     have hout:outOf V j=F (T j).h.length:=by simp only [outOf,hV];exact hv1
     left
     unfold Oper.wp
     rw [f4]
     have hea:=Ext.alloc φ (T m).h w us blk.ty
     have hnb:(w.alloc (.cells us blk.ty)).heap[w.heap.size]? = some (.cells us blk.ty (0,0)):=heap_alloc_new _ _
     have hsl:∀ k,eff ops V k→m≤k→L.getD k false=true→Bf k<w.heap.size:=fun k hk hkm hkl=>by
      obtain ⟨_,_,_,_,_,_,q,_⟩:=H.early k hk hkm hkl
      exact (Array.getElem?_eq_some_iff.1 q).1
     refine any_sound hE hrec G hQ fuel _ m φ _ _ (fun k=>if k=j then w.heap.size else Bf k) hcount ⟨by simp [H.size],hcl,H.m_le,fun k hk hkm=>?_,fun k hk hkm hkl=>?_,fun k l hk hl h1 h2 h3 h4 hne=>?_,H.ext.trans hea,H.heap.alloc us blk.ty,?_⟩
     ·have:j≠k:=fun e=>by omega
      rw [getD_set_ne' this]
      exact H.front k hk hkm
     ·by_cases e:k=j
      ·subst e
       simp only [if_true]
       refine ⟨⟨o,ho,hlz⟩,blk,us,u,f0,hh1,hnb,fun i x hx=>?_,H.ext.size,H.heap.bw,fun i l hi he=>?_,fun d hd hdl=>?_,fun φ' n' w' e1 e2 e3=>?_⟩
       ·obtain ⟨y,hy,hc⟩:=f5 i x hx
        exact ⟨y,hy,hc.mono (fun _ _=>rfl) (Nat.le_refl _) (alloc_shape _ _ _)⟩
       ·have:=H.heap.lt hi
        omega
       ·rw [hdj] at hd
        rw [hd]
        have hsz:(a.put o.dst u).tmps.size=a.tmps.size:=by cases o.dst<;>simp [Act.put]
        have hlt:d<a.tmps.size:=by rw [hsz] at hdl;exact hdl
        simp [Act.put,hlt]
       ·rw [hout];exact f6 φ' _ n' w' e1 e2 e3
      ·have hne:j≠k:=fun h=>e h.symm
       rw [getD_set_ne' hne] at hkl
       simp only [if_neg e]
       obtain ⟨z1,z2⟩:=H.early k hk hkm hkl
       exact ⟨z1,z2.step hea (hapd k hkm hk hkl)⟩
     ·by_cases e1:k=j
      ·have e2:l≠j:=fun h=>hne (by rw [e1,h])
       have hn2:j≠l:=fun h=>e2 h.symm
       rw [getD_set_ne' hn2] at h4
       simp only [if_pos e1,if_neg e2]
       have:=hsl l hl h2 h4
       omega
      ·have hn1:j≠k:=fun h=>e1 h.symm
       rw [getD_set_ne' hn1] at h3
       by_cases e2:l=j
       ·simp only [if_neg e1,if_pos e2]
        have:=hsl k hk h1 h3
        omega
       ·have hn2:j≠l:=fun h=>e2 h.symm
        rw [getD_set_ne' hn2] at h4
        simp only [if_neg e1,if_neg e2]
        exact H.apart k l hk hl h1 h2 h3 h4 hne
     ·have hw:wv ops V m j=none:=by
       unfold wv
       rw [if_pos ⟨hmj,effB_iff.2 hef⟩]
      refine ((H.slots.ext hea).putN o.dst).congr (by rw [sD_length,sput_length,sD_length]) fun t=>?_
      rw [sD_set G H.size H.closed ho hjL m t,hw]
   | heavy v g hk x o1 o2 g1 e=>
    rw [hgv _ g,if_pos rfl]
    exact .inl (heavy v ⟨o,ho,.inr hk,by rw [hV];rfl⟩ ⟨o1,o2⟩ x hV)
   | read v ra1 n g hk x ra g1 g2 e=>
    rw [hgv _ g,if_pos rfl]
    have hne:¬eff ops V j:=by
     rintro ⟨o',ho',hef,hv⟩
     rw [ho] at ho';injection ho' with ho';subst ho'
     rcases hef with h|h<;>rw [hk] at h<;>cases h
    obtain ⟨ra',q1,q2,q3⟩:=G.reads ho hV hk
    rw [ra] at q1
    injection q1 with q1
    subst q1
    have hsame:=q3 m H.m_le (fun k h1 h2 he=>by
     cases hb:(bfo ops j).testBit k with
     | false=>rfl
     | true=>rw [hsu k h1 he (hbits k hb)] at hb;cases hb) (fun k h1 h2 he=>by
     cases hb:(bfo ops k).testBit j with
     | false=>rfl
     | true=>
      have hkL:=H.front k he h2
      obtain ⟨ok,hok,_,_⟩:=he
      have:=closed_bits H.closed k ok hok (H.closed k ok hok hkL) j hb
      rw [hjL] at this;cases this)
    have hx2:=(read_heap hk ra x).2 (T m).h hsame
    rw [exOp_congr E rec o.op (T m).h _ hopT] at hx2
    exact .inl (opw v hne hx2 hV)
theorem exD_any (hE:EnvOk E) (hrec:RecOk E w0 rec) (ops:Array Oper) (hok:regOk ops.toList (befs [] ops.toList) 0 ops.toList=true) {s:Slots} {h:AH} {a:Act} {w:World} {φ:Nat→Nat×Nat}
  (hx:exD E rec ops.toList (befs [] ops.toList) ops.toList 0 s h [] [] [] c=some r) (hs:SR E.P E.base φ h.length w s a) (hh:HR E.P E.base w0 φ h w)
  (hQ:∀ s' h' φ' a' w',c s' h'=some r→Ext φ h w φ' h' w'→HR E.P E.base w0 φ' h' w'→SR E.P E.base φ' h'.length w' s' a'→Q .normal a' w'):wpAny E.P .any ops Q ops.size (Array.replicate ops.size false) a { w with drawn:=w.drawn+1 }:=by
 obtain ⟨T,V,h0,hfin,hstep⟩:=exD_trace _ _ _ _ _ _ _ hx
 have G:Region E rec ops T V:=⟨hok,by rw [h0];exact ⟨rfl,rfl,rfl⟩,fun k o ho=>by
  have:=hstep k o (by simpa using ho)
  rw [Nat.zero_add] at this
  exact this⟩
 have hlen:0+ops.toList.length=ops.size:=by simp
 rw [hlen] at hfin
 have hT0h:(T 0).h=h:=by rw [h0]
 have hT0s:(T 0).s=s:=by rw [h0]
 have hrep:∀ k,(Array.replicate ops.size false).getD k false=false:=by
  intro k
  by_cases hk:k<ops.size<;>simp [hk]
 have hsD:∀ k,sD ops V 0 (T 0).s (Array.replicate ops.size false) k=(T 0).s:=by
  intro k
  induction k with
  | zero=>rfl
  | succ k ih=>rw [sD_succ,hrep,if_neg (by decide),ih]
 refine any_sound (φ0:=φ) (wS:=w) hE hrec G (fun φ' a' w' e1 e2 e3=>hQ _ _ φ' a' w' hfin (by rw [hT0h] at e1;exact e1) e2 e3) ops.size _ 0 φ a { w with drawn:=w.drawn+1 } (fun _=>0) ?_ ⟨by simp,?_,Nat.zero_le _,fun k _ hk=>(by omega),fun k _ _ hk=>(by rw [hrep] at hk;cases hk),fun k l _ _ _ _ hk=>(by rw [hrep] at hk;cases hk),?_,?_,?_⟩
 ·simp
 ·intro i o ho hi
  rw [hrep] at hi;cases hi
 ·exact Ext.drew ..
 ·rw [hT0h];exact hh.drew _
 ·rw [hsD,hT0h,hT0s]
  exact hs.mono (fun _ _=>rfl) (Nat.le_refl _) fun _ _ hx=>hx
theorem pos_le:∀ (p:List Nat) (j:Nat),pos p j≤p.length∧(pos p j<p.length→p[pos p j]? = some j)
 | [],j=>⟨Nat.le_refl _,fun h=>absurd h (Nat.lt_irrefl _)⟩
 | k :: r,j=>by
  unfold pos
  cases hb:Nat.beq k j with
  | true=>
   have:=Nat.eq_of_beq_eq_true hb
   subst this
   exact ⟨Nat.zero_le _,fun _=>rfl⟩
  | false=>
   obtain ⟨h1,h2⟩:=pos_le r j
   exact ⟨by simp only [cond_false,List.length_cons];omega,fun h=>by
    simp only [cond_false,List.length_cons] at h ⊢
    rw [List.getElem?_cons_succ]
    exact h2 (by omega)⟩
theorem permOk_spec {p:List Nat} {n:Nat} (h:permOk p n=true):p.length=n∧(∀ k,k<n→∃ j,p[k]? = some j∧j<n∧pos p j=k)∧(∀ j,j<n→p[pos p j]? = some j)∧(∀ j,n≤j→pos p j=n):=by
 unfold permOk at h
 simp only [Bool.and_eq_true,List.all_eq_true,List.mem_range] at h
 obtain ⟨h1,h2,h3⟩:=h
 have h1:=Nat.eq_of_beq_eq_true h1
 have hA:∀ k,k<n→∃ j,p[k]? = some j∧j<n∧pos p j=k:=fun k hk=>by
  have:=h2 k hk
  unfold permA at this
  split at this
  ·rename_i j hj
   simp only [Bool.and_eq_true,Nat.blt_eq] at this
   exact ⟨j,hj,this.1,Nat.eq_of_beq_eq_true this.2⟩
  ·cases this
 refine ⟨h1,hA,fun j hj=>?_,fun j hj=>?_⟩
 ·have:=h3 j hj
  unfold permB at this
  split at this
  ·rename_i k hk
   rw [hk,Nat.eq_of_beq_eq_true this]
  ·cases this
 ·obtain ⟨g1,g2⟩:=pos_le p j
  by_cases hlt:pos p j<p.length
  ·have e:=g2 hlt
   obtain ⟨j',e',hj',_⟩:=hA (pos p j) (by omega)
   rw [e] at e'
   injection e' with e'
   omega
  ·omega
theorem perm_get {p:List Nat} {ops:Array Oper} (hp:permOk p ops.size=true) {j:Nat} (hj:j<ops.size):(permOps p ops.toList).toArray[pos p j]? = some (permOper p ops[j]):=by
 obtain ⟨_,_,h3,_⟩:=permOk_spec hp
 simp only [List.getElem?_toArray,permOps,List.getElem?_map,h3 j hj,Option.map_some,Array.getElem?_toList,Array.getElem?_eq_getElem hj]
theorem perm_size {p:List Nat} {ops:Array Oper} (hp:permOk p ops.size=true):(permOps p ops.toList).toArray.size=ops.size:=by
 obtain ⟨h1,_⟩:=permOk_spec hp
 simp [permOps,h1]
theorem perm_after {p:List Nat} {o:Oper} {e':Edge}:e'∈(permOper p o).after↔∃ e∈o.after,e' = { e with on:=pos p e.on }:=by
 simp only [permOper,List.mem_toArray,List.mem_map,Array.mem_toList_iff]
 exact ⟨fun ⟨e,h1,h2⟩=>⟨e,h1,h2.symm⟩,fun ⟨e,h1,h2⟩=>⟨e,h1,h2.symm⟩⟩
theorem perm_yield {p:List Nat} {ops:Array Oper} (hp:permOk p ops.size=true) (tm:Array Value) (j:Nat):yielded (permOps p ops.toList).toArray tm (pos p j)=yielded ops tm j:=by
 unfold yielded
 by_cases hj:j<ops.size
 ·rw [perm_get hp hj,Array.getElem?_eq_getElem hj]
  rfl
 ·obtain ⟨_,_,_,h4⟩:=permOk_spec hp
  rw [h4 j (by omega),Array.getElem?_eq_none (by rw [perm_size hp];exact Nat.le_refl _),Array.getElem?_eq_none (by omega)]
theorem perm_wanted {p:List Nat} {ops:Array Oper} (hp:permOk p ops.size=true) (tm:Array Value) (o:Oper):Region.wanted (permOper p o) (yielded (permOps p ops.toList).toArray tm)=Region.wanted o (yielded ops tm):=by
 unfold Region.wanted permOper
 cases o.guard with
 | none=>rfl
 | some g=>
  obtain ⟨j,b⟩:=g
  simp only [perm_yield hp]
theorem perm_wpO {P:Program} {p:List Nat} {o:Oper} {a:Act} {w:World} {K:Act→World→Prop} {Q:Exit→Act→World→Prop} (h:(permOper p o).wp P a w K Q∨((permOper p o).asks P a w∧LetsOut Q)):o.wp P a w K Q∨(o.asks P a w∧LetsOut Q):=h
theorem perm_ready {p:List Nat} {ops:Array Oper} (hp:permOk p ops.size=true) {L L':Array Bool} (hL:L.size=ops.size) (hL':L'.size=ops.size) (hLL:∀ j,j<ops.size→L'.getD (pos p j) false=L.getD j false) {j:Nat} (hj:j<ops.size) :
  j∈Region.ready .any ops L↔pos p j∈Region.ready .any (permOps p ops.toList).toArray L':=by
 obtain ⟨h1,h2,h3,h4⟩:=permOk_spec hp
 have hpj:pos p j<ops.size:=by
  have:=(List.getElem?_eq_some_iff.1 (h3 j hj)).1
  omega
 have dT:∀ {X:Array Bool} {q:Nat},q<X.size→X.getD q true=X.getD q false:=fun hq=>by simp [hq]
 have all:∀ q,L'.getD (pos p q) false=L.getD q false:=fun q=>by
  by_cases hq:q<ops.size
  ·exact hLL q hq
  ·rw [h4 q (by omega)]
   simp [hL,hL',hq]
 rw [mem_ready,mem_ready,dT (by omega),dT (by omega),hLL j hj,perm_get hp hj,Array.getElem?_eq_getElem hj]
 refine and_congr_right fun _=>⟨fun ⟨o,e,ho⟩=>?_,fun ⟨o,e,ho⟩=>?_⟩
 ·injection e with e
  subst e
  refine ⟨_,rfl,fun e' he' hb=>?_⟩
  obtain ⟨e,he,rfl⟩:=perm_after.1 he'
  rw [all]
  exact ho e he hb
 ·injection e with e
  subst e
  refine ⟨_,rfl,fun e he hb=>?_⟩
  rw [← all]
  exact ho _ (perm_after.2 ⟨e,he,rfl⟩) hb
theorem perm_wp {P:Program} {p:List Nat} {ops:Array Oper} (hp:permOk p ops.size=true) {Q:Exit→Act→World→Prop}:∀ (fuel:Nat) (L L':Array Bool) (a:Act) (w:World),L.size=ops.size→L'.size=ops.size→(∀ j,j<ops.size→L'.getD (pos p j) false=L.getD j false) →
  wpAny P .any (permOps p ops.toList).toArray Q fuel L' a w→wpAny P .any ops Q fuel L a w:=by
 obtain ⟨h1,h2,h3,h4⟩:=permOk_spec hp
 have sz:∀ {L:Array Bool} {j:Nat},j∈Region.ready .any ops L→j<ops.size:=fun hj=>by
  obtain ⟨_,o,ho,_⟩:=mem_ready.1 hj
  exact (Array.getElem?_eq_some_iff.1 ho).1
 have sz':∀ {L:Array Bool} {j:Nat},j∈Region.ready .any (permOps p ops.toList).toArray L→j<ops.size:=fun hj=>by
  obtain ⟨_,o,ho,_⟩:=mem_ready.1 hj
  have:=(Array.getElem?_eq_some_iff.1 ho).1
  rw [perm_size hp] at this
  exact this
 have nil1:∀ {L L':Array Bool},L.size=ops.size→L'.size=ops.size→(∀ j,j<ops.size→L'.getD (pos p j) false=L.getD j false)→Region.ready .any (permOps p ops.toList).toArray L' = []→Region.ready .any ops L = []:=fun hL hL' hLL hr=>by
  rw [List.eq_nil_iff_forall_not_mem] at hr ⊢
  exact fun j hj=>hr _ ((perm_ready hp hL hL' hLL (sz hj)).1 hj)
 have nil2:∀ {L L':Array Bool},L.size=ops.size→L'.size=ops.size→(∀ j,j<ops.size→L'.getD (pos p j) false=L.getD j false)→Region.ready .any ops L = []→Region.ready .any (permOps p ops.toList).toArray L' = []:=fun hL hL' hLL hr=>by
  rw [List.eq_nil_iff_forall_not_mem] at hr ⊢
  intro k hk
  obtain ⟨j,_,hj,ej⟩:=h2 k (sz' hk)
  rw [← ej] at hk
  exact hr _ ((perm_ready hp hL hL' hLL hj).2 hk)
 intro fuel
 induction fuel with
 | zero=>exact fun L L' a w hL hL' hLL h=>⟨nil1 hL hL' hLL h.1,h.2⟩
 | succ fuel ih=>
  intro L L' a w hL hL' hLL h
  obtain ⟨g0,g1⟩:=h
  refine ⟨fun hr=>g0 (nil2 hL hL' hLL hr),fun j hj=>?_⟩
  have hjs:=sz hj
  have hpj:pos p j<ops.size:=by
   have:=(List.getElem?_eq_some_iff.1 (h3 j hjs)).1
   omega
  have g:=g1 (pos p j) ((perm_ready hp hL hL' hLL hjs).1 hj)
  have g:=wpOp_mono (K':=wpAny P .any ops Q fuel (L.setIfInBounds j true)) (fun a w=>ih (L.setIfInBounds j true) (L'.setIfInBounds (pos p j) true) a w (by simp [hL]) (by simp [hL']) fun q hq=>by
   by_cases e:q=j
   ·subst e
    rw [getD_set_self (by omega),getD_set_self (by omega)]
   ·rw [getD_set_ne' (fun h=>e h.symm),getD_set_ne' (fun h=>e (by
     have a1:=h3 q hq
     have a2:=h3 j hjs
     rw [← h,a2] at a1
     injection a1 with a1
     exact a1.symm))]
    exact hLL q hq) g
  unfold wpOp at g ⊢
  rw [perm_get hp hjs] at g
  rw [Array.getElem?_eq_getElem hjs]
  simp only at g ⊢
  rw [perm_wanted hp] at g
  split at g
  ·rename_i hw
   rw [if_pos hw]
   exact perm_wpO g
  ·rename_i hw
   rw [if_neg hw]
   exact g
theorem exD_sound (hE:EnvOk E) (hrec:RecOk E w0 rec) (ops:Array Oper) {id:Nat} (an:Ann) (hok:regOk (regOps an ops.toList) (befs [] (regOps an ops.toList)) 0 (regOps an ops.toList)=true) {s:Slots} {h:AH} {a:Act} {w:World} {φ:Nat→Nat×Nat}
  (hx:exD E rec (regOps an ops.toList) (befs [] (regOps an ops.toList)) (regOps an ops.toList) 0 s h [] [] [] c=some r) (hs:SR E.P E.base φ h.length w s a) (hh:HR E.P E.base w0 φ h w)
  (hQ:∀ s' h' φ' a' w',c s' h'=some r→Ext φ h w φ' h' w'→HR E.P E.base w0 φ' h' w'→SR E.P E.base φ' h'.length w' s' a'→Q .normal a' w'):(Code.region id ops true).wp E.P Q a w:=by
 refine wp_region_any hE.mixed ?_
 have plain:regOps an ops.toList=ops.toList→wpAny E.P .any ops Q ops.size (Array.replicate ops.size false) a { w with drawn:=w.drawn+1 }:=fun e=>by
  rw [e] at hok hx
  exact exD_any hE hrec ops hok hx hs hh hQ
 cases an with
 | perm p=>
  cases hp:permOk p ops.size with
  | false=>exact plain (by simp [regOps,hp])
  | true=>
   have e:regOps (.perm p) ops.toList=(permOps p ops.toList).toArray.toList:=by simp [regOps,hp]
   rw [e] at hok hx
   have g:=exD_any hE hrec (permOps p ops.toList).toArray hok hx hs hh hQ
   rw [perm_size hp] at g
   refine perm_wp hp _ _ _ a _ (by simp) (by simp) (fun j hj=>?_) g
   have hr:∀ k,(Array.replicate ops.size false).getD k false=false:=by
    intro k
    by_cases hk:k<ops.size<;>simp [hk]
   rw [hr,hr]
 | _=>exact plain rfl
end
end Go.Proofs.Ytkdenmdijdmnjaa.Am
set_option linter.unusedSimpArgs false
set_option linter.unusedVariables false
namespace Go.Proofs.Ytkdenmdijdmnjaa.Am
open Go Go.RowKit
section
variable {c o t:Nat} {T:Nat→Nat} {p:Nat→String} {d:Departure}
theorem ts0:Region.ready .any (tossOps c o t T p d) #[false,false,false,false] = [0]:=by
 simp [Region.ready,tossOps,Region.binds,List.range_succ]
theorem ts1:Region.ready .any (tossOps c o t T p d) #[true,false,false,false] = [1,2]:=by
 simp [Region.ready,tossOps,Region.binds,List.range_succ]
theorem ts2:Region.ready .any (tossOps c o t T p d) #[true,true,false,false] = [2]:=by
 simp [Region.ready,tossOps,Region.binds,List.range_succ]
theorem ts3:Region.ready .any (tossOps c o t T p d) #[true,false,true,false] = [1]:=by
 simp [Region.ready,tossOps,Region.binds,List.range_succ]
theorem ts4:Region.ready .any (tossOps c o t T p d) #[true,true,true,false] = [3]:=by
 simp [Region.ready,tossOps,Region.binds,List.range_succ]
theorem ts5:Region.ready .any (tossOps c o t T p d) #[true,true,true,true] = []:=by
 simp [Region.ready,tossOps,Region.binds,List.range_succ]
end
theorem sget_sset:∀ {s:Slots} {c:Nat} {v:Option Value},c<s.length→sget (sset s c v) c=v
 | [],c,v,h=>absurd h (Nat.not_lt_zero _)
 | x :: s,0,v,h=>rfl
 | x :: s,c+1,v,h=>sget_sset (s:=s) (by simpa using h)
section
variable {R:Type} {E:Env} {w0:World} {Q:Exit→Act→World→Prop} {r:R} {rec:Rec}
theorem toss_sound (hE:EnvOk E) (hrec:RecOk E w0 rec) {ops:Array Oper} {id c o t:Nat} (ht:TossR E c o t ops) {k:Slots→AH→Option R} {s:Slots} {h:AH} {a:Act} {w:World} {φ:Nat→Nat×Nat} (hc:c<s.length)
  (hx:∀ b,k (tossS s c o h b) (h++[none])=some r) (hs:SR E.P E.base φ h.length w s a) (hh:HR E.P E.base w0 φ h w)
  (hQ:∀ s' h' φ' a' w',k s' h'=some r→Ext φ h w φ' h' w'→HR E.P E.base w0 φ' h' w'→SR E.P E.base φ' h'.length w' s' a'→Q .normal a' w'):(Code.region id ops true).wp E.P Q a w:=by
 obtain ⟨⟨T,p,d,rfl⟩,ii,z,e1,e2,e3,e4⟩:=ht
 refine wp_region_any hE.mixed ?_
 have hs0:SR E.P E.base φ h.length { w with drawn:=w.drawn+1 } s a:=hs.mono (fun _ _=>rfl) (Nat.le_refl _) fun _ _ hx=>hx
 have hh0:=hh.drew (w.drawn+1)
 have x0:=Ext.drew φ h w (w.drawn+1)
 generalize ({ w with drawn:=w.drawn+1 }:World)=w1 at hs0 hh0 x0 ⊢
 have hl:=hh.len
 obtain ⟨s1,es1⟩:∃ s1,sput s (some c) (some (.pointer (some ⟨h.length,0,none⟩)))=s1:=⟨_,rfl⟩
 have g1:sget s1 c=some (.pointer (some ⟨h.length,0,none⟩)):=by rw [← es1];exact sget_sset hc
 obtain ⟨bx,ebx⟩:∃ bx:Value→AH,bx=fun v=>h++[some ⟨[v],t⟩]:=⟨_,rfl⟩
 have st:∀ (b:Bool) (v:Value) (i:Nat) (oo:Oper),(tossOps c o t T p d)[i]? = some oo→oo.guard=none→oo.dst=none→oo.op = .store t (.tmp c) (.const (.bool b))→∀ (φ2:Nat→Nat×Nat) (a2:Act) (w2:World) (K:Act→World→Prop),Ext φ h w φ2 (bx v) w2→HR E.P E.base w0 φ2 (bx v) w2→SR E.P E.base φ2 (bx v).length w2 s1 a2 →
   (∀ φ3 a3 w3,Ext φ h w φ3 (bx (.bool b)) w3→HR E.P E.base w0 φ3 (bx (.bool b)) w3→SR E.P E.base φ3 (bx (.bool b)).length w3 s1 a3→K a3 w3)→wpOp E.P (tossOps c o t T p d) Q i K a2 w2:=by
  intro b v i oo ho hg hd hop φ2 a2 w2 K y1 y2 y3 y4
  unfold wpOp
  rw [ho]
  have hw:Region.wanted oo (yielded (tossOps c o t T p d) a2.tmps)=true:=by unfold Region.wanted;rw [hg]
  simp only [hw,if_true]
  refine .inl (op_sound (c:=fun v h=>some (v,h)) (r:=(undef,bx (.bool b))) hE hrec oo ?_ y3 y2 fun v2 h2 φ3 u w3 q1 q2 q3 q4=>?_)
  ·rw [hop]
   subst ebx
   have hf:flatC (.bool b)=true:=rfl
   have hw2:wr E.base (h++[some ⟨[v],t⟩]) h.length 0 [.bool b]=some (h++[some ⟨[.bool b],t⟩]):=by
    unfold wr
    rw [if_pos hl]
    simp [hget,setAt,List.getElem?_append_right]
   unfold exOp
   simp only [ev,g1,hf,cond_true,e1,e3]
   exact congrArg (fun x=>Option.bind x fun h'=>some (undef,h')) hw2
  ·injection q1 with q1
   injection q1 with q1 q5
   subst q1;subst q5
   refine y4 φ3 _ w3 (y1.trans q2) q3 ?_
   have:=(y3.ext q2).put oo.dst q4
   rw [hd] at this ⊢
   exact this
 have tail:∀ (b:Bool) (φ2:Nat→Nat×Nat) (a2:Act) (w2:World),Ext φ h w φ2 (bx (.bool b)) w2→HR E.P E.base w0 φ2 (bx (.bool b)) w2→SR E.P E.base φ2 (bx (.bool b)).length w2 s1 a2→wpAny E.P .any (tossOps c o t T p d) Q 1 #[true,true,true,false] a2 w2:=by
  intro b φ2 a2 w2 y1 y2 y3
  refine ⟨fun e=>absurd e (by rw [ts4];decide),fun i hi=>?_⟩
  rw [ts4,List.mem_singleton] at hi
  subst hi
  unfold wpOp
  rw [show (tossOps c o t T p d)[3]? = some ⟨some o,.load t (.tmp c),T 3,p 3,#[⟨0,.data⟩,⟨0,.phase⟩,⟨1,.phase⟩,⟨2,.phase⟩],none⟩ from rfl]
  simp only [show Region.wanted ⟨some o,.load t (.tmp c),T 3,p 3,#[⟨0,.data⟩,⟨0,.phase⟩,⟨1,.phase⟩,⟨2,.phase⟩],none⟩ (yielded (tossOps c o t T p d) a2.tmps)=true from rfl,if_true]
  refine .inl (op_sound (c:=fun v h=>some (v,h)) (r:=(Value.bool b,bx (.bool b))) hE hrec _ ?_ y3 y2 fun v2 h2 φ3 u w3 q1 q2 q3 q4=>?_)
  ·subst ebx
   simp [exOp,ev,g1,load,e1,e2,e3,viewO,Am.cell,hget,List.getElem?_append_right]
   rfl
  ·injection q1 with q1
   injection q1 with q1 q5
   subst q1;subst q5
   have z4:=(y3.ext q2).put (some o) q4
   have ek:(bx (.bool b)).set h.length none=h++[none]:=by subst ebx;simp
   have el:(bx (.bool b)).length=(h++[none]:AH).length:=by subst ebx;simp
   have q5:=Ext.kill φ3 (bx (.bool b)) w3 h.length
   have q6:=q3.kill h.length
   rw [ek] at q5 q6
   rw [el] at z4
   refine ⟨ts5,hQ _ _ φ3 _ w3 (hx b) ((y1.trans q2).trans q5) q6 ?_⟩
   rw [tossS,es1]
   exact z4
 show wpAny E.P .any (tossOps c o t T p d) Q 4 #[false,false,false,false] a w1
 refine ⟨fun e=>absurd e (by rw [ts0];decide),fun i hi=>?_⟩
 rw [ts0,List.mem_singleton] at hi
 subst hi
 unfold wpOp
 rw [show (tossOps c o t T p d)[0]? = some ⟨some c,.alloc t,T 0,p 0,#[],none⟩ from rfl]
 simp only [show Region.wanted ⟨some c,.alloc t,T 0,p 0,#[],none⟩ (yielded (tossOps c o t T p d) a.tmps)=true from rfl,if_true]
 refine .inl (op_sound (c:=fun v h=>some (v,h)) (r:=(Value.pointer (some ⟨h.length,0,none⟩),bx z)) hE hrec _ ?_ hs0 hh0 fun v2 h2 φ3 u w3 q1 q2 q3 q4=>?_)
 ·subst ebx
  simp [exOp,e1,e4]
 injection q1 with q1
 injection q1 with q1 q5
 subst q1;subst q5
 have z3:=(hs0.ext q2).put (some c) q4
 rw [es1] at z3
 show wpAny E.P .any (tossOps c o t T p d) Q 3 #[true,false,false,false] _ w3
 refine ⟨fun e=>absurd e (by rw [ts1];decide),fun i hi=>?_⟩
 rw [ts1] at hi
 simp only [List.mem_cons,List.not_mem_nil,or_false] at hi
 rcases hi with rfl|rfl
 ·refine st true z 1 _ rfl rfl rfl rfl φ3 _ w3 _ (x0.trans q2) q3 z3 fun φ4 a4 w4 y1 y2 y3=>?_
  show wpAny E.P .any (tossOps c o t T p d) Q 2 #[true,true,false,false] _ w4
  refine ⟨fun e=>absurd e (by rw [ts2];decide),fun i hi=>?_⟩
  rw [ts2,List.mem_singleton] at hi
  subst hi
  exact st false _ 2 _ rfl rfl rfl rfl φ4 _ w4 _ y1 y2 y3 fun φ5 a5 w5 y1 y2 y3=>tail false φ5 a5 w5 y1 y2 y3
 ·refine st false z 2 _ rfl rfl rfl rfl φ3 _ w3 _ (x0.trans q2) q3 z3 fun φ4 a4 w4 y1 y2 y3=>?_
  show wpAny E.P .any (tossOps c o t T p d) Q 2 #[true,false,true,false] _ w4
  refine ⟨fun e=>absurd e (by rw [ts3];decide),fun i hi=>?_⟩
  rw [ts3,List.mem_singleton] at hi
  subst hi
  exact st true _ 1 _ rfl rfl rfl rfl φ4 _ w4 _ y1 y2 y3 fun φ5 a5 w5 y1 y2 y3=>tail true φ5 a5 w5 y1 y2 y3
end
theorem killS_len (s:Slots):∀ (ks:List Nat) (h:AH),(killS s ks h).length=h.length
 | [],h=>rfl
 | t :: r,h=>by
  rw [killS,killS_len s r]
  split<;>simp
theorem HR.killS {E:Env} {w0 w:World} {φ:Nat→Nat×Nat} (s:Slots):∀ (ks:List Nat) {h:AH},HR E.P E.base w0 φ h w→HR E.P E.base w0 φ (Am.killS s ks h) w∧Ext φ h w φ (Am.killS s ks h) w
 | [],h,hh=>⟨hh,Ext.refl ..⟩
 | t :: r,h,hh=>by
  rw [Am.killS]
  split
  ·rename_i ad _ _ _
   obtain ⟨q1,q2⟩:=HR.killS s r (hh.kill ad.block)
   exact ⟨q1,(Ext.kill φ h w ad.block).trans q2⟩
  ·exact HR.killS s r hh
end Go.Proofs.Ytkdenmdijdmnjaa.Am
