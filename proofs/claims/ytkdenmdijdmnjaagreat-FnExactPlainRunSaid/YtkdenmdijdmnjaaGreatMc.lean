/- An operation of the abstract machine tells what it does apart from what follows; it looks at its operands alone.
Conditions: none. -/
import Derived.Test.YtkdenmdijdmnjaaGreatMb
set_option linter.unusedSimpArgs false
set_option linter.unusedVariables false
namespace Go.Proofs.YtkdenmdijdmnjaaGreat.Am
open Go Go.RowKit
open _root_.Array renaming getD_eq_getD_getElem?->Z6,getElem?_eq_getElem->eZ,getElem?_eq_none->Rf,getElem?_eq_some_iff->f_,getElem?_setIfInBounds_ne->Gd,getElem?_toList->Jr,replicate->yO
open _root_.Bool renaming and_eq_true->bz,not_eq_true'->yM,or_eq_true->uK
open _root_.Go.Op renaming operands->cw
open _root_.Go.Region renaming binds->qe,ready->fv,wanted->mN
open _root_.Go.RowKit.Below renaming heap_alloc->yL
open _root_.List renaming eq_nil_iff_forall_not_mem->J4,getD_eq_getElem?_getD->uL,getElem?_append_right->jL,getElem?_cons_succ->mC,getElem?_eq_none->cE,getElem?_eq_some_iff->bY,getElem?_map->gD,getElem?_take_of_lt->bJ,length_cons->g_,mem_append->dQ,mem_cons->bn,mem_cons_of_mem->yJ,mem_cons_self->mL,mem_iff_getElem->gk,mem_of_getElem?->dX,mem_singleton->dY,range_succ->qO
open _root_.Nat renaming add_zero->mG,beq->bg,ble->dC,blt->cx,blt_eq->e_,eq_of_beq_eq_true->dk,le_of_ble_eq_true->iK,le_refl->aT,lt_of_lt_of_le->cW,lt_or_ge->mO,lt_trichotomy->pi,strongRecOn->O7,zero_add->cQ,zero_le->tX
open _root_.Option renaming bind_some->aJ,getD_some->tV
section
variable {R:Type}
theorem cn{S:Type}{b:Bool}{x:Option R}{y:Option S}{f:S->Option R}(h:x=y.bind f):cond b x none=(cond b y none).bind f:=by cases b<;>first|rfl|exact h
theorem Y0{S:Type}{b:Bool}{x:Option R}{y:Option S}{f:S->Option R}(h:x=y.bind f):cond b none x=(cond b none y).bind f:=by cases b<;>first|rfl|exact h
theorem kr(k:K)(v:Option Value)(c:Value->Option R):fL k v c=(fL k v some).bind c:=by
 cases k<;>simp only [fL]<;>(first|(cases v.bind (au _)<;>rfl)|(cases v.bind aO<;>rfl)|(cases v.bind aK<;>rfl)|(cases v.bind aN<;>rfl)|(cases v.bind OK<;>rfl)|(cases v.bind Vl<;>rfl)|(cases v.bind HF<;>rfl)|(cases v.bind getM<;>rfl))
theorem gj(at_:Nat->Option Value):∀ (ks:List K) (o:Nat) {R:Type} (c:List Value->Option R),eu at_ o ks c=(eu at_ o ks some).bind c
 | [],_,_,_=>rfl
 | k :: ks,o,R,c=>by
  simp only [eu]
  rw [kr,kr (R:=List Value) k (at_ o) (λv=>eu at_ (o+1) ks λvs=>some (v :: vs))]
  cases fL k (at_ o) some with
  | none=>rfl
  | some v=>
   simp only [aJ]
   rw [gj at_ ks,gj at_ ks (o+1) (λvs=>some (v :: vs))]
   cases eu at_ (o+1) ks some<;>rfl
theorem lU(sh:Bool×List K)(v:Option Value)(c:Value->Option R):lO sh v c=(lO sh v some).bind c:=by
 obtain ⟨b,ks⟩:=sh
 cases b with
 | true=>
  simp only [lO]
  cases v.bind (ig ks.length) with
  | none=>rfl
  | some l=>
   simp only [aJ]
   rw [gj,gj (λi=>l[i]?) ks 0 (λvs=>some (Value.agg vs.toArray))]
   cases eu (λi=>l[i]?) 0 ks some<;>rfl
 | false=>
  match ks with
  | [k]=>exact kr k v c
  | []=>rfl
  | _ :: _ :: _=>rfl
theorem kY(l:List Value):∀ (ZR:List (Bool×List K)) (o:Nat) {R:Type} (c:List Value->Option R),jv l o ZR c=(jv l o ZR some).bind c
 | [],_,_,_=>rfl
 | k :: ks,o,R,c=>by
  simp only [jv]
  rw [lU,lU (R:=List Value) k l[o]? (λv=>jv l (o+1) ks λvs=>some (v :: vs))]
  cases lO k l[o]? some with
  | none=>rfl
  | some v=>
   simp only [aJ]
   rw [kY l ks,kY l ks (o+1) (λvs=>some (v :: vs))]
   cases jv l (o+1) ks some<;>rfl
theorem iw(rs:List (Bool×List K))(v:Value)(c:Value->Option R):fU rs v c=(fU rs v some).bind c:=by
 match rs with
 | []=>simp only [fU];cases cM 0 v<;>rfl
 | [sh]=>exact lU sh (some v) c
 | sh :: ZS :: r=>
  simp only [fU]
  cases cM (sh :: ZS :: r).length v with
  | none=>rfl
  | some l=>
   simp only [aJ]
   rw [kY,kY l (sh :: ZS :: r) 0 (λxs=>some (Value.tuple xs.toArray))]
   cases jv l 0 (sh :: ZS :: r) some<;>rfl
theorem Bw(E:Env)(t:Nat)(h:AH)(b o:Nat)(c:Value->Option R):load E t h b o c=(load E t h b o some).bind c:=by
 unfold load
 cases E.ti t with
 | none=>rfl
 | some i=>
  simp only
  cases i.agg with
  | true=>
   simp only
   rw [gj,gj (cell h b) i.ks o (λvs=>some (Value.agg vs.toArray))]
   cases eu (cell h b) o i.ks some<;>rfl
  | false=>
   simp only
   match i.ks with
   | [k]=>exact kr k _ c
   | []=>rfl
   | _ :: _ :: _=>rfl
theorem JT(op:BinOp)(k:IntKind)(m n:Int)(c:Value->Option R):HG op k m n c=(HG op k m n some).bind c:=by
 cases op<;>simp only [HG]<;>first|rfl|(split<;>rfl)
theorem JU(op:BinOp)(m n:ByteArray)(c:Value->Option R):HH op m n c=(HH op m n some).bind c:=by
 cases op<;>simp only [HH]<;>first|rfl|(split<;>rfl)
theorem Bx(op:BinOp)(i:TI)(a b:Value)(c:Value->Option R):Jl op i a b c=(Jl op i a b some).bind c:=by
 unfold Jl
 split
 ·split
  ·split<;>rfl
  ·split<;>rfl
  ·split
   ·exact JT _ _ _ _ c
   ·rfl
 ·exact JU _ _ _ c
 ·cases mw .bool i with
  | false=>rfl
  | true=>simp only [cond_true];split<;>rfl
 ·rfl
theorem Gs(op:UnOp)(a:Value)(c:Value->Option R):ZC op a c=(ZC op a some).bind c:=by
 unfold ZC;split<;>rfl
theorem uF:∀ (vs:List Value) (v:Value) (c:Value->Option R),yr v vs c=(yr v vs some).bind c
 | [],v,c=>by cases v<;>rfl
 | u :: r,v,c=>by
  simp only [yr]
  split
  ·exact uF r _ c
  ·rfl
theorem uG:∀ (vs:List Value) (v:Value) (c:Value->Option R),yt v vs c=(yt v vs some).bind c
 | [],v,c=>by cases v<;>rfl
 | u :: r,v,c=>by
  simp only [yt]
  split
  ·exact uG r _ c
  ·rfl
theorem iy{α:Type}(x:Option Value)(h:AH)(c:Value->AH->Option R):(x.bind λv=>c v h)=((x.bind λv=>some (v,h)).bind λp=>c p.1 p.2):=by cases x<;>rfl
theorem HW(E:Env)(ts:List Nat)(vs:List Value)(h:AH)(c:Value->AH->Option R):uz E ts vs h c=(uz E ts vs h λv h=>some (v,h)).bind λp=>c p.1 p.2:=by
 unfold uz
 split
 ·split
  ·split
   ·cases lN _<;>rfl
   ·cases mw .str _<;>rfl
   ·rfl
  ·rfl
 ·rfl
theorem yH(x:Option (Value×AH))(c:Value->AH->Option R):(x.bind λp=>fL .slice (some p.1) λv=>c v p.2)=(x.bind λp=>fL .slice (some p.1) λv=>some (v,p.2)).bind λp=>c p.1 p.2:=by
 cases x with
 | none=>rfl
 | some p=>
  simp only [aJ]
  rw [kr,kr (c:=λv=>some (v,p.2))]
  exact iy (α:=Unit) _ _ _
theorem yI(E:Env)(ts:List Nat)(vs:List Value)(h:AH)(c:Value->AH->Option R):lP E ts vs h c=(lP E ts vs h λv h=>some (v,h)).bind λp=>c p.1 p.2:=by
 unfold lP
 split
 ·split
  ·split
   ·refine cn ?_
    split
    ·split
     ·exact cn (yH _ c)
     ·exact cn (yH _ c)
     ·refine cn ?_
      split
      ·exact yH _ c
      ·rfl
     ·rfl
    ·rfl
   ·rfl
  ·rfl
 ·rfl
end
variable{g h h':AH}{a:Act}{L:Array Bool}{ops:Array Oper}{E:Env}{p:List Nat}{b base i j k m n t x:Nat}{Bf:Nat->Nat}{φ:Nat->Nat×Nat}{o oj:Oper}{P:Program}{rec:Rec}{R:Type}{v:Value}{w:World}{s s':az}
theorem kG(E:Env)(rec:Rec)(o:Op)(s:az)(h:AH)(c:Value->AH->Option R):
  bG E rec o s h c=(bG E rec o s h λv h=>some (v,h)).bind λp=>c p.1 p.2:=by
 cases o<;>simp only [bG]<;>try rfl
 case move=>split<;>rfl
 case assign=>split<;>rfl
 case pick=>(split<;>try rfl)<;>(split<;>split<;>rfl)
 case alloc=>split<;>rfl
 case box=>
  split
  ·split
   ·cases bg _ _<;>rfl
   ·rfl
  ·rfl
 case build=>
  split
  ·refine cn ?_
   split<;>rfl
  ·rfl
 case buildSlice=>
  split
  ·split
   ·refine cn ?_
    split<;>rfl
   ·rfl
  ·rfl
 case load=>
  split
  ·rw [Bw,Bw (c:=λv=>some (v,h))];exact iy (α:=Unit) _ _ _
  ·rfl
 case store=>
  split
  ·split
   ·refine cn ?_
    cases wr _ _ _ _ _<;>rfl
   ·rfl
  ·rfl
 case nilCheck=>
  split
  ·rename_i a _;cases a<;>rfl
  ·rfl
  ·rfl
 case binOp=>
  split
  ·rw [Bx,Bx (c:=λv=>some (v,h))];exact iy (α:=Unit) _ _ _
  ·rfl
 case unOp=>
  split
  ·rw [Gs,Gs (c:=λv=>some (v,h))];exact iy (α:=Unit) _ _ _
  ·rfl
 case convert=>
  split
  ·refine Y0 ?_
   split<;>rfl
  ·refine cn ?_
   split
   ·refine cn ?_
    cases (br _ _ _).bind N4<;>rfl
   ·rfl
  ·rfl
 case makeSlice=>
  split
  ·split
   ·refine Y0 ?_
    split<;>rfl
   ·rfl
  ·rfl
 case slice t x lo hi mx=>
  cases mx with
  | some m=>rfl
  | none=>
   simp only
   split
   ·split
    ·refine Y0 ?_
     split<;>rfl
    ·rfl
   ·split
    ·split
     ·split
      ·refine Y0 ?_
       split<;>rfl
      ·rfl
     ·rfl
    ·rfl
   ·rfl
 case fieldAddr=>
  split
  ·split
   ·split
    ·exact cn rfl
    ·rfl
   ·rfl
  ·rfl
 case field=>
  split
  ·split
   ·split
    ·rename_i j _
     cases j.agg with
     | true=>exact cn rfl
     | false=>simp only;split<;>rfl
    ·rfl
   ·rfl
  ·rfl
 case indexAddr=>
  split
  ·split
   ·refine Y0 ?_
    split
    ·rw [Option.bind_assoc];rfl
    ·rfl
   ·rfl
  ·split
   ·refine cn ?_
    split<;>rfl
   ·rfl
  ·rfl
 case index=>
  split
  ·refine Y0 ?_
   split<;>rfl
  ·rfl
 case extract=>
  split
  ·split<;>rfl
  ·rfl
 case makeFunc=>split<;>rfl
 case makeMap t x=>
  cases x with
  | some x=>rfl
  | none=>
   simp only
   split
   ·exact cn rfl
   ·rfl
 case lookup t x y ok=>
  cases ok with
  | false=>rfl
  | true=>
   simp only
   split
   ·split
    ·refine cn ?_
     cases Bi _ _<;>rfl
    ·rfl
   ·rfl
 case mapUpdate=>
  split
  ·split
   ·refine cn ?_
    cases Bi _ _<;>rfl
   ·rfl
  ·rfl
 case call cc=>
  split
  ·split
   ·unfold pd
    split
    ·exact HW _ _ _ _ c
    ·split
     ·rw [uF,uF (c:=λv=>some (v,h))];exact iy (α:=Unit) _ _ _
     ·rfl
    ·split
     ·rw [uG,uG (c:=λv=>some (v,h))];exact iy (α:=Unit) _ _ _
     ·rfl
    ·exact yI _ _ _ _ c
    ·rfl
   ·split
    ·split
     ·rename_i rs _
      cases rec _ _ _ with
      | none=>rfl
      | some p=>
       simp only [aJ]
       rw [iw,iw (c:=λv=>some (v,p.2))];exact iy (α:=Unit) _ _ _
     ·refine cn ?_
      unfold OL
      split<;>rfl
    ·rfl
   ·rfl
  ·rfl
def uH(o:Op):List Nat:=o.operands.toList.filterMap fun|.tmp t=>some t|_=>none
theorem bP{x:Operand}(h:∀ t,x = .tmp t->ay s t=ay s' t):ev s x=ev s' x:=by
 cases x with
 | tmp t=>exact h t rfl
 | _=>rfl
theorem lV{s s':az}:∀ {xs:List Operand},(∀ t,Operand.tmp t∈xs->ay s t=ay s' t)->uy s xs=uy s' xs
 | [],_=>rfl
 | x :: r,h=>by
  simp only [uy]
  rw [bP (s:=s) (s':=s') (x:=x) (λt e=>h t (by rw [e];exact mL ..)),lV (xs:=r) λt ht=>h t (yJ _ ht)]
theorem rO{s s':az}:∀ {xs:List (Nat×Operand)},(∀ t,Operand.tmp t∈xs.map (·.2)->ay s t=ay s' t)->N5 s xs=N5 s' xs
 | [],_=>rfl
 | (i,x) :: r,h=>by
  simp only [N5]
  rw [bP (s:=s) (s':=s') (x:=x) (λt e=>h t (by rw [e];simp)),rO (xs:=r) λt ht=>h t (by simp at ht ⊢;exact .inr ht)]
theorem uI{o:Op}:t∈uH o↔Operand.tmp t∈o.operands.toList:=by
 unfold uH
 rw [List.mem_filterMap]
 constructor
 ·rintro ⟨x,hx,he⟩
  cases x<;>simp at he
  subst he;exact hx
 ·intro h;exact ⟨_,h,rfl⟩
theorem sV{x:Option Operand}{d:Int}(h:∀ t,x=some (.tmp t)->ay s t=ay s' t):kE s x d=kE s' x d:=by
 cases x with
 | none=>rfl
 | some y=>
  simp only [kE]
  rw [bP (s:=s) (s':=s') (x:=y) λt e=>h t (by rw [e])]
theorem mM(E:Env)(rec:Rec)(o:Op)(h:AH)(c:Value->AH->Option R)(hs:∀ t,t∈uH o->ay s t=ay s' t):bG E rec o s h c=bG E rec o s' h c:=by
 simp only [uI] at hs
 cases o<;>simp only [bG]<;>try rfl
 case move x=>rw [bP (s:=s) (s':=s') (x:=x) λt e=>hs t (by simp [cw,e])]
 case assign x=>rw [bP (s:=s) (s':=s') (x:=x) λt e=>hs t (by simp [cw,e])]
 case pick b x y=>rw [bP (s:=s) (s':=s') (x:=b) λt e=>hs t (by simp [cw,e]),bP (s:=s) (s':=s') (x:=x) λt e=>hs t (by simp [cw,e]),bP (s:=s) (s':=s') (x:=y) λt e=>hs t (by simp [cw,e])]
 case box t x=>rw [bP (s:=s) (s':=s') (x:=x) λt e=>hs t (by simp [cw,e])]
 case build t ps=>rw [rO (s:=s) (s':=s') λt e=>hs t (by simpa [cw] using e)]
 case buildSlice t n ps=>rw [rO (s:=s) (s':=s') λt e=>hs t (by simpa [cw] using e)]
 case load t a=>rw [bP (s:=s) (s':=s') (x:=a) λt e=>hs t (by simp [cw,e])]
 case store t a x=>rw [bP (s:=s) (s':=s') (x:=a) λt e=>hs t (by simp [cw,e]),bP (s:=s) (s':=s') (x:=x) λt e=>hs t (by simp [cw,e])]
 case nilCheck x=>rw [bP (s:=s) (s':=s') (x:=x) λt e=>hs t (by simp [cw,e])]
 case binOp op t x y _=>rw [bP (s:=s) (s':=s') (x:=x) λt e=>hs t (by simp [cw,e]),bP (s:=s) (s':=s') (x:=y) λt e=>hs t (by simp [cw,e])]
 case unOp op t x=>rw [bP (s:=s) (s':=s') (x:=x) λt e=>hs t (by simp [cw,e])]
 case convert a b x=>rw [bP (s:=s) (s':=s') (x:=x) λt e=>hs t (by simp [cw,e])]
 case makeSlice t l m=>rw [bP (s:=s) (s':=s') (x:=l) λt e=>hs t (by simp [cw,e]),bP (s:=s) (s':=s') (x:=m) λt e=>hs t (by simp [cw,e])]
 case slice t x lo hi mx=>
  cases mx with
  | some m=>rfl
  | none=>
   simp only
   have hl:∀ d,kE s lo d=kE s' lo d:=λd=>sV λt e=>hs t (by simp [cw,e])
   have hh:∀ d,kE s hi d=kE s' hi d:=λd=>sV λt e=>hs t (by simp [cw,e])
   simp only [hl,hh]
   rw [bP (s:=s) (s':=s') (x:=x) λt e=>hs t (by simp [cw,e])]
 case fieldAddr t x f=>rw [bP (s:=s) (s':=s') (x:=x) λt e=>hs t (by simp [cw,e])]
 case field t x f=>rw [bP (s:=s) (s':=s') (x:=x) λt e=>hs t (by simp [cw,e])]
 case indexAddr t x i=>rw [bP (s:=s) (s':=s') (x:=x) λt e=>hs t (by simp [cw,e]),bP (s:=s) (s':=s') (x:=i) λt e=>hs t (by simp [cw,e])]
 case index t x i=>rw [bP (s:=s) (s':=s') (x:=x) λt e=>hs t (by simp [cw,e]),bP (s:=s) (s':=s') (x:=i) λt e=>hs t (by simp [cw,e])]
 case makeMap t x=>
  cases x with
  | some x=>rfl
  | none=>rfl
 case lookup t x i ok=>
  cases ok with
  | false=>rfl
  | true=>
   simp only
   rw [bP (s:=s) (s':=s') (x:=x) λt e=>hs t (by simp [cw,e]),bP (s:=s) (s':=s') (x:=i) λt e=>hs t (by simp [cw,e])]
 case mapUpdate t x i y=>rw [bP (s:=s) (s':=s') (x:=x) λt e=>hs t (by simp [cw,e]),bP (s:=s) (s':=s') (x:=i) λt e=>hs t (by simp [cw,e]),bP (s:=s) (s':=s') (x:=y) λt e=>hs t (by simp [cw,e])]
 case extract x i=>rw [bP (s:=s) (s':=s') (x:=x) λt e=>hs t (by simp [cw,e])]
 case makeFunc f p q=>rw [lV (s:=s) (s':=s') (xs:=p.toList) λt e=>hs t (by simp [cw];exact .inl (by simpa using e)),lV (s:=s) (s':=s') (xs:=q.toList) λt e=>hs t (by simp [cw];exact .inr (by simpa using e))]
 case call cc=>
  obtain ⟨callee,xs,ts⟩:=cc
  have hx:uy s xs.toList=uy s' xs.toList:=lV λt e=>hs t (by cases callee<;>simp [cw,Call.operands]<;>first|exact (by simpa using e)|exact .inr (by simpa using e))
  cases callee with
  | builtin b=>simp only [hx]
  | invoke r n=>simp only [hx]
  | value f=>
   simp only [hx]
   rw [bP (s:=s) (s':=s') (x:=f) λt e=>hs t (by simp [cw,Call.operands,e])]
theorem HX(E:Env)(rec:Rec)(fn:Fn)(as:List Value)(h:AH)(rs:List (Bool×List K))(c:Value->AH->Option R):
  ((nl E rec fn as h).bind λr=>fU rs r.1 λv=>c v r.2)=((nl E rec fn as h).bind λr=>fU rs r.1 λv=>some (v,r.2)).bind λp=>c p.1 p.2:=by
 cases nl E rec fn as h with
 | none=>rfl
 | some p=>
  simp only [aJ]
  rw [iw,iw (c:=λv=>some (v,p.2))]
  exact iy (α:=Unit) _ _ _
theorem O6(E:Env)(rec:Rec)(o:Oper)(s:az)(h:AH)(c:Value->AH->Option R):
  tT E rec o s h c=(tT E rec o s h λv h=>some (v,h)).bind λp=>c p.1 p.2:=by
 unfold tT
 split
 ·exact kG E rec o.op s h c
 ·split
  ·exact HX E rec _ _ h _ c
  ·rfl
theorem qG{o:Op}{xs:List Operand}(h:tS o=some (t,xs)):∃ cc,o = .call cc/\cc.callee = .value (.tmp t)/\cc.args.toList=xs:=by
 unfold tS at h
 split at h
 ·rename_i c
  split at h
  ·rename_i t' hc
   injection h with h
   injection h with h1 h2
   subst h1
   exact ⟨c,rfl,hc,h2⟩
  ·cases h
 ·cases h
theorem HY(E:Env)(rec:Rec)(o:Oper)(h:AH)(c:Value->AH->Option R)(hs:∀ t,t∈uH o.op->ay s t=ay s' t):tT E rec o s h c=tT E rec o s' h c:=by
 unfold tT
 split
 ·exact mM E rec o.op h c hs
 ·rename_i t xs ht
  obtain ⟨cc,e1,e2,e3⟩:=qG ht
  simp only [uI] at hs
  rw [e1] at hs
  have h1:ay s t=ay s' t:=hs t (by simp [cw,Call.operands,e2])
  have h2:uy s xs=uy s' xs:=lV λu hu=>hs u (by
   rw [<- e3] at hu
   simp [cw,Call.operands,e2]
   exact .inr (by simpa using hu))
  rw [h1,h2]
theorem Rc(E:Env)(rec:Rec)(o:Op)(s:az)(h g:AH)(c:Value->AH->Option R)(hc:cl o = .pure):bG E rec o s h c=bG E rec o s g (λv _=>c v h):=by
 cases o<;>simp only [bG]<;>try rfl
 case load=>simp [cl] at hc
 case alloc=>simp [cl] at hc
 case box=>simp [cl] at hc
 case buildSlice=>simp [cl] at hc
 case makeSlice=>simp [cl] at hc
 case store=>simp [cl] at hc
 case makeMap=>simp [cl] at hc
 case lookup=>simp [cl] at hc
 case mapUpdate=>simp [cl] at hc
 case convert src dst x=>
  have hq:bg dst 9=false:=by
   cases hq:bg dst 9 with
   | false=>rfl
   | true=>simp [cl,hq] at hc
  simp only [hq,Bool.false_and,cond_false]
 case slice t x lo hi mx=>
  cases mx with
  | some m=>rfl
  | none=>
   cases lo with
   | some l=>simp [cl] at hc
   | none=>
    simp only [kE]
    split
    ·rfl
    ·split
     ·split
      ·split
       ·rename_i hq _
        injection hq with hq
        subst hq
        have e:∀ g ad t,jZ E.base g ad t (Int.toNat 0)=true:=λg ad t=>rfl
        simp only [e]
       ·rfl
      ·rfl
     ·rfl
    ·rfl
 case call cc=>
  obtain ⟨callee,xs,ts⟩:=cc
  cases callee with
  | invoke=>simp [cl] at hc
  | value=>simp [cl] at hc
  | builtin b=>
   simp only
   split
   ·cases b<;>first|(simp [cl] at hc;done)|skip
    ·simp only [pd,uz]
    ·rfl
    ·rfl
   ·rfl
theorem xv{o:Op}(hc:cl o = .pure)(hx:bG E rec o s h (λv h=>some (v,h))=some (v,h')):
  h'=h/\∀ g,bG E rec o s g (λv h=>some (v,h))=some (v,g):=by
 have key:∀ g,∃ p2,bG E rec o s g (λv h=>some (v,h))=some (v,p2)/\h'=h/\p2=g:=by
  intro g
  rw [Rc E rec o s h g _ hc,kG] at hx
  cases hp:bG E rec o s g (λv h=>some (v,h)) with
  | none=>rw [hp] at hx;cases hx
  | some p=>
   obtain ⟨p1,p2⟩:=p
   rw [hp] at hx
   simp only [aJ] at hx
   injection hx with hx
   injection hx with h1 h2
   subst h1
   refine ⟨p2,rfl,h2.symm,?_⟩
   have:=hp
   rw [Rc E rec o s g g _ hc,kG,hp] at this
   simp only [aJ] at this
   injection this with this
   injection this with _ h3
   exact h3.symm
 obtain ⟨_,_,h1,_⟩:=key h
 refine ⟨h1,λg=>?_⟩
 obtain ⟨p2,h2,_,h3⟩:=key g
 rw [h2,h3]
theorem uJ{a b c:AH}{o:Nat}(h:same a b x o n)(k:same b c x o n):same a c x o n:=⟨λj hj=>(h.1 j hj).trans (k.1 j hj),h.2.trans k.2⟩
theorem pj(a:AH)(x o n:Nat):same a a x o n:=⟨λ_ _=>rfl,rfl⟩
theorem HZ{a b:AH}{o:Nat}(h:same a b x o n):same b a x o n:=⟨λj hj=>(h.1 j hj).symm,h.2.symm⟩
theorem om{R:Type}{at1 at2:Nat->Option Value}:∀ (ks:List K) (o:Nat) (c:List Value->Option R),(∀ j,j<ks.length->at1 (o+j)=at2 (o+j))->eu at1 o ks c=eu at2 o ks c
 | [],_,_,_=>rfl
 | k :: ks,o,c,h=>by
  simp only [eu]
  rw [show at1 o=at2 o from h 0 (by simp)]
  congr 1
  funext v
  exact om ks (o+1) _ λj hj=>by
   have:=h (j+1) (by simp;omega)
   rw [show o+1+j=o+(j+1) from by omega];exact this
theorem EK{ti:TI}(ht:E.ti t=some ti){o:Nat}(c:Value->Option R)(hs:same h g b o ti.ks.length):load E t h b o c=load E t g b o c:=by
 unfold load
 rw [ht]
 simp only
 cases ti.agg with
 | true=>exact om _ _ _ hs.1
 | false=>
  simp only
  split
  ·rename_i k hk
   have:=hs.1 0 (by rw [hk];simp)
   rw [mG] at this
   rw [this]
  ·rfl
theorem EL{ad:Addr}{l:Nat}(hs:(bD h ad.block).map (·.ty)=(bD g ad.block).map (·.ty)):jZ base h (some ad) t l=jZ base g (some ad) t l:=by
 unfold jZ
 congr 1
 simp only
 congr 1
 cases hh:bD h ad.block<;>cases hg:bD g ad.block<;>rw [hh,hg] at hs<;>simp at hs
 simp only [hs]
theorem Re{o:Op}{ra:Option Addr×Nat}(c:Value->AH->Option R)(hc:cl o = .read)(hr:pY E s o=some ra)(hs:bc h g ra.1 ra.2):
  bG E rec o s h c=bG E rec o s g (λv _=>c v h):=by
 cases o<;>first|(simp [cl] at hc;done)|(simp only [cl] at hc;revert hc;cases bg _ 9<;>(intro hc;cases hc);done)|skip
 case load t a=>
  simp only [bG]
  simp only [pY] at hr
  split at hr
  ·rename_i p ti h1 h2
   injection hr with hr
   subst hr
   rw [h1]
   cases p with
   | none=>rfl
   | some ad=>exact EK h2 _ (hs ad rfl)
  ·cases hr
 case slice t x lo hi mx=>
  cases mx with
  | some m=>rfl
  | none=>
   simp only [bG]
   simp only [pY] at hr
   split at hr
   ·rename_i ad n c0 h1
    injection hr with hr
    subst hr
    rw [h1]
    simp only
    have e:∀ t l,jZ E.base h ad t l=jZ E.base g ad t l:=λt l=>by
     cases ad with
     | none=>rfl
     | some ad=>exact EL (hs ad rfl).2
    simp only [e]
   ·rename_i v h1
    rw [h1]
   ·cases hr
 case call cc=>
  obtain ⟨callee,xs,ts⟩:=cc
  cases callee with
  | builtin b=>cases b<;>simp [cl] at hc
  | _=>simp [cl] at hc
theorem rP{o:Op}{ra:Option Addr×Nat}(hc:cl o = .read)(hr:pY E s o=some ra)(hx:bG E rec o s h (λv h=>some (v,h))=some (v,h')):
  h'=h/\∀ g,bc h g ra.1 ra.2->bG E rec o s g (λv h=>some (v,h))=some (v,g):=by
 have key:∀ g,bc h g ra.1 ra.2->∃ p2,bG E rec o s g (λv h=>some (v,h))=some (v,p2)/\h'=h/\p2=g:=by
  intro g hs
  rw [Re _ hc hr hs,kG] at hx
  cases hp:bG E rec o s g (λv h=>some (v,h)) with
  | none=>rw [hp] at hx;cases hx
  | some p=>
   obtain ⟨p1,p2⟩:=p
   rw [hp] at hx
   simp only [aJ] at hx
   injection hx with hx
   injection hx with h1 h2
   subst h1
   refine ⟨p2,rfl,h2.symm,?_⟩
   have:=hp
   rw [Re _ hc hr (λad _=>pj g ad.block ad.off ra.2),kG,hp] at this
   simp only [aJ] at this
   injection this with this
   injection this with _ h3
   exact h3.symm
 obtain ⟨_,_,h1,_⟩:=key h λ_ _=>pj ..
 refine ⟨h1,λg hs=>?_⟩
 obtain ⟨p2,h2,_,h3⟩:=key g hs
 rw [h2,h3]
theorem qc{o:Op}(hc:cl o = .fresh)(hx:bG E rec o s h (λv h=>some (v,h))=some (v,h')):∃ k,h'=h++[some k]:=by
 cases o<;>first|(simp [cl] at hc;done)|(simp only [cl] at hc;revert hc;cases bg _ 9<;>(intro hc;cases hc);done)|skip
 case alloc t=>
  simp only [bG] at hx
  split at hx
  ·injection hx with hx;injection hx with _ hx;exact ⟨_,hx.symm⟩
  ·cases hx
 case box t x=>
  simp only [bG] at hx
  split at hx
  ·split at hx
   ·rename_i i _
    cases hb:bg (cells _).length i.ks.length with
    | false=>rw [hb] at hx;cases hx
    | true=>rw [hb] at hx;injection hx with hx;injection hx with _ hx;exact ⟨_,hx.symm⟩
   ·cases hx
  ·cases hx
 case buildSlice t n ps=>
  simp only [bG] at hx
  split at hx
  ·split at hx
   ·rename_i vs i _ _ _ j _
    cases hb:(lN i&&cx 0 j.ks.length&&dC (n*j.ks.length) 16777216) with
    | false=>rw [hb] at hx;cases hx
    | true=>
     rw [hb] at hx
     simp only [cond_true] at hx
     split at hx
     ·injection hx with hx;injection hx with _ hx;exact ⟨_,hx.symm⟩
     ·cases hx
   ·cases hx
  ·cases hx
 case makeSlice t l m=>
  simp only [bG] at hx
  split at hx
  ·split at hx
   ·rename_i i _ _ _ _ j _
    cases hb:(!(lN i&&cx 0 j.ks.length)) with
    | true=>rw [hb] at hx;cases hx
    | false=>
     rw [hb] at hx
     simp only [cond_false] at hx
     split at hx
     ·injection hx with hx;injection hx with _ hx;exact ⟨_,hx.symm⟩
     ·cases hx
   ·cases hx
  ·cases hx
 case slice t x lo hi mx=>cases lo<;>simp [cl] at hc
 case call cc=>
  obtain ⟨callee,xs,ts⟩:=cc
  cases callee with
  | builtin b=>cases b<;>simp [cl] at hc
  | _=>simp [cl] at hc
theorem H4{c:Value->AH->Option R}(hc:cl o.op = .fresh):tT E rec o s h c=bG E rec o.op s h c:=by
 unfold tT
 split
 ·rfl
 ·rename_i t xs ht
  obtain ⟨cc,e1,e2,_⟩:=qG ht
  rw [e1] at hc
  simp [cl,e2] at hc
theorem rQ:∀ (s:az) (d:Nat) (v:Value),ay s d=some v->pX s d (some v)=s
 | [],_,_,h=>rfl
 | x :: r,0,v,h=>by simp only [ay] at h;rw [h];rfl
 | x :: r,d+1,v,h=>by simp only [pX];rw [rQ r d v h]
section
variable {P:Program} {base:Nat} {φ:Nat->Nat×Nat} {n:Nat} {w:World} {s:az} {a:Act}
def gv(ops:List Oper)(o:Oper)(s:az)(b:Bool):Prop:=match o.guard with
 | none=>b=true
 | some (j,want)=>∃ d,(ops[j]?).bind (·.dst)=some d/\((∃ x,ay s d=some (.bool x)/\b=decide (x=want))\/((∃ x,ay s d=some (.tuple x))/\b=false))
theorem qH{ops:List Oper}{OM no:az->Option R}{r:R}(h:guarded ops o s OM no=some r):(gv ops o s true/\OM s=some r)\/(gv ops o s false/\no s=some r):=by
 unfold guarded at h
 unfold gv
 cases hg:o.guard with
 | none=>rw [hg] at h;exact .inl ⟨rfl,h⟩
 | some p=>
  obtain ⟨j,want⟩:=p
  rw [hg] at h
  simp only at h ⊢
  cases hd:(ops[j]?).bind (·.dst) with
  | none=>rw [hd] at h;cases h
  | some d=>
   rw [hd] at h
   simp only at h
   split at h
   ·rename_i b hb
    cases b with
    | true=>
     rw [if_pos rfl,rQ _ _ _ hb] at h
     cases want with
     | true=>exact .inl ⟨⟨d,rfl,.inl ⟨true,hb,rfl⟩⟩,h⟩
     | false=>exact .inr ⟨⟨d,rfl,.inl ⟨true,hb,rfl⟩⟩,h⟩
    | false=>
     rw [if_neg (by decide),rQ _ _ _ hb] at h
     cases want with
     | true=>exact .inr ⟨⟨d,rfl,.inl ⟨false,hb,rfl⟩⟩,h⟩
     | false=>exact .inl ⟨⟨d,rfl,.inl ⟨false,hb,rfl⟩⟩,h⟩
   ·rename_i x hx
    exact .inr ⟨⟨d,rfl,.inr ⟨⟨x,hx⟩,by trivial⟩⟩,h⟩
   ·cases h
theorem rR{b:Bool}(hs:SR P base φ n w s a)(h:gv ops.toList o s b):mN o (yielded ops a.tmps)=b:=by
 unfold gv at h
 unfold mN
 cases hg:o.guard with
 | none=>rw [hg] at h;exact h.symm
 | some p=>
  obtain ⟨j,want⟩:=p
  rw [hg] at h
  simp only at h ⊢
  obtain ⟨d,hd,Gh⟩:=h
  have hd':(ops[j]?).bind (·.dst)=some d:=by simpa using hd
  unfold yielded
  rw [hd']
  simp only [aJ]
  rcases Gh with ⟨x,hx,rfl⟩|⟨⟨x,hx⟩,rfl⟩
  ·have aS:=pf _ _ _ hx
   rw [hs.len] at aS
   have hv:=(hs.get d _ hx).lR
   rw [Z6,eZ aS] at hv
   rw [eZ aS]
   simp only [tV] at hv
   rw [hv]
   cases x<;>cases want<;>rfl
  ·have aS:=pf _ _ _ hx
   rw [hs.len] at aS
   have hv:=(hs.get d _ hx)
   rw [Z6,eZ aS] at hv
   rw [eZ aS]
   simp only [tV] at hv
   generalize a.tmps[d]=u at hv ⊢
   cases hv
   cases want<;>rfl
end
section
variable {R:Type} {E:Env} {w0:World} {Q:Exit->Act->World->Prop} {r:R} {rec:Rec}
theorem oq(hE:dq E)(iD:nr E w0 rec)(ops:Array Oper)(c:az->AH->Option R):∀ (l:List Oper) (s:az) (h:AH) (a:Act) (w:World) (φ:Nat->Nat×Nat),
  pM E rec ops.toList l s h c=some r->SR E.P E.base φ h.length w s a->HR E.P E.base w0 φ h w ->
  (∀ s' h' bN a' w',c s' h'=some r->Ext φ h w bN h' w'->HR E.P E.base w0 bN h' w'->SR E.P E.base bN h'.length w' s' a'->Q .normal a' w')->wpList E.P ops Q l a w
 | [],s,h,a,w,φ,hx,hs,hh,hQ=>hQ s h φ a w hx (Ext.refl ..) hh hs
 | o :: l,s,h,a,w,φ,hx,hs,hh,hQ=>by
  simp only [pM] at hx
  rcases qH hx with ⟨hg,hx⟩|⟨hg,hx⟩
  ·have hw:=rR hs hg
   simp only [wpList,hw,if_true]
   refine .inl (xu hE iD o hx hs hh λv h' bN u w' hc e1 e2 e3=>?_)
   exact oq hE iD ops c l _ h' _ w' bN hc ((hs.ext e1).put o.dst e3) e2 λs2 h2 vY a2 w2 q1 q2 q3 q4=>hQ s2 h2 vY a2 w2 q1 (e1.trans q2) q3 q4
  ·have hw:=rR hs hg
   simp only [wpList,hw]
   exact oq hE iD ops c l _ h _ w φ hx (hs.put o.dst lS) hh hQ
end
abbrev pair:Value->AH->Option (Value×AH):=λv h=>some (v,h)
structure St where
 s:az
 h:AH
 hi:List (Nat×AH)
 pe:List (Nat×Option Addr×Nat)
 an:List (Nat×Nat)
inductive qI (E:Env) (rec:Rec) (ops:List Oper) (bf:List Nat) (b j:Nat) (o:Oper) (A B:St):Option Value->Prop
 | skip (g:gv ops o A.s false) (e:B=⟨gO A.s o.dst (some undef),A.h,A.hi,A.pe,A.an⟩):qI E rec ops bf b j o A B none
 | pure (v:Value) (g:gv ops o A.s true) (k:cl o.op = .pure) (x:bG E rec o.op A.s A.h pair=some (v,B.h)) (e:B=⟨gO A.s o.dst (some v),B.h,A.hi,A.pe,A.an⟩):qI E rec ops bf b j o A B (some v)
 | fresh (v:Value) (g:gv ops o A.s true) (k:cl o.op = .fresh) (x:bG E rec o.op A.s A.h pair=some (v,B.h)) (ol:(dS b A.hi=true/\dS b A.an=true)\/Er ops bf j o.op=true)
   (g1:∀ i a n,(i,a,n)∈A.pe->b.testBit i=false->fP a A.h.length)
   (e:B=⟨gO A.s o.dst (some v),B.h,A.hi,A.pe,(j,A.h.length) :: A.an⟩):qI E rec ops bf b j o A B (some v)
 | read (v:Value) (a:Option Addr) (n:Nat) (g:gv ops o A.s true) (k:cl o.op = .read) (x:bG E rec o.op A.s A.h pair=some (v,B.h)) (ra:pY E A.s o.op=some (a,n))
   (g1:∀ k nm,(k,nm)∈A.an->b.testBit k=false->fP a nm) (g2:∀ k p,(k,p)∈A.hi->b.testBit k=false->bc p A.h a n)
   (e:B=⟨gO A.s o.dst (some v),B.h,A.hi,(j,a,n) :: A.pe,A.an⟩):qI E rec ops bf b j o A B (some v)
 | fZ (v:Value) (g:gv ops o A.s true) (k:cl o.op = .fZ) (x:tT E rec o A.s A.h pair=some (v,B.h)) (o1:dS b A.hi=true) (o2:dS b A.an=true)
   (g1:∀ i a n,(i,a,n)∈A.pe->b.testBit i=false->bc A.h B.h a n)
   (e:B=⟨gO A.s o.dst (some v),B.h,(j,A.h) :: A.hi,A.pe,A.an⟩):qI E rec ops bf b j o A B (some v)
theorem eY{p:Prop}{x:Option R}{r:R}(h:gate p x=some r):p/\x=some r:=by
 unfold gate at h
 split at h
 ·rename_i hp;exact ⟨hp,h⟩
 ·cases h
theorem kZ{R:Type}{bj:Nat}{b:Option Addr}{x:Option R}{r:R}:∀ {l:List (Nat×Nat)},nV bj b l x=some r->x=some r/\∀ k nm,(k,nm)∈l->bj.testBit k=false->fP b nm
 | [],h=>⟨h,λk nm hm _=>by cases hm⟩
 | (k,nm) :: l,h=>by
  simp only [nV] at h
  cases hb:bj.testBit k with
  | true=>
   rw [hb] at h
   obtain ⟨h1,h2⟩:=kZ h
   refine ⟨h1,λk' V2 hm hf=>?_⟩
   rcases bn.1 hm with e|hm
   ·injection e with e1 e2;subst e1;rw [hb] at hf;cases hf
   ·exact h2 k' V2 hm hf
  | false=>
   rw [hb] at h
   obtain ⟨hp,h⟩:=eY h
   obtain ⟨h1,h2⟩:=kZ h
   refine ⟨h1,λk' V2 hm hf=>?_⟩
   rcases bn.1 hm with e|hm
   ·injection e with e1 e2;subst e1;subst e2;exact hp
   ·exact h2 k' V2 hm hf
theorem k_{R:Type}{bj n:Nat}{b:Option Addr}{h0:AH}{x:Option R}{r:R}:∀ {l:List (Nat×AH)},nW bj h0 b n l x=some r->x=some r/\∀ k p,(k,p)∈l->bj.testBit k=false->bc p h0 b n
 | [],h=>⟨h,λk nm hm _=>by cases hm⟩
 | (k,p) :: l,h=>by
  simp only [nW] at h
  cases hb:bj.testBit k with
  | true=>
   rw [hb] at h
   obtain ⟨h1,h2⟩:=k_ h
   refine ⟨h1,λk' V2 hm hf=>?_⟩
   rcases bn.1 hm with e|hm
   ·injection e with e1 e2;subst e1;rw [hb] at hf;cases hf
   ·exact h2 k' V2 hm hf
  | false=>
   rw [hb] at h
   obtain ⟨hp,h⟩:=eY h
   obtain ⟨h1,h2⟩:=k_ h
   refine ⟨h1,λk' V2 hm hf=>?_⟩
   rcases bn.1 hm with e|hm
   ·injection e with e1 e2;subst e1;subst e2;exact hp
   ·exact h2 k' V2 hm hf
theorem lf{R:Type}{bj:Nat}{h0 h1:AH}{x:Option R}{r:R}:∀ {l:List (Nat×Option Addr×Nat)},nX bj h0 h1 l x=some r->x=some r/\∀ i b n,(i,b,n)∈l->bj.testBit i=false->bc h0 h1 b n
 | [],h=>⟨h,λi b n hm _=>by cases hm⟩
 | (i,b,n) :: l,h=>by
  simp only [nX] at h
  cases hb:bj.testBit i with
  | true=>
   rw [hb] at h
   obtain ⟨h1,h2⟩:=lf h
   refine ⟨h1,λi' b' n' hm hf=>?_⟩
   rcases bn.1 hm with e|hm
   ·injection e with e1 e2;subst e1;rw [hb] at hf;cases hf
   ·exact h2 i' b' n' hm hf
  | false=>
   rw [hb] at h
   obtain ⟨hp,h⟩:=eY h
   obtain ⟨h1,h2⟩:=lf h
   refine ⟨h1,λi' b' n' hm hf=>?_⟩
   rcases bn.1 hm with e|hm
   ·injection e with e1 e2
    injection e2 with e2 e3
    subst e1;subst e2;subst e3;exact hp
   ·exact h2 i' b' n' hm hf
theorem lg{R:Type}{bj nm:Nat}{x:Option R}{r:R}:∀ {l:List (Nat×Option Addr×Nat)},nY bj nm l x=some r->x=some r/\∀ i b n,(i,b,n)∈l->bj.testBit i=false->fP b nm
 | [],h=>⟨h,λi b n hm _=>by cases hm⟩
 | (i,b,n) :: l,h=>by
  simp only [nY] at h
  cases hb:bj.testBit i with
  | true=>
   rw [hb] at h
   obtain ⟨h1,h2⟩:=lg h
   refine ⟨h1,λi' b' n' hm hf=>?_⟩
   rcases bn.1 hm with e|hm
   ·injection e with e1 e2;subst e1;rw [hb] at hf;cases hf
   ·exact h2 i' b' n' hm hf
  | false=>
   rw [hb] at h
   obtain ⟨hp,h⟩:=eY h
   obtain ⟨h1,h2⟩:=lg h
   refine ⟨h1,λi' b' n' hm hf=>?_⟩
   rcases bn.1 hm with e|hm
   ·injection e with e1 e2
    injection e2 with e2 e3
    subst e2;exact hp
   ·exact h2 i' b' n' hm hf
theorem pn{o:Op}{c:Value->AH->Option R}{r:R}(hx:bG E rec o s h c=some r):∃ v h',bG E rec o s h pair=some (v,h')/\c v h'=some r:=by
 rw [kG] at hx
 cases hp:bG E rec o s h (λv h=>some (v,h)) with
 | none=>rw [hp] at hx;cases hx
 | some p=>rw [hp] at hx;exact ⟨p.1,p.2,rfl,hx⟩
theorem JV{c:Value->AH->Option R}{r:R}(hx:tT E rec o s h c=some r):∃ v h',tT E rec o s h pair=some (v,h')/\c v h'=some r:=by
 rw [O6] at hx
 cases hp:tT E rec o s h (λv h=>some (v,h)) with
 | none=>rw [hp] at hx;cases hx
 | some p=>rw [hp] at hx;exact ⟨p.1,p.2,rfl,hx⟩
theorem xw{R:Type}{E:Env}{rec:Rec}{ops:List Oper}{bf:List Nat}{c:az->AH->Option R}{r:R}:∀ (l:List Oper) (i:Nat) (s:az) (h:AH) (hi:List (Nat×AH)) (pe:List (Nat×Option Addr×Nat)) (an:List (Nat×Nat)),
  AX E rec ops bf l i s h hi pe an c=some r->∃ (T:Nat->St) (V:Nat->Option Value),T i=⟨s,h,hi,pe,an⟩/\c (T (i+l.length)).s (T (i+l.length)).h=some r /\
   ∀ k o,l[k]? = some o->qI E rec ops bf (bf.getD (i+k) 0) (i+k) o (T (i+k)) (T (i+k+1)) (V (i+k))
 | [],i,s,h,hi,pe,an,hx=>⟨λ_=>⟨s,h,hi,pe,an⟩,λ_=>none,rfl,hx,λk o ho=>by simp at ho⟩
 | o :: l,i,s,h,hi,pe,an,hx=>by
  have build:∀ (B:St) (v:Option Value),qI E rec ops bf (bf.getD i 0) i o ⟨s,h,hi,pe,an⟩ B v->AX E rec ops bf l (i+1) B.s B.h B.hi B.pe B.an c=some r ->
    ∃ (T:Nat->St) (V:Nat->Option Value),T i=⟨s,h,hi,pe,an⟩/\c (T (i+(o :: l).length)).s (T (i+(o :: l).length)).h=some r /\
     ∀ k o',(o :: l)[k]? = some o'->qI E rec ops bf (bf.getD (i+k) 0) (i+k) o' (T (i+k)) (T (i+k+1)) (V (i+k)):=by
   intro B v qB JW
   obtain ⟨T,V,h1,h2,h3⟩:=xw l (i+1) _ _ _ _ _ JW
   refine ⟨λj=>if j=i then ⟨s,h,hi,pe,an⟩ else T j,λj=>if j=i then v else V j,by simp,?_,?_⟩
   ·have e:i+(o :: l).length=i+1+l.length:=by simp;omega
    have dv:i+1+l.length≠i:=by omega
    simp only [e,dv,if_false]
    exact h2
   ·intro k o' hk
    cases k with
    | zero=>
     simp at hk
     subst hk
     simp only [mG,if_true]
     rw [if_neg (by omega),h1]
     exact qB
    | succ k=>
     simp only [mC] at hk
     have:=h3 k o' hk
     have e1:i+(k+1)=i+1+k:=by omega
     have n1:i+1+k≠i:=by omega
     have n2:i+1+k+1≠i:=by omega
     rw [e1]
     simp only [n1,n2,if_false]
     exact this
  simp only [AX] at hx
  rcases qH hx with ⟨hg,hx⟩|⟨hg,hx⟩
  ·cases hc:cl o.op with
   | pure=>
    rw [hc] at hx
    simp only at hx
    obtain ⟨v,h',h1,h2⟩:=pn hx
    exact build ⟨_,h',_,_,_⟩ (some v) (.pure v hg hc h1 rfl) h2
   | fresh=>
    rw [hc] at hx
    simp only at hx
    cases hb:((dS (bf.getD i 0) hi&&dS (bf.getD i 0) an)||Er ops bf i o.op) with
    | false=>rw [hb] at hx;cases hx
    | true=>
     rw [hb] at hx
     simp only [cond_true] at hx
     simp only [uK,bz] at hb
     obtain ⟨hx,g1⟩:=lg hx
     obtain ⟨v,h',h1,h2⟩:=pn hx
     exact build ⟨_,h',_,_,_⟩ (some v) (.fresh v hg hc h1 hb g1 rfl) h2
   | read=>
    rw [hc] at hx
    simp only at hx
    split at hx
    ·rename_i a n hra
     obtain ⟨hx,g1⟩:=kZ hx
     obtain ⟨hx,g2⟩:=k_ hx
     obtain ⟨v,h',h1,h2⟩:=pn hx
     exact build ⟨_,h',_,_,_⟩ (some v) (.read v a n hg hc h1 hra g1 g2 rfl) h2
    ·cases hx
   | fZ=>
    rw [hc] at hx
    simp only at hx
    cases hb:(dS (bf.getD i 0) hi&&dS (bf.getD i 0) an) with
    | false=>rw [hb] at hx;cases hx
    | true=>
     rw [hb] at hx
     simp only [cond_true] at hx
     simp only [bz] at hb
     obtain ⟨v,h',h1,h2⟩:=JV hx
     obtain ⟨h2,g1⟩:=lf h2
     exact build ⟨_,h',_,_,_⟩ (some v) (.fZ v hg hc h1 hb.1 hb.2 g1 rfl) h2
  ·exact build ⟨_,h,_,_,_⟩ none (.skip hg rfl) hx
theorem qd{α:Type}{b:Nat}:∀ {l:List (Nat×α)},dS b l=true->∀ k x,(k,x)∈l->b.testBit k=true
 | [],_,k,x,hm=>by cases hm
 | (k0,x0) :: l,h,k,x,hm=>by
  simp only [dS,bz] at h
  rcases bn.1 hm with e|hm
  ·injection e with e1 e2;subst e1;exact h.1
  ·exact qd h.2 k x hm
theorem sW(e:Edge):qe .any e=fp e:=by
 unfold qe fp
 cases e.ground<;>rfl
theorem rS{acc:List Nat}{x:Nat}:∀ {es:List Edge},(sR acc es).testBit x=true->∃ e∈es,fp e=true/\(x=e.on\/(acc.getD e.on 0).testBit x=true)
 | [],h=>by simp [sR] at h
 | e :: r,h=>by
  simp only [sR] at h
  cases hb:fp e with
  | false=>
   rw [hb] at h
   obtain ⟨e',h1,h2⟩:=rS h
   exact ⟨e',yJ _ h1,h2⟩
  | true=>
   rw [hb] at h
   simp only [cond_true,Nat.testBit_or,uK] at h
   rcases h with (h|h)|h
   ·refine ⟨e,mL ..,hb,.inl ?_⟩
    rw [Nat.testBit_shiftLeft] at h
    simp only [bz,decide_eq_true_eq] at h
    obtain ⟨h1,h2⟩:=h
    have:x-e.on=0:=by
     cases hq:x-e.on with
     | zero=>rfl
     | succ q=>
      rw [hq] at h2
      simp [Nat.testBit_succ] at h2
    omega
   ·exact ⟨e,mL ..,hb,.inr h⟩
   ·obtain ⟨e',h1,h2⟩:=rS h
    exact ⟨e',yJ _ h1,h2⟩
theorem By:∀ (l:List Oper) (acc:List Nat),(∀ j,j<acc.length->(ij acc l)[j]? = acc[j]?) /\
  (∀ (k:Nat) (o:Oper),l[k]? = some o->∃ pre,(ij acc l)[acc.length+k]? = some (sR pre o.after.toList)/\pre.length=acc.length+k/\∀ j,j<pre.length->pre[j]? = (ij acc l)[j]?)
 | [],acc=>⟨λj _=>rfl,λk o ho=>by simp at ho⟩
 | o :: l,acc=>by
  obtain ⟨h1,h2⟩:=By l (acc++[sR acc o.after.toList])
  have h0:∀ j,j<acc.length->(ij acc (o :: l))[j]? = acc[j]?:=λj hj=>by
   simp only [ij]
   rw [h1 j (by simp;omega),List.getElem?_append_left hj]
  refine ⟨h0,λk o' hk=>?_⟩
  cases k with
  | zero=>
   simp at hk
   subst hk
   refine ⟨acc,?_,rfl,λj hj=>(h0 j hj).symm⟩
   simp only [ij]
   rw [h1 (acc.length+0) (by simp)]
   simp
  | succ k=>
   simp only [mC] at hk
   obtain ⟨pre,q1,q2,q3⟩:=h2 k o' hk
   simp only [List.length_append,List.length_singleton] at q1 q2
   exact ⟨pre,by simp only [ij];rw [show acc.length+(k+1)=acc.length+1+k from by omega];exact q1,by omega,q3⟩
theorem V3{l:List Oper}(ho:l[j]? = some o)(h:((ij [] l).getD j 0).testBit x=true):
  ∃ e∈o.after.toList,fp e=true/\(x=e.on\/(e.on<j/\((ij [] l).getD e.on 0).testBit x=true)):=by
 obtain ⟨_,h2⟩:=By l []
 obtain ⟨pre,q1,q2,q3⟩:=h2 j o ho
 simp only [List.length_nil,cQ] at q1 q2
 rw [uL,q1] at h
 obtain ⟨e,h1,h2,h3⟩:=rS h
 refine ⟨e,h1,h2,h3.imp id λh4=>?_⟩
 rw [uL] at h4 ⊢
 by_cases aS:e.on<j
 ·rw [q3 _ (by omega)] at h4
  exact ⟨aS,h4⟩
 ·rw [cE (by omega)] at h4
  simp at h4
theorem qf{ops:List Oper}{bf:List Nat}:∀ (l:List Oper) (i:Nat),nU ops bf i l=true->∀ (k:Nat) (o:Oper),l[k]? = some o->qz (i+k) o.after.toList=true/\qy ops (bf.getD (i+k) 0) o 0 (ops.take (i+k))=true
 | [],_,_,k,o,ho=>by simp at ho
 | o :: l,i,h,k,o',ho=>by
  simp only [nU,bz] at h
  obtain ⟨⟨⟨h1,h2⟩,h3⟩,h4⟩:=h
  cases k with
  | zero=>simp at ho;subst ho;exact ⟨h1,h3⟩
  | succ k=>
   simp only [mC] at ho
   have:=qf l (i+1) h4 k o' ho
   rw [show i+(k+1)=i+1+k from by omega]
   exact this
theorem qJ{ops:List Oper}{bj:Nat}{oj:Oper}:∀ (l:List Oper) (i:Nat),qy ops bj oj i l=true->∀ (k:Nat) (o:Oper),l[k]? = some o->yu ops bj (i+k) o oj=true
 | [],_,_,k,o,ho=>by simp at ho
 | o :: l,i,h,k,o',ho=>by
  simp only [qy,bz] at h
  cases k with
  | zero=>simp at ho;subst ho;exact h.1
  | succ k=>
   simp only [mC] at ho
   have:=qJ l (i+1) h.2 k o' ho
   rw [show i+(k+1)=i+1+k from by omega]
   exact this
theorem qK{j:Nat}:∀ {es:List Edge},qz j es=true->∀ e∈es,fp e=true->e.on<j
 | [],_,e,he,_=>by cases he
 | e0 :: r,h,e,he,hb=>by
  simp only [qz,bz] at h
  rcases bn.1 he with rfl|he
  ·rw [hb] at h
   have:=h.1
   simp only [Bool.not_true,Bool.false_or,e_] at this
   exact this
  ·exact qK h.2 e he hb
theorem yK{t:Nat}:∀ {l:List Nat},t∈l->yp t l=true
 | x :: r,h=>by
  simp only [yp,uK]
  rcases bn.1 h with rfl|h
  ·exact .inl (Nat.beq_refl t)
  ·exact .inr (yK h)
section
variable {E:Env} {w0 w:World} {φ:Nat->Nat×Nat} {h:AH} {s:az} {a:Act} {rec:Rec}
theorem ov(w:World)(us:Array Value)(t:Nat):cO w (w.alloc (.cells us t)):=by
 intro b x hx
 have hb:b<w.heap.size:=by
  simp only [World.shape?] at hx
  by_cases hb:b<w.heap.size
  ·exact hb
  ·rw [Rf (Nat.le_of_not_lt hb)] at hx;cases hx
 simp only [World.shape?,yL _ _ _ hb]
 exact hx
theorem HR.alloc(hh:HR E.P E.base w0 φ h w)(us:Array Value)(t:Nat):HR E.P E.base w0 φ h (w.alloc (.cells us t)) where
 below:=hh.below.trans ⟨rfl,rfl,rfl,by simp,λb hb=>yL _ _ _ (cW hb hh.bw)⟩
 mp:=λi k l hi hm=>by
  obtain ⟨g0,g1,g2,es,clock,g3,g4⟩:=hh.mp i k l hi hm
  exact ⟨g0,g1,g2,es,clock,by rw [yL _ _ _ (f_.1 g3).1];exact g3,g4⟩
 bK:=λi k hi hm=>by
  obtain ⟨cs,fr,g1,g2,g3⟩:=hh.bK i k hi hm
  refine ⟨cs,fr,by rw [yL _ _ _ (f_.1 g1).1];exact g1,λj v hj=>?_,g3⟩
  obtain ⟨u,hu,hv⟩:=g2 j v hj
  exact ⟨u,hu,hv.mono (λ_ _=>rfl) (aT _) (ov _ _ _)⟩
 inj:=hh.inj
 lo:=hh.lo
 len:=hh.len
 bw:=by have:=hh.bw;simp;omega
theorem Ext.alloc(φ:Nat->Nat×Nat)(h:AH)(w:World)(us:Array Value)(t:Nat):Ext φ h w φ h (w.alloc (.cells us t)):=
 ⟨aT _,λ_ _=>rfl,λi k hi _=>⟨i,k,hi,rfl⟩,λb hb _=>yL _ _ _ hb,by simp,ov _ _ _⟩
theorem HR.attach(hh:HR E.P E.base w0 φ h w){k:df}(p_:k.m=none){us:Array Value}{B:Nat}(hB:w.heap[B]? = some (.cells us k.ty (0,0)))(hc:∀ (j:Nat) (x:Value),k.cs[j]? = some x->∃ y,us[j]? = some y/\CR E.P E.base φ h.length w x y)
  (hb:E.base<=B)(hn:∀ i l,bD h i=some l->(φ i).1≠B){bN:Nat->Nat×Nat}(hold:∀ i,i<h.length->bN i=φ i)(gF:bN h.length=(B,0)):HR E.P E.base w0 bN (h++[some k]) w:=by
 have fh:∀ i l,bD (h++[some k]) i=some l->(i<h.length/\bD h i=some l)\/(i=h.length/\l=k):=λi l hi=>by
  rcases pi i h.length with aS|I4|uC
  ·exact .inl ⟨aS,by rw [eG aS] at hi;exact hi⟩
  ·subst I4;rw [dU] at hi;injection hi with hi;exact .inr ⟨rfl,hi.symm⟩
  ·rw [fq uC] at hi;cases hi
 refine ⟨hh.below,λi l hi hm=>?_,λi l m hi hm=>?_,λi j l l' hi hj e=>?_,λi hi=>?_,?_,hh.bw⟩
 ·rcases fh i l hi with ⟨h1,h2⟩|⟨h1,h2⟩
  ·obtain ⟨cs,fr,g1,g2,g3⟩:=hh.bK i l h2 hm
   rw [hold i h1]
   refine ⟨cs,fr,g1,λj v hj=>?_,g3⟩
   obtain ⟨u,hu,hv⟩:=g2 j v hj
   exact ⟨u,hu,hv.mono hold (by simp) (cO.refl _)⟩
  ·subst h1;subst h2
   rw [gF]
   refine ⟨us,(0,0),hB,λj v hj=>?_,λ_=>⟨rfl,hb⟩⟩
   obtain ⟨u,hu,hv⟩:=hc j v hj
   exact ⟨u,by simpa using hu,hv.mono hold (by simp) (cO.refl _)⟩
 ·rcases fh i l hi with ⟨h1,h2⟩|⟨h1,h2⟩
  ·rw [hold i h1]
   exact hh.mp i l m h2 hm
  ·subst h2;rw [p_] at hm;cases hm
 ·rcases fh i l hi with ⟨h1,h2⟩|⟨h1,_⟩
  ·rcases fh j l' hj with ⟨h3,h4⟩|⟨h3,_⟩
   ·rw [hold i h1,hold j h3] at e
    exact hh.inj i j l l' h2 h4 e
   ·subst h3
    rw [hold i h1,gF] at e
    exact absurd e (hn i l h2)
  ·rcases fh j l' hj with ⟨h3,h4⟩|⟨h3,_⟩
   ·subst h1
    rw [hold j h3,gF] at e
    exact absurd e.symm (hn j l' h4)
   ·rw [h1,h3]
 ·rw [hold i (cW hi hh.len)];exact hh.lo i hi
 ·have:=hh.len;simp;omega
theorem xx{sz:Nat}:∀ {vs:List (Nat×Value)} {cs out:List Value},nT sz cs vs=some out->out.length=cs.length
 | [],cs,out,h=>by simp only [nT] at h;injection h with h;rw [h]
 | (k,v) :: vs,cs,out,h=>by
  simp only [nT] at h
  cases hb:(bg (cells v).length sz&&dC (k*sz+sz) cs.length) with
  | false=>rw [hb] at h;cases h
  | true=>
   rw [hb] at h
   simp only [cond_true] at h
   simp only [bz] at hb
   have e1:=dk hb.1
   have e2:=iK hb.2
   rw [xx h]
   simp [setAt];omega
theorem V4{o:Op}(hz:HI o=true)(hx:bG E rec o s h pair=some (v,h'))(g:AH):∃ v2 h2,bG E rec o s g pair=some (v2,h2):=by
 cases o<;>first|(simp [HI] at hz;done)|skip
 case alloc t=>
  simp only [bG] at hx ⊢
  split at hx
  ·exact ⟨_,_,rfl⟩
  ·cases hx
 case box t x=>
  simp only [bG] at hx ⊢
  split at hx
  ·split at hx
   ·rename_i i _
    cases hb:bg (cells _).length i.ks.length with
    | false=>rw [hb] at hx;cases hx
    | true=>exact ⟨_,_,rfl⟩
   ·cases hx
  ·cases hx
 case buildSlice t m ps=>
  simp only [bG] at hx ⊢
  split at hx
  ·split at hx
   ·rename_i vs i _ _ _ j _
    cases hb:(lN i&&cx 0 j.ks.length&&dC (m*j.ks.length) 16777216) with
    | false=>rw [hb] at hx;cases hx
    | true=>
     rw [hb] at hx
     simp only [cond_true] at hx ⊢
     split at hx
     ·exact ⟨_,_,rfl⟩
     ·cases hx
   ·cases hx
  ·cases hx
theorem H5(hE:dq E)(o:Oper)(hz:HI o.op=true)(hx:bG E rec o.op s h pair=some (v,h'))(hs:SR E.P E.base φ h.length w s a):
  ∃ (F:Nat->Value) (k:df) (us:Array Value) (u:Value),k.m=none/\v=F h.length/\h'=h++[some k]/\(∀ g,bG E rec o.op s g pair=some (F g.length,g++[some k])) /\
   (execOp a.eval o).run E.P w = .ok (.value u) (w.alloc (.cells us k.ty))/\(∀ (j:Nat) (x:Value),k.cs[j]? = some x->∃ y,us[j]? = some y/\CR E.P E.base φ h.length w x y) /\
   (∀ (bN:Nat->Nat×Nat) (nm n':Nat) (w':World),bN nm=(w.heap.size,0)->nm<n'->cO (w.alloc (.cells us k.ty)) w'->VR E.P E.base bN n' w' (F nm) u):=by
 obtain ⟨dst,op,ty,pos,after,guard⟩:=o
 have ptr:∀ (us:Array Value) (t:Nat) (bN:Nat->Nat×Nat) (nm n':Nat) (w':World),bN nm=(w.heap.size,0)->nm<n'->cO (w.alloc (.cells us t)) w'->VR E.P E.base bN n' w' (.pointer (some ⟨nm,0,none⟩)) (.pointer (some ⟨w.heap.size,0,none⟩)):=by
  intro us t bN nm n' w' e1 e2 _
  have:=VR.ptr (P:=E.P) (base:=E.base) (φ:=bN) (n:=n') (w:=w') nm 0 e2
  rw [e1] at this
  exact this
 cases op<;>first|(simp [HI] at hz;done)|skip
 case alloc t=>
  simp only [bG] at hx
  split at hx
  ·rename_i i hi
   injection hx with hx
   injection hx with O1 wu
   obtain ⟨z,hz,h1,h2,h3⟩:=(hE.ti t i hi).zero w
   refine ⟨λn=>.pointer (some ⟨n,0,none⟩),⟨i.zero,t⟩,z.cells,.pointer (some ⟨w.heap.size,0,none⟩),rfl,O1.symm,wu.symm,λg=>by simp only [bG,hi],?_,λj v hj=>?_,ptr _ _⟩
   ·simp [execOp,Instr.alloc,hz,newVar,newRow]
   ·simp only at hj
    rw [<- h1] at hj
    exact ⟨v,by simpa using hj,λ_=>VR.flat (h3 v (by rw [<- h1];exact dX hj))⟩
  ·cases hx
 case box t x=>
  simp only [bG] at hx
  split at hx
  ·rename_i v0 hv
   split at hx
   ·rename_i i hi
    cases hb:bg (cells v0).length i.ks.length with
    | false=>rw [hb] at hx;cases hx
    | true=>
     rw [hb] at hx
     simp only [cond_true] at hx
     injection hx with hx
     injection hx with O1 wu
     obtain ⟨hl,hr⟩:=(cm hs hv).kq
     refine ⟨λn=>.pointer (some ⟨n,0,none⟩),⟨cells v0,t⟩,(a.eval x).cells,.pointer (some ⟨w.heap.size,0,none⟩),rfl,O1.symm,wu.symm,λg=>by simp only [bG,hv,hi,hb,cond_true],?_,λj y hj=>?_,ptr _ _⟩
     ·simp [execOp,Instr.box,newVar,newRow]
     ·have aS:j<(a.eval x).cells.size:=by rw [<- hl];exact (bY.1 hj).1
      exact ⟨_,eZ aS,λ_=>hr j y _ hj (eZ aS)⟩
   ·cases hx
  ·cases hx
 case buildSlice t m ps=>
  simp only [bG] at hx
  split at hx
  ·rename_i vs i h1 h2
   split at hx
   ·rename_i j hj
    cases hb:(lN i&&cx 0 j.ks.length&&dC (m*j.ks.length) 16777216) with
    | false=>rw [hb] at hx;cases hx
    | true=>
     have H6:=hb
     rw [hb] at hx
     simp only [cond_true] at hx
     simp only [bz,e_] at hb
     obtain ⟨⟨Gj,jM⟩,jx⟩:=hb
     have jx:=iK jx
     split at hx
     ·rename_i cs xj
      injection hx with hx
      injection hx with O1 wu
      have F:=hE.ti i.elem j hj
      obtain ⟨z,hz,xk,wo,I5⟩:=F.zero w
      obtain ⟨el,er⟩:=tU hs h1
      have hu:=(hE.ti t i h2).slice Gj
      have YX:z.cells.size=j.ks.length:=by rw [<- wo,<- xk];simp
      let zs:Array Value:=(Array.range (m*j.ks.length)).map ((if m*j.ks.length=0 then #[] else z.cells)[· % (if m*j.ks.length=0 then #[] else z.cells).size]!)
      have xl:pN E.P E.base φ h.length w (lz j.zero m) zs:=by
       refine ⟨by simp [zs,fA,wo],λk x y hx hy=>?_⟩
       have hk:k<m*j.ks.length:=by
        have:=(bY.1 hx).1
        rw [fA,wo] at this;exact this
       have dv:m*j.ks.length≠0:=by omega
       rw [qC _ _ _ (by rw [wo];exact hk)] at hx
       simp only [zs,if_neg dv] at hy
       rw [qD z.cells _ k (by omega) hk] at hy
       rw [<- xk] at hx
       simp only [Array.length_toList,Jr] at hx
       rw [hx] at hy
       injection hy with hy
       subst hy
       exact VR.flat (I5 x (by rw [<- xk];exact dX (by simpa using hx)))
      obtain ⟨o2,g1,g2⟩:=nZ (E:=E) (w:=w) (φ:=φ) (h:=h) j.ks.length vs (ps.toList.map λp=>(p.1,a.eval p.2)) (lz j.zero m) zs cs xj (by simpa using el)
       (λk p q hp hq=>by
        rw [gD] at hq
        cases Gk:ps.toList[k]? with
        | none=>rw [Gk] at hq;cases hq
        | some q'=>
         rw [Gk] at hq
         injection hq with hq
         subst hq
         exact er k p q' hp Gk) xl
      have hlen:cs.length=m*j.ks.length:=by rw [xx xj,fA,wo]
      refine ⟨λn=>.slice (some ⟨n,0,none⟩) m m,⟨cs,i.elem⟩,o2,.slice (some ⟨w.heap.size,0,none⟩) m m,rfl,O1.symm,wu.symm,λg=>by simp only [bG,h1,h2,hj,H6,cond_true,xj],?_,λk v hv=>?_,λbN nm n' w' e1 e2 e3=>?_⟩
      ·have ZJ:(ps.map λx=>match x with|(i,x)=>(i,a.eval x)).toList=ps.toList.map λp=>(p.1,a.eval p.2):=by simp
       simp only [execOp,Instr.buildSlice,Sem.run_bind,bh.under hu,Result.andThen_ok,F.size w]
       rw [if_neg (by omega)]
       by_cases h0:m*j.ks.length=0
       ·simp only [h0,if_true,Sem.run_bind,Sem.run_pure,Result.andThen_ok,ZJ]
        simp only [zs,h0,if_true] at g1
        rw [g1]
        simp [newRow]
       ·simp only [if_neg h0,Sem.run_bind,Sem.run_pure,hz,Result.andThen_ok,ZJ]
        simp only [zs,if_neg h0] at g1
        rw [g1]
        simp [newRow]
      ·have aS:k<o2.size:=by rw [<- g2.1];exact (bY.1 hv).1
       exact ⟨_,eZ aS,λ_=>g2.2 k v _ hv (eZ aS)⟩
      ·have Q2:(w.alloc (.cells o2 i.elem)).heap[w.heap.size]? = some (.cells o2 i.elem (0,0)):=heap_alloc_new _ _
       have:=VR.slice (P:=E.P) (base:=E.base) (φ:=bN) (n:=n') (w:=w') nm 0 m m m e2 (aT _) (λ_=>⟨i.elem,o2.size,by rw [e1];exact e3 _ _ (by simp only [World.shape?,Q2]),by rw [e1,F.cellsOf,<- g2.1,hlen];simp⟩)
       rw [e1] at this
       exact this
     ·cases hx
   ·cases hx
  ·cases hx
end
theorem jD(s:az)(d:Option Nat)(v:Option Value):(gO s d v).length=s.length:=by
 cases d with
 | none=>rfl
 | some d=>exact iu s d v
theorem fQ(s:az)(d:Option Nat)(v:Option Value)(t:Nat):ay (gO s d v) t=if d=some t/\t<s.length then v else ay s t:=by
 cases d with
 | none=>simp [gO]
 | some d=>
  simp only [gO]
  by_cases e:d=t
  ·subst e
   by_cases hl:d<s.length
   ·rw [if_pos ⟨rfl,hl⟩,iJ _ _ _ hl]
   ·rw [if_neg (λh=>hl h.2)]
    have:∀ (s:az) (d:Nat) (v:Option Value),¬d<s.length->pX s d v=s:=by
     intro s
     induction s with
     | nil=>intro d v _;rfl
     | cons x r ih=>
      intro d v h
      cases d with
      | zero=>simp at h
      | succ d=>simp only [pX];rw [ih d v (λq=>h (by simp;omega))]
    rw [this s d v hl]
  ·rw [if_neg (λh=>e (by injection h.1)),j0 _ _ _ _ e]
theorem SR.congr(h:SR P base φ n w s a)(hl:s'.length=s.length)(hg:∀ t,ay s' t=ay s t):SR P base φ n w s' a:=
 ⟨hl.trans h.len,λt v ht=>h.get t v (by rw [<- hg];exact ht),h.defers⟩
section
variable {R:Type} {E:Env} {w0:World} {Q:Exit->Act->World->Prop} {r:R} {rec:Rec} {ops:Array Oper} {T:Nat->St} {V:Nat->Option Value}
def Gt(o:Op):Prop:=cl o = .fresh\/cl o = .fZ
def ox(ops:Array Oper)(V:Nat->Option Value)(j:Nat):Prop:=∃ o,ops[j]? = some o/\Gt o.op/\(V j).isSome=true
def fM(ops:Array Oper)(j:Nat):Option Nat:=(ops[j]?).bind (·.dst)
def jV(V:Nat->Option Value)(j:Nat):Value:=(V j).getD undef
def JX(ops:Array Oper)(V:Nat->Option Value)(j:Nat):Bool:=match ops[j]? with
 | some o=>Jm o.op&&(V j).isSome
 | none=>false
theorem Bz{o:Op}:Jm o=true↔Gt o:=by
 unfold Jm Gt
 cases cl o<;>simp
theorem qL:JX ops V j=true↔ox ops V j:=by
 unfold JX ox
 cases h:ops[j]? with
 | none=>simp
 | some o=>simp [Bz]
def wv(ops:Array Oper)(V:Nat->Option Value)(m k:Nat):Option Value:=if m<=k/\JX ops V k=true then none else some (jV V k)
def sD(ops:Array Oper)(V:Nat->Option Value)(m:Nat)(s0:az)(L:Array Bool):Nat->az
 | 0=>s0
 | k+1=>if L.getD k false=true then gO (sD ops V m s0 L k) (fM ops k) (wv ops V m k) else sD ops V m s0 L k
theorem j_(m:Nat)(s0:az)(L:Array Bool)(k:Nat):sD ops V m s0 L (k+1)=if L.getD k false=true then gO (sD ops V m s0 L k) (fM ops k) (wv ops V m k) else sD ops V m s0 L k:=rfl
theorem dw(m:Nat)(s0:az)(L:Array Bool):∀ k,(sD ops V m s0 L k).length=s0.length
 | 0=>rfl
 | k+1=>by
  simp only [sD]
  split
  ·rw [jD];exact dw m s0 L k
  ·exact dw m s0 L k
structure Region (E:Env) (rec:Rec) (ops:Array Oper) (T:Nat->St) (V:Nat->Option Value):Prop where
 ok:nU ops.toList (ij [] ops.toList) 0 ops.toList=true
 start:(T 0).hi = []/\(T 0).pe = []/\(T 0).an = []
 step:∀ k o,ops[k]? = some o->qI E rec ops.toList (ij [] ops.toList) ((ij [] ops.toList).getD k 0) k o (T k) (T (k+1)) (V k)
abbrev tw(ops:Array Oper)(j:Nat):Nat:=(ij [] ops.toList).getD j 0
theorem Region.ae0(G:Region E rec ops T V)(ho:ops[j]? = some o):∀ e∈o.after.toList,fp e=true->e.on<j:=by
 have:=(qf ops.toList 0 G.ok j o (by simpa using ho)).1
 rw [cQ] at this
 exact qK this
theorem Region.Z7(G:Region E rec ops T V){oi:Oper}(uM:i<j)(hi:ops[i]? = some oi)(hj:ops[j]? = some oj):yu ops.toList (tw ops j) i oi oj=true:=by
 have:=(qf ops.toList 0 G.ok j oj (by simpa using hj)).2
 rw [cQ] at this
 have h2:=qJ _ 0 this i oi (by rw [bJ uM];simpa using hi)
 rw [cQ] at h2
 exact h2
theorem Region.BA(G:Region E rec ops T V){oi:Oper}(uM:i<j)(hi:ops[i]? = some oi)(hj:ops[j]? = some oj):
  (∀ t,oi.dst=some t->t∈tmpsOf ops.toList oj->(tw ops j).testBit i=true)/\(∀ t,oj.dst=some t->t∈tmpsOf ops.toList oi->(tw ops j).testBit i=true):=by
 have h:=G.Z7 uM hi hj
 unfold yu at h
 simp only [uK,bz] at h
 constructor
 ·intro t ht hm
  rcases h with h|⟨h,_⟩
  ·exact h
  ·rw [ht] at h
   simp only at h
   rw [yK hm] at h
   cases h
 ·intro t ht hm
  rcases h with h|⟨_,h⟩
  ·exact h
  ·rw [ht] at h
   simp only at h
   rw [yK hm] at h
   cases h
theorem Region.slots(G:Region E rec ops T V)(hk:k<ops.size):(T (k+1)).s=gO (T k).s (fM ops k) (some (jV V k)):=by
 have ho:ops[k]? = some ops[k]:=eZ hk
 have hd:fM ops k=ops[k].dst:=by simp [fM,ho]
 rw [hd]
 have:=G.step k _ ho
 generalize hv:V k=v at this
 cases this<;>(rename_i e;rw [e];simp [jV,hv])
theorem Region.heap(G:Region E rec ops T V)(hk:k<ops.size)(dv:¬ox ops V k):(T (k+1)).h=(T k).h:=by
 have ho:ops[k]? = some ops[k]:=eZ hk
 have:=G.step k _ ho
 have JL:∀ v,V k=some v->¬Gt ops[k].op:=λv hv he=>dv ⟨_,ho,he,by rw [hv];rfl⟩
 generalize hv:V k=v at this
 cases this with
 | skip g e=>rw [e]
 | pure v g hk x e=>exact (xv hk x).1
 | fresh v g hk x ol g1 e=>exact absurd (.inl hk) (JL v hv)
 | read v a n g hk x ra g1 g2 e=>exact (rP hk ra x).1
 | fZ v g hk x o1 o2 g1 e=>exact absurd (.inr hk) (JL v hv)
theorem Region.lists(G:Region E rec ops T V)(hk:k<ops.size):(∀ x,x∈(T k).hi->x∈(T (k+1)).hi)/\(∀ x,x∈(T k).pe->x∈(T (k+1)).pe)/\(∀ x,x∈(T k).an->x∈(T (k+1)).an):=by
 have ho:ops[k]? = some ops[k]:=eZ hk
 have:=G.step k _ ho
 generalize hv:V k=v at this
 cases this<;>(rename_i e;rw [e];refine ⟨λx hx=>?_,λx hx=>?_,λx hx=>?_⟩<;>first|exact hx|exact yJ _ hx)
theorem Region.uN(G:Region E rec ops T V)(uM:i<=j)(hj:j<=ops.size):(∀ x,x∈(T i).hi->x∈(T j).hi)/\(∀ x,x∈(T i).pe->x∈(T j).pe)/\(∀ x,x∈(T i).an->x∈(T j).an):=by
 induction uM with
 | refl=>exact ⟨λ_ h=>h,λ_ h=>h,λ_ h=>h⟩
 | @step q hle ih=>
  obtain ⟨a,b,c⟩:=ih (by omega)
  obtain ⟨a',b',c'⟩:=G.lists (k:=q) (by omega)
  exact ⟨λx h=>a' x (a x h),λx h=>b' x (b x h),λx h=>c' x (c x h)⟩
theorem Region.behind(G:Region E rec ops T V)(uM:i<j)(xy:j<=ops.size)(hb:dS (tw ops j) (T j).hi=true/\dS (tw ops j) (T j).an=true)(hi:ox ops V i):(tw ops j).testBit i=true:=by
 obtain ⟨oi,hoi,hei,hvi⟩:=hi
 have hm:(∃ x,(i,x)∈(T (i+1)).hi)\/(∃ x,(i,x)∈(T (i+1)).an):=by
  have:=G.step i _ hoi
  generalize hv:V i=v at this
  cases this with
  | skip g e=>rw [hv] at hvi;cases hvi
  | pure v g hk x e=>rcases hei with h|h<;>rw [hk] at h<;>cases h
  | fresh v g hk x ol g1 e=>rw [e];exact .inr ⟨_,mL ..⟩
  | read v a n g hk x ra g1 g2 e=>rcases hei with h|h<;>rw [hk] at h<;>cases h
  | fZ v g hk x o1 o2 g1 e=>rw [e];exact .inl ⟨_,mL ..⟩
 obtain ⟨l1,l2,l3⟩:=G.uN (i:=i+1) (j:=j) (by omega) xy
 rcases hm with ⟨x,hm⟩|⟨x,hm⟩
 ·exact qd hb.1 i x (l1 _ hm)
 ·exact qd hb.2 i x (l3 _ hm)
def lzB(ops:Array Oper)(k:Nat):Prop:=∃ o,ops[k]? = some o/\Er ops.toList (ij [] ops.toList) k o.op=true
theorem uO{bi:Nat}:∀ (l:List Oper) (k:Nat),Bm bi k l=true->∀ (i:Nat) (o:Oper),l[i]? = some o->Jm o.op=true->bi.testBit (k+i)=true
 | [],k,h,i,o,ho,_=>by simp at ho
 | x :: r,k,h,i,o,ho,hf=>by
  simp only [Bm,bz,uK,yM] at h
  cases i with
  | zero=>
   simp at ho
   subst ho
   rcases h.1 with h1|h1
   ·rw [hf] at h1;cases h1
   ·exact h1
  | succ i=>
   simp only [mC] at ho
   have:=uO r (k+1) h.2 i o ho hf
   rw [show k+(i+1)=k+1+i from by omega]
   exact this
theorem sX{opl:List Oper}{bf:List Nat}{j:Nat}:∀ (l:List Oper) (i:Nat),yv opl bf j i l=true->∀ q,q<l.length->(bf.getD (i+q) 0).testBit j=true->Bm (bf.getD (i+q) 0) 0 (opl.take j)=true
 | [],_,_,q,hq,_=>by simp at hq
 | x :: r,i,h,q,hq,hb=>by
  simp only [yv,bz,uK,yM] at h
  cases q with
  | zero=>
   rcases h.1 with h1|h1
   ·rw [mG] at hb;rw [hb] at h1;cases h1
   ·exact h1
  | succ q=>
   have:=sX r (i+1) h.2 q (by simp at hq;omega) (by rw [show i+1+q=i+(q+1) from by omega];exact hb)
   rw [show i+(q+1)=i+1+q from by omega]
   exact this
theorem JY(hl:lzB ops k)(hi:i<ops.size)(hb:(tw ops i).testBit k=true)(hjk:j<k)(hj:ox ops V j):(tw ops i).testBit j=true:=by
 obtain ⟨o,ho,hz⟩:=hl
 unfold Er at hz
 simp only [bz] at hz
 have h1:=sX ops.toList 0 hz.2 i (by simpa using hi) (by rw [cQ];exact hb)
 rw [cQ] at h1
 obtain ⟨oj,hoj,V5,_⟩:=hj
 have:=uO _ 0 h1 j oj (by rw [bJ hjk];simpa using hoj) (Bz.2 V5)
 rw [cQ] at this
 exact this
theorem Region.calm(G:Region E rec ops T V)(uM:i<=j)(hj:j<=ops.size)(dv:∀ k,i<=k->k<j->¬ox ops V k):(T j).h=(T i).h:=by
 induction uM with
 | refl=>rfl
 | step hle ih=>
  rw [G.heap (by omega) (dv _ hle (by omega)),ih (by omega) λk h1 h2=>dv k h1 (by omega)]
theorem qM{x:Option df}(hb:b≠h.length):bD (h++[x]) b=bD h b:=by
 rcases Nat.lt_or_gt_of_ne hb with h1|h1
 ·exact eG h1
 ·rw [fq h1]
  unfold bD
  rw [cE (by omega)];rfl
theorem xz{x:Option df}{o:Nat}(hb:b≠h.length):same h (h++[x]) b o n:=
 ⟨λj _=>by simp only [cell,qM hb],by rw [qM hb]⟩
theorem Region.reads(G:Region E rec ops T V)(hoj:ops[j]? = some oj)(hv:V j=some v)(hk:cl oj.op = .read):
  ∃ ra,pY E (T j).s oj.op=some ra/\bG E rec oj.op (T j).s (T j).h pair=some (v,(T (j+1)).h)/\∀ m,m<=ops.size->(∀ k,m<=k->k<j->ox ops V k->(tw ops j).testBit k=false)->(∀ k,j<k->k<m->ox ops V k->(tw ops k).testBit j=false) ->
   bc (T j).h (T m).h ra.1 ra.2:=by
 have xy:j<ops.size:=(f_.1 hoj).1
 have qB:=G.step j _ hoj
 rw [hv] at qB
 cases qB with
 | pure v g N_ x e=>rw [hk] at N_;cases N_
 | fresh v g N_ x ol g1 e=>rw [hk] at N_;cases N_
 | fZ v g N_ x o1 o2 g1 e=>rw [hk] at N_;cases N_
 | read v a n g N_ x ra g1 g2 e=>
  refine ⟨_,ra,x,λm hm h1 h2 ad had=>?_⟩
  simp only at had ⊢
  subst had
  have hjj:(T (j+1)).h=(T j).h:=(rP N_ ra x).1
  by_cases Z8:m<=j
  ·-- before
   have key:∀ d m,m+d=j->(∀ k,m<=k->k<j->ox ops V k->(tw ops j).testBit k=false)->same (T m).h (T j).h ad.block ad.off n:=by
    intro d
    induction d with
    | zero=>intro m hm _;rw [show m=j from by omega];exact pj ..
    | succ d ih=>
     intro m hm hb
     have Z9:m<ops.size:=by omega
     have hom:ops[m]? = some ops[m]:=eZ Z9
     by_cases he:ox ops V m
     ·have qN:=hb m (aT _) (by omega) he
      obtain ⟨o',v_,H7,Z_⟩:=he
      have JZ:=G.step m _ v_
      obtain ⟨l1,l2,l3⟩:=G.uN (i:=m+1) (j:=j) (by omega) (by omega)
      generalize JN:V m=vv at JZ
      cases JZ with
      | skip g e=>rw [JN] at Z_;cases Z_
      | pure v g hk x e=>rcases H7 with h|h<;>rw [hk] at h<;>cases h
      | read v a n g hk x ra g1 g2 e=>rcases H7 with h|h<;>rw [hk] at h<;>cases h
      | fZ v g hk x o1 o2 Z' e=>exact g2 m _ (l1 _ (by rw [e];exact mL ..)) qN ad rfl
      | fresh v g hk x ol Z' e=>
       have dv:=g1 m _ (l3 _ (by rw [e];exact mL ..)) qN ad rfl
       obtain ⟨kk,Y1⟩:=qc hk x
       refine uJ (b:=(T (m+1)).h) ?_ (ih (m+1) (by omega) λk h1 h2=>hb k (by omega) h2)
       rw [Y1]
       exact xz dv
     ·rw [<- G.heap Z9 he]
      exact ih (m+1) (by omega) λk h1 h2=>hb k (by omega) h2
   exact HZ (key (j-m) m (by omega) h1)
  ·-- after
   have key:∀ d m,m=j+1+d->m<=ops.size->(∀ k,j<k->k<m->ox ops V k->(tw ops k).testBit j=false)->same (T j).h (T m).h ad.block ad.off n:=by
    intro d
    induction d with
    | zero=>intro m hm _ _;rw [hm,mG,hjj];exact pj ..
    | succ d ih=>
     intro m hm Z9 hb
     have aS:j+1+d<ops.size:=by omega
     have fJ:=ih (j+1+d) rfl (by omega) λk h1 h2=>hb k h1 (by omega)
     rw [show m=j+1+d+1 from by omega]
     by_cases he:ox ops V (j+1+d)
     ·have qN:=hb (j+1+d) (by omega) (by omega) he
      obtain ⟨o',v_,H7,Z_⟩:=he
      have JZ:=G.step _ _ v_
      obtain ⟨l1,l2,l3⟩:=G.uN (i:=j+1) (j:=j+1+d) (by omega) (by omega)
      have aaa:(j,some ad,n)∈(T (j+1+d)).pe:=l2 _ (by rw [e];exact mL ..)
      refine uJ fJ ?_
      generalize JN:V (j+1+d)=vv at JZ
      cases JZ with
      | skip g e=>rw [JN] at Z_;cases Z_
      | pure v g hk x e=>rcases H7 with h|h<;>rw [hk] at h<;>cases h
      | read v a n g hk x ra g1 g2 e=>rcases H7 with h|h<;>rw [hk] at h<;>cases h
      | fZ v g hk x o1 o2 Z' e=>exact Z' _ _ _ aaa qN ad rfl
      | fresh v g hk x ol Z' e=>
       have dv:=Z' _ _ _ aaa qN ad rfl
       obtain ⟨kk,Y1⟩:=qc hk x
       rw [Y1]
       exact xz dv
     ·rw [G.heap aS he]
      exact fJ
   exact key (m-(j+1)) m (by omega) hm h2
def rT(ops:Array Oper)(L:Array Bool):Prop:=∀ i o,ops[i]? = some o->L.getD i false=true->∀ e∈o.after.toList,fp e=true->L.getD e.on false=true
theorem jE(hC:rT ops L):∀ (j:Nat) (o:Oper),ops[j]? = some o->(∀ e∈o.after.toList,fp e=true->L.getD e.on false=true)->∀ x,(tw ops j).testBit x=true->L.getD x false=true:=by
 intro j
 induction j using O7 with
 | _ j ih=>
  intro o ho he x hx
  obtain ⟨e,h1,h2,h3⟩:=V3 (l:=ops.toList) (by simpa using ho) hx
  rcases h3 with rfl|⟨aS,h3⟩
  ·exact he e h1 h2
  ·cases hoe:ops[e.on]? with
   | none=>
    have:(tw ops e.on)=0:=by
     unfold tw
     rw [uL]
     have hlen:∀ (l:List Oper) (acc:List Nat),(ij acc l).length=acc.length+l.length:=by
      intro l
      induction l with
      | nil=>intro acc;simp [ij]
      | cons o l ih=>intro acc;simp only [ij];rw [ih];simp;omega
     have hge:ops.size<=e.on:=by
      rcases mO e.on ops.size with h|h
      ·rw [eZ h] at hoe;cases hoe
      ·exact h
     rw [cE (by rw [hlen];simpa using hge)]
     rfl
    rw [show (ij [] ops.toList).getD e.on 0=0 from this] at h3
    simp at h3
   | some oe=>exact ih e.on aS oe hoe (hC e.on oe hoe (he e h1 h2)) x h3
theorem J0(G:Region E rec ops T V)(hC:rT ops L)(ho:ops[j]? = some o)(hj:L.getD j false=false)(hb:∀ x,(tw ops j).testBit x=true->L.getD x false=true)(hsu:∀ k,m<=k->ox ops V k->L.getD k false=true->(tw ops j).testBit k=false)(ht:t∈tmpsOf ops.toList o):
  ay (sD ops V m (T 0).s L ops.size) t=ay (T j).s t:=by
 have xy:j<ops.size:=(f_.1 ho).1
 have len:∀ k,k<=ops.size->(T k).s.length=(T 0).s.length:=by
  intro k
  induction k with
  | zero=>intro _;rfl
  | succ k ih=>intro hk;rw [G.slots (by omega),jD];exact ih (by omega)
 have h1:∀ k,k<=j->ay (sD ops V m (T 0).s L k) t=ay (T k).s t:=by
  intro k
  induction k with
  | zero=>intro _;rfl
  | succ k ih=>
   intro hk
   have Q':k<ops.size:=by omega
   have g9:ops[k]? = some ops[k]:=eZ Q'
   have hd:fM ops k=ops[k].dst:=by simp [fM,g9]
   rw [G.slots Q',fQ]
   by_cases hw:fM ops k=some t
   ·have qN:=(G.BA (by omega) g9 ho).1 t (by rw [<- hd];exact hw) ht
    have:=hb k qN
    have hwv:wv ops V m k=some (jV V k):=by
     unfold wv
     rw [if_neg]
     rintro ⟨h1,h2⟩
     have:=hsu k h1 (qL.1 h2) this
     rw [qN] at this;cases this
    simp only [sD]
    rw [if_pos this,fQ,dw,len k (by omega),ih (by omega),hwv]
   ·rw [if_neg (λh=>hw h.1)]
    simp only [sD]
    split
    ·rw [fQ,if_neg (λh=>hw h.1)];exact ih (by omega)
    ·exact ih (by omega)
 have h2:∀ d,j+d<=ops.size->ay (sD ops V m (T 0).s L (j+d)) t=ay (T j).s t:=by
  intro d
  induction d with
  | zero=>intro _;exact h1 j (aT _)
  | succ d ih=>
   intro hk
   have Q':j+d<ops.size:=by omega
   have g9:ops[j+d]? = some ops[j+d]:=eZ Q'
   have hd:fM ops (j+d)=ops[j+d].dst:=by simp [fM,g9]
   rw [show j+(d+1)=j+d+1 from rfl,j_]
   split
   ·rename_i hl
    rw [fQ,if_neg]
    ·exact ih (by omega)
    ·rintro ⟨hw,_⟩
     rcases Nat.eq_zero_or_pos d with rfl|hd0
     ·rw [mG,hj] at hl;cases hl
     ·have qN:=(G.BA (i:=j) (j:=j+d) (by omega) ho g9).2 t (by rw [<- hd];exact hw) ht
      have:=jE hC (j+d) _ g9 (hC (j+d) _ g9 hl) j qN
      rw [hj] at this;cases this
   ·exact ih (by omega)
 have:=h2 (ops.size-j) (by omega)
 rw [show j+(ops.size-j)=ops.size from by omega] at this
 exact this
theorem gR(h:j<L.size):(L.setIfInBounds j true).getD j false=true:=by
 simp [h]
theorem ci(h:i≠j):(L.setIfInBounds i true).getD j false=L.getD j false:=by
 simp [Gd h]
theorem J1(G:Region E rec ops T V)(hL:L.size=ops.size)(hC:rT ops L)(ho:ops[j]? = some o)(hj:L.getD j false=false)(m t:Nat):
  ay (sD ops V m (T 0).s (L.setIfInBounds j true) ops.size) t=ay (gO (sD ops V m (T 0).s L ops.size) o.dst (wv ops V m j)) t:=by
 have xy:j<ops.size:=(f_.1 ho).1
 have hdj:fM ops j=o.dst:=by simp [fM,ho]
 have h1:∀ k,k<=j->sD ops V m (T 0).s (L.setIfInBounds j true) k=sD ops V m (T 0).s L k:=by
  intro k
  induction k with
  | zero=>intro _;rfl
  | succ k ih=>
   intro hk
   simp only [sD]
   rw [ci (by omega),ih (by omega)]
 have h2:∀ d,j+1+d<=ops.size->∀ t,ay (sD ops V m (T 0).s (L.setIfInBounds j true) (j+1+d)) t=ay (gO (sD ops V m (T 0).s L (j+1+d)) o.dst (wv ops V m j)) t:=by
  intro d
  induction d with
  | zero=>
   intro _ t
   simp only [mG,sD]
   rw [if_pos (gR (by omega)),h1 j (aT _),hj,if_neg (by decide),hdj]
  | succ d ih=>
   intro hk t
   have Q':j+1+d<ops.size:=by omega
   have g9:ops[j+1+d]? = some ops[j+1+d]:=eZ Q'
   have hd:fM ops (j+1+d)=ops[j+1+d].dst:=by simp [fM,g9]
   rw [show j+1+(d+1)=j+1+d+1 from rfl,j_,j_,ci (by omega)]
   split
   ·rename_i hl
    rw [fQ,fQ,fQ,dw,jD,dw,ih (by omega) t,fQ,dw]
    by_cases hw:fM ops (j+1+d)=some t
    ·have dv:o.dst≠some t:=by
      intro he
      have hm:t∈tmpsOf ops.toList o:=by simp [tmpsOf,he]
      have qN:=(G.BA (i:=j) (j:=j+1+d) (by omega) ho g9).2 t (by rw [<- hd];exact hw) hm
      have:=jE hC (j+1+d) _ g9 (hC (j+1+d) _ g9 hl) j qN
      rw [hj] at this;cases this
     have e1:¬(o.dst=some t/\t<(T 0).s.length):=λh=>dv h.1
     simp only [e1,if_false]
    ·have e2:¬(fM ops (j+1+d)=some t/\t<(T 0).s.length):=λh=>hw h.1
     simp only [e2,if_false]
   ·exact ih (by omega) t
 have:=h2 (ops.size-(j+1)) (by omega) t
 rw [show j+1+(ops.size-(j+1))=ops.size from by omega] at this
 exact this
theorem uP{L:Array Bool}{m m':Nat}(yN:m<=m')(hno:∀ k,m<=k->k<m'->ox ops V k->L.getD k false=false)(s0:az):∀ k,sD ops V m s0 L k=sD ops V m' s0 L k
 | 0=>rfl
 | k+1=>by
  rw [j_,j_,uP yN hno s0 k]
  by_cases hl:L.getD k false=true
  ·rw [if_pos hl,if_pos hl]
   have:wv ops V m k=wv ops V m' k:=by
    unfold wv
    by_cases h1:m'<=k/\JX ops V k=true
    ·rw [if_pos h1,if_pos ⟨by omega,h1.2⟩]
    ·rw [if_neg h1,if_neg]
     rintro ⟨h2,h3⟩
     have:=hno k h2 (by
      rcases mO k m' with h|h
      ·exact h
      ·exact absurd ⟨h,h3⟩ h1) (qL.1 h3)
     rw [hl] at this;cases this
   rw [this]
  ·rw [if_neg hl,if_neg hl]
theorem po{L:Array Bool}{m:Nat}(s0:az)(t:Nat):∀ k,ay (sD ops V (m+1) s0 L k) t=ay (sD ops V m s0 L k) t\/(fM ops m=some t/\ay (sD ops V (m+1) s0 L k) t=some (jV V m))
 | 0=>.inl rfl
 | k+1=>by
  rw [j_,j_]
  by_cases hl:L.getD k false=true
  ·rw [if_pos hl,if_pos hl,fQ,fQ,dw,dw]
   by_cases e:k=m
   ·subst e
    have hw:wv ops V (k+1) k=some (jV V k):=by unfold wv;rw [if_neg (λh=>by omega)]
    by_cases hd:fM ops k=some t/\t<s0.length
    ·rw [if_pos hd,if_pos hd,hw];exact .inr ⟨hd.1,rfl⟩
    ·rw [if_neg hd,if_neg hd];exact po s0 t k
   ·have hw:wv ops V (m+1) k=wv ops V m k:=by
     unfold wv
     by_cases h1:m+1<=k/\JX ops V k=true
     ·rw [if_pos h1,if_pos ⟨by omega,h1.2⟩]
     ·rw [if_neg h1,if_neg (λh=>h1 ⟨by omega,h.2⟩)]
    by_cases hd:fM ops k=some t/\t<s0.length
    ·rw [if_pos hd,if_pos hd,hw];exact .inl rfl
    ·rw [if_neg hd,if_neg hd];exact po s0 t k
  ·rw [if_neg hl,if_neg hl];exact po s0 t k
end
section
variable {R:Type} {E:Env} {w0:World} {Q:Exit->Act->World->Prop} {r:R} {rec:Rec} {ops:Array Oper} {T:Nat->St} {V:Nat->Option Value} {c:az->AH->Option R}
 {tW:Nat->Nat×Nat} {wS:World}
def J2(E:Env)(ops:Array Oper)(T:Nat->St)(V:Nat->Option Value)(wS:World)(m:Nat)(φ:Nat->Nat×Nat)(a:Act)(w:World)(B k:Nat):Prop:=
 ∃ (bK:df) (us:Array Value) (u:Value),bK.m=none/\(T (k+1)).h=(T k).h++[some bK]/\w.heap[B]? = some (.cells us bK.ty (0,0)) /\
  (∀ (i:Nat) (x:Value),bK.cs[i]? = some x->∃ y,us[i]? = some y/\CR E.P E.base φ (T m).h.length w x y)/\wS.heap.size<=B/\E.base<=B/\(∀ i l,bD (T m).h i=some l->(φ i).1≠B) /\
  (∀ d,fM ops k=some d->d<a.tmps.size->a.tmps.getD d undef=u) /\
  (∀ (bN:Nat->Nat×Nat) (n':Nat) (w':World),bN (T k).h.length=(B,0)->(T k).h.length<n'->cO w w'->VR E.P E.base bN n' w' (jV V k) u)
structure jO (E:Env) (w0:World) (ops:Array Oper) (T:Nat->St) (V:Nat->Option Value) (tW:Nat->Nat×Nat) (wS:World) (L:Array Bool) (m:Nat) (φ:Nat->Nat×Nat) (a:Act) (w:World) (Bf:Nat->Nat):Prop where
 size:L.size=ops.size
 closed:rT ops L
 J3:m<=ops.size
 front:∀ k,ox ops V k->k<m->L.getD k false=true
 early:∀ k,ox ops V k->m<=k->L.getD k false=true->lzB ops k/\J2 E ops T V wS m φ a w (Bf k) k
 apart:∀ k l,ox ops V k->ox ops V l->m<=k->m<=l->L.getD k false=true->L.getD l false=true->k≠l->Bf k≠Bf l
 ext:Ext tW (T 0).h wS φ (T m).h w
 heap:HR E.P E.base w0 φ (T m).h w
 slots:SR E.P E.base φ (T m).h.length w (sD ops V m (T 0).s L ops.size) a
theorem J2.step{m m':Nat}{φ bN:Nat->Nat×Nat}{a:Act}{w w':World}{B k:Nat}(x:J2 E ops T V wS m φ a w B k)(e:Ext φ (T m).h w bN (T m').h w'){dst:Option Tmp}{u:Value}(hd:∀ d,fM ops k=some d->dst≠some d):J2 E ops T V wS m' bN (a.put dst u) w' B k:=by
 obtain ⟨bK,us,u0,h0,h1,h2,h3,h4,h5,h6,h7,h8⟩:=x
 have aS:B<w.heap.size:=(f_.1 h2).1
 refine ⟨bK,us,u0,h0,h1,?_,λi x hx=>?_,h4,h5,λi l hi he=>?_,λd hdk hdl=>?_,λvY n2 w2 e1 e2 e3=>h8 vY n2 w2 e1 e2 (e.shape.trans e3)⟩
 ·rw [e.frame B aS h6];exact h2
 ·obtain ⟨y,hy,hc⟩:=h3 i x hx
  exact ⟨y,hy,hc.mono e.pJ e.len e.shape⟩
 ·obtain ⟨j,l',hj,he'⟩:=e.live i l hi (by rw [he];exact aS)
  exact h6 j l' hj (he'.trans he)
 ·have jk:(a.put dst u).tmps.size=a.tmps.size:=by cases dst<;>simp [Act.put]
  rw [jk] at hdl
  rw [<- h7 d hdk hdl]
  cases dst with
  | none=>rfl
  | some t=>
   have dv:t≠d:=λhh=>hd d hdk (by rw [hh])
   simp [Act.put,Gd dv]
theorem SR.ae1(h:SR P base φ n w s a)(d:Option Nat){u:Value}:SR P base φ n w (gO s d none) (a.put d u):=by
 cases d with
 | none=>exact h
 | some d=>
  refine ⟨by simp [gO,Act.put,iu,h.len],λt x ht=>?_,h.defers⟩
  simp only [gO] at ht
  by_cases e:d=t
  ·subst e
   have hd:=pf _ _ _ ht
   rw [iu] at hd
   rw [iJ _ _ _ hd] at ht
   cases ht
  ·rw [j0 _ _ _ _ e] at ht
   have:=h.get t x ht
   simpa [Act.put,Gd e] using this
theorem jO.V6(H:jO E w0 ops T V tW wS L m φ a w Bf)(he:ox ops V m)(hl:L.getD m false=true):∃ bN,jO E w0 ops T V tW wS L (m+1) bN a w Bf:=by
 have Z9:m<ops.size:=by
  obtain ⟨o,ho,_⟩:=he
  exact (f_.1 ho).1
 obtain ⟨V7,bK,us,u,h0,h1,h2,h3,h4,h5,h6,h7,h8⟩:=H.early m he (aT _) hl
 have aS:Bf m<w.heap.size:=(f_.1 h2).1
 obtain ⟨bN,hold,gF⟩:∃ bN:Nat->Nat×Nat,(∀ i,i<(T m).h.length->bN i=φ i)/\bN (T m).h.length=(Bf m,0):=⟨λi=>if i=(T m).h.length then (Bf m,0) else φ i,λi hi=>by simp only;rw [if_neg (by omega)],by simp⟩
 have fh:∀ i l,bD ((T m).h++[some bK]) i=some l->(i<(T m).h.length/\bD (T m).h i=some l)\/i=(T m).h.length:=λi l hi=>by
  rcases pi i (T m).h.length with aS|I4|uC
  ·exact .inl ⟨aS,by rw [eG aS] at hi;exact hi⟩
  ·exact .inr I4
  ·rw [fq uC] at hi;cases hi
 refine ⟨bN,H.size,H.closed,Z9,λk hk p_=>?_,λk hk p_ Gu=>?_,λk l hk Vu h1 h2=>H.apart k l hk Vu (by omega) (by omega),?_,?_,?_⟩
 ·rcases mO k m with h|h
  ·exact H.front k hk h
  ·have:k=m:=by omega
   subst this;exact hl
 ·obtain ⟨z1,ae2,us2,u2,g0,g1,g2,g3,g4,g5,g6,g7,g8⟩:=H.early k hk (by omega) Gu
  refine ⟨z1,ae2,us2,u2,g0,g1,g2,λi x hx=>?_,g4,g5,λi l hi=>?_,g7,g8⟩
  ·obtain ⟨y,hy,hc⟩:=g3 i x hx
   exact ⟨y,hy,hc.mono hold (by rw [h1];simp) (cO.refl _)⟩
  ·rw [h1] at hi
   rcases fh i l hi with ⟨q1,q2⟩|q1
   ·rw [hold i q1];exact g6 i l q2
   ·subst q1
    rw [gF]
    exact H.apart m k he hk (aT _) (by omega) hl Gu (by omega)
 ·have e:=H.ext
  rw [h1]
  refine ⟨by have:=e.len;simp;omega,λi hi=>by rw [hold i (cW hi e.len)];exact e.pJ i hi,λi l hi dg=>?_,e.frame,e.size,e.shape⟩
  rcases fh i l hi with ⟨q1,q2⟩|q1
  ·rw [hold i q1] at dg ⊢
   exact e.live i l q2 dg
  ·subst q1
   rw [gF] at dg
   simp only at dg
   omega
 ·rw [h1]
  exact H.heap.attach h0 h2 h3 h5 h6 hold gF
 ·refine ⟨by rw [dw,<- H.slots.len,dw],λt v ht=>?_,H.slots.defers⟩
  rcases po (ops:=ops) (V:=V) (L:=L) (m:=m) (T 0).s t ops.size with e|⟨e1,e2⟩
  ·rw [e] at ht
   exact (H.slots.get t v ht).mono hold (by rw [h1];simp) (cO.refl _)
  ·rw [e2] at ht
   injection ht with ht
   subst ht
   rw [h7 t e1 (by
    have:=pf _ _ _ e2
    rw [dw] at this
    rw [<- H.slots.len,dw]
    exact this)]
   exact h8 bN _ w gF (by rw [h1];simp) (cO.refl _)
theorem jO.tight(G:Region E rec ops T V){L:Array Bool}{a:Act}{w:World}{Bf:Nat->Nat}:∀ (d m:Nat) (φ:Nat->Nat×Nat),m+d=ops.size->jO E w0 ops T V tW wS L m φ a w Bf->∃ m' bN,jO E w0 ops T V tW wS L m' bN a w Bf/\(m'=ops.size\/(ox ops V m'/\L.getD m' false=false))
 | 0,m,φ,hd,H=>⟨m,φ,H,.inl (by omega)⟩
 | d+1,m,φ,hd,H=>by
  by_cases he:ox ops V m
  ·cases hl:L.getD m false with
   | true=>
    obtain ⟨bN,H'⟩:=H.V6 he hl
    exact jO.tight G d (m+1) bN (by omega) H'
   | false=>exact ⟨m,φ,H,.inr ⟨he,hl⟩⟩
  ·have hh:=G.heap (k:=m) (by omega) he
   refine jO.tight G d (m+1) φ (by omega) ⟨H.size,H.closed,by omega,λk hk p_=>?_,λk hk p_ Gu=>?_,λk l hk Vu h1 h2=>H.apart k l hk Vu (by omega) (by omega),by rw [hh];exact H.ext,by rw [hh];exact H.heap,?_⟩
   ·rcases mO k m with h|h
    ·exact H.front k hk h
    ·have:k=m:=by omega
     subst this;exact absurd hk he
   ·obtain ⟨z1,x⟩:=H.early k hk (by omega) Gu
    refine ⟨z1,?_⟩
    unfold J2 at x ⊢
    rw [hh]
    exact x
   ·rw [hh,<- uP (L:=L) (m:=m) (m':=m+1) (by omega) (λk h1 h2 hk=>by
     have:k=m:=by omega
     subst this;exact absurd hk he)]
    exact H.slots
theorem EM(hL:L.size=ops.size)(hC:rT ops L)(ho:ops[j]? = some o)(he:∀ e∈o.after.toList,fp e=true->L.getD e.on false=true):rT ops (L.setIfInBounds j true):=by
 have xy:j<ops.size:=(f_.1 ho).1
 have ax:∀ x,L.getD x false=true->(L.setIfInBounds j true).getD x false=true:=by
  intro x hx
  by_cases e:j=x
  ·subst e;exact gR (by omega)
  ·rw [ci e];exact hx
 intro i o' v_ hi e hm hb
 by_cases e':j=i
 ·subst e'
  rw [ho] at v_
  injection v_ with v_
  subst v_
  exact ax _ (he e hm hb)
 ·rw [ci e'] at hi
  exact ax _ (hC i o' v_ hi e hm hb)
theorem BB(G:Region E rec ops T V)(H:jO E w0 ops T V tW wS L m φ a w Bf)(hr:∀ j,j<ops.size->L.getD j false=true)
  (hQ:∀ bN a' w',Ext tW (T 0).h wS bN (T ops.size).h w'->HR E.P E.base w0 bN (T ops.size).h w'->SR E.P E.base bN (T ops.size).h.length w' (T ops.size).s a'->Q .normal a' w'):Q .normal a w:=by
 obtain ⟨m',bN,H',hm⟩:=jO.tight G (ops.size-m) m φ (by have:=H.J3;omega) H
 have hm:m'=ops.size:=by
  rcases hm with hm|⟨h1,h2⟩
  ·exact hm
  ·obtain ⟨o,ho,_⟩:=h1
   rw [hr m' (f_.1 ho).1] at h2;cases h2
 subst hm
 have hs:∀ k,k<=ops.size->sD ops V ops.size (T 0).s L k=(T k).s:=by
  intro k
  induction k with
  | zero=>intro _;rfl
  | succ k ih=>
   intro hk
   have hw:wv ops V ops.size k=some (jV V k):=by unfold wv;rw [if_neg (λh=>by omega)]
   rw [j_,if_pos (hr k (by omega)),ih (by omega),G.slots (by omega),hw]
 have h3:=H'.slots
 rw [hs _ (aT _)] at h3
 exact hQ bN a w H'.ext H'.heap h3
theorem rU(hE:dq E)(iD:nr E w0 rec)(G:Region E rec ops T V)
  (hQ:∀ bN a' w',Ext tW (T 0).h wS bN (T ops.size).h w'->HR E.P E.base w0 bN (T ops.size).h w'->SR E.P E.base bN (T ops.size).h.length w' (T ops.size).s a'->Q .normal a' w'):
  ∀ (kX:Nat) (L:Array Bool) (m:Nat) (φ:Nat->Nat×Nat) (a:Act) (w:World) (Bf:Nat->Nat),L.toList.count false<=kX->jO E w0 ops T V tW wS L m φ a w Bf->wpAny E.P .any ops Q kX L a w
 | 0,L,m,φ,a,w,Bf,hf,H=>by
  have lT:∀ j,j<ops.size->L.getD j false=true:=by
   intro j hj
   have pZ:j<L.size:=by rw [H.size];exact hj
   have h0:L.toList.count false=0:=by omega
   have:=List.count_eq_zero.1 h0
   cases hq:L[j] with
   | true=>simp [pZ,hq]
   | false=>exact absurd (gk.2 ⟨j,by simpa using pZ,by simpa using hq⟩) this
  refine ⟨?_,BB G H lT hQ⟩
  rw [J4]
  intro j hj
  obtain ⟨h1,o,ho,_⟩:=mem_ready.1 hj
  have xy:j<ops.size:=(f_.1 ho).1
  have:=lT j xy
  have pZ:j<L.size:=by rw [H.size];exact xy
  simp [pZ] at h1 this
  rw [h1] at this;cases this
 | kX+1,L,m0,φ00,a,w,Bf,hf,H0=>by
  obtain ⟨m,φ,H,hti⟩:=jO.tight G (ops.size-m0) m0 φ00 (by have:=H0.J3;omega) H0
  refine ⟨λhr=>BB G H (λj=>?_) hQ,λj hj=>?_⟩
  ·-- all done
   induction j using O7 with
   | _ j ih=>
    intro xy
    cases hq:L.getD j false with
    | true=>rfl
    | false=>
     have ho:ops[j]? = some ops[j]:=eZ xy
     have:j∈fv .any ops L:=mem_ready.2 ⟨by
      have pZ:j<L.size:=by rw [H.size];exact xy
      simp [pZ] at hq ⊢
      exact hq,_,ho,λe he hb=>by
       rw [sW] at hb
       have aS:=G.ae0 ho e (by simpa using he) hb
       exact ih e.on aS (by omega)⟩
     rw [hr] at this;cases this
  ·obtain ⟨h1,o,ho,aab⟩:=mem_ready.1 hj
   have xy:j<ops.size:=(f_.1 ho).1
   have pZ:j<L.size:=by rw [H.size];exact xy
   have N':L.getD j false=false:=by simp [pZ] at h1 ⊢;exact h1
   have J5:∀ e∈o.after.toList,fp e=true->L.getD e.on false=true:=λe he hb=>aab e (by simpa using he) (by rw [sW];exact hb)
   have Gv:=jE H.closed j o ho J5
   have nI:=EM H.size H.closed ho J5
   have hdj:fM ops j=o.dst:=by simp [fM,ho]
   have hsu:∀ k,m<=k->ox ops V k->L.getD k false=true->(tw ops j).testBit k=false:=by
    intro k J6 hek Oa
    cases hb:(tw ops j).testBit k with
    | false=>rfl
    | true=>
     obtain ⟨V7,_⟩:=H.early k hek J6 Oa
     rcases hti with h|⟨h1,h2⟩
     ·obtain ⟨ok,g9,_⟩:=hek
      have:=(f_.1 g9).1
      omega
     ·have dv:m≠k:=λe=>by subst e;rw [h2] at Oa;cases Oa
      have:=Gv m (JY V7 xy hb (by omega) h1)
      rw [h2] at this;cases this
   have aac:∀ k,m<=k->ox ops V k->L.getD k false=true->∀ d,fM ops k=some d->o.dst≠some d:=by
    intro k J6 hek Oa d hdk hod
    obtain ⟨ok,g9,ae3,ae4⟩:=hek
    have aad:ok.dst=some d:=by rw [<- hdk];simp [fM,g9]
    rcases pi k j with aS|I4|uC
    ·have:=(G.BA aS g9 ho).1 d aad (by simp [tmpsOf,hod])
     rw [hsu k J6 ⟨ok,g9,ae3,ae4⟩ Oa] at this;cases this
    ·subst I4;rw [N'] at Oa;cases Oa
    ·have qN:=(G.BA uC ho g9).1 d hod (by simp [tmpsOf,aad])
     have:=jE H.closed k ok g9 (H.closed k ok g9 Oa) j qN
     rw [N'] at this;cases this
   have Rg:∀ t,t∈tmpsOf ops.toList o->ay (sD ops V m (T 0).s L ops.size) t=ay (T j).s t:=λt ht=>J0 G H.closed ho N' Gv hsu ht
   have J7:(L.setIfInBounds j true).toList.count false<=kX:=by
    rw [Array.toList_setIfInBounds,List.count_set (by simpa using pZ)]
    have hq:L.toList[j]'(by simpa using pZ)=false:=by simp [pZ] at N';simpa using N'
    have Jw:0<L.toList.count false:=List.count_pos_iff.2 (gk.2 ⟨j,by simpa using pZ,hq⟩)
    rw [hq,if_pos (by decide),if_neg (by decide)]
    omega
   have next:∀ (m':Nat) (bN:Nat->Nat×Nat) (u:Value) (w':World),m<=m'->m'<=ops.size->(∀ k,ox ops V k->k<m'->(L.setIfInBounds j true).getD k false=true)->(∀ k,m<=k->k<m'->ox ops V k->k=j)->(ox ops V j->j<m')->Ext φ (T m).h w bN (T m').h w'->HR E.P E.base w0 bN (T m').h w' ->
     VR E.P E.base bN (T m').h.length w' (jV V j) u->wpAny E.P .any ops Q kX (L.setIfInBounds j true) (a.put o.dst u) w':=by
    intro m' bN u w' yN Jy N9 hbt hjm he hh hv
    refine rU hE iD G hQ kX _ m' bN _ w' Bf J7 ⟨by simp [H.size],nI,Jy,N9,λk hk p_ Gu=>?_,λk l hk hl h1 h2 h3 h4=>?_,H.ext.trans he,hh,?_⟩
    ·have dv:j≠k:=λe=>by subst e;have:=hjm hk;omega
     rw [ci dv] at Gu
     obtain ⟨z1,z2⟩:=H.early k hk (by omega) Gu
     exact ⟨z1,z2.step he (aac k (by omega) hk Gu)⟩
    ·have ZD:j≠k:=λe=>by subst e;have:=hjm hk;omega
     have Vq:j≠l:=λe=>by subst e;have:=hjm hl;omega
     rw [ci ZD] at h3
     rw [ci Vq] at h4
     exact H.apart k l hk hl (by omega) (by omega) h3 h4
    ·have hw:wv ops V m' j=some (jV V j):=by
      unfold wv
      rw [if_neg]
      rintro ⟨q1,q2⟩
      have:=hjm (qL.1 q2)
      omega
     have J8:=uP (L:=L) (ops:=ops) (V:=V) yN (λk q1 q2 q3=>by rw [hbt k q1 q2 q3];exact N') (T 0).s ops.size
     have xA:=H.slots
     rw [J8] at xA
     refine ((xA.ext he).put o.dst hv).congr (by rw [dw,jD,dw]) λt=>?_
     rw [J1 G H.size H.closed ho N' m' t,hw]
   have stay:∀ (bN:Nat->Nat×Nat) (u:Value) (w':World),¬ox ops V j->Ext φ (T m).h w bN (T m).h w'->HR E.P E.base w0 bN (T m).h w'->VR E.P E.base bN (T m).h.length w' (jV V j) u->wpAny E.P .any ops Q kX (L.setIfInBounds j true) (a.put o.dst u) w':=by
    intro bN u w' dv he hh hv
    refine next m bN u w' (aT _) H.J3 (λk hk p_=>?_) (λk h1 h2=>by omega) (λh=>absurd h dv) he hh hv
    have:j≠k:=λe=>dv (e ▸ hk)
    rw [ci this]
    exact H.front k hk p_
   have hgv:∀ b,gv ops.toList o (T j).s b->mN o (yielded ops a.tmps)=b:=by
    intro b hb
    refine rR H.slots ?_
    unfold gv at hb ⊢
    cases hg:o.guard with
    | none=>rw [hg] at hb;exact hb
    | some p=>
     obtain ⟨g,want⟩:=p
     rw [hg] at hb
     simp only at hb ⊢
     obtain ⟨d,hd,Gh⟩:=hb
     have:d∈tmpsOf ops.toList o:=by
      unfold tmpsOf
      rw [hg]
      simp only [dQ]
      right
      rw [hd]
      simp
     rw [<- Rg d this] at Gh
     exact ⟨d,hd,Gh⟩
   have qB:=G.step j o ho
   have O8:∀ t,t∈uH o.op->ay (T j).s t=ay (sD ops V m (T 0).s L ops.size) t:=λt ht=>(Rg t (by
    unfold tmpsOf
    simp only [dQ]
    exact .inl (.inr ht))).symm
   have Gw:ox ops V j->m<=j:=λV5=>by
    rcases mO j m with h|h
    ·have:=H.front j V5 h
     rw [N'] at this;cases this
    ·exact h
   have V8:ox ops V j->dS (tw ops j) (T j).hi=true/\dS (tw ops j) (T j).an=true->m=j:=by
    intro V5 lT
    have Z8:=Gw V5
    rcases mO m j with h|h
    ·rcases hti with h'|⟨h1,h2⟩
     ·omega
     ·have:=Gv m (G.behind h (by omega) lT h1)
      rw [h2] at this;cases this
    ·omega
   have fZ:∀ (v:Value),ox ops V j->dS (tw ops j) (T j).hi=true/\dS (tw ops j) (T j).an=true->tT E rec o (T j).s (T j).h pair=some (v,(T (j+1)).h)->V j=some v->o.wp E.P a w (wpAny E.P .any ops Q kX (L.setIfInBounds j true)) Q:=by
    intro v V5 lT hx hVj
    have Z8:=V8 V5 lT
    subst Z8
    rw [HY E rec o (T m).h _ O8] at hx
    refine xu hE iD o hx H.slots H.heap λv2 h2 bN u w' hc e1 e2 e3=>?_
    injection hc with hc
    injection hc with Gl AZ
    subst Gl;subst AZ
    refine next (m+1) bN u w' (by omega) (by omega) (λk hk p_=>?_) (λk h1 h2 _=>by omega) (λ_=>by omega) e1 e2 (by simp only [jV,hVj];exact e3)
    by_cases e:m=k
    ·subst e;exact gR pZ
    ·rw [ci e];exact H.front k hk (by omega)
   have opw:∀ (v:Value),¬ox ops V j->bG E rec o.op (sD ops V m (T 0).s L ops.size) (T m).h pair=some (v,(T m).h)->V j=some v->o.wp E.P a w (wpAny E.P .any ops Q kX (L.setIfInBounds j true)) Q:=by
    intro v dv hx hVj
    refine oh hE iD o hx H.slots H.heap λv2 h2 bN u w' hc e1 e2 e3=>?_
    injection hc with hc
    injection hc with Gl AZ
    subst Gl;subst AZ
    exact stay bN u w' dv e1 e2 (by simp only [jV,hVj];exact e3)
   unfold wpOp
   rw [ho]
   simp only
   generalize hV:V j=vv at qB
   cases qB with
   | skip g e=>
    rw [hgv _ g]
    simp only [Bool.false_eq_true,if_false]
    refine stay φ undef w ?_ (Ext.refl ..) H.heap ?_
    ·rintro ⟨o',v_,_,hv⟩
     rw [hV] at hv;cases hv
    ·simp only [jV,hV];exact lS
   | pure v g hk x e=>
    rw [hgv _ g,if_pos rfl]
    have dv:¬ox ops V j:=by
     rintro ⟨o',v_,H7,hv⟩
     rw [ho] at v_;injection v_ with v_;subst v_
     rcases H7 with h|h<;>rw [hk] at h<;>cases h
    have wu:=(xv hk x).2 (T m).h
    rw [mM E rec o.op (T m).h _ O8] at wu
    exact .inl (opw v dv wu hV)
   | fresh v g hk x ol g1 e=>
    rw [hgv _ g,if_pos rfl]
    have H7:ox ops V j:=⟨o,ho,.inl hk,by rw [hV];rfl⟩
    rcases ol with lT|V7
    ·refine .inl (fZ v H7 lT ?_ hV)
     rw [H4 hk]
     exact x
    ·have Z8:=Gw H7
     have hfz:HI o.op=true:=by
      unfold Er at V7
      simp only [bz] at V7
      exact V7.1
     rw [mM E rec o.op (T j).h _ O8] at x
     obtain ⟨alw,alr⟩:=qc hk x
     have wu:∃ v2 h2,bG E rec o.op (sD ops V m (T 0).s L ops.size) (T m).h pair=some (v2,h2):=V4 hfz x (T m).h
     obtain ⟨v2,h2,wu⟩:=wu
     obtain ⟨F,bK,us,u,f0,f1,f2,f3,f4,f5,f6⟩:=H5 hE o hfz wu H.slots
     have hxj:=f3 (T j).h
     rw [x] at hxj
     injection hxj with hxj
     injection hxj with hv1 da
     have Bq:jV V j=F (T j).h.length:=by simp only [jV,hV];exact hv1
     left
     unfold Oper.wp
     rw [f4]
     have hea:=Ext.alloc φ (T m).h w us bK.ty
     have Q2:(w.alloc (.cells us bK.ty)).heap[w.heap.size]? = some (.cells us bK.ty (0,0)):=heap_alloc_new _ _
     have xA:∀ k,ox ops V k->m<=k->L.getD k false=true->Bf k<w.heap.size:=λk hk p_ Gu=>by
      obtain ⟨_,_,_,_,_,_,q,_⟩:=H.early k hk p_ Gu
      exact (f_.1 q).1
     refine rU hE iD G hQ kX _ m φ _ _ (λk=>if k=j then w.heap.size else Bf k) J7 ⟨by simp [H.size],nI,H.J3,λk hk p_=>?_,λk hk p_ Gu=>?_,λk l hk hl h1 h2 h3 h4 dv=>?_,H.ext.trans hea,H.heap.alloc us bK.ty,?_⟩
     ·have:j≠k:=λe=>by omega
      rw [ci this]
      exact H.front k hk p_
     ·by_cases e:k=j
      ·subst e
       simp only [if_true]
       refine ⟨⟨o,ho,V7⟩,bK,us,u,f0,da,Q2,λi x hx=>?_,H.ext.size,H.heap.bw,λi l hi he=>?_,λd hd hdl=>?_,λbN n' w' e1 e2 e3=>?_⟩
       ·obtain ⟨y,hy,hc⟩:=f5 i x hx
        exact ⟨y,hy,hc.mono (λ_ _=>rfl) (aT _) (ov _ _ _)⟩
       ·have:=H.heap.lt hi
        omega
       ·rw [hdj] at hd
        rw [hd]
        have jk:(a.put o.dst u).tmps.size=a.tmps.size:=by cases o.dst<;>simp [Act.put]
        have aS:d<a.tmps.size:=by rw [jk] at hdl;exact hdl
        simp [Act.put,aS]
       ·rw [Bq];exact f6 bN _ n' w' e1 e2 e3
      ·have dv:j≠k:=λh=>e h.symm
       rw [ci dv] at Gu
       simp only [if_neg e]
       obtain ⟨z1,z2⟩:=H.early k hk p_ Gu
       exact ⟨z1,z2.step hea (aac k p_ hk Gu)⟩
     ·by_cases e1:k=j
      ·have e2:l≠j:=λh=>dv (by rw [e1,h])
       have Vq:j≠l:=λh=>e2 h.symm
       rw [ci Vq] at h4
       simp only [if_pos e1,if_neg e2]
       have:=xA l hl h2 h4
       omega
      ·have ZD:j≠k:=λh=>e1 h.symm
       rw [ci ZD] at h3
       by_cases e2:l=j
       ·simp only [if_neg e1,if_pos e2]
        have:=xA k hk h1 h3
        omega
       ·have Vq:j≠l:=λh=>e2 h.symm
        rw [ci Vq] at h4
        simp only [if_neg e1,if_neg e2]
        exact H.apart k l hk hl h1 h2 h3 h4 dv
     ·have hw:wv ops V m j=none:=by
       unfold wv
       rw [if_pos ⟨Z8,qL.2 H7⟩]
      refine ((H.slots.ext hea).ae1 o.dst).congr (by rw [dw,jD,dw]) λt=>?_
      rw [J1 G H.size H.closed ho N' m t,hw]
   | fZ v g hk x o1 o2 g1 e=>
    rw [hgv _ g,if_pos rfl]
    exact .inl (fZ v ⟨o,ho,.inr hk,by rw [hV];rfl⟩ ⟨o1,o2⟩ x hV)
   | read v ra1 n g hk x ra g1 g2 e=>
    rw [hgv _ g,if_pos rfl]
    have dv:¬ox ops V j:=by
     rintro ⟨o',v_,H7,hv⟩
     rw [ho] at v_;injection v_ with v_;subst v_
     rcases H7 with h|h<;>rw [hk] at h<;>cases h
    obtain ⟨ra',q1,q2,q3⟩:=G.reads ho hV hk
    rw [ra] at q1
    injection q1 with q1
    subst q1
    have J8:=q3 m H.J3 (λk h1 h2 he=>by
     cases hb:(tw ops j).testBit k with
     | false=>rfl
     | true=>rw [hsu k h1 he (Gv k hb)] at hb;cases hb) (λk h1 h2 he=>by
     cases hb:(tw ops k).testBit j with
     | false=>rfl
     | true=>
      have Oa:=H.front k he h2
      obtain ⟨ok,g9,_,_⟩:=he
      have:=jE H.closed k ok g9 (H.closed k ok g9 Oa) j hb
      rw [N'] at this;cases this)
    have wu:=(rP hk ra x).2 (T m).h J8
    rw [mM E rec o.op (T m).h _ O8] at wu
    exact .inl (opw v dv wu hV)
theorem Gx(hE:dq E)(iD:nr E w0 rec)(ops:Array Oper)(g9:nU ops.toList (ij [] ops.toList) 0 ops.toList=true) 
  (hx:AX E rec ops.toList (ij [] ops.toList) ops.toList 0 s h [] [] [] c=some r)(hs:SR E.P E.base φ h.length w s a)(hh:HR E.P E.base w0 φ h w)
  (hQ:∀ s' h' bN a' w',c s' h'=some r->Ext φ h w bN h' w'->HR E.P E.base w0 bN h' w'->SR E.P E.base bN h'.length w' s' a'->Q .normal a' w'):wpAny E.P .any ops Q ops.size (yO ops.size false) a { w with drawn:=w.drawn+1 }:=by
 obtain ⟨T,V,h0,aae,aaf⟩:=xw _ _ _ _ _ _ _ hx
 have G:Region E rec ops T V:=⟨g9,by rw [h0];exact ⟨rfl,rfl,rfl⟩,λk o ho=>by
  have:=aaf k o (by simpa using ho)
  rw [cQ] at this
  exact this⟩
 have hlen:0+ops.toList.length=ops.size:=by simp
 rw [hlen] at aae
 have V9:(T 0).h=h:=by rw [h0]
 have ae5:(T 0).s=s:=by rw [h0]
 have BC:∀ k,(yO ops.size false).getD k false=false:=by
  intro k
  by_cases hk:k<ops.size<;>simp [hk]
 have hsD:∀ k,sD ops V 0 (T 0).s (yO ops.size false) k=(T 0).s:=by
  intro k
  induction k with
  | zero=>rfl
  | succ k ih=>rw [j_,BC,if_neg (by decide),ih]
 refine rU (tW:=φ) (wS:=w) hE iD G (λbN a' w' e1 e2 e3=>hQ _ _ bN a' w' aae (by rw [V9] at e1;exact e1) e2 e3) ops.size _ 0 φ a { w with drawn:=w.drawn+1 } (λ_=>0) ?_ ⟨by simp,?_,tX _,λk _ hk=>(by omega),λk _ _ hk=>(by rw [BC] at hk;cases hk),λk l _ _ _ _ hk=>(by rw [BC] at hk;cases hk),?_,?_,?_⟩
 ·simp
 ·intro i o ho hi
  rw [BC] at hi;cases hi
 ·exact Ext.drew ..
 ·rw [V9];exact hh.drew _
 ·rw [hsD,V9,ae5]
  exact hs.mono (λ_ _=>rfl) (aT _) λ_ _ hx=>hx
theorem J9:∀ (p:List Nat) (j:Nat),pos p j<=p.length/\(pos p j<p.length->p[pos p j]? = some j)
 | [],j=>⟨aT _,λh=>absurd h (Nat.lt_irrefl _)⟩
 | k :: r,j=>by
  unfold pos
  cases hb:bg k j with
  | true=>
   have:=dk hb
   subst this
   exact ⟨tX _,λ_=>rfl⟩
  | false=>
   obtain ⟨h1,h2⟩:=J9 r j
   exact ⟨by simp only [cond_false,g_];omega,λh=>by
    simp only [cond_false,g_] at h ⊢
    rw [mC]
    exact h2 (by omega)⟩
theorem jF(h:lA p n=true):p.length=n/\(∀ k,k<n->∃ j,p[k]? = some j/\j<n/\pos p j=k)/\(∀ j,j<n->p[pos p j]? = some j)/\(∀ j,n<=j->pos p j=n):=by
 unfold lA at h
 simp only [bz,List.all_eq_true,List.mem_range] at h
 obtain ⟨h1,h2,h3⟩:=h
 have h1:=dk h1
 have hA:∀ k,k<n->∃ j,p[k]? = some j/\j<n/\pos p j=k:=λk hk=>by
  have:=h2 k hk
  unfold QY at this
  split at this
  ·rename_i j hj
   simp only [bz,e_] at this
   exact ⟨j,hj,this.1,dk this.2⟩
  ·cases this
 refine ⟨h1,hA,λj hj=>?_,λj hj=>?_⟩
 ·have:=h3 j hj
  unfold QZ at this
  split at this
  ·rename_i k hk
   rw [hk,dk this]
  ·cases this
 ·obtain ⟨g1,g2⟩:=J9 p j
  by_cases aS:pos p j<p.length
  ·have e:=g2 aS
   obtain ⟨j',e',pZ,_⟩:=hA (pos p j) (by omega)
   rw [e] at e'
   injection e' with e'
   omega
  ·omega
theorem uQ{ops:Array Oper}(hp:lA p ops.size=true)(hj:j<ops.size):(fV p ops.toList).toArray[pos p j]? = some (jB p ops[j]):=by
 obtain ⟨_,_,h3,_⟩:=jF hp
 simp only [List.getElem?_toArray,fV,gD,h3 j hj,Option.map_some,Jr,eZ hj]
theorem rV{ops:Array Oper}(hp:lA p ops.size=true):(fV p ops.toList).toArray.size=ops.size:=by
 obtain ⟨h1,_⟩:=jF hp
 simp [fV,h1]
theorem uR{e':Edge}:e'∈(jB p o).after↔∃ e∈o.after,e' = { e with on:=pos p e.on }:=by
 simp only [jB,List.mem_toArray,List.mem_map,Array.mem_toList_iff]
 exact ⟨λ⟨e,h1,h2⟩=>⟨e,h1,h2.symm⟩,λ⟨e,h1,h2⟩=>⟨e,h1,h2.symm⟩⟩
theorem EN{ops:Array Oper}(hp:lA p ops.size=true)(tm:Array Value)(j:Nat):yielded (fV p ops.toList).toArray tm (pos p j)=yielded ops tm j:=by
 unfold yielded
 by_cases hj:j<ops.size
 ·rw [uQ hp hj,eZ hj]
  rfl
 ·obtain ⟨_,_,_,h4⟩:=jF hp
  rw [h4 j (by omega),Rf (by rw [rV hp];exact aT _),Rf (by omega)]
theorem BD{ops:Array Oper}(hp:lA p ops.size=true)(tm:Array Value)(o:Oper):mN (jB p o) (yielded (fV p ops.toList).toArray tm)=mN o (yielded ops tm):=by
 unfold mN jB
 cases o.guard with
 | none=>rfl
 | some g=>
  obtain ⟨j,b⟩:=g
  simp only [EN hp]
theorem J_{K:Act->World->Prop}{Q:Exit->Act->World->Prop}(h:(jB p o).wp P a w K Q\/((jB p o).asks P a w/\LetsOut Q)):o.wp P a w K Q\/(o.asks P a w/\LetsOut Q):=h
theorem qh{ops:Array Oper}(hp:lA p ops.size=true){L':Array Bool}(hL:L.size=ops.size)(I8:L'.size=ops.size)(EO:∀ j,j<ops.size->L'.getD (pos p j) false=L.getD j false)(hj:j<ops.size):
  j∈fv .any ops L↔pos p j∈fv .any (fV p ops.toList).toArray L':=by
 obtain ⟨h1,h2,h3,h4⟩:=jF hp
 have hpj:pos p j<ops.size:=by
  have:=(bY.1 (h3 j hj)).1
  omega
 have dT:∀ {X:Array Bool} {q:Nat},q<X.size->X.getD q true=X.getD q false:=λhq=>by simp [hq]
 have all:∀ q,L'.getD (pos p q) false=L.getD q false:=λq=>by
  by_cases hq:q<ops.size
  ·exact EO q hq
  ·rw [h4 q (by omega)]
   simp [hL,I8,hq]
 rw [mem_ready,mem_ready,dT (by omega),dT (by omega),EO j hj,uQ hp hj,eZ hj]
 refine and_congr_right λ_=>⟨λ⟨o,e,ho⟩=>?_,λ⟨o,e,ho⟩=>?_⟩
 ·injection e with e
  subst e
  refine ⟨_,rfl,λe' he' hb=>?_⟩
  obtain ⟨e,he,rfl⟩:=uR.1 he'
  rw [all]
  exact ho e he hb
 ·injection e with e
  subst e
  refine ⟨_,rfl,λe he hb=>?_⟩
  rw [<- all]
  exact ho _ (uR.2 ⟨e,he,rfl⟩) hb
theorem O9{ops:Array Oper}(hp:lA p ops.size=true){Q:Exit->Act->World->Prop}:∀ (kX:Nat) (L L':Array Bool) (a:Act) (w:World),L.size=ops.size->L'.size=ops.size->(∀ j,j<ops.size->L'.getD (pos p j) false=L.getD j false) ->
  wpAny P .any (fV p ops.toList).toArray Q kX L' a w->wpAny P .any ops Q kX L a w:=by
 obtain ⟨h1,h2,h3,h4⟩:=jF hp
 have sz:∀ {L:Array Bool} {j:Nat},j∈fv .any ops L->j<ops.size:=λhj=>by
  obtain ⟨_,o,ho,_⟩:=mem_ready.1 hj
  exact (f_.1 ho).1
 have sz':∀ {L:Array Bool} {j:Nat},j∈fv .any (fV p ops.toList).toArray L->j<ops.size:=λhj=>by
  obtain ⟨_,o,ho,_⟩:=mem_ready.1 hj
  have:=(f_.1 ho).1
  rw [rV hp] at this
  exact this
 have ae6:∀ {L L':Array Bool},L.size=ops.size->L'.size=ops.size->(∀ j,j<ops.size->L'.getD (pos p j) false=L.getD j false)->fv .any (fV p ops.toList).toArray L' = []->fv .any ops L = []:=λhL I8 EO hr=>by
  rw [J4] at hr ⊢
  exactλj hj=>hr _ ((qh hp hL I8 EO (sz hj)).1 hj)
 have ae7:∀ {L L':Array Bool},L.size=ops.size->L'.size=ops.size->(∀ j,j<ops.size->L'.getD (pos p j) false=L.getD j false)->fv .any ops L = []->fv .any (fV p ops.toList).toArray L' = []:=λhL I8 EO hr=>by
  rw [J4] at hr ⊢
  intro k hk
  obtain ⟨j,_,hj,ej⟩:=h2 k (sz' hk)
  rw [<- ej] at hk
  exact hr _ ((qh hp hL I8 EO hj).2 hk)
 intro kX
 induction kX with
 | zero=>exactλL L' a w hL I8 EO h=>⟨ae6 hL I8 EO h.1,h.2⟩
 | succ kX ih=>
  intro L L' a w hL I8 EO h
  obtain ⟨g0,g1⟩:=h
  refine ⟨λhr=>g0 (ae7 hL I8 EO hr),λj hj=>?_⟩
  have xy:=sz hj
  have hpj:pos p j<ops.size:=by
   have:=(bY.1 (h3 j xy)).1
   omega
  have g:=g1 (pos p j) ((qh hp hL I8 EO xy).1 hj)
  have g:=wpOp_mono (K':=wpAny P .any ops Q kX (L.setIfInBounds j true)) (λa w=>ih (L.setIfInBounds j true) (L'.setIfInBounds (pos p j) true) a w (by simp [hL]) (by simp [I8]) λq hq=>by
   by_cases e:q=j
   ·subst e
    rw [gR (by omega),gR (by omega)]
   ·rw [ci (λh=>e h.symm),ci (λh=>e (by
     have a1:=h3 q hq
     have a2:=h3 j xy
     rw [<- h,a2] at a1
     injection a1 with a1
     exact a1.symm))]
    exact EO q hq) g
  unfold wpOp at g ⊢
  rw [uQ hp xy] at g
  rw [eZ xy]
  simp only at g ⊢
  rw [BD hp] at g
  split at g
  ·rename_i hw
   rw [if_pos hw]
   exact J_ g
  ·rename_i hw
   rw [if_neg hw]
   exact g
theorem H8(hE:dq E)(iD:nr E w0 rec)(ops:Array Oper){id:Nat}(an:bL)(g9:nU (cN an ops.toList) (ij [] (cN an ops.toList)) 0 (cN an ops.toList)=true) 
  (hx:AX E rec (cN an ops.toList) (ij [] (cN an ops.toList)) (cN an ops.toList) 0 s h [] [] [] c=some r)(hs:SR E.P E.base φ h.length w s a)(hh:HR E.P E.base w0 φ h w)
  (hQ:∀ s' h' bN a' w',c s' h'=some r->Ext φ h w bN h' w'->HR E.P E.base w0 bN h' w'->SR E.P E.base bN h'.length w' s' a'->Q .normal a' w'):(Code.region id ops true).wp E.P Q a w:=by
 refine wp_region_any hE.mixed ?_
 have plain:cN an ops.toList=ops.toList->wpAny E.P .any ops Q ops.size (yO ops.size false) a { w with drawn:=w.drawn+1 }:=λe=>by
  rw [e] at g9 hx
  exact Gx hE iD ops g9 hx hs hh hQ
 cases an with
 | perm p=>
  cases hp:lA p ops.size with
  | false=>exact plain (by simp [cN,hp])
  | true=>
   have e:cN (.perm p) ops.toList=(fV p ops.toList).toArray.toList:=by simp [cN,hp]
   rw [e] at g9 hx
   have g:=Gx hE iD (fV p ops.toList).toArray g9 hx hs hh hQ
   rw [rV hp] at g
   refine O9 hp _ _ _ a _ (by simp) (by simp) (λj hj=>?_) g
   have hr:∀ k,(yO ops.size false).getD k false=false:=by
    intro k
    by_cases hk:k<ops.size<;>simp [hk]
   rw [hr,hr]
 | _=>exact plain rfl
end
section
variable {c o t:Nat} {T:Nat->Nat} {p:Nat->String} {d:Departure}
theorem ts0:fv .any (db c o t T p d) #[false,false,false,false] = [0]:=by
 simp [fv,db,qe,qO]
theorem ts1:fv .any (db c o t T p d) #[true,false,false,false] = [1,2]:=by
 simp [fv,db,qe,qO]
theorem ts2:fv .any (db c o t T p d) #[true,true,false,false] = [2]:=by
 simp [fv,db,qe,qO]
theorem ts3:fv .any (db c o t T p d) #[true,false,true,false] = [1]:=by
 simp [fv,db,qe,qO]
theorem ts4:fv .any (db c o t T p d) #[true,true,true,false] = [3]:=by
 simp [fv,db,qe,qO]
theorem ts5:fv .any (db c o t T p d) #[true,true,true,true] = []:=by
 simp [fv,db,qe,qO]
end
theorem xB:∀ {s:az} {c:Nat} {v:Option Value},c<s.length->ay (pX s c v) c=v
 | [],c,v,h=>absurd h (Nat.not_lt_zero _)
 | x :: s,0,v,h=>rfl
 | x :: s,c+1,v,h=>xB (s:=s) (by simpa using h)
section
variable {R:Type} {E:Env} {w0:World} {Q:Exit->Act->World->Prop} {r:R} {rec:Rec}
theorem EP(hE:dq E)(iD:nr E w0 rec){id c o:Nat}(ht:Jn E c o t ops){k:az->AH->Option R}(hc:c<s.length)
  (hx:∀ b,k (Bo s c o h b) (h++[none])=some r)(hs:SR E.P E.base φ h.length w s a)(hh:HR E.P E.base w0 φ h w)
  (hQ:∀ s' h' bN a' w',k s' h'=some r->Ext φ h w bN h' w'->HR E.P E.base w0 bN h' w'->SR E.P E.base bN h'.length w' s' a'->Q .normal a' w'):(Code.region id ops true).wp E.P Q a w:=by
 obtain ⟨⟨T,p,d,rfl⟩,ii,z,e1,e2,e3,e4⟩:=ht
 refine wp_region_any hE.mixed ?_
 have hs0:SR E.P E.base φ h.length { w with drawn:=w.drawn+1 } s a:=hs.mono (λ_ _=>rfl) (aT _) λ_ _ hx=>hx
 have hh0:=hh.drew (w.drawn+1)
 have x0:=Ext.drew φ h w (w.drawn+1)
 generalize ({ w with drawn:=w.drawn+1 }:World)=w1 at hs0 hh0 x0 ⊢
 have hl:=hh.len
 obtain ⟨s1,es1⟩:∃ s1,gO s (some c) (some (.pointer (some ⟨h.length,0,none⟩)))=s1:=⟨_,rfl⟩
 have g1:ay s1 c=some (.pointer (some ⟨h.length,0,none⟩)):=by rw [<- es1];exact xB hc
 obtain ⟨bx,ebx⟩:∃ bx:Value->AH,bx=λv=>h++[some ⟨[v],t⟩]:=⟨_,rfl⟩
 have st:∀ (b:Bool) (v:Value) (i:Nat) (oo:Oper),(db c o t T p d)[i]? = some oo->oo.guard=none->oo.dst=none->oo.op = .store t (.tmp c) (.const (.bool b))->∀ (vY:Nat->Nat×Nat) (a2:Act) (w2:World) (K:Act->World->Prop),Ext φ h w vY (bx v) w2->HR E.P E.base w0 vY (bx v) w2->SR E.P E.base vY (bx v).length w2 s1 a2 ->
   (∀ J' a3 w3,Ext φ h w J' (bx (.bool b)) w3->HR E.P E.base w0 J' (bx (.bool b)) w3->SR E.P E.base J' (bx (.bool b)).length w3 s1 a3->K a3 w3)->wpOp E.P (db c o t T p d) Q i K a2 w2:=by
  intro b v i oo ho hg hd O5 vY a2 w2 K y1 y2 y3 y4
  unfold wpOp
  rw [ho]
  have hw:mN oo (yielded (db c o t T p d) a2.tmps)=true:=by unfold mN;rw [hg]
  simp only [hw,if_true]
  refine .inl (oh (c:=λv h=>some (v,h)) (r:=(undef,bx (.bool b))) hE iD oo ?_ y3 y2 λv2 h2 J' u w3 q1 q2 q3 q4=>?_)
  ·rw [O5]
   subst ebx
   have hf:ux (.bool b)=true:=rfl
   have hw2:wr E.base (h++[some ⟨[v],t⟩]) h.length 0 [.bool b]=some (h++[some ⟨[.bool b],t⟩]):=by
    unfold wr
    rw [if_pos hl]
    simp [bD,setAt,jL]
   unfold bG
   simp only [ev,g1,hf,cond_true,e1,e3]
   exact congrArg (λx=>Option.bind x λh'=>some (undef,h')) hw2
  ·injection q1 with q1
   injection q1 with q1 q5
   subst q1;subst q5
   refine y4 J' _ w3 (y1.trans q2) q3 ?_
   have:=(y3.ext q2).put oo.dst q4
   rw [hd] at this ⊢
   exact this
 have tail:∀ (b:Bool) (vY:Nat->Nat×Nat) (a2:Act) (w2:World),Ext φ h w vY (bx (.bool b)) w2->HR E.P E.base w0 vY (bx (.bool b)) w2->SR E.P E.base vY (bx (.bool b)).length w2 s1 a2->wpAny E.P .any (db c o t T p d) Q 1 #[true,true,true,false] a2 w2:=by
  intro b vY a2 w2 y1 y2 y3
  refine ⟨λe=>absurd e (by rw [ts4];decide),λi hi=>?_⟩
  rw [ts4,dY] at hi
  subst hi
  unfold wpOp
  rw [show (db c o t T p d)[3]? = some ⟨some o,.load t (.tmp c),T 3,p 3,#[⟨0,.data⟩,⟨0,.phase⟩,⟨1,.phase⟩,⟨2,.phase⟩],none⟩ from rfl]
  simp only [show mN ⟨some o,.load t (.tmp c),T 3,p 3,#[⟨0,.data⟩,⟨0,.phase⟩,⟨1,.phase⟩,⟨2,.phase⟩],none⟩ (yielded (db c o t T p d) a2.tmps)=true from rfl,if_true]
  refine .inl (oh (c:=λv h=>some (v,h)) (r:=(Value.bool b,bx (.bool b))) hE iD _ ?_ y3 y2 λv2 h2 J' u w3 q1 q2 q3 q4=>?_)
  ·subst ebx
   simp [bG,ev,g1,load,e1,e2,e3,fL,Am.cell,bD,jL]
   rfl
  ·injection q1 with q1
   injection q1 with q1 q5
   subst q1;subst q5
   have z4:=(y3.ext q2).put (some o) q4
   have ek:(bx (.bool b)).set h.length none=h++[none]:=by subst ebx;simp
   have el:(bx (.bool b)).length=(h++[none]:AH).length:=by subst ebx;simp
   have q5:=Ext.kill J' (bx (.bool b)) w3 h.length
   have q6:=q3.kill h.length
   rw [ek] at q5 q6
   rw [el] at z4
   refine ⟨ts5,hQ _ _ J' _ w3 (hx b) ((y1.trans q2).trans q5) q6 ?_⟩
   rw [Bo,es1]
   exact z4
 show wpAny E.P .any (db c o t T p d) Q 4 #[false,false,false,false] a w1
 refine ⟨λe=>absurd e (by rw [ts0];decide),λi hi=>?_⟩
 rw [ts0,dY] at hi
 subst hi
 unfold wpOp
 rw [show (db c o t T p d)[0]? = some ⟨some c,.alloc t,T 0,p 0,#[],none⟩ from rfl]
 simp only [show mN ⟨some c,.alloc t,T 0,p 0,#[],none⟩ (yielded (db c o t T p d) a.tmps)=true from rfl,if_true]
 refine .inl (oh (c:=λv h=>some (v,h)) (r:=(Value.pointer (some ⟨h.length,0,none⟩),bx z)) hE iD _ ?_ hs0 hh0 λv2 h2 J' u w3 q1 q2 q3 q4=>?_)
 ·subst ebx
  simp [bG,e1,e4]
 injection q1 with q1
 injection q1 with q1 q5
 subst q1;subst q5
 have z3:=(hs0.ext q2).put (some c) q4
 rw [es1] at z3
 show wpAny E.P .any (db c o t T p d) Q 3 #[true,false,false,false] _ w3
 refine ⟨λe=>absurd e (by rw [ts1];decide),λi hi=>?_⟩
 rw [ts1] at hi
 simp only [bn,List.not_mem_nil,or_false] at hi
 rcases hi with rfl|rfl
 ·refine st true z 1 _ rfl rfl rfl rfl J' _ w3 _ (x0.trans q2) q3 z3 λY2 a4 w4 y1 y2 y3=>?_
  show wpAny E.P .any (db c o t T p d) Q 2 #[true,true,false,false] _ w4
  refine ⟨λe=>absurd e (by rw [ts2];decide),λi hi=>?_⟩
  rw [ts2,dY] at hi
  subst hi
  exact st false _ 2 _ rfl rfl rfl rfl Y2 _ w4 _ y1 y2 y3 λφ5 a5 w5 y1 y2 y3=>tail false φ5 a5 w5 y1 y2 y3
 ·refine st false z 2 _ rfl rfl rfl rfl J' _ w3 _ (x0.trans q2) q3 z3 λY2 a4 w4 y1 y2 y3=>?_
  show wpAny E.P .any (db c o t T p d) Q 2 #[true,false,true,false] _ w4
  refine ⟨λe=>absurd e (by rw [ts3];decide),λi hi=>?_⟩
  rw [ts3,dY] at hi
  subst hi
  exact st true _ 1 _ rfl rfl rfl rfl Y2 _ w4 _ y1 y2 y3 λφ5 a5 w5 y1 y2 y3=>tail true φ5 a5 w5 y1 y2 y3
end
theorem xC(s:az):∀ (ks:List Nat) (h:AH),(np s ks h).length=h.length
 | [],h=>rfl
 | t :: r,h=>by
  rw [np,xC s r]
  split<;>simp
theorem HR.np{E:Env}{w0 w:World}{φ:Nat->Nat×Nat}(s:az):∀ (ks:List Nat) {h:AH},HR E.P E.base w0 φ h w->HR E.P E.base w0 φ (Am.np s ks h) w/\Ext φ h w φ (Am.np s ks h) w
 | [],h,hh=>⟨hh,Ext.refl ..⟩
 | t :: r,h,hh=>by
  rw [Am.np]
  split
  ·rename_i ad _ _ _
   obtain ⟨q1,q2⟩:=HR.np s r (hh.kill ad.block)
   exact ⟨q1,(Ext.kill φ h w ad.block).trans q2⟩
  ·exact HR.np s r hh
end Go.Proofs.YtkdenmdijdmnjaaGreat.Am
