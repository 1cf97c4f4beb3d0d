/- Make, cuts, lengths, appends.
Conditions: the tables tell the program's types. -/
import Derived.Test.YtkdenmdijdmnjaaGreatMa
import Derived.IntWalk
import Derived.Laws.BytesString
import Derived.MapKept
set_option linter.unusedSimpArgs false
set_option linter.unusedVariables false
namespace Go.Proofs.YtkdenmdijdmnjaaGreat.Am
open Go Go.RowKit
open _root_.Array renaming ext'->Gq,getElem?_append_left->Q6
open _root_.Bool renaming and_eq_true->bz,false_or->iM,not_true->yy
open _root_.Go.Builtin renaming append_->jN,firstCells->mI,lenOf->JK,len_->VF,max2->VG,min2->VI,nextslicecap->VO,zeroCells->mJ
open _root_.Go.Instr renaming checkKey->VV,findKey->EH,findNow->yF,lookup->VY,mapUpdate->VZ,sameNow->JP,slice->VB,sliceAt->VA,sliceBounds->yB
open _root_.Go.MapKept renaming IsKey->VX,run_checkKey->VW,run_getObj_map->EG,run_setObj_map->V0
open _root_.Go.Result renaming andThen->V1,andThen_ok->dI
open _root_.Go.Sem renaming run_bind->dB,run_pure->eF
open _root_.Go.World renaming shape?->jK
open _root_.List renaming all_eq_true->ik,eq_nil_of_length_eq_zero->iL,foldlM_cons->VH,getElem?_append_left->gE,getElem?_append_right->jL,getElem?_drop->bZ,getElem?_eq_getElem->bk,getElem?_eq_some_iff->bY,getElem?_map->gD,getElem?_take_of_lt->bJ,map_cons->mD,map_toArray->OZ,mem_of_getElem?->dX,range->dM
open _root_.Nat renaming add_assoc->bO,add_mul->mH,beq->bg,blt->cx,blt_eq->e_,eq_of_beq_eq_true->dk,eq_zero_or_pos->OX,le_refl->aT,lt_of_lt_of_le->cW,lt_trichotomy->pi,mul_le_mul_right->O0,zero_add->cQ
open _root_.Option renaming bind_some->aJ,map_none->OY,map_some->j8
section
variable {R:Type} {E:Env} {w0 w:World} {φ:Nat->Nat×Nat} {h:AH} {s:az} {a:Act} {next:Act->World->Prop} {Q:Exit->Act->World->Prop} {r:R} {c:Value->AH->Option R}
 {rec:Rec} {dst:Option Tmp} {ty:TypeId} {pos:String} {after:Array Edge} {guard:Option (Nat×Bool)}
theorem HO{z:Value}{l:List Value}(xk:z.cells.toList=l)(I5:∀ v∈l,jU v=true)(m:Nat)(YW:Array Value)(ha:YW.size=m*l.length)
  (hg:0<l.length->∀ k,k<m*l.length->YW[k]? = z.cells[k % z.cells.size]?):∀ (k:Nat) (v:Value),(lz l m)[k]? = some v->YW[k]? = some v/\jU v=true:=by
 intro k v hk
 have aS:k<m*l.length:=by
  have:=(bY.1 hk).1
  rw [fA] at this;exact this
 have Jw:0<l.length:=by
  rcases OX l.length with h0|h0
  ·rw [h0] at aS;simp at aS
  ·exact h0
 rw [qC _ _ _ aS] at hk
 refine ⟨?_,I5 v (dX hk)⟩
 rw [hg Jw k aS]
 have hs:z.cells.size=l.length:=by rw [<- xk];simp
 rw [hs,<- hk,<- xk]
 simp
theorem yA(hE:dq E)(t:TypeId)(x y:Operand)(hx:bG E rec (.makeSlice t x y) s h c=some r)(hs:SR E.P E.base φ h.length w s a)(hh:HR E.P E.base w0 φ h w)(hn:gQ E w0 φ h w dst a next c r):
  (⟨dst,.makeSlice t x y,ty,pos,after,guard⟩:Oper).wp E.P a w next Q:=by
 simp only [bG] at hx
 split at hx
 ·rename_i n n' i h1 h2 h3
  split at hx
  ·rename_i j hj
   cases hb:(lN i&&cx 0 j.ks.length) with
   | false=>rw [hb] at hx;cases hx
   | true=>
    rw [hb] at hx
    simp only [yy,cond_false] at hx
    simp only [bz,e_] at hb
    split at hx
    ·rename_i hc
     obtain ⟨rfl,I6,Vy,alu⟩:=hc
     have F:=hE.ti i.elem j hj
     obtain ⟨inf,z,wm,jk,Vz,hz,xk,wo,I5⟩:=F.inf
     have hu:=(hE.ti t i h3).slice hb.1
     have e1:=(cm hs h1).dP
     have e2:=(cm hs h2).dP
     have ZK:=run_make (P:=E.P) w t i.elem inf z hu wm hz .i64 .i64 n n I6 (Int.le_refl _) (by rw [Vz,Int.mul_comm];omega) (by omega)
     have YX:z.cells.size=j.ks.length:=by rw [<- wo,<- xk];simp
     have N8:=HO xk (λv hv=>ik.1 I5 v hv) n.toNat (madeCells z.cells (n.toNat*inf.size)) (by rw [size_madeCells,jk,wo]) (λhp k hk=>by
      rw [wo] at hk
      unfold madeCells
      exact qD z.cells _ k (by omega) (by rw [jk];exact hk))
     obtain ⟨bN,g1,g2,g3,g4,_⟩:=hh.push (lz j.zero n.toNat) i.elem (madeCells z.cells (n.toNat*inf.size)) (w.alloc (.cells (madeCells z.cells (n.toNat*inf.size)) i.elem)) ⟨w.drawn,rfl⟩
      (λk v hv=>⟨v,(N8 k v hv).1,λ_=>VR.flat (N8 k v hv).2⟩)
     unfold Oper.wp
     have im:(execOp a.eval (⟨dst,.makeSlice t x y,ty,pos,after,guard⟩:Oper)).run E.P w = .ok (.value (.slice (some ⟨w.heap.size,0,none⟩) n.toNat n.toNat)) (w.alloc (.cells (madeCells z.cells (n.toNat*inf.size)) i.elem)):=by
      simp only [execOp,e1,e2,dB,ZK,dI,eF]
     rw [im]
     refine hn _ _ bN _ _ hx g1 g2 (rK (E:=E) (cs:=0) (us:=0) g3 (by simp) g4 (aT _) ?_)
     rw [F.cellsOf,size_madeCells,jk]
     exact aT _
    ·cases hx
  ·cases hx
 ·cases hx
theorem ph(hs:SR E.P E.base φ h.length w s a){x:Option Operand}{d l:Int}(hb:kE s x d=some l):(x=none/\l=d)\/∃ y k,x=some y/\a.eval y = .int k l:=by
 cases x with
 | none=>simp only [kE] at hb;injection hb with hb;exact .inl ⟨rfl,hb.symm⟩
 | some y=>
  simp only [kE] at hb
  split at hb
  ·rename_i k n hv
   injection hb with hb
   subst hb
   exact .inr ⟨y,k,rfl,(cm hs hv).dP⟩
  ·cases hb
theorem uD{isS:Bool}{len cap:Nat}(JF:len<=cap){lo hi:Option Operand}{l r':Int}(ZL:(lo=none/\l=0)\/∃ y k,lo=some y/\a.eval y = .int k l)(hhi:(hi=none/\r'=(len:Int))\/∃ y k,hi=some y/\a.eval y = .int k r')
  (h0:0<=l)(h1:l<=r')(h2:r'<=(len:Int)):(yB isS len cap (lo.map a.eval) (hi.map a.eval) none).run E.P w = .ok (l.toNat,r'.toNat,cap) w:=by
 have hr:r'<=((cap:Nat):Int):=by omega
 have hl:l<=((r'.toNat:Nat):Int):=by omega
 rcases ZL with ⟨rfl,rfl⟩|⟨y,k,rfl,ey⟩<;>rcases hhi with ⟨rfl,rfl⟩|⟨y2,k2,rfl,YY⟩
 ·simp [yB]
 ·simp [yB,YY,run_sliceBound,hr,(by omega:0<=r')]
 ·have:l<=((len:Nat):Int):=by omega
  simp [yB,ey,run_sliceBound,h0,this]
 ·have h3:l<=max r' 0:=by omega
  simp [yB,ey,YY,run_sliceBound,hr,(by omega:0<=r'),h0,h3]
theorem JG(hE:dq E)(t:TypeId)(x:Operand)(lo hi mx:Option Operand)(hx:bG E rec (.slice t x lo hi mx) s h c=some r)(hs:SR E.P E.base φ h.length w s a)(hh:HR E.P E.base w0 φ h w)(hn:gQ E w0 φ h w dst a next c r):
  (⟨dst,.slice t x lo hi mx,ty,pos,after,guard⟩:Oper).wp E.P a w next Q:=by
 cases mx with
 | some m=>simp only [bG] at hx;cases hx
 | none=>
  simp only [bG] at hx
  split at hx
  ·rename_i v h1
   split at hx
   ·rename_i l r' i h2 h3 h4
    cases hb:mw .str i with
    | false=>rw [hb] at hx;cases hx
    | true=>
     rw [hb] at hx
     simp only [yy,cond_false] at hx
     split at hx
     ·rename_i hc
      have e:=(cm hs h1).mE
      have hu:=(hE.ti t i h4).str hb
      have YZ:=uD (E:=E) (w:=w) (isS:=false) (cap:=v.size) (aT _) (ph hs h2) (ph hs h3) hc.1 hc.2.1 hc.2.2
      refine bq (o:=⟨dst,.slice t x lo hi none,ty,pos,after,guard⟩) hn hh hx (.str _) ?_
      simp only [execOp,e,OY,VA,dB,bh.under hu,dI,VB]
      simp [YZ]
     ·cases hx
   ·cases hx
  ·rename_i ad n c0 h1
   split at hx
   ·rename_i i lL
    split at hx
    ·rename_i j hj
     split at hx
     ·rename_i l r' h2 h3
      cases hb:lN i with
      | false=>rw [hb] at hx;cases hx
      | true=>
       rw [hb] at hx
       simp only [yy,cond_false] at hx
       split at hx
       ·rename_i hc
        obtain ⟨Gl,AZ,hc3,I7⟩:=hc
        have F:=hE.ti i.elem j hj
        have hu:=(hE.ti t i lL).slice hb
        obtain ⟨a',c',e,hm,Gh⟩:=(cm hs h1).jj
        have YZ:=uD (E:=E) (w:=w) (isS:=true) hm (ph hs h2) (ph hs h3) Gl AZ hc3
        refine bq (o:=⟨dst,.slice t x lo hi none,ty,pos,after,guard⟩) (u:=.slice (if c'=l.toNat then a' else a'.map (·.add (l.toNat*j.ks.length))) (r'.toNat-l.toNat) (c'-l.toNat)) hn hh hx ?_ ?_
        ·rcases Gh with ⟨I6,hc0,had⟩|⟨z,hz,Ey,aS,Gi,Br⟩
         ·subst I6;subst hc0
          have hl0:l=0:=by omega
          have VC:r'=0:=by omega
          subst hl0;subst VC
          simp only [Int.toNat_zero,Nat.sub_self,if_true]
          refine .empty _ _ _ λx hx=>?_
          cases ad with
          | none=>cases hx
          | some y=>
           simp only [dm,j8] at hx
           injection hx with hx
           subst hx
           exact ⟨rfl,(had y rfl).2⟩
         ·subst hz
          by_cases nI:c'=l.toNat
          ·rw [if_pos nI]
           have e1:r'.toNat-l.toNat=0:=by omega
           have e2:c'-l.toNat=0:=by omega
           rw [e1,e2]
           refine .empty _ _ _ λx hx=>?_
           simp only [dm,j8] at hx
           injection hx with hx
           subst hx
           exact ⟨rfl,aS⟩
          ·rw [if_neg nI,Gi]
           have JB:(⟨(φ z.block).1,(φ z.block).2+z.off,none⟩:Addr).add (l.toNat*j.ks.length)=⟨(φ z.block).1,(φ z.block).2+(z.off+l.toNat*j.ks.length),none⟩:=by
            unfold Addr.add
            split
            ·rename_i h0;rw [h0];rfl
            ·simp [bO]
           simp only [j8,JB,dm]
           refine .slice _ _ _ _ _ aS (by omega) λhbs=>?_
           obtain ⟨e',sz,g1,g2⟩:=Br hbs
           refine ⟨e',sz,g1,?_⟩
           unfold jZ at I7
           rcases OX l.toNat with h0|Jw
           ·rw [h0];simpa using g2
           ·have aeV:bg l.toNat 0=false:=by
             cases hq:bg l.toNat 0 with
             | false=>rfl
             | true=>have:=dk hq;omega
            rw [aeV] at I7
            simp only [iM] at I7
            have hty:E.P.cellsOf e'=j.ks.length:=by
             cases ZM:cx z.block E.base with
             | true=>
              have hzb:z.block<E.base:=by simpa [e_] using ZM
              rw [hh.lo z.block hzb] at hbs
              simp at hbs
              omega
             | false=>
              rw [ZM] at I7
              simp only [iM] at I7
              cases hk:bD h z.block with
              | none=>rw [hk] at I7;cases I7
              | some k=>
               rw [hk] at I7
               have VD:=dk I7
               obtain ⟨cs,fr,q1,_⟩:=hh.bK z.block k hk (hh.Jq hk (by rw [VD];exact hE.Jq hj))
               simp only [jK,q1] at g1
               injection g1 with g1
               injection g1 with g1 _
               rw [<- g1,VD]
               exact F.cellsOf
            
            rw [hty] at g2 ⊢
            have:l.toNat*j.ks.length+(c'-l.toNat)*j.ks.length=c'*j.ks.length:=by rw [<- mH];congr 1;omega
            omega
        ·simp only [execOp,e,OY,VA,dB,bh.under hu,dI,VB,YZ,F.size w,eF]
       ·cases hx
     ·cases hx
    ·cases hx
   ·cases hx
  ·cases hx
end
section
variable {R:Type} {E:Env} {w0 w:World} {φ:Nat->Nat×Nat} {h:AH} {s:az} {a:Act} {next:Act->World->Prop} {Q:Exit->Act->World->Prop} {r:R} {c:Value->AH->Option R}
 {rec:Rec} {dst:Option Tmp} {ty:TypeId} {pos:String} {after:Array Edge} {guard:Option (Nat×Bool)}
theorem HR.kill(hh:HR E.P E.base w0 φ h w)(b:Nat):HR E.P E.base w0 φ (h.set b none) w where
 below:=hh.below
 mp:=λi k l hi hm=>by
  by_cases e:b=i
  ·subst e
   by_cases hb:b<h.length
   ·rw [du hb] at hi;cases hi
   ·have:=di hi;simp at this;omega
  ·rw [dz e] at hi
   exact hh.mp i k l hi hm
 bK:=λi k hi hm=>by
  by_cases e:b=i
  ·subst e
   by_cases hb:b<h.length
   ·rw [du hb] at hi;cases hi
   ·have:=di hi;simp at this;omega
  ·rw [dz e] at hi
   obtain ⟨cs,fr,g1,g2,g3⟩:=hh.bK i k hi hm
   exact ⟨cs,fr,g1,λj v hj=>by
    obtain ⟨u,hu,hv⟩:=g2 j v hj
    exact ⟨u,hu,hv.mono (λ_ _=>rfl) (by simp) (cO.refl _)⟩,g3⟩
 inj:=λi j k l hi hj e=>by
  have live:∀ {x y},bD (h.set b none) x=some y->bD h x=some y:=by
   intro x y hx
   by_cases e:b=x
   ·subst e
    by_cases hb:b<h.length
    ·rw [du hb] at hx;cases hx
    ·have:=di hx;simp at this;omega
   ·rw [dz e] at hx;exact hx
  exact hh.inj i j k l (live hi) (live hj) e
 lo:=hh.lo
 len:=by simpa using hh.len
 bw:=hh.bw
theorem xm{h:AH}{b x:Nat}{y:df}(hx:bD (h.set b none) x=some y):bD h x=some y/\b≠x:=by
 by_cases e:b=x
 ·subst e
  by_cases hb:b<h.length
  ·rw [du hb] at hx;cases hx
  ·have:=di hx;simp at this;omega
 ·rw [dz e] at hx;exact ⟨hx,e⟩
theorem Ext.kill(φ:Nat->Nat×Nat)(h:AH)(w:World)(b:Nat):Ext φ h w φ (h.set b none) w:=
 ⟨by simp,λ_ _=>rfl,λi k hi _=>⟨i,k,(xm hi).1,rfl⟩,λ_ _ _=>rfl,aT _,cO.refl _⟩
theorem JH(hs:SR E.P E.base φ h.length w s a){xs:Array Operand}{v:Value}(vZ:uy s xs.toList=some [v]):∃ x,xs=#[x]/\VR E.P E.base φ h.length w v (a.eval x):=by
 obtain ⟨hl,hr⟩:=jw hs vZ
 obtain ⟨xs⟩:=xs
 simp only at hl hr
 match xs,hl with
 | [x],_=>exact ⟨x,rfl,hr 0 v (a.eval x) rfl rfl⟩
theorem JI(hs:SR E.P E.base φ h.length w s a){xs:Array Operand}{v v2:Value}(vZ:uy s xs.toList=some [v,v2]):∃ x x2,xs=#[x,x2]/\VR E.P E.base φ h.length w v (a.eval x)/\VR E.P E.base φ h.length w v2 (a.eval x2):=by
 obtain ⟨hl,hr⟩:=jw hs vZ
 obtain ⟨xs⟩:=xs
 simp only at hl hr
 match xs,hl with
 | [x,x2],_=>exact ⟨x,x2,rfl,hr 0 v (a.eval x) rfl rfl,hr 1 v2 (a.eval x2) rfl rfl⟩
theorem JJ{α:Type}{ts:Array α}{l:List α}(h:ts.toList=l):ts=l.toArray:=by
 rw [<- h]
theorem VE(hE:dq E)(xs:Array Operand)(ts:Array TypeId)(vs:List Value)(vZ:uy s xs.toList=some vs)(hx:uz E ts.toList vs h c=some r)(hs:SR E.P E.base φ h.length w s a)(hh:HR E.P E.base w0 φ h w)(hn:gQ E w0 φ h w dst a next c r):
  (⟨dst,.call { callee:=.builtin .len,args:=xs,argTypes:=ts },ty,pos,after,guard⟩:Oper).wp E.P a w next Q:=by
 unfold uz at hx
 split at hx
 ·rename_i v t ht
  obtain ⟨x,rfl,hv⟩:=JH hs vZ
  obtain rfl:=JJ ht
  split at hx
  ·rename_i i hi
   split at hx
   ·rename_i ad n c0
    cases hb:lN i with
    | false=>rw [hb] at hx;cases hx
    | true=>
     rw [hb] at hx
     simp only [cond_true] at hx
     obtain ⟨a',c',e,hm,_⟩:=hv.jj
     have hu:=(hE.ti t i hi).slice hb
     exact bq (o:=⟨dst,.call { callee:=.builtin .len,args:=#[x],argTypes:=#[t] },ty,pos,after,guard⟩) hn hh hx (.int _ _) (by
      simp [execOp,resolve,invoke,builtin,VF,e,bh.under hu,goInt])
   ·rename_i str
    cases hb:mw .str i with
    | false=>rw [hb] at hx;cases hx
    | true=>
     rw [hb] at hx
     simp only [cond_true] at hx
     have e:=hv.mE
     have hu:=(hE.ti t i hi).str hb
     exact bq (o:=⟨dst,.call { callee:=.builtin .len,args:=#[x],argTypes:=#[t] },ty,pos,after,guard⟩) hn hh hx (.int _ _) (by
      simp [execOp,resolve,invoke,builtin,VF,e,bh.under hu,goInt])
   ·cases hx
  ·cases hx
 ·cases hx
theorem Gm(w:World):∀ (vs us:List Value) (v u:Value) (cc:Value->Option R),yt v vs cc=some r->vs.length=us.length->(∀ (i:Nat) (x y:Value),vs[i]? = some x->us[i]? = some y->VR E.P E.base φ h.length w x y) ->
  VR E.P E.base φ h.length w v u->∃ z,cc z=some r/\∃ z',VR E.P E.base φ h.length w z z'/\(us.foldlM VG u).run E.P w = .ok z' w
 | [],us,v,u,cc,hx,hl,hr,hv=>by
  have:us = []:=iL (by simpa using hl.symm)
  subst this
  cases v<;>(simp only [yt] at hx;exact ⟨_,hx,u,hv,by simp⟩)
 | x :: vs,[],v,u,cc,hx,hl,hr,hv=>by simp at hl
 | x :: vs,y :: us,v,u,cc,hx,hl,hr,hv=>by
  have hxy:=hr 0 x y rfl rfl
  simp only [yt] at hx
  split at hx
  ·rename_i k m k' n
   have e3:=hv.dP
   have e4:=hxy.dP
   subst e3;subst e4
   obtain ⟨z,h1,z',h2,h3⟩:=Gm w vs us _ (.int k (if n>m then n else m)) cc hx (by simpa using hl) (λi p q hp hq=>hr (i+1) p q hp hq) (.int _ _)
   exact ⟨z,h1,z',h2,by simp only [VH,dB,VG,eF,dI];exact h3⟩
  ·cases hx
theorem Gp(w:World):∀ (vs us:List Value) (v u:Value) (cc:Value->Option R),yr v vs cc=some r->vs.length=us.length->(∀ (i:Nat) (x y:Value),vs[i]? = some x->us[i]? = some y->VR E.P E.base φ h.length w x y) ->
  VR E.P E.base φ h.length w v u->∃ z,cc z=some r/\∃ z',VR E.P E.base φ h.length w z z'/\(us.foldlM VI u).run E.P w = .ok z' w
 | [],us,v,u,cc,hx,hl,hr,hv=>by
  have:us = []:=iL (by simpa using hl.symm)
  subst this
  cases v<;>(simp only [yr] at hx;exact ⟨_,hx,u,hv,by simp⟩)
 | x :: vs,[],v,u,cc,hx,hl,hr,hv=>by simp at hl
 | x :: vs,y :: us,v,u,cc,hx,hl,hr,hv=>by
  have hxy:=hr 0 x y rfl rfl
  simp only [yr] at hx
  split at hx
  ·rename_i k m k' n
   have e3:=hv.dP
   have e4:=hxy.dP
   subst e3;subst e4
   obtain ⟨z,h1,z',h2,h3⟩:=Gp w vs us _ (.int k (if n<m then n else m)) cc hx (by simpa using hl) (λi p q hp hq=>hr (i+1) p q hp hq) (.int _ _)
   exact ⟨z,h1,z',h2,by simp only [VH,dB,VI,eF,dI];exact h3⟩
  ·cases hx
end
section
variable {R:Type} {E:Env} {w0 w:World} {φ:Nat->Nat×Nat} {h:AH} {s:az} {a:Act} {next:Act->World->Prop} {Q:Exit->Act->World->Prop} {r:R} {c:Value->AH->Option R}
 {rec:Rec} {dst:Option Tmp} {ty:TypeId} {pos:String} {after:Array Edge} {guard:Option (Nat×Bool)}
theorem VJ(xs:Array Operand)(ts:Array TypeId)(v:Value)(vs:List Value)(vZ:uy s xs.toList=some (v :: vs))(hx:yr v vs (λx=>c x h)=some r)(hs:SR E.P E.base φ h.length w s a)(hh:HR E.P E.base w0 φ h w)(hn:gQ E w0 φ h w dst a next c r):
  (⟨dst,.call { callee:=.builtin .min,args:=xs,argTypes:=ts },ty,pos,after,guard⟩:Oper).wp E.P a w next Q:=by
 obtain ⟨hl,hr⟩:=jw hs vZ
 obtain ⟨xs⟩:=xs
 simp only at hl hr
 match xs,hl,hr with
 | x :: xs,hl,hr=>
  obtain ⟨z,h1,z',h2,h3⟩:=Gp w vs (xs.map a.eval) v (a.eval x) _ hx (by simpa using hl) (λi p q hp hq=>hr (i+1) p q hp (by simpa using hq)) (hr 0 v _ rfl rfl)
  exact bq (o:=⟨dst,.call { callee:=.builtin .min,args:=(x :: xs).toArray,argTypes:=ts },ty,pos,after,guard⟩) hn hh h1 h2 (by
   simp only [execOp,resolve,invoke,builtin,Builtin.min_,dB,eF,dI,OZ,mD]
   rw [h3];rfl)
theorem VK(xs:Array Operand)(ts:Array TypeId)(v:Value)(vs:List Value)(vZ:uy s xs.toList=some (v :: vs))(hx:yt v vs (λx=>c x h)=some r)(hs:SR E.P E.base φ h.length w s a)(hh:HR E.P E.base w0 φ h w)(hn:gQ E w0 φ h w dst a next c r):
  (⟨dst,.call { callee:=.builtin .max,args:=xs,argTypes:=ts },ty,pos,after,guard⟩:Oper).wp E.P a w next Q:=by
 obtain ⟨hl,hr⟩:=jw hs vZ
 obtain ⟨xs⟩:=xs
 simp only at hl hr
 match xs,hl,hr with
 | x :: xs,hl,hr=>
  obtain ⟨z,h1,z',h2,h3⟩:=Gm w vs (xs.map a.eval) v (a.eval x) _ hx (by simpa using hl) (λi p q hp hq=>hr (i+1) p q hp (by simpa using hq)) (hr 0 v _ rfl rfl)
  exact bq (o:=⟨dst,.call { callee:=.builtin .max,args:=(x :: xs).toArray,argTypes:=ts },ty,pos,after,guard⟩) hn hh h1 h2 (by
   simp only [execOp,resolve,invoke,builtin,Builtin.max_,dB,eF,dI,OZ,mD]
   rw [h3];rfl)
theorem HR.VL(hh:HR E.P E.base w0 φ h w){b:Nat}{k:df}(hk:bD h b=some k)(p_:k.m=none)(hb:E.base<=b){nq:Array Value}(ZN:w.heap[(φ b).1]? = some (.cells nq k.ty (0,0)))
  (nc:Array Value)(jk:nc.size=nq.size)(o:Nat)(Q4:List Value)(hr:∀ (j:Nat) (v:Value),Q4[j]? = some v->∃ u,nc[o+j]? = some u/\CR E.P E.base φ h.length w v u):
  ∃ bN,Ext φ h w bN (h.set b none++[some ⟨Q4,k.ty⟩]) (w.setRow (φ b).1 nc)/\HR E.P E.base w0 bN (h.set b none++[some ⟨Q4,k.ty⟩]) (w.setRow (φ b).1 nc)/\bN h.length=((φ b).1,o):=by
 let bN:Nat->Nat×Nat:=λi=>if i=h.length then ((φ b).1,o) else φ i
 have hold:∀ i,i<h.length->bN i=φ i:=λi hi=>by simp only [bN];rw [if_neg (by omega)]
 have gF:bN h.length=((φ b).1,o):=by simp [bN]
 have fR:=qA w (φ b).1 nq nc k.ty (0,0) ZN jk
 have xg:E.base<=(φ b).1:=by
  obtain ⟨cs,fr,_,_,h3⟩:=hh.bK b k hk p_
  exact (h3 hb).2
 have aS:=di hk
 have eN:∀ i l,bD h i=some l->i≠b->(φ i).1≠(φ b).1:=λi l hi dv e=>dv (hh.inj i b l k hi hk e)
 have hlen:(h.set b none).length=h.length:=by simp
 have fh:∀ i l,bD (h.set b none++[some ⟨Q4,k.ty⟩]) i=some l->(i<h.length/\i≠b/\bD h i=some l)\/(i=h.length/\l=⟨Q4,k.ty⟩):=λi l hi=>by
  rcases pi i h.length with hl|I4|uC
  ·rw [eG (by rw [hlen];exact hl)] at hi
   obtain ⟨h1,h2⟩:=xm hi
   exact .inl ⟨hl,Ne.symm h2,h1⟩
  ·have:bD (h.set b none++[some ⟨Q4,k.ty⟩]) h.length=some ⟨Q4,k.ty⟩:=by
    have:=dU (h:=h.set b none) (x:=some ⟨Q4,k.ty⟩)
    rw [hlen] at this;exact this
   rw [I4,this] at hi
   injection hi with hi
   exact .inr ⟨I4,hi.symm⟩
  ·rw [fq (by rw [hlen];exact uC)] at hi;cases hi
 refine ⟨bN,⟨by simp,hold,?_,λx _ hx=>?_,by simp,fR⟩,⟨?_,?_,?_,?_,?_,?_,?_⟩,gF⟩
 ·intro i l hi _
  rcases fh i l hi with ⟨h1,h2,h3⟩|⟨h1,_⟩
  ·exact ⟨i,l,h3,by rw [hold i h1]⟩
  ·rw [h1,gF];exact ⟨b,k,hk,rfl⟩
 ·exact setRow_other w _ x nc (λe=>hx b k hk e.symm)
 ·exact hh.below.trans ⟨rfl,rfl,rfl,by simp,λx hx=>setRow_other w _ x nc (by omega)⟩
 ·intro i l hi hm
  rcases fh i l hi with ⟨h1,h2,h3⟩|⟨h1,h2⟩
  ·obtain ⟨cs,fr,g1,g2,g3⟩:=hh.bK i l h3 hm
   rw [hold i h1]
   refine ⟨cs,fr,by rw [setRow_other w _ _ nc (eN i l h3 h2)];exact g1,λj v hj=>?_,g3⟩
   obtain ⟨u,hu,hv⟩:=g2 j v hj
   exact ⟨u,hu,hv.mono hold (by simp) fR⟩
  ·subst h2
   rw [h1,gF]
   refine ⟨nc,(0,0),setRow_heap w _ nq nc k.ty (0,0) ZN,λj v hj=>?_,λ_=>⟨rfl,xg⟩⟩
   obtain ⟨u,hu,hv⟩:=hr j v hj
   exact ⟨u,hu,hv.mono hold (by simp) fR⟩
 ·intro i l m hi hm
  rcases fh i l hi with ⟨h1,h2,h3⟩|⟨h1,h2⟩
  ·obtain ⟨g0,g1,g2,es,clock,g3,g4⟩:=hh.mp i l m h3 hm
   rw [hold i h1]
   exact ⟨g0,g1,g2,es,clock,by rw [setRow_other w _ _ nc (eN i l h3 h2)];exact g3,g4⟩
  ·subst h2;cases hm
 ·intro i j l m hi hj e
  rcases fh i l hi with ⟨h1,h2,h3⟩|⟨h1,h2⟩<;>rcases fh j m hj with ⟨g1,g2,g3⟩|⟨g1,g2⟩
  ·rw [hold i h1,hold j g1] at e;exact hh.inj i j l m h3 g3 e
  ·rw [g1,hold i h1,gF] at e
   exact absurd e (eN i l h3 h2)
  ·rw [h1,hold j g1,gF] at e
   exact absurd e.symm (eN j m g3 g2)
  ·omega
 ·intro i hi;rw [hold i (cW hi hh.len)];exact hh.lo i hi
 ·have:=hh.len;simp;omega
 ·simpa using hh.bw
def yC(P:Program)(w:World)(t u ty:TypeId)(sz:Nat)(x:Value)(m:Nat)(news:List Value):Prop:=
 ∀ (b:Addr) (n cap:Nat) (w':World),n+m<=cap->(storeCells (b.add (n*sz)) news).run P w = .ok () w'->(jN #[t,u] ty #[.slice (some b) n cap,x]).run P w = .ok (.slice (some b) (n+m) cap) w'
def yD(P:Program)(w:World)(t u ty e:TypeId)(sz bytes:Nat)(z:Value)(x:Value)(m:Nat)(news:List Value):Prop:=
 ∀ (ba:Option Addr) (n cap:Nat) (dp:List Value),(mI sz n (.slice ba n cap)).run P w.drew = .ok dp.toArray w.drew->cap<n+m->n+m<=9223372036854775807->(n+m)*bytes<=140737488355328 ->
  (jN #[t,u] ty #[.slice ba n cap,x]).run P w = .ok (.slice (some ⟨w.heap.size,0,none⟩) (n+m) (grownCap w (n+m) cap e))
    (w.drew.alloc (.cells (dp.toArray++news.toArray++mJ z.cells (grownCap w (n+m) cap e-(n+m))) e))
theorem xn{P:Program}{t u ty e:TypeId}{i:TypeInfo}{z:Value}(ht:P.underlying t=some (.slice e))(hu:P.underlying u=some (.slice e)\/P.underlying u=some .string)(hi:P.info? e=some i)(hz:i.zero=some z)
  {x:Value}{m:Nat}{news:List Value}(hl:JK x=pure m)(hf:(mI i.size m x).run P w = .ok news.toArray w)(hf':(mI i.size m x).run P w.drew = .ok news.toArray w.drew):
  yC P w t u ty i.size x m news/\yD P w t u ty e i.size i.bytes z x m news:=by
 constructor
 ·intro b n cap w' hr qB
  rcases hu with hu|hu<;>simp [jN,run_underlying ht,run_underlying hu,sizeOf,typeInfo,hi,hl,hr,hf,qB]
 ·intro ba n cap dp hfo hg Q5 hb
  have hn:¬(n+m<=cap):=by omega
  have VM:¬(9223372036854775807<((n:Int)+(m:Int))):=by omega
  have h48:=growslice_fits hg hb
  have VN:¬(281474976710656<VO (n+m) cap*i.bytes):=by omega
  rcases hu with hu|hu<;>(
   simp [jN,run_underlying ht,run_underlying hu,sizeOf,typeInfo,zeroValue,hi,hz,hl,hn,VM,VN,Question.forced,hf',hfo,newRow,grownCap]
   congr 2
   apply Gq
   simp [List.append_assoc])
theorem HP{P:Program}{t u ty e:TypeId}{i:TypeInfo}{z:Value}(ht:P.underlying t=some (.slice e)){k:IntKind}(hu:P.underlying u=some (.int k))(hi:P.info? e=some i)(hz:i.zero=some z)
  {m:Int}(h0:0<m)(hm:m<=140737488355328)(hb:m.toNat*i.bytes<=140737488355328)(jk:0<i.size):
  yC P w t u ty i.size (.int .i64 m) m.toNat (mJ z.cells m.toNat).toList/\yD P w t u ty e i.size i.bytes z (.int .i64 m) m.toNat (mJ z.cells m.toNat).toList:=by
 have hw:IntKind.i64.wrap m=m:=IntWalk.i64_in m (by omega)
 have HM:¬(m<0):=by omega
 have ZO:¬(m*(i.bytes:Int)>281474976710656):=by
  have:m*(i.bytes:Int)=((m.toNat*i.bytes:Nat):Int):=by
   rw [Int.natCast_mul,Int.toNat_of_nonneg (by omega)]
  rw [this];omega
 have dv:m.toNat*i.size≠0:=Nat.mul_ne_zero (by omega) (by omega)
 have JL:¬(m.toNat=0\/i.size=0):=by omega
 constructor
 ·intro b n cap w' hr qB
  simp [jN,run_underlying ht,run_underlying hu,sizeOf,typeInfo,zeroValue,hi,hz,hr,qB,hw,HM,ZO,dv,JL,asInt,asIntOf]
 ·intro ba n cap dp hfo hg Q5 hb
  have hn:¬(n+m.toNat<=cap):=by omega
  have VM:¬(9223372036854775807<((n:Int)+(m.toNat:Int))):=by omega
  have h48:=growslice_fits hg hb
  have VN:¬(281474976710656<VO (n+m.toNat) cap*i.bytes):=by omega
  simp [jN,run_underlying ht,run_underlying hu,sizeOf,typeInfo,zeroValue,hi,hz,hn,VM,VN,Question.forced,hfo,newRow,grownCap,hw,HM,ZO,dv,JL,asInt,asIntOf]
  intro hq
  omega
theorem xo{base:Nat}{h:AH}{t sz bytes:Nat}{ad:Option Addr}{n m:Nat}{new:List Value}{p:Value×AH}(hx:grow base h t sz bytes ad n new m=some p):(n+m)*bytes<=140737488355328/\n+m<=9223372036854775807 /\
  ((ad=none/\n=0/\p=(.slice (some ⟨h.length,0,none⟩) m m,h++[some ⟨new,t⟩]))\/∃ x k,ad=some x/\bD h x.block=some k/\base<=x.block/\k.ty=t/\x.off+n*sz<=k.cs.length /\
   p=(.slice (some ⟨h.length,0,none⟩) (n+m) (n+m),h.set x.block none++[some ⟨(k.cs.drop x.off).take (n*sz)++new,t⟩])):=by
 unfold grow at hx
 split at hx
 ·rename_i h1
  refine ⟨h1.1,h1.2,?_⟩
  cases ad with
  | none=>
   simp only at hx
   split at hx
   ·rename_i h2;injection hx with hx;exact .inl ⟨rfl,h2,hx.symm⟩
   ·cases hx
  | some x=>
   simp only at hx
   cases hk:bD h x.block with
   | none=>rw [hk] at hx;cases hx
   | some k=>
    rw [hk] at hx
    simp only [aJ] at hx
    split at hx
    ·rename_i h2;injection hx with hx;exact .inr ⟨x,k,rfl,hk,h2.1,h2.2.1,h2.2.2,hx.symm⟩
    ·cases hx
 ·cases hx
theorem n_(b o n:Nat):(⟨b,o,none⟩:Addr).add n=⟨b,o+n,none⟩:=by
 unfold Addr.add
 split
 ·rename_i h0;rw [h0];rfl
 ·rfl
theorem rL(hE:dq E)(hh:HR E.P E.base w0 φ h w){t u ty e sz bytes:Nat}{j:TI}{z:Value}(hj:E.ti e=some j)(jk:j.ks.length=sz)(YX:z.cells.size=sz)(Jw:0<sz){x:Value}{m:Nat}{new news:List Value}(hm:0<m)(hnl:new.length=m*sz)(aeW:news.length=m*sz)
  (hnr:∀ (j:Nat) (p q:Value),new[j]? = some p->news[j]? = some q->VR E.P E.base φ h.length w p q)(h1c:∀ v∈news,v.oneCell'=true)
  (hR:yC E.P w t u ty sz x m news)(hG:yD E.P w t u ty e sz bytes z x m news){ad:Option Addr}{n c0:Nat}{y:Value}(hv:VR E.P E.base φ h.length w (.slice ad n c0) y){p:Value×AH}(hg:grow E.base h e sz bytes ad n new m=some p):
  ∃ v' w' bN,(jN #[t,u] ty #[y,x]).run E.P w = .ok v' w'/\Ext φ h w bN p.2 w'/\HR E.P E.base w0 bN p.2 w'/\VR E.P E.base bN p.2.length w' p.1 v':=by
 obtain ⟨a',cap,rfl,Vt,Gh⟩:=hv.jj
 obtain ⟨jM,jx,fh⟩:=xo hg
 have qE:(mJ z.cells (grownCap w (n+m) cap e-(n+m))).size=(grownCap w (n+m) cap e-(n+m))*sz:=by simp [mJ,YX]
 have hco:=(hE.ti e j hj).cellsOf
 have hge:=grownCap_ge w (n+m) cap e
 have fresh:∀ (dp Bs:List Value),Bs.length=n*sz->dp.length=n*sz->(∀ (i:Nat) (p q:Value),Bs[i]? = some p->dp[i]? = some q->CR E.P E.base φ h.length w p q) ->
   (mI sz n (.slice a' n cap)).run E.P w.drew = .ok dp.toArray w.drew->cap<n+m->∀ h1,(∃ k,h1=h\/h1=h.set k none)->p=(.slice (some ⟨h.length,0,none⟩) (n+m) (n+m),h1++[some ⟨Bs++new,e⟩]) ->
   ∃ v' w' bN,(jN #[t,u] ty #[.slice a' n cap,x]).run E.P w = .ok v' w'/\Ext φ h w bN p.2 w'/\HR E.P E.base w0 bN p.2 w'/\VR E.P E.base bN p.2.length w' p.1 v':=by
  intro dp Bs l1 l2 hr hf JF h1 da hp
  have hH:HR E.P E.base w0 φ h1 w/\Ext φ h w φ h1 w/\h1.length=h.length:=by
   obtain ⟨k,rfl|rfl⟩:=da
   ·exact ⟨hh,Ext.refl ..,rfl⟩
   ·exact ⟨hh.kill k,Ext.kill ..,by simp⟩
  obtain ⟨H1,H2,H3⟩:=hH
  obtain ⟨bN,e1,e2,e3,e4,_⟩:=H1.push (Bs++new) e (dp.toArray++news.toArray++mJ z.cells (grownCap w (n+m) cap e-(n+m))) (w.drew.alloc (.cells (dp.toArray++news.toArray++mJ z.cells (grownCap w (n+m) cap e-(n+m))) e)) ⟨w.drawn+1,rfl⟩ (λi v hi=>by
   rw [H3]
   by_cases aS:i<n*sz
   ·rw [gE (by omega)] at hi
    have hq:i<dp.length:=by omega
    refine ⟨dp[i],?_,hr i v _ hi (bk hq)⟩
    rw [Q6 (by simp;omega),Q6 (by simp;omega)]
    simp [hq]
   ·rw [jL (by omega)] at hi
    have lL:=(bY.1 hi).1
    have hq:i-Bs.length<news.length:=by omega
    refine ⟨news[i-Bs.length],?_,λ_=>hnr (i-Bs.length) v _ hi (bk hq)⟩
    rw [Q6 (by simp;omega),Array.getElem?_append_right (by simp;omega)]
    simp [l1,l2])
  subst hp
  refine ⟨_,_,bN,hG a' n cap dp hf JF jx jM,H2.trans e1,e2,?_⟩
  simp only
  rw [<- H3]
  refine rK (E:=E) (cs:=0) (us:=0) e3 (by simp) e4 hge ?_
  rw [hco,jk]
  simp only [Array.size_append,List.size_toArray,qE,l2,aeW,<- mH]
  exact Nat.le_of_eq (by congr 1;omega)
 rcases fh with ⟨rfl,I6,hp⟩|⟨xa,k,rfl,hk,ZP,VD,hko,hp⟩
 ·subst I6
  rcases Gh with ⟨_,hc0,_⟩|⟨z,hz,_⟩
  ·subst hc0
   refine fresh [] [] (by simp) (by simp) (λi p q hp _=>by simp at hp) ?_ (by omega) h ⟨0,.inl rfl⟩ (by simpa using hp)
   cases a'<;>simp [mI,loadCells,loadCellsFrom]
  ·cases hz
 ·have p_:k.m=none:=hh.Jq hk (by rw [VD];exact hE.Jq hj)
  obtain ⟨nq,fr,g1,g2,g3⟩:=hh.bK xa.block k hk p_
  obtain ⟨rfl,xg⟩:=g3 ZP
  have hoc:((k.cs.drop xa.off).take (n*sz)).length=n*sz:=by simp;omega
  have hold:∀ j,j<n*sz->∃ u,nq[(φ xa.block).2+(xa.off+j)]? = some u/\∀ v,((k.cs.drop xa.off).take (n*sz))[j]? = some v->CR E.P E.base φ h.length w v u:=by
   intro j hj
   have hq:xa.off+j<k.cs.length:=by omega
   obtain ⟨u,hu,hr⟩:=g2 (xa.off+j) _ (bk hq)
   refine ⟨u,hu,λv hv=>?_⟩
   rw [bJ hj,bZ,bk hq] at hv
   injection hv with hv
   rw [<- hv];exact hr
  let f:Nat->Value:=λj=>if hj:j<n*sz then (hold j hj).choose else undef
  have hf:∀ j,j<n*sz->nq[(φ xa.block).2+(xa.off+j)]? = some (f j)/\∀ v,((k.cs.drop xa.off).take (n*sz))[j]? = some v->CR E.P E.base φ h.length w v (f j):=by
   intro j hj
   simp only [f,hj,dite_true]
   exact (hold j hj).choose_spec
  by_cases Br:n+m<=cap
  ·rcases Gh with ⟨_,hc0,_⟩|⟨xb,HQ,Ey,aS,Gi,hrm⟩
   ·omega
   ·injection HQ with HQ
    subst HQ
    subst Gi
    obtain ⟨e',sz',q1,q2⟩:=hrm xg
    simp only [jK,g1] at q1
    injection q1 with q1
    injection q1 with q1 q3
    subst q1;subst q3
    rw [VD,hco,jk] at q2
    have Jx:(φ xa.block).2+xa.off+n*sz+news.length<=nq.size:=by
     have:(n+m)*sz<=cap*sz:=O0 _ Br
     rw [mH] at this
     omega
    have qB:=run_storeCells_at E.P (φ xa.block).1 ((φ xa.block).2+xa.off+n*sz) k.ty news 0 nq w g1 (by simpa using Jx) h1c
    simp only [Nat.add_zero] at qB
    generalize Vt:(nq.toList.take ((φ xa.block).2+xa.off+n*sz)++news++nq.toList.drop ((φ xa.block).2+xa.off+n*sz+news.length)).toArray=nc at qB
    have ZQ:nc.size=nq.size:=by rw [<- Vt];simp;omega
    have bD:∀ j,nc[j]? = if (φ xa.block).2+xa.off+n*sz<=j/\j<(φ xa.block).2+xa.off+n*sz+news.length then news[j-((φ xa.block).2+xa.off+n*sz)]? else nq[j]?:=by
     intro j
     have:=cY (cs:=nq.toList) (vs:=news) (o:=(φ xa.block).2+xa.off+n*sz) (by simpa using Jx) j
     rw [<- Vt]
     simp only [setAt] at this
     simpa using this
    obtain ⟨bN,e1,e2,e3⟩:=hh.VL hk p_ ZP g1 nc ZQ ((φ xa.block).2+xa.off) ((k.cs.drop xa.off).take (n*sz)++new) (λj v hj=>by
     by_cases dg:j<n*sz
     ·rw [gE (by omega)] at hj
      obtain ⟨r1,r2⟩:=hf j dg
      exact ⟨f j,by rw [bD,if_neg (by omega),bO];exact r1,r2 v hj⟩
     ·rw [jL (by omega)] at hj
      have lL:=(bY.1 hj).1
      have hq:j-((k.cs.drop xa.off).take (n*sz)).length<news.length:=by omega
      refine ⟨news[j-((k.cs.drop xa.off).take (n*sz)).length],?_,λ_=>hnr _ v _ hj (bk hq)⟩
      rw [bD,if_pos ⟨by omega,by omega⟩,<- bk hq]
      congr 1
      omega)
    subst hp
    rw [<- VD]
    refine ⟨_,_,bN,hR _ n cap _ Br (by rw [n_];exact qB),e1,e2,?_⟩
    have:=VR.slice (P:=E.P) (base:=E.base) (φ:=bN) (n:=(h.set xa.block none++[some (⟨(k.cs.drop xa.off).take (n*sz)++new,k.ty⟩:df)]).length) (w:=w.setRow (φ xa.block).1 nc) h.length 0 (n+m) (n+m) cap (by simp) Br (λ_=>⟨k.ty,nq.size,by
     rw [e3]
     simp only [jK,setRow_heap w _ nq nc k.ty (0,0) g1,ZQ],by
     rw [e3,VD,hco,jk]
     simpa using q2⟩)
    rw [e3] at this
    simpa using this
  ·refine fresh ((dM (n*sz)).map f) _ hoc (by simp) (λi p q hp hq=>?_) ?_ (by omega) (h.set xa.block none) ⟨_,.inr rfl⟩ hp
   ·have hi:i<n*sz:=by have:=(bY.1 hp).1;omega
    simp [hi] at hq
    rw [<- hq]
    exact (hf i hi).2 p hp
   ·rcases Gh with ⟨I6,_,_⟩|⟨xb,HQ,Ey,aS,Gi,hrm⟩
    ·subst I6
     cases a'<;>simp [mI,loadCells,loadCellsFrom]
    ·injection HQ with HQ
     subst HQ
     subst Gi
     exact run_firstCells_some (P:=E.P) w.drew sz n _ _ _ _ (by simp) (λi v hi=>by
      have dg:i<n*sz:=by have:=(bY.1 hi).1;simpa using this
      simp [dg] at hi
      subst hi
      rw [n_]
      have:=(hf i dg).1
      rw [<- bO] at this
      have ZE:w.drew.heap[(φ xa.block).1]? = some (.cells nq k.ty (0,0)):=g1
      simp [World.cell?,ZE,this])
end
variable{l:List Value}{b n:Nat}{P:Program}{R:Type}{v:Value}
def nr(E:Env)(w0:World)(rec:Rec):Prop:=
 ∀ f args h v h',rec f args h=some (v,h')->∀ φ w (args':List Value),HR E.P E.base w0 φ h w->args.length=args'.length ->
  (∀ (i:Nat) (x y:Value),args[i]? = some x->args'[i]? = some y->VR E.P E.base φ h.length w x y) ->
  Calls E.P f args'.toArray w λe w'=>∃ u bN,e = .returned u/\Ext φ h w bN h' w'/\HR E.P E.base w0 bN h' w'/\VR E.P E.base bN h'.length w' v u
theorem Bt(h:ig n v=some l):v = .agg l.toArray/\l.length=n:=by
 cases v<;>simp only [ig] at h<;>first|(cases h;done)|skip
 rename_i cs
 cases hb:bg cs.toList.length n with
 | false=>rw [hb] at h;cases h
 | true=>rw [hb] at h;injection h with h;subst h;exact ⟨rfl,dk hb⟩
theorem sU(h:cM n v=some l):v = .tuple l.toArray/\l.length=n:=by
 cases v<;>simp only [cM] at h<;>first|(cases h;done)|skip
 rename_i cs
 cases hb:bg cs.toList.length n with
 | false=>rw [hb] at h;cases h
 | true=>rw [hb] at h;injection h with h;subst h;exact ⟨rfl,dk hb⟩
theorem qa{sh:Bool×List K}{v:Option Value}{c:Value->Option R}{r:R}(h:lO sh v c=some r):
  ∃ x y,v=some x/\c y=some r/\∀ P base φ n w u,VR P base φ n w x u->VR P base φ n w y u:=by
 obtain ⟨b,ks⟩:=sh
 cases b with
 | false=>
  match ks,h with
  | [k],h=>
   obtain ⟨x,y,h1,h2,h3⟩:=mF h
   exact ⟨x,y,h1,h2,λP base φ n w u hr=>h3 P base φ n w u λ_=>hr⟩
  | [],h=>simp [lO] at h
  | _ :: _ :: _,h=>simp [lO] at h
 | true=>
  simp only [lO] at h
  cases v with
  | none=>cases h
  | some x=>
   simp only [aJ] at h
   cases hl:ig ks.length x with
   | none=>rw [hl] at h;cases h
   | some l=>
    rw [hl] at h
    simp only [aJ] at h
    obtain ⟨rfl,hlen⟩:=Bt hl
    obtain ⟨vs,h1,h2,h3⟩:=lB h
    refine ⟨_,_,rfl,h2,λP base φ n w u hr=>?_⟩
    obtain ⟨ys,rfl,hs,Jt⟩:=hr.Ge
    refine .agg _ _ (by simp at hs ⊢;omega) λi y z hy hz=>?_
    obtain ⟨x',j6,wl⟩:=h3 i y (by simpa using hy)
    rw [cQ] at j6
    exact wl _ _ _ _ _ _ λ_=>Jt i x' z (by simpa using j6) hz
theorem qF{R:Type}{l:List Value}:∀ {ZR:List (Bool×List K)} {o:Nat} {c:List Value->Option R} {r:R},jv l o ZR c=some r ->
  ∃ vs,vs.length=ZR.length/\c vs=some r/\∀ (i:Nat) (y:Value),vs[i]? = some y->∃ x,l[o+i]? = some x/\∀ P base φ n w u,VR P base φ n w x u->VR P base φ n w y u
 | [],o,c,r,h=>⟨[],rfl,h,λi y hy=>by simp at hy⟩
 | k :: ks,o,c,r,h=>by
  simp only [jv] at h
  obtain ⟨x,y,hx,hc,hr⟩:=qa h
  obtain ⟨vs,hl,AZ,hv⟩:=qF hc
  refine ⟨y :: vs,by simp [hl],AZ,λi z hz=>?_⟩
  cases i with
  | zero=>simp at hz;subst hz;exact ⟨x,hx,hr⟩
  | succ i=>
   simp only [List.getElem?_cons_succ] at hz
   obtain ⟨x',j6,Jt⟩:=hv i z hz
   exact ⟨x',by rw [<- j6];congr 1;omega,Jt⟩
theorem mK{rs:List (Bool×List K)}{c:Value->Option R}{r:R}(h:fU rs v c=some r):
  ∃ y,c y=some r/\∀ P base φ n w u,VR P base φ n w v u->VR P base φ n w y u:=by
 rcases rs with _|⟨sh,_|⟨ZS,rr⟩⟩
 ·simp only [fU] at h
  cases hl:cM 0 v with
  | none=>rw [hl] at h;cases h
  | some l=>
   rw [hl] at h
   obtain ⟨rfl,hlen⟩:=sU hl
   have:l = []:=iL hlen
   subst this
   exact ⟨undef,h,λP base φ n w u hr=>hr⟩
 ·obtain ⟨x,y,hx,hc,hr⟩:=qa (show lO sh (some v) c=some r from h)
  injection hx with hx
  subst hx
  exact ⟨y,hc,hr⟩
 ·simp only [fU] at h
  cases hl:cM (sh :: ZS :: rr).length v with
  | none=>rw [hl] at h;cases h
  | some l=>
   rw [hl] at h
   simp only [aJ] at h
   obtain ⟨rfl,hlen⟩:=sU hl
   obtain ⟨vs,h1,h2,h3⟩:=qF h
   refine ⟨_,h2,λP base φ n w u hr=>?_⟩
   obtain ⟨ys,rfl,hs,Jt⟩:=hr.Gf
   refine .N6 _ _ (by simp at hs ⊢;omega) λi y z hy hz=>?_
   obtain ⟨x',j6,wl⟩:=h3 i y (by simpa using hy)
   rw [cQ] at j6
   exact wl _ _ _ _ _ _ (Jt i x' z (by simpa using j6) hz)
section
variable {R:Type} {E:Env} {w0 w:World} {φ:Nat->Nat×Nat} {h:AH} {s:az} {a:Act} {next:Act->World->Prop} {Q:Exit->Act->World->Prop} {r:R} {c:Value->AH->Option R}
 {rec:Rec} {dst:Option Tmp} {ty:TypeId} {pos:String} {after:Array Edge} {guard:Option (Nat×Bool)}
theorem VR.ZT{base:Nat}{ad:Option Addr}{m c0 c1:Nat}{u:Value}(hv:VR P base φ n w (.slice ad m c0) u):VR P base φ n w (.slice ad m c1) u:=by
 cases hv with
 | empty a c a' ha=>exact .empty _ _ _ ha
 | slice b o _ _ c' hb hm hr=>exact .slice b o _ _ c' hb hm hr
theorem Bu{ad:Option Addr}{new:List Value}(hn:0<n)(hx:br h ad n=some new):∃ x k,ad=some x/\bD h x.block=some k/\x.off+n<=k.cs.length/\new=(k.cs.drop x.off).take n/\new.all leaf=true:=by
 unfold br at hx
 rw [if_neg (by omega)] at hx
 cases ad with
 | none=>cases hx
 | some x=>
  simp only [aJ] at hx
  cases hk:bD h x.block with
  | none=>rw [hk] at hx;cases hx
  | some k=>
   rw [hk] at hx
   simp only [aJ] at hx
   split at hx
   ·rename_i hc
    injection hx with hx
    exact ⟨x,k,rfl,hk,hc.1,hx.symm,by rw [<- hx];exact hc.2⟩
   ·cases hx
theorem HS(hE:dq E)(xs:Array Operand)(ts:Array TypeId)(vs:List Value)(vZ:uy s xs.toList=some vs)(hx:lP E ts.toList vs h c=some r)(hs:SR E.P E.base φ h.length w s a)(hh:HR E.P E.base w0 φ h w)(hn:gQ E w0 φ h w dst a next c r):
  (⟨dst,.call { callee:=.builtin .append,args:=xs,argTypes:=ts },ty,pos,after,guard⟩:Oper).wp E.P a w next Q:=by
 unfold lP at hx
 split at hx
 ·rename_i v y t u ht
  obtain ⟨xa,ya,rfl,hv,hy⟩:=JI hs vZ
  obtain rfl:=JJ ht
  split at hx
  ·rename_i i l hi hl
   split at hx
   ·rename_i j hj
    cases hb:(lN i&&cx 0 j.ks.length) with
    | false=>rw [hb] at hx;cases hx
    | true=>
     rw [hb] at hx
     simp only [cond_true] at hx
     simp only [bz,e_] at hb
     obtain ⟨Gj,jM⟩:=hb
     have F:=hE.ti i.elem j hj
     have hu:=(hE.ti t i hi).slice Gj
     obtain ⟨inf,z,wm,yz,Vy,hz,xk,wo,I5⟩:=F.inf
     have YX:z.cells.size=inf.size:=by rw [yz,<- wo,<- xk];simp
     have HT:z.cells.size=j.ks.length:=by rw [YX,yz]
     have fin:∀ (p:Value×AH),(fL .slice (some p.1) λv=>c v p.2)=some r->(∃ v' w' bN,(jN #[t,u] ty #[a.eval xa,a.eval ya]).run E.P w = .ok v' w'/\Ext φ h w bN p.2 w'/\HR E.P E.base w0 bN p.2 w'/\VR E.P E.base bN p.2.length w' p.1 v') ->
       (⟨dst,.call { callee:=.builtin .append,args:=#[xa,ya],argTypes:=#[t,u] },ty,pos,after,guard⟩:Oper).wp E.P a w next Q:=by
      intro p hc hex
      obtain ⟨v',w',bN,im,e1,e2,e3⟩:=hex
      unfold Oper.wp
      have:(execOp a.eval (⟨dst,.call { callee:=.builtin .append,args:=#[xa,ya],argTypes:=#[t,u] },ty,pos,after,guard⟩:Oper)).run E.P w = .ok (.value v') w':=by
       simp [execOp,resolve,invoke,builtin,im]
      rw [this]
      obtain ⟨x1,y1,O1,Gl,Q7⟩:=mF hc
      injection O1 with O1
      subst O1
      exact hn _ _ bN _ _ Gl e1 e2 (Q7 _ _ _ _ _ _ λ_=>e3)
     have rM:∀ (ad:Option Addr) (n c0:Nat),VR E.P E.base φ h.length w (.slice ad n c0) (a.eval xa)->(fL .slice (some (.slice ad n n)) λv=>c v h)=some r->(∀ ba cap,n<=cap->(jN #[t,u] ty #[.slice ba n cap,a.eval ya]).run E.P w = .ok (.slice ba n cap) w) ->
       (⟨dst,.call { callee:=.builtin .append,args:=#[xa,ya],argTypes:=#[t,u] },ty,pos,after,guard⟩:Oper).wp E.P a w next Q:=by
      intro ad n c0 hv hc im
      obtain ⟨a',cap,e,hm,_⟩:=hv.jj
      refine fin (.slice ad n n,h) hc ⟨a.eval xa,w,φ,?_,Ext.refl ..,hh,hv.ZT⟩
      rw [e]
      exact im a' cap hm
     split at hx
     ·rename_i ad n c0
      split at hx
      ·rename_i a2 m c2
       cases htu:bg t u with
       | false=>rw [htu] at hx;cases hx
       | true=>
        rw [htu] at hx
        simp only [cond_true] at hx
        have:=dk htu
        subst this
        obtain ⟨ya',VP,ey,hym,aeX⟩:=hy.jj
        unfold app at hx
        split at hx
        ·rename_i Q8
         subst Q8
         refine rM ad n c0 hv (by simpa using hx) λba cap hc=>?_
         rw [ey]
         have qB:∀ b,(storeCells b []).run E.P w = .ok () w:=λb=>rfl
         cases ba<;>cases ya'<;>simp [jN,run_underlying hu,sizeOf,typeInfo,wm,JK,mI,loadCells,loadCellsFrom,hc,qB]
        ·rename_i Q8
         cases jC:br h a2 (m*j.ks.length) with
         | none=>rw [jC] at hx;cases hx
         | some new=>
          rw [jC] at hx
          simp only [aJ] at hx
          cases hg:grow E.base h i.elem j.ks.length j.bytes ad n new m with
          | none=>rw [hg] at hx;cases hx
          | some p=>
           rw [hg] at hx
           simp only [aJ] at hx
           have hmp:0<m:=by omega
           obtain ⟨x2,k2,rfl,O2,ho2,gF,JM⟩:=Bu (Nat.mul_pos hmp jM) jC
           rcases aeX with ⟨h0,_⟩|⟨x3,VQ,Ey,aS,hya,_⟩
           ·omega
           ·injection VQ with VQ
            subst VQ
            subst hya
            have hnl:new.length=m*j.ks.length:=by rw [gF];simp;omega
            have Q9:∀ q,q<m*j.ks.length->∃ uu,w.cell? ((⟨(φ x2.block).1,(φ x2.block).2+x2.off,none⟩:Addr).add q)=some uu/\∀ vv,new[q]? = some vv->VR E.P E.base φ h.length w vv uu:=by
             intro q hq
             have Gk:x2.off+q<k2.cs.length:=by omega
             obtain ⟨uu,hu1,hu2⟩:=hh.cell (b:=x2.block) (o:=x2.off+q) (v:=k2.cs[x2.off+q]) (by simp [Am.cell,O2,bk Gk])
             refine ⟨uu,by rw [n_,bO];exact hu1,λvv JN=>?_⟩
             have aeY:=JN
             rw [gF,bJ hq,bZ,bk Gk] at JN
             injection JN with JN
             have A0:leaf vv=true:=ik.1 JM vv (dX aeY)
             have dv:vv≠.nilIface:=λe=>by rw [e] at A0;cases A0
             rw [<- JN] at dv ⊢;exact hu2 dv
            let f:Nat->Value:=λq=>if hq:q<m*j.ks.length then (Q9 q hq).choose else undef
            have hf:∀ q,q<m*j.ks.length->w.cell? ((⟨(φ x2.block).1,(φ x2.block).2+x2.off,none⟩:Addr).add q)=some (f q)/\∀ vv,new[q]? = some vv->VR E.P E.base φ h.length w vv (f q):=by
             intro q hq
             simp only [f,hq,dite_true]
             exact (Q9 q hq).choose_spec
            have Q_:∀ q v,((dM (m*j.ks.length)).map f)[q]? = some v->w.cell? ((⟨(φ x2.block).1,(φ x2.block).2+x2.off,none⟩:Addr).add q)=some v:=by
             intro q v hv
             have hq:q<m*j.ks.length:=by have:=(bY.1 hv).1;simpa using this
             simp [hq] at hv
             rw [<- hv];exact (hf q hq).1
            have AY:=xn (w:=w) (ty:=ty) hu (.inl hu) wm hz (x:=.slice (some ⟨(φ x2.block).1,(φ x2.block).2+x2.off,none⟩) m VP) (m:=m) (news:=(dM (m*j.ks.length)).map f) rfl
             (by rw [yz];exact run_firstCells_some (P:=E.P) w j.ks.length m _ m VP _ (by simp) Q_)
             (by rw [yz];exact run_firstCells_some (P:=E.P) w.drew j.ks.length m _ m VP _ (by simp) (λq v hq=>by have:=Q_ q v hq;simpa using this))
            rw [yz,Vy] at AY
            refine fin p hx ?_
            rw [ey]
            refine rL hE hh hj rfl HT jM hmp hnl (by simp) (λq pp qq hp hq=>?_) (λv hv=>?_) AY.1 AY.2 hv hg
            ·have dg:q<m*j.ks.length:=by have:=(bY.1 hp).1;omega
             simp [dg] at hq
             rw [<- hq];exact (hf q dg).2 pp hp
            ·obtain ⟨q,hq,rfl⟩:=List.mem_iff_getElem.1 hv
             have dg:q<m*j.ks.length:=by simpa using hq
             simp only [List.getElem_map,List.getElem_range]
             have ZU:q<new.length:=by omega
             exact ((hf q dg).2 new[q] (bk ZU)).Gg (ik.1 JM _ (List.getElem_mem ZU))
      ·rename_i str
       cases jx:(mw .str l&&mw (.int .u8) j) with
       | false=>rw [jx] at hx;cases hx
       | true=>
        rw [jx] at hx
        simp only [cond_true] at hx
        simp only [bz] at jx
        have ZV:=(hE.ti u l hl).str jx.1
        obtain ⟨_,Q'⟩:=lQ jx.2
        have O3:j.ks.length=1:=by rw [Q'];rfl
        have ey:=hy.mE
        unfold app at hx
        split at hx
        ·rename_i Q8
         refine rM ad n c0 hv (by simpa using hx) λba cap hc=>?_
         rw [ey]
         have qB:∀ b,(storeCells b []).run E.P w = .ok () w:=λb=>rfl
         have hex:str.extract 0 0=ByteArray.empty:=by
          apply ByteArray.ext
          simp
         cases ba<;>simp [jN,run_underlying hu,run_underlying ZV,sizeOf,typeInfo,wm,JK,mI,Q8,hc,qB,hex]
        ·rename_i Q8
         simp only [aJ] at hx
         cases hg:grow E.base h i.elem 1 j.bytes ad n (mB str) str.size with
         | none=>rw [hg] at hx;cases hx
         | some p=>
          rw [hg] at hx
          simp only [aJ] at hx
          have eN:(mB str).length=str.size:=by simp [mB]
          have hfc:∀ w',(mI 1 str.size (.string str)).run E.P w' = .ok (mB str).toArray w':=by
           intro w'
           have wu:str.extract 0 str.size=str:=by
            apply ByteArray.ext
            simp
           simp only [mI,wu,eF]
           congr 1
           apply Gq
           simp [mB]
          have JO:inf.size=1:=by rw [yz,O3]
          have AY:=xn (w:=w) (ty:=ty) hu (.inr ZV) wm hz (x:=.string str) (m:=str.size) (news:=mB str) rfl (by rw [JO];exact hfc w) (by rw [JO];exact hfc w.drew)
          rw [JO,Vy] at AY
          refine fin p hx ?_
          rw [ey]
          refine rL hE hh hj O3 (by rw [HT,O3]) (by omega) (by omega) (by omega) (by omega) (λq pp qq hp hq=>?_) (λv hv=>?_) AY.1 AY.2 hv hg
          ·rw [hp] at hq
           injection hq with hq
           subst hq
           simp only [mB,gD] at hp
           cases hd:str.data.toList[q]? with
           | none=>rw [hd] at hp;cases hp
           | some d=>rw [hd] at hp;injection hp with hp;rw [<- hp];exact .int _ _
          ·simp only [mB,List.mem_map] at hv
           obtain ⟨d,_,rfl⟩:=hv
           rfl
      ·rename_i m
       cases jx:mw (.int .i64) l with
       | false=>rw [jx] at hx;cases hx
       | true=>
        rw [jx] at hx
        simp only [cond_true] at hx
        have ZV:=(hE.ti u l hl).int jx
        have ey:=hy.dP
        split at hx
        ·rename_i hmr
         unfold app at hx
         split at hx
         ·rename_i alv
          have Q8:m=0:=by omega
          subst Q8
          refine rM ad n c0 hv (by simpa using hx) λba cap hc=>?_
          rw [ey]
          have qB:∀ b,(storeCells b []).run E.P w = .ok () w:=λb=>rfl
          have hw:IntKind.i64.wrap 0=0:=IntWalk.i64_in 0 (by omega)
          cases ba<;>simp [jN,run_underlying hu,run_underlying ZV,sizeOf,typeInfo,wm,hc,qB,asInt,asIntOf,hw]
         ·rename_i Q8
          simp only [aJ] at hx
          cases hg:grow E.base h i.elem j.ks.length j.bytes ad n (lz j.zero m.toNat) m.toNat with
          | none=>rw [hg] at hx;cases hx
          | some p=>
           rw [hg] at hx
           simp only [aJ] at hx
           have hgb:=(xo hg).1
           have VS:m.toNat*inf.bytes<=140737488355328:=by
            rw [Vy]
            have:m.toNat*j.bytes<=(n+m.toNat)*j.bytes:=O0 _ (by omega)
            omega
           have AY:=HP (w:=w) (ty:=ty) hu ZV wm hz (m:=m) (by omega) hmr.2 VS (by rw [yz];exact jM)
           rw [yz,Vy] at AY
           refine fin p hx ?_
           rw [ey]
           have Ra:∀ (q:Nat) (v:Value),(mJ z.cells m.toNat).toList[q]? = some v->q<m.toNat*j.ks.length/\z.cells[q % z.cells.size]? = some v:=by
            intro q v hq
            have dg:q<m.toNat*z.cells.size:=by
             have:=(bY.1 hq).1
             simpa [mJ] using this
            refine ⟨by rw [<- HT];exact dg,?_⟩
            have:=qD z.cells (m.toNat*z.cells.size) q (by omega) dg
            rw [<- this]
            rw [Array.getElem?_toList] at hq
            exact hq
           refine rL hE hh hj rfl HT jM (by omega) (by rw [fA,wo]) (by simp [mJ,HT]) (λq pp qq hp hq=>?_) (λv hv=>?_) AY.1 AY.2 hv hg
           ·obtain ⟨h1,h2⟩:=Ra q qq hq
            rw [qC _ _ _ (by rw [wo];exact h1),wo,<- xk] at hp
            rw [HT] at h2
            have:pp=qq:=by
             have:=hp.symm.trans (by simpa using h2)
             injection this
            subst this
            exact VR.flat (ik.1 I5 _ (by rw [<- xk];exact dX hp))
           ·obtain ⟨q,hq⟩:=List.mem_iff_getElem?.1 hv
            obtain ⟨h1,h2⟩:=Ra q v hq
            have hfl:=ik.1 I5 v (by rw [<- xk];exact dX (by simpa using h2))
            cases v<;>first|rfl|(simp [jU] at hfl)
        ·cases hx
      ·cases hx
     ·cases hx
   ·cases hx
  ·cases hx
 ·cases hx
theorem Bv:∀ {new:List Value} {ns:List Int},N4 new=some ns->new=ns.map (Value.int .u8)
 | [],ns,h=>by simp only [N4] at h;injection h with h;subst h;rfl
 | .int .u8 n :: r,ns,h=>by
  simp only [N4] at h
  cases hr:N4 r with
  | none=>rw [hr] at h;cases h
  | some m=>
   rw [hr] at h
   injection h with h
   subst h
   simp [Bv hr]
theorem EE(hE:dq E)(src t:TypeId)(x:Operand)(hx:bG E rec (.convert src t x) s h c=some r)(hs:SR E.P E.base φ h.length w s a)(hh:HR E.P E.base w0 φ h w)(hn:gQ E w0 φ h w dst a next c r):
  (⟨dst,.convert src t x,ty,pos,after,guard⟩:Oper).wp E.P a w next Q:=by
 simp only [bG] at hx
 split at hx
 ·rename_i k0 n i0 i h1 h0 h2
  have e:=(cm hs h1).dP
  cases Ju:i.agg with
  | true=>rw [Ju] at hx;cases hx
  | false=>
   rw [Ju] at hx
   simp only [cond_false] at hx
   split at hx
   ·rename_i k hk
    have hu:=((hE.ti t i h2).Bp Ju hk).1 k rfl
    obtain ⟨d,hd,_⟩:=(hE.ti src i0 h0).Vn
    exact bq (o:=⟨dst,.convert src t x,ty,pos,after,guard⟩) hn hh hx (.int _ _) (by
     simp [execOp,e,convert,bh.under hu,bh.under hd,Conv.intToInt])
   ·cases hx
 ·rename_i ad n c0 i0 i h1 h0 h2
  cases hb:(bg t 9&&mw .str i&&lN i0) with
  | false=>rw [hb] at hx;cases hx
  | true=>
   rw [hb] at hx
   simp only [cond_true] at hx
   simp only [bz] at hb
   obtain ⟨⟨_,jM⟩,jx⟩:=hb
   split at hx
   ·rename_i j hj
    cases hb3:mw (.int .u8) j with
    | false=>rw [hb3] at hx;cases hx
    | true=>
     rw [hb3] at hx
     simp only [cond_true] at hx
     cases jC:br h ad n with
     | none=>rw [jC] at hx;cases hx
     | some new=>
      rw [jC] at hx
      simp only [aJ] at hx
      cases VT:N4 new with
      | none=>rw [VT] at hx;cases hx
      | some ns=>
       rw [VT] at hx
       simp only [aJ] at hx
       have hd:=(hE.ti t i h2).str jM
       have hsr:=(hE.ti src i0 h0).slice jx
       have he:=(hE.ti i0.elem j hj).int hb3
       obtain ⟨a',c',e,hm,Gh⟩:=(cm hs h1).jj
       have gF:=Bv VT
       have key:(Conv.bytesToString (.slice a' n c')).run E.P w = .ok (.string (yq ns)) w:=by
        by_cases I6:n=0
        ·subst I6
         simp only [br,if_true] at jC
         injection jC with jC
         subst jC
         simp only [N4] at VT
         injection VT with VT
         subst VT
         cases a' with
         | none=>simp [Conv.bytesToString,yq,eF]
         | some x=>exact run_bytesToString w x 0 c' [] (by simp [loadCells,loadCellsFrom])
        ·obtain ⟨x,k,rfl,hk,ho,hnw,JM⟩:=Bu (by omega) jC
         rcases Gh with ⟨h0',_⟩|⟨x3,VQ,Ey,aS,hya,_⟩
         ·exact absurd h0' I6
         ·injection VQ with VQ
          subst VQ
          subst hya
          have hlen:new.length=n:=by rw [hnw];simp;omega
          refine run_bytesToString w _ n c' ns ?_
          have hll:(ns.map (Value.int .u8)).length=n:=by rw [<- gF];exact hlen
          have:=run_loadCells_list (P:=E.P) w (⟨(φ x.block).1,(φ x.block).2+x.off,none⟩:Addr) (ns.map (Value.int .u8)) (λq v hq=>by
           have hql:q<n:=by have:=(bY.1 hq).1;omega
           rw [<- gF,hnw,bJ hql,bZ] at hq
           obtain ⟨uu,hu1,hu2⟩:=hh.cell (b:=x.block) (o:=x.off+q) (v:=v) (by simp [Am.cell,hk,hq])
           have JN:∃ z,v = .int .u8 z:=by
            have ZU:(ns.map (Value.int .u8))[q]? = some v:=by rw [<- gF,hnw,bJ hql,bZ];exact hq
            simp only [gD,Option.map_eq_some_iff] at ZU
            obtain ⟨z,_,rfl⟩:=ZU
            exact ⟨z,rfl⟩
           obtain ⟨z,rfl⟩:=JN
           have:=(hu2 (by simp)).dP
           subst this
           rw [n_,bO]
           exact hu1)
          rw [hll] at this
          exact this
       refine bq (o:=⟨dst,.convert src t x,ty,pos,after,guard⟩) hn hh hx (.str _) ?_
       simp only [execOp,e]
       have cv:=run_convert_bytes_string (P:=E.P) w src t i0.elem a' n c' hsr he hd
       simp [cv,key]
   ·cases hx
 ·cases hx
end
section
variable {R:Type} {E:Env} {w0 w:World} {φ:Nat->Nat×Nat} {h:AH} {s:az} {a:Act} {next:Act->World->Prop} {Q:Exit->Act->World->Prop} {r:R} {c:Value->AH->Option R}
 {rec:Rec} {dst:Option Tmp} {ty:TypeId} {pos:String} {after:Array Edge} {guard:Option (Nat×Bool)}
theorem bh.map{t:Nat}{i:TI}(F:bh P t i)(h:mw .map i=true):P.underlying t=some (.map i.elem i.elem):=by
 obtain ⟨ha,hk⟩:=lQ h
 obtain ⟨d,hd,hu⟩:=F.Vn
 cases d<;>simp only [uA] at hu<;>first|(exact hu.elim)|skip
 all_goals first
  | (obtain ⟨_,_,_,rfl,rfl⟩:=hu;exact hd)
  | (rw [hk] at hu;simp at hu;done)
  | (rw [ha] at hu;simp at hu;done)
theorem VR.Gr{base:Nat}{u:Value}(h:VR P base φ n w (.map (some b)) u):b<n/\u = .map (some (φ b).1):=by cases h;exact ⟨‹_›,rfl⟩
theorem yE(w:World)(o:Obj):cO w (w.alloc o):=by
 intro b x hx
 have hb:b<w.heap.size:=by
  simp only [jK] at hx
  by_cases hb:b<w.heap.size
  ·exact hb
  ·rw [Array.getElem?_eq_none (Nat.le_of_not_lt hb)] at hx;cases hx
 simp only [jK,Below.heap_alloc _ _ _ hb]
 exact hx
theorem HR.ZW(hh:HR E.P E.base w0 φ h w):
  ∃ bN,Ext φ h w bN (h++[some (tv [])]) (w.alloc (.map #[] 0))/\HR E.P E.base w0 bN (h++[some (tv [])]) (w.alloc (.map #[] 0))/\bN h.length=(w.heap.size,0):=by
 let bN:Nat->Nat×Nat:=λi=>if i=h.length then (w.heap.size,0) else φ i
 have hold:∀ i,i<h.length->bN i=φ i:=λi hi=>by simp only [bN];rw [if_neg (by omega)]
 have gF:bN h.length=(w.heap.size,0):=by simp [bN]
 have N7:∀ b,b<w.heap.size->((w.alloc (.map #[] 0)).heap)[b]? = w.heap[b]?:=λb hb=>Below.heap_alloc _ _ _ hb
 have Q2:((w.alloc (.map #[] 0)).heap)[w.heap.size]? = some (.map #[] 0):=heap_alloc_new _ _
 have jk:(w.alloc (.map #[] 0)).heap.size=w.heap.size+1:=by simp
 have fR:cO w (w.alloc (.map #[] 0)):=yE _ _
 have eN:∀ i k,bD h i=some k->(φ i).1<w.heap.size:=λi k hi=>hh.lt hi
 have fh:∀ i k,bD (h++[some (tv [])]) i=some k->(i<h.length/\bD h i=some k)\/(i=h.length/\k=tv []):=λi k hi=>by
  rcases pi i h.length with aS|I4|uC
  ·exact .inl ⟨aS,by rw [eG aS] at hi;exact hi⟩
  ·subst I4;rw [dU] at hi;injection hi with hi;exact .inr ⟨rfl,hi.symm⟩
  ·rw [fq uC] at hi;cases hi
 refine ⟨bN,⟨by simp,hold,?_,λb hb _=>N7 b hb,by rw [jk];omega,fR⟩,⟨?_,?_,?_,?_,?_,?_,?_⟩,gF⟩
 ·intro i k hi aS
  rcases fh i k hi with ⟨h1,h2⟩|⟨h1,_⟩
  ·exact ⟨i,k,h2,by rw [hold i h1]⟩
  ·subst h1;rw [gF] at aS;exact absurd aS (Nat.lt_irrefl _)
 ·exact hh.below.trans ⟨rfl,rfl,rfl,by rw [jk];omega,λb hb=>N7 b (cW hb hh.bw)⟩
 ·intro i k hi hm
  rcases fh i k hi with ⟨h1,h2⟩|⟨h1,h2⟩
  ·obtain ⟨fy,fr,g1,g2,g3⟩:=hh.bK i k h2 hm
   rw [hold i h1]
   refine ⟨fy,fr,by rw [N7 _ (eN i k h2)];exact g1,λj v hj=>?_,g3⟩
   obtain ⟨u,hu,hv⟩:=g2 j v hj
   exact ⟨u,hu,hv.mono hold (by simp) fR⟩
  ·subst h2;cases hm
 ·intro i k l hi hm
  rcases fh i k hi with ⟨h1,h2⟩|⟨h1,h2⟩
  ·obtain ⟨g0,g1,g2,es,clock,g3,g4⟩:=hh.mp i k l h2 hm
   rw [hold i h1]
   exact ⟨g0,g1,g2,es,clock,by rw [N7 _ (eN i k h2)];exact g3,g4⟩
  ·subst h1;subst h2
   have hl:l = []:=by injection hm with hm;exact hm.symm
   subst hl
   rw [gF]
   exact ⟨hh.len,hh.bw,rfl,#[],0,Q2,rfl⟩
 ·intro i j k l hi hj e
  rcases fh i k hi with ⟨h1,h2⟩|⟨h1,h2⟩<;>rcases fh j l hj with ⟨g1,g2⟩|⟨g1,g2⟩
  ·rw [hold i h1,hold j g1] at e;exact hh.inj i j k l h2 g2 e
  ·subst g1;rw [hold i h1,gF] at e
   have:=eN i k h2
   simp at e;omega
  ·subst h1;rw [hold j g1,gF] at e
   have:=eN j l g2
   simp at e;omega
  ·omega
 ·intro i hi;rw [hold i (cW hi hh.len)];exact hh.lo i hi
 ·have:=hh.len;simp;omega
 ·rw [jk];have:=hh.bw;omega
theorem EF(hE:dq E)(t:TypeId)(x:Option Operand)(hx:bG E rec (.makeMap t x) s h c=some r)(hs:SR E.P E.base φ h.length w s a)(hh:HR E.P E.base w0 φ h w)(hn:gQ E w0 φ h w dst a next c r):
  (⟨dst,.makeMap t x,ty,pos,after,guard⟩:Oper).wp E.P a w next Q:=by
 cases x with
 | some x=>simp only [bG] at hx;cases hx
 | none=>
  simp only [bG] at hx
  split at hx
  ·rename_i i hi
   cases hb:mw .map i with
   | false=>rw [hb] at hx;cases hx
   | true=>
    rw [hb] at hx
    simp only [cond_true] at hx
    obtain ⟨bN,e1,e2,e3⟩:=hh.ZW
    unfold Oper.wp
    have im:(execOp a.eval (⟨dst,.makeMap t none,ty,pos,after,guard⟩:Oper)).run E.P w = .ok (.value (.map (some w.heap.size))) (w.alloc (.map #[] 0)):=by
     simp [execOp,Instr.makeMap]
    rw [im]
    refine hn _ _ bN _ _ hx e1 e2 ?_
    have:=VR.map (P:=E.P) (base:=E.base) (φ:=bN) (n:=(h++[some (tv [])]).length) (w:=w.alloc (.map #[] 0)) h.length (by simp)
    rw [e3] at this
    exact this
  ·cases hx
theorem og{k:Int}:∀ (es:List MapEntry) (l:List (Int×Int)) (n:Nat),es.map (λe=>(e.key,e.val))=l.map mv ->
  (sQ l k=none/\yF (.int .i64) (.int .i64 k) es n=some none/\yo l k=λv=>l++[(k,v)]) \/
  (∃ i v,sQ l k=some v/\yF (.int .i64) (.int .i64 k) es n=some (some (n+i,.int .i64 v))/\i<es.length/\(es[i]?.map (·.key))=some (.int .i64 k)/\yo l k=λv'=>l.set i (k,v'))
 | [],l,n,h=>by
  have:l = []:=by simpa using h.symm
  subst this
  exact .inl ⟨rfl,rfl,rfl⟩
 | e :: es,[],n,h=>by simp at h
 | e :: es,(a,b) :: l,n,h=>by
  simp only [mD,List.cons.injEq,mv,Prod.mk.injEq] at h
  obtain ⟨⟨h1,h2⟩,h3⟩:=h
  by_cases hk:k=a
  ·subst hk
   refine .inr ⟨0,b,by simp [sQ],?_,by simp,by simp [h1],?_⟩
   ·simp [yF,JP,h1,h2]
   ·funext v';simp [yo]
  ·have ZP:(k==a)=false:=by simpa using hk
   rcases og (k:=k) es l (n+1) h3 with ⟨q1,q2,q3⟩|⟨i,v,q1,q2,q3,q4,q5⟩
   ·refine .inl ⟨by simp [sQ,hk,q1],?_,?_⟩
    ·simp [yF,JP,h1,ZP,q2]
    ·funext v';simp [yo,hk,q3]
   ·refine .inr ⟨i+1,v,by simp [sQ,hk,q1],?_,by simp;omega,by simpa using q4,?_⟩
    ·rw [show n+(i+1)=n+1+i from by omega]
     simp [yF,JP,h1,ZP,q2]
    ·funext v';simp [yo,hk,q5]
theorem xq{h:AH}{l:List (Int×Int)}(hm:Bi h b=some l):∃ k,bD h b=some k/\k.m=some l:=by
 unfold Bi at hm
 cases hk:bD h b with
 | none=>rw [hk] at hm;cases hm
 | some k=>rw [hk] at hm;exact ⟨k,rfl,hm⟩
theorem JQ{t:Nat}{i:TI}(F:bh E.P t i)(h:mw (.int .i64) i=true)(w:World):(zeroValue t).run E.P w = .ok (.int .i64 0) w:=by
 obtain ⟨f,h1,h2⟩:=F.zi h
 simp [zeroValue,typeInfo,h1,h2]
theorem HU(hE:dq E)(t:TypeId)(x y:Operand)(ok:Bool)(hx:bG E rec (.lookup t x y ok) s h c=some r)(hs:SR E.P E.base φ h.length w s a)(hh:HR E.P E.base w0 φ h w)(hn:gQ E w0 φ h w dst a next c r):
  (⟨dst,.lookup t x y ok,ty,pos,after,guard⟩:Oper).wp E.P a w next Q:=by
 cases ok with
 | false=>simp only [bG] at hx;cases hx
 | true=>
  simp only [bG] at hx
  split at hx
  ·rename_i b k i h1 h2 h3
   split at hx
   ·rename_i j hj
    cases hb:(mw .map i&&mw (.int .i64) j) with
    | false=>rw [hb] at hx;cases hx
    | true=>
     rw [hb] at hx
     simp only [cond_true] at hx
     simp only [bz] at hb
     cases hm:Bi h b with
     | none=>rw [hm] at hx;cases hx
     | some l=>
      rw [hm] at hx
      simp only [aJ] at hx
      obtain ⟨kb,hk,p_⟩:=xq hm
      obtain ⟨_,_,_,es,clock,g1,g2⟩:=hh.mp b kb l hk p_
      obtain ⟨aS,e1⟩:=(cm hs h1).Gr
      have e2:=(cm hs h2).dP
      have hu:=(hE.ti t i h3).map hb.1
      have VU:=(hE.ti _ j hj).int hb.2
      have hz:=JQ (hE.ti _ j hj) hb.2 w
      have ZX:∀ em,(VV em 10000 i.elem (.int .i64 k)).run E.P w = .ok () w:=λem=>by
       exact VW (k:=.int .i64 k) VU (by simp [VX]) em 9999
      rcases og (k:=k) es.toList l 0 g2 with ⟨q1,q2,_⟩|⟨n,v,q1,q2,_,_,_⟩
      ·rw [q1] at hx
       refine bq (o:=⟨dst,.lookup t x y true,ty,pos,after,guard⟩) hn hh hx (.N6 _ _ rfl ?_) (u:=.tuple #[.int .i64 0,.bool false]) ?_
       ·intro n p q hp hq
        match n with
        | 0=>simp at hp hq;subst hp;subst hq;exact .int _ _
        | 1=>simp at hp hq;subst hp;subst hq;exact .bool _
        | n+2=>simp at hp
       ·simp [execOp,VY,e1,e2,run_underlying hu,EG g1,ZX,EH,run_underlying VU,q2,hz]
      ·rw [q1] at hx
       refine bq (o:=⟨dst,.lookup t x y true,ty,pos,after,guard⟩) hn hh hx (.N6 _ _ rfl ?_) (u:=.tuple #[.int .i64 v,.bool true]) ?_
       ·intro n p q hp hq
        match n with
        | 0=>simp at hp hq;subst hp;subst hq;exact .int _ _
        | 1=>simp at hp hq;subst hp;subst hq;exact .bool _
        | n+2=>simp at hp
       ·simp [execOp,VY,e1,e2,run_underlying hu,EG g1,ZX,EH,run_underlying VU,q2]
   ·cases hx
  ·cases hx
theorem HR.ZY(hh:HR E.P E.base w0 φ h w){kb:df}{l:List (Int×Int)}(hk:bD h b=some kb)(p_:kb.m=some l)(l':List (Int×Int))(Rb:Array MapEntry)(qb:Nat)(he:Rb.toList.map (λe=>(e.key,e.val))=l'.map mv):
  Ext φ h w φ (h.set b (some (tv l'))) { w with heap:=w.heap.setIfInBounds (φ b).1 (.map Rb qb) }/\HR E.P E.base w0 φ (h.set b (some (tv l'))) { w with heap:=w.heap.setIfInBounds (φ b).1 (.map Rb qb) }:=by
 obtain ⟨Gj,jM,_,es,clock,g1,g2⟩:=hh.mp b kb l hk p_
 have aS:=di hk
 have jk:(φ b).1<w.heap.size:=hh.lt hk
 have ZZ:({ w with heap:=w.heap.setIfInBounds (φ b).1 (.map Rb qb) }:World).heap[(φ b).1]? = some (.map Rb qb):=by simp [jk]
 have uE:∀ x,x≠(φ b).1->({ w with heap:=w.heap.setIfInBounds (φ b).1 (.map Rb qb) }:World).heap[x]? = w.heap[x]?:=λx hx=>by
  simp only
  rw [Array.getElem?_setIfInBounds_ne (Ne.symm hx)]
 have fR:cO w { w with heap:=w.heap.setIfInBounds (φ b).1 (.map Rb qb) }:=by
  intro x y hx
  by_cases e:x=(φ b).1
  ·subst e;simp only [jK,g1] at hx;cases hx
  ·simp only [jK,uE x e] at hx ⊢;exact hx
 have eN:∀ i k,bD h i=some k->i≠b->(φ i).1≠(φ b).1:=λi k hi dv e=>dv (hh.inj i b k kb hi hk e)
 have live:∀ {x y},bD (h.set b (some (tv l'))) x=some y->∃ z,bD h x=some z:=by
  intro x y hx
  by_cases e:b=x
  ·subst e;exact ⟨kb,hk⟩
  ·rw [dz e] at hx;exact ⟨y,hx⟩
 refine ⟨⟨by simp,λ_ _=>rfl,λi k hi _=>?_,λx _ hx=>uE x λe=>hx b kb hk e.symm,by simp,fR⟩,⟨?_,?_,?_,?_,hh.lo,by simpa using hh.len,by simpa using hh.bw⟩⟩
 ·obtain ⟨z,hz⟩:=live hi
  exact ⟨i,z,hz,rfl⟩
 ·exact hh.below.trans ⟨rfl,rfl,rfl,by simp,λx hx=>uE x (by omega)⟩
 ·intro i k hi hm
  by_cases e:b=i
  ·subst e
   rw [du aS] at hi
   injection hi with hi
   subst hi
   cases hm
  ·rw [dz e] at hi
   obtain ⟨cs,fr,q1,q2,q3⟩:=hh.bK i k hi hm
   refine ⟨cs,fr,by rw [uE _ (eN i k hi (Ne.symm e))];exact q1,λj v hj=>?_,q3⟩
   obtain ⟨u,hu,hv⟩:=q2 j v hj
   exact ⟨u,hu,hv.mono (λ_ _=>rfl) (by simp) fR⟩
 ·intro i k m hi hm
  by_cases e:b=i
  ·subst e
   rw [du aS] at hi
   injection hi with hi
   subst hi
   have:m=l':=by injection hm with hm;exact hm.symm
   subst this
   exact ⟨Gj,jM,rfl,Rb,qb,ZZ,he⟩
  ·rw [dz e] at hi
   obtain ⟨q0,q1,q2,es2,cl2,q3,q4⟩:=hh.mp i k m hi hm
   exact ⟨q0,q1,q2,es2,cl2,by rw [uE _ (eN i k hi (Ne.symm e))];exact q3,q4⟩
 ·intro i j k l2 hi hj e
  obtain ⟨z1,hz1⟩:=live hi
  obtain ⟨z2,N8⟩:=live hj
  exact hh.inj i j z1 z2 hz1 N8 e
theorem yG(hE:dq E)(t:TypeId)(x y z:Operand)(hx:bG E rec (.mapUpdate t x y z) s h c=some r)(hs:SR E.P E.base φ h.length w s a)(hh:HR E.P E.base w0 φ h w)(hn:gQ E w0 φ h w dst a next c r):
  (⟨dst,.mapUpdate t x y z,ty,pos,after,guard⟩:Oper).wp E.P a w next Q:=by
 simp only [bG] at hx
 split at hx
 ·rename_i b k v i h1 h2 h3 h4
  split at hx
  ·rename_i j hj
   cases hb:(mw .map i&&mw (.int .i64) j) with
   | false=>rw [hb] at hx;cases hx
   | true=>
    rw [hb] at hx
    simp only [cond_true] at hx
    simp only [bz] at hb
    cases hm:Bi h b with
    | none=>rw [hm] at hx;cases hx
    | some l=>
     rw [hm] at hx
     simp only [aJ] at hx
     obtain ⟨kb,hk,p_⟩:=xq hm
     obtain ⟨_,_,_,es,clock,g1,g2⟩:=hh.mp b kb l hk p_
     obtain ⟨aS,e1⟩:=(cm hs h1).Gr
     have e2:=(cm hs h2).dP
     have e3:=(cm hs h3).dP
     have hu:=(hE.ti t i h4).map hb.1
     have VU:=(hE.ti _ j hj).int hb.2
     have ZX:∀ em,(VV em 10000 i.elem (.int .i64 k)).run E.P w = .ok () w:=λem=>by
      exact VW (k:=.int .i64 k) VU (by simp [VX]) em 9999
     rcases og (k:=k) es.toList l 0 g2 with ⟨q1,q2,q5⟩|⟨n,v0,q1,q2,q3,q4,q5⟩
     ·have EC:=congrFun q5 v
      obtain ⟨r1,r2⟩:=hh.ZY hk p_ (yo l k v) (es.push ⟨.int .i64 k,.int .i64 v,clock⟩) (clock+1) (by rw [EC];simp [g2,mv])
      unfold Oper.wp
      have im:(execOp a.eval (⟨dst,.mapUpdate t x y z,ty,pos,after,guard⟩:Oper)).run E.P w = .ok .skip { w with heap:=w.heap.setIfInBounds (φ b).1 (.map (es.push ⟨.int .i64 k,.int .i64 v,clock⟩) (clock+1)) }:=by
       simp [execOp,VZ,e1,e2,e3,run_underlying hu,EG g1,ZX,EH,run_underlying VU,q2,V0 _ g1,V1]
      rw [im]
      exact hn _ _ φ _ _ hx r1 r2 lS
     ·have EC:=congrFun q5 v
      have aeZ:(es[n]?.map (·.key)).getD (.int .i64 k) = .int .i64 k:=by
       have:es[n]?.map (·.key)=some (.int .i64 k):=by simpa using q4
       rw [this];rfl
      obtain ⟨r1,r2⟩:=hh.ZY hk p_ (yo l k v) (es.modify n λe=>{ e with key:=.int .i64 k,val:=.int .i64 v }) clock (by
       rw [EC,List.map_set,<- g2,Array.toList_modify]
       apply List.ext_getElem?
       intro j
       by_cases e:n=j
       ·subst e
        have hn:n<es.size:=by simpa using q3
        simp [mv,hn]
       ·simp [List.getElem?_modify,e])
      unfold Oper.wp
      have im:(execOp a.eval (⟨dst,.mapUpdate t x y z,ty,pos,after,guard⟩:Oper)).run E.P w = .ok .skip { w with heap:=w.heap.setIfInBounds (φ b).1 (.map (es.modify n λe=>{ e with key:=.int .i64 k,val:=.int .i64 v }) clock) }:=by
       simp [execOp,VZ,e1,e2,e3,run_underlying hu,EG g1,ZX,EH,run_underlying VU,q2,aeZ,Instr.keyThatStays,Instr.sameBits,V0 _ g1,V1]
      rw [im]
      exact hn _ _ φ _ _ hx r1 r2 lS
  ·cases hx
 ·cases hx
end
section
variable {R:Type} {E:Env} {w0 w:World} {φ:Nat->Nat×Nat} {h:AH} {s:az} {a:Act} {next:Act->World->Prop} {Q:Exit->Act->World->Prop} {r:R} {c:Value->AH->Option R}
 {rec:Rec} {dst:Option Tmp} {ty:TypeId} {pos:String} {after:Array Edge} {guard:Option (Nat×Bool)}
theorem HV{vs:List Value}{cc:Value->Option R}(hx:OL vs cc=some r):∃ str n,vs = [.string str,.int .u8 n]/\cc (.int .i64 (firstIdx str n.toNat.toUInt8))=some r:=by
 unfold OL at hx
 split at hx
 ·exact ⟨_,_,rfl,hx⟩
 ·cases hx
theorem rN{p p' q q':Array Value}{xs:Array Operand}{vs:List Value}(hp:p.size=p'.size)(Q0:∀ (i:Nat) (x y:Value),p[i]? = some x->p'[i]? = some y->VR E.P E.base φ h.length w x y)(Q1:∀ (i:Nat) (x y:Value),q[i]? = some x->q'[i]? = some y->VR E.P E.base φ h.length w x y)
  (hl:vs.length=xs.toList.length)(EI:∀ (i:Nat) (x y:Value),vs[i]? = some x->(xs.toList.map a.eval)[i]? = some y->VR E.P E.base φ h.length w x y):
  ∀ (i:Nat) (x y:Value),(p.toList++vs++q.toList)[i]? = some x->(p'.toList++xs.toList.map a.eval++q'.toList)[i]? = some y->VR E.P E.base φ h.length w x y:=by
 intro i x y hx hy
 by_cases h1:i<p.size+vs.length
 ·rw [gE (by simpa using h1)] at hx
  rw [gE (by simp;rw [hl] at h1;simp at h1;omega)] at hy
  by_cases h2:i<p.size
  ·rw [gE (by simpa using h2)] at hx
   rw [gE (by simp;omega)] at hy
   exact Q0 i x y (by simpa using hx) (by simpa using hy)
  ·rw [jL (by simp;omega)] at hx
   rw [jL (by simp;omega)] at hy
   refine EI _ x y hx ?_
   simp only [Array.length_toList] at hy ⊢
   rw [hp];exact hy
 ·rw [jL (by simp;omega)] at hx
  rw [jL (by simp;rw [hl] at h1;simp at h1;omega)] at hy
  refine Q1 (i-(p.size+vs.length)) x y ?_ ?_
  ·simpa using hx
  ·have:p'.size+xs.size=p.size+vs.length:=by rw [hl,hp];simp
   simp at hy
   rw [this] at hy
   exact hy
theorem O4(hE:dq E)(iD:nr E w0 rec)(cc:Call)(hx:bG E rec (.call cc) s h c=some r)(hs:SR E.P E.base φ h.length w s a)(hh:HR E.P E.base w0 φ h w)(hn:gQ E w0 φ h w dst a next c r):
  (⟨dst,.call cc,ty,pos,after,guard⟩:Oper).wp E.P a w next Q:=by
 obtain ⟨callee,xs,ts⟩:=cc
 simp only [bG] at hx
 split at hx
 ·rename_i vs vZ
  split at hx
  ·rename_i b
   unfold pd at hx
   split at hx
   ·exact VE hE xs ts vs vZ hx hs hh hn
   ·split at hx
    ·rename_i v r'
     exact VJ xs ts _ _ vZ hx hs hh hn
    ·cases hx
   ·split at hx
    ·rename_i v r'
     exact VK xs ts _ _ vZ hx hs hh hn
    ·cases hx
   ·exact HS hE xs ts vs vZ hx hs hh hn
   ·cases hx
  ·rename_i f
   split at hx
   ·rename_i g p q hf
    split at hx
    ·rename_i rs hg
     cases hr:rec g (p.toList++vs++q.toList) h with
     | none=>rw [hr] at hx;cases hx
     | some iH=>
      obtain ⟨v,h'⟩:=iH
      rw [hr] at hx
      simp only [aJ] at hx
      obtain ⟨y,hc,hy⟩:=mK hx
      have N9:=cm hs hf
      generalize Z0:a.eval f=fu at N9
      cases N9 with
      | func _ _ p' _ q' hp Q0 hq Q1=>
       obtain ⟨hl,EI⟩:=jw hs vZ
       have xr:=iD g _ h v h' hr φ w (p'.toList++xs.toList.map a.eval++q'.toList) hh (by simp [hp,hq,hl]) (rN hp Q0 Q1 hl EI)
       unfold Oper.wp
       have im:(execOp a.eval (⟨dst,.call ⟨.value f,xs,ts⟩,ty,pos,after,guard⟩:Oper)).run E.P w = .ok (.enter g (p'.toList++xs.toList.map a.eval++q'.toList).toArray) w:=by
        have he:=hE.fn g rs hg (p'++xs.map a.eval++q') w
        have JR:(p'.toList++xs.toList.map a.eval++q'.toList).toArray=p'++xs.map a.eval++q':=by
         apply Gq
         simp
        simp only [execOp,resolve,Z0,Deferred.ofValue,dB,eF,dI,invoke]
        rw [he,JR]
       rw [im,Oper.upon_enter]
       refine xr.mono λe w' he=>?_
       obtain ⟨u,bN,rfl,e1,e2,e3⟩:=he
       exact hn y h' bN u w' hc e1 e2 (hy _ _ _ _ _ _ e3)
    ·cases hb:yp g E.ix with
     | false=>rw [hb] at hx;cases hx
     | true=>
      rw [hb] at hx
      simp only [cond_true] at hx
      obtain ⟨str,n,JS,hc⟩:=HV hx
      have N9:=cm hs hf
      generalize Z0:a.eval f=fu at N9
      cases N9 with
      | func _ _ p' _ q' hp Q0 hq Q1=>
       obtain ⟨hl,EI⟩:=jw hs vZ
       have lT:=rN (xs:=xs) (p:=p) (q:=q) (vs:=vs) hp Q0 Q1 hl EI
       rw [JS] at lT
       have hlen:(p'.toList++xs.toList.map a.eval++q'.toList).length=2:=by
        have:(p.toList++vs++q.toList).length=2:=by rw [JS];rfl
        simp [hp,hq,hl] at this ⊢
        omega
       have Z4:p'++xs.map a.eval++q'=#[.string str,.int .u8 n]:=by
        have JR:(p'.toList++xs.toList.map a.eval++q'.toList).toArray=p'++xs.map a.eval++q':=by
         apply Gq
         simp
        rw [<- JR]
        generalize p'.toList++xs.toList.map a.eval++q'.toList=l at lT hlen
        match l,hlen,lT with
        | [u0,u1],_,lT=>
         have h0:=(lT 0 _ u0 rfl rfl).mE
         have h1:=(lT 1 _ u1 rfl rfl).dP
         rw [h0,h1]
       refine bq (o:=⟨dst,.call ⟨.value f,xs,ts⟩,ty,pos,after,guard⟩) hn hh hc (.int _ _) ?_
       simp only [execOp,resolve,Z0,Deferred.ofValue,dB,eF,dI,invoke]
       rw [Z4,hE.ix g hb]
   ·cases hx
  ·cases hx
 ·cases hx
theorem oh(hE:dq E)(iD:nr E w0 rec)(o:Oper)(hx:bG E rec o.op s h c=some r)(hs:SR E.P E.base φ h.length w s a)(hh:HR E.P E.base w0 φ h w)(hn:gQ E w0 φ h w o.dst a next c r):
  o.wp E.P a w next Q:=by
 obtain ⟨dst,op,ty,pos,after,guard⟩:=o
 cases op
 case move=>exact OP _ hx hs hh hn
 case assign=>exact HL _ hx hs hh hn
 case pick=>exact OQ _ _ _ hx hs hh hn
 case alloc=>exact Jv hE _ hx hs hh hn
 case box=>exact Vr hE _ _ hx hs hh hn
 case build=>exact JE hE _ _ hx hs hh hn
 case buildSlice=>exact wq hE _ _ _ hx hs hh hn
 case load=>exact OS hE _ _ hx hs hh hn
 case store=>exact Jz hE _ _ _ hx hs hh hn
 case nilCheck=>exact Vo _ hx hs hh hn
 case binOp=>exact Vp hE _ _ _ _ _ hx hs hh hn
 case unOp=>exact ZG _ _ _ hx hs hh hn
 case convert=>exact EE hE _ _ _ hx hs hh hn
 case makeSlice=>exact yA hE _ _ _ hx hs hh hn
 case slice=>exact JG hE _ _ _ _ _ hx hs hh hn
 case fieldAddr=>exact yw hE _ _ _ hx hs hh hn
 case field=>exact JA hE _ _ _ hx hs hh hn
 case indexAddr=>exact yx hE _ _ _ hx hs hh hn
 case index=>exact JC hE _ _ _ hx hs hh hn
 case extract=>exact Ex _ _ hx hs hh hn
 case makeFunc=>exact OR _ _ _ hx hs hh hn
 case call=>exact O4 hE iD _ hx hs hh hn
 case makeMap=>exact EF hE _ _ hx hs hh hn
 case lookup=>exact HU hE _ _ _ _ hx hs hh hn
 case mapUpdate=>exact yG hE _ _ _ _ hx hs hh hn
 all_goals (simp only [bG] at hx;cases hx)
theorem EJ{fn:Fn}{as:List Value}{h':AH}(hx:nl E rec fn as h=some (v,h')):∃ g rs v0,fn = .func g/\E.fn g=some rs/\rec g as h=some (v0,h')/\∀ P base φ n w u,VR P base φ n w v0 u->VR P base φ n w v u:=by
 unfold nl at hx
 split at hx
 ·rename_i g
  split at hx
  ·rename_i rs hg
   cases hr:rec g as h with
   | none=>rw [hr] at hx;cases hx
   | some iH=>
    obtain ⟨v0,h0⟩:=iH
    rw [hr] at hx
    simp only [aJ] at hx
    obtain ⟨y,hc,hy⟩:=mK hx
    injection hc with hc
    injection hc with Gl AZ
    subst Gl;subst AZ
    exact ⟨g,rs,v0,rfl,hg,hr,hy⟩
  ·cases hx
 ·cases hx
theorem xu(hE:dq E)(iD:nr E w0 rec)(o:Oper)(hx:tT E rec o s h c=some r)(hs:SR E.P E.base φ h.length w s a)(hh:HR E.P E.base w0 φ h w)(hn:gQ E w0 φ h w o.dst a next c r):
  o.wp E.P a w next Q:=by
 unfold tT at hx
 split at hx
 ·exact oh hE iD o hx hs hh hn
 ·rename_i t xs0 ht
  obtain ⟨dst,op,ty,pos,after,guard⟩:=o
  simp only at hx ht hn
  have O5:∃ cc:Call,op = .call cc/\cc.callee = .value (.tmp t)/\cc.args.toList=xs0:=by
   unfold tS at ht
   split at ht
   ·rename_i cc
    split at ht
    ·rename_i t' hc
     injection ht with ht
     injection ht with h1 h2
     subst h1
     exact ⟨cc,rfl,hc,h2⟩
    ·cases ht
   ·cases ht
  obtain ⟨⟨callee,xs,ts⟩,rfl,Z5,rfl⟩:=O5
  simp only at Z5
  subst Z5
  split at hx
  ·rename_i fn p q vs rs hf vZ hrs
   cases hr:nl E rec fn (p.toList++vs++q.toList) h with
   | none=>rw [hr] at hx;cases hx
   | some iH=>
    obtain ⟨v,h'⟩:=iH
    rw [hr] at hx
    simp only [aJ] at hx
    obtain ⟨y,hc,hy⟩:=mK hx
    obtain ⟨g,rs2,v0,rfl,hg,hrr,hv0⟩:=EJ hr
    have N9:=cm hs (x:=.tmp t) hf
    generalize Z0:a.eval (.tmp t)=fu at N9
    cases N9 with
    | func _ _ p' _ q' hp Q0 hq Q1=>
     obtain ⟨hl,EI⟩:=jw hs vZ
     have xr:=iD g _ h v0 h' hrr φ w (p'.toList++xs.toList.map a.eval++q'.toList) hh (by simp [hp,hq,hl]) (rN hp Q0 Q1 hl EI)
     unfold Oper.wp
     have im:(execOp a.eval (⟨dst,.call ⟨.value (.tmp t),xs,ts⟩,ty,pos,after,guard⟩:Oper)).run E.P w = .ok (.enter g (p'.toList++xs.toList.map a.eval++q'.toList).toArray) w:=by
      have he:=hE.fn g rs2 hg (p'++xs.map a.eval++q') w
      have JR:(p'.toList++xs.toList.map a.eval++q'.toList).toArray=p'++xs.map a.eval++q':=by
       apply Gq
       simp
      simp only [execOp,resolve,Z0,Deferred.ofValue,dB,eF,dI,invoke]
      rw [he,JR]
     rw [im,Oper.upon_enter]
     refine xr.mono λe w' he=>?_
     obtain ⟨u,bN,rfl,e1,e2,e3⟩:=he
     exact hn y h' bN u w' hc e1 e2 (hy _ _ _ _ _ _ (hv0 _ _ _ _ _ _ e3))
  ·cases hx
end
end Go.Proofs.YtkdenmdijdmnjaaGreat.Am
