/- Make, cuts, lengths, appends.
Conditions: the tables tell the program's types. -/
import Derived.Test.YtkdenmdijdmnjaaMa
import Derived.IntWalk
import Derived.Laws.BytesString
import Derived.MapKept
set_option linter.unusedSimpArgs false
set_option linter.unusedVariables false
namespace Go.Proofs.Ytkdenmdijdmnjaa.Am
open Go Go.RowKit
section
variable {R:Type} {E:Env} {w0 w:World} {φ:Nat→Nat×Nat} {h:AH} {s:Slots} {a:Act} {next:Act→World→Prop} {Q:Exit→Act→World→Prop} {r:R} {c:Value→AH→Option R}
 {rec:Rec} {dst:Option Tmp} {ty:TypeId} {pos:String} {after:Array Edge} {guard:Option (Nat×Bool)}
theorem zeros_rel {z:Value} {l:List Value} (hzc:z.cells.toList=l) (hzf:∀ v∈l,flatZ v=true) (m:Nat) (arr:Array Value) (ha:arr.size=m*l.length)
  (hg:0<l.length→∀ k,k<m*l.length→arr[k]? = z.cells[k % z.cells.size]?):∀ (k:Nat) (v:Value),(rep l m)[k]? = some v→arr[k]? = some v∧flatZ v=true:=by
 intro k v hk
 have hlt:k<m*l.length:=by
  have:=(List.getElem?_eq_some_iff.1 hk).1
  rw [rep_length] at this;exact this
 have hpos:0<l.length:=by
  rcases Nat.eq_zero_or_pos l.length with h0|h0
  ·rw [h0] at hlt;simp at hlt
  ·exact h0
 rw [rep_get _ _ _ hlt] at hk
 refine ⟨?_,hzf v (List.mem_of_getElem? hk)⟩
 rw [hg hpos k hlt]
 have hs:z.cells.size=l.length:=by rw [← hzc];simp
 rw [hs,← hk,← hzc]
 simp
theorem op_makeSlice (hE:EnvOk E) (t:TypeId) (x y:Operand) (hx:exOp E rec (.makeSlice t x y) s h c=some r) (hs:SR E.P E.base φ h.length w s a) (hh:HR E.P E.base w0 φ h w) (hn:Cont E w0 φ h w dst a next c r) :
  (⟨dst,.makeSlice t x y,ty,pos,after,guard⟩:Oper).wp E.P a w next Q:=by
 simp only [exOp] at hx
 split at hx
 ·rename_i n n' i h1 h2 h3
  split at hx
  ·rename_i j hj
   cases hb:(isSl i&&Nat.blt 0 j.ks.length) with
   | false=>rw [hb] at hx;cases hx
   | true=>
    rw [hb] at hx
    simp only [Bool.not_true,cond_false] at hx
    simp only [Bool.and_eq_true,Nat.blt_eq] at hb
    split at hx
    ·rename_i hc
     obtain ⟨rfl,hn0,hby,hmax⟩:=hc
     have F:=hE.ti i.elem j hj
     obtain ⟨inf,z,hinf,hsz,hbytes,hz,hzc,hzl,hzf⟩:=F.inf
     have hu:=(hE.ti t i h3).slice hb.1
     have e1:=(ev_rel hs h1).int_inv
     have e2:=(ev_rel hs h2).int_inv
     have hrun0:=run_make (P:=E.P) w t i.elem inf z hu hinf hz .i64 .i64 n n hn0 (Int.le_refl _) (by rw [hbytes,Int.mul_comm];omega) (by omega)
     have hzs:z.cells.size=j.ks.length:=by rw [← hzl,← hzc];simp
     have hz2:=zeros_rel hzc (fun v hv=>List.all_eq_true.1 hzf v hv) n.toNat (madeCells z.cells (n.toNat*inf.size)) (by rw [size_madeCells,hsz,hzl]) (fun hp k hk=>by
      rw [hzl] at hk
      unfold madeCells
      exact zerosArr z.cells _ k (by omega) (by rw [hsz];exact hk))
     obtain ⟨φ',g1,g2,g3,g4,_⟩:=hh.push (rep j.zero n.toNat) i.elem (madeCells z.cells (n.toNat*inf.size)) (w.alloc (.cells (madeCells z.cells (n.toNat*inf.size)) i.elem)) ⟨w.drawn,rfl⟩
      (fun k v hv=>⟨v,(hz2 k v hv).1,fun _=>VR.flat (hz2 k v hv).2⟩)
     unfold Oper.wp
     have hrun:(execOp a.eval (⟨dst,.makeSlice t x y,ty,pos,after,guard⟩:Oper)).run E.P w = .ok (.value (.slice (some ⟨w.heap.size,0,none⟩) n.toNat n.toNat)) (w.alloc (.cells (madeCells z.cells (n.toNat*inf.size)) i.elem)):=by
      simp only [execOp,e1,e2,Sem.run_bind,hrun0,Result.andThen_ok,Sem.run_pure]
     rw [hrun]
     refine hn _ _ φ' _ _ hx g1 g2 (new_slice (E:=E) (cs:=0) (us:=0) g3 (by simp) g4 (Nat.le_refl _) ?_)
     rw [F.cellsOf,size_madeCells,hsz]
     exact Nat.le_refl _
    ·cases hx
  ·cases hx
 ·cases hx
theorem bound_rel (hs:SR E.P E.base φ h.length w s a) {x:Option Operand} {d l:Int} (hb:bound s x d=some l):(x=none∧l=d)∨∃ y k,x=some y∧a.eval y = .int k l:=by
 cases x with
 | none=>simp only [bound] at hb;injection hb with hb;exact .inl ⟨rfl,hb.symm⟩
 | some y=>
  simp only [bound] at hb
  split at hb
  ·rename_i k n hv
   injection hb with hb
   subst hb
   exact .inr ⟨y,k,rfl,(ev_rel hs hv).int_inv⟩
  ·cases hb
theorem bounds_run {isS:Bool} {len cap:Nat} (hcap:len≤cap) {lo hi:Option Operand} {l r':Int} (hlo:(lo=none∧l=0)∨∃ y k,lo=some y∧a.eval y = .int k l) (hhi:(hi=none∧r'=(len:Int))∨∃ y k,hi=some y∧a.eval y = .int k r')
  (h0:0≤l) (h1:l≤r') (h2:r'≤(len:Int)):(Instr.sliceBounds isS len cap (lo.map a.eval) (hi.map a.eval) none).run E.P w = .ok (l.toNat,r'.toNat,cap) w:=by
 have hr:r'≤((cap:Nat):Int):=by omega
 have hl:l≤((r'.toNat:Nat):Int):=by omega
 rcases hlo with ⟨rfl,rfl⟩|⟨y,k,rfl,ey⟩<;>rcases hhi with ⟨rfl,rfl⟩|⟨y2,k2,rfl,ey2⟩
 ·simp [Instr.sliceBounds]
 ·simp [Instr.sliceBounds,ey2,run_sliceBound,hr,(by omega:0≤r')]
 ·have:l≤((len:Nat):Int):=by omega
  simp [Instr.sliceBounds,ey,run_sliceBound,h0,this]
 ·have h3:l≤max r' 0:=by omega
  simp [Instr.sliceBounds,ey,ey2,run_sliceBound,hr,(by omega:0≤r'),h0,h3]
theorem op_slice (hE:EnvOk E) (t:TypeId) (x:Operand) (lo hi mx:Option Operand) (hx:exOp E rec (.slice t x lo hi mx) s h c=some r) (hs:SR E.P E.base φ h.length w s a) (hh:HR E.P E.base w0 φ h w) (hn:Cont E w0 φ h w dst a next c r) :
  (⟨dst,.slice t x lo hi mx,ty,pos,after,guard⟩:Oper).wp E.P a w next Q:=by
 cases mx with
 | some m=>simp only [exOp] at hx;cases hx
 | none=>
  simp only [exOp] at hx
  split at hx
  ·rename_i v h1
   split at hx
   ·rename_i l r' i h2 h3 h4
    cases hb:isK .str i with
    | false=>rw [hb] at hx;cases hx
    | true=>
     rw [hb] at hx
     simp only [Bool.not_true,cond_false] at hx
     split at hx
     ·rename_i hc
      have e:=(ev_rel hs h1).str_inv
      have hu:=(hE.ti t i h4).str hb
      have hbd:=bounds_run (E:=E) (w:=w) (isS:=false) (cap:=v.size) (Nat.le_refl _) (bound_rel hs h2) (bound_rel hs h3) hc.1 hc.2.1 hc.2.2
      refine done_pure (o:=⟨dst,.slice t x lo hi none,ty,pos,after,guard⟩) hn hh hx (.str _) ?_
      simp only [execOp,e,Option.map_none,Instr.sliceAt,Sem.run_bind,TFact.under hu,Result.andThen_ok,Instr.slice]
      simp [hbd]
     ·cases hx
   ·cases hx
  ·rename_i ad n c0 h1
   split at hx
   ·rename_i i hi'
    split at hx
    ·rename_i j hj
     split at hx
     ·rename_i l r' h2 h3
      cases hb:isSl i with
      | false=>rw [hb] at hx;cases hx
      | true=>
       rw [hb] at hx
       simp only [Bool.not_true,cond_false] at hx
       split at hx
       ·rename_i hc
        obtain ⟨hc1,hc2,hc3,hc4⟩:=hc
        have F:=hE.ti i.elem j hj
        have hu:=(hE.ti t i hi').slice hb
        obtain ⟨a',c',e,hm,hor⟩:=(ev_rel hs h1).slice_inv
        have hbd:=bounds_run (E:=E) (w:=w) (isS:=true) hm (bound_rel hs h2) (bound_rel hs h3) hc1 hc2 hc3
        refine done_pure (o:=⟨dst,.slice t x lo hi none,ty,pos,after,guard⟩) (u:=.slice (if c'=l.toNat then a' else a'.map (·.add (l.toNat*j.ks.length))) (r'.toNat-l.toNat) (c'-l.toNat)) hn hh hx ?_ ?_
        ·rcases hor with ⟨hn0,hc0,had⟩|⟨z,hz,hsp,hlt,ha',hroom⟩
         ·subst hn0;subst hc0
          have hl0:l=0:=by omega
          have hr0:r'=0:=by omega
          subst hl0;subst hr0
          simp only [Int.toNat_zero,Nat.sub_self,if_true]
          refine .empty _ _ _ fun x hx=>?_
          cases ad with
          | none=>cases hx
          | some y=>
           simp only [shiftA,Option.map_some] at hx
           injection hx with hx
           subst hx
           exact ⟨rfl,(had y rfl).2⟩
         ·subst hz
          by_cases hcl:c'=l.toNat
          ·rw [if_pos hcl]
           have e1:r'.toNat-l.toNat=0:=by omega
           have e2:c'-l.toNat=0:=by omega
           rw [e1,e2]
           refine .empty _ _ _ fun x hx=>?_
           simp only [shiftA,Option.map_some] at hx
           injection hx with hx
           subst hx
           exact ⟨rfl,hlt⟩
          ·rw [if_neg hcl,ha']
           have hadd:(⟨(φ z.block).1,(φ z.block).2+z.off,none⟩:Addr).add (l.toNat*j.ks.length)=⟨(φ z.block).1,(φ z.block).2+(z.off+l.toNat*j.ks.length),none⟩:=by
            unfold Addr.add
            split
            ·rename_i h0;rw [h0];rfl
            ·simp [Nat.add_assoc]
           simp only [Option.map_some,hadd,shiftA]
           refine .slice _ _ _ _ _ hlt (by omega) fun hbs=>?_
           obtain ⟨e',sz,g1,g2⟩:=hroom hbs
           refine ⟨e',sz,g1,?_⟩
           unfold okTy at hc4
           rcases Nat.eq_zero_or_pos l.toNat with h0|hpos
           ·rw [h0];simpa using g2
           ·have hbeq:Nat.beq l.toNat 0=false:=by
             cases hq:Nat.beq l.toNat 0 with
             | false=>rfl
             | true=>have:=Nat.eq_of_beq_eq_true hq;omega
            rw [hbeq] at hc4
            simp only [Bool.false_or] at hc4
            have hty:E.P.cellsOf e'=j.ks.length:=by
             cases hlow:Nat.blt z.block E.base with
             | true=>
              have hzb:z.block<E.base:=by simpa [Nat.blt_eq] using hlow
              rw [hh.lo z.block hzb] at hbs
              simp at hbs
              omega
             | false=>
              rw [hlow] at hc4
              simp only [Bool.false_or] at hc4
              cases hk:hget h z.block with
              | none=>rw [hk] at hc4;cases hc4
              | some k=>
               rw [hk] at hc4
               have hkt:=Nat.eq_of_beq_eq_true hc4
               obtain ⟨cs,fr,q1,_⟩:=hh.blk z.block k hk (hh.nomT hk (by rw [hkt];exact hE.nomT hj))
               simp only [World.shape?,q1] at g1
               injection g1 with g1
               injection g1 with g1 _
               rw [← g1,hkt]
               exact F.cellsOf
            
            rw [hty] at g2 ⊢
            have:l.toNat*j.ks.length+(c'-l.toNat)*j.ks.length=c'*j.ks.length:=by rw [← Nat.add_mul];congr 1;omega
            omega
        ·simp only [execOp,e,Option.map_none,Instr.sliceAt,Sem.run_bind,TFact.under hu,Result.andThen_ok,Instr.slice,hbd,F.size w,Sem.run_pure]
       ·cases hx
     ·cases hx
    ·cases hx
   ·cases hx
  ·cases hx
end
end Go.Proofs.Ytkdenmdijdmnjaa.Am
set_option linter.unusedSimpArgs false
set_option linter.unusedVariables false
namespace Go.Proofs.Ytkdenmdijdmnjaa.Am
open Go Go.RowKit
section
variable {R:Type} {E:Env} {w0 w:World} {φ:Nat→Nat×Nat} {h:AH} {s:Slots} {a:Act} {next:Act→World→Prop} {Q:Exit→Act→World→Prop} {r:R} {c:Value→AH→Option R}
 {rec:Rec} {dst:Option Tmp} {ty:TypeId} {pos:String} {after:Array Edge} {guard:Option (Nat×Bool)}
theorem HR.kill (hh:HR E.P E.base w0 φ h w) (b:Nat):HR E.P E.base w0 φ (h.set b none) w where
 below:=hh.below
 mp:=fun i k l hi hm=>by
  by_cases e:b=i
  ·subst e
   by_cases hb:b<h.length
   ·rw [hget_set_self hb] at hi;cases hi
   ·have:=hget_lt hi;simp at this;omega
  ·rw [hget_set_ne e] at hi
   exact hh.mp i k l hi hm
 blk:=fun i k hi hm=>by
  by_cases e:b=i
  ·subst e
   by_cases hb:b<h.length
   ·rw [hget_set_self hb] at hi;cases hi
   ·have:=hget_lt hi;simp at this;omega
  ·rw [hget_set_ne e] at hi
   obtain ⟨cs,fr,g1,g2,g3⟩:=hh.blk i k hi hm
   exact ⟨cs,fr,g1,fun j v hj=>by
    obtain ⟨u,hu,hv⟩:=g2 j v hj
    exact ⟨u,hu,hv.mono (fun _ _=>rfl) (by simp) (ShapeLe.refl _)⟩,g3⟩
 inj:=fun i j k l hi hj e=>by
  have live:∀ {x y},hget (h.set b none) x=some y→hget h x=some y:=by
   intro x y hx
   by_cases e:b=x
   ·subst e
    by_cases hb:b<h.length
    ·rw [hget_set_self hb] at hx;cases hx
    ·have:=hget_lt hx;simp at this;omega
   ·rw [hget_set_ne e] at hx;exact hx
  exact hh.inj i j k l (live hi) (live hj) e
 lo:=hh.lo
 len:=by simpa using hh.len
 bw:=hh.bw
theorem kill_live {h:AH} {b x:Nat} {y:Blk} (hx:hget (h.set b none) x=some y):hget h x=some y∧b≠x:=by
 by_cases e:b=x
 ·subst e
  by_cases hb:b<h.length
  ·rw [hget_set_self hb] at hx;cases hx
  ·have:=hget_lt hx;simp at this;omega
 ·rw [hget_set_ne e] at hx;exact ⟨hx,e⟩
theorem Ext.kill (φ:Nat→Nat×Nat) (h:AH) (w:World) (b:Nat):Ext φ h w φ (h.set b none) w:=
 ⟨by simp,fun _ _=>rfl,fun i k hi _=>⟨i,k,(kill_live hi).1,rfl⟩,fun _ _ _=>rfl,Nat.le_refl _,ShapeLe.refl _⟩
theorem args_one (hs:SR E.P E.base φ h.length w s a) {xs:Array Operand} {v:Value} (hev:evs s xs.toList=some [v]):∃ x,xs=#[x]∧VR E.P E.base φ h.length w v (a.eval x):=by
 obtain ⟨hl,hr⟩:=evs_rel hs hev
 obtain ⟨xs⟩:=xs
 simp only at hl hr
 match xs,hl with
 | [x],_=>exact ⟨x,rfl,hr 0 v (a.eval x) rfl rfl⟩
theorem args_two (hs:SR E.P E.base φ h.length w s a) {xs:Array Operand} {v v2:Value} (hev:evs s xs.toList=some [v,v2]):∃ x x2,xs=#[x,x2]∧VR E.P E.base φ h.length w v (a.eval x)∧VR E.P E.base φ h.length w v2 (a.eval x2):=by
 obtain ⟨hl,hr⟩:=evs_rel hs hev
 obtain ⟨xs⟩:=xs
 simp only at hl hr
 match xs,hl with
 | [x,x2],_=>exact ⟨x,x2,rfl,hr 0 v (a.eval x) rfl rfl,hr 1 v2 (a.eval x2) rfl rfl⟩
theorem arr_of {α:Type} {ts:Array α} {l:List α} (h:ts.toList=l):ts=l.toArray:=by
 rw [← h]
theorem op_len (hE:EnvOk E) (xs:Array Operand) (ts:Array TypeId) (vs:List Value) (hev:evs s xs.toList=some vs) (hx:exLen E ts.toList vs h c=some r) (hs:SR E.P E.base φ h.length w s a) (hh:HR E.P E.base w0 φ h w) (hn:Cont E w0 φ h w dst a next c r) :
  (⟨dst,.call { callee:=.builtin .len,args:=xs,argTypes:=ts },ty,pos,after,guard⟩:Oper).wp E.P a w next Q:=by
 unfold exLen at hx
 split at hx
 ·rename_i v t ht
  obtain ⟨x,rfl,hv⟩:=args_one hs hev
  obtain rfl:=arr_of ht
  split at hx
  ·rename_i i hi
   split at hx
   ·rename_i ad n c0
    cases hb:isSl i with
    | false=>rw [hb] at hx;cases hx
    | true=>
     rw [hb] at hx
     simp only [cond_true] at hx
     obtain ⟨a',c',e,hm,_⟩:=hv.slice_inv
     have hu:=(hE.ti t i hi).slice hb
     exact done_pure (o:=⟨dst,.call { callee:=.builtin .len,args:=#[x],argTypes:=#[t] },ty,pos,after,guard⟩) hn hh hx (.int _ _) (by
      simp [execOp,resolve,invoke,builtin,Builtin.len_,e,TFact.under hu,goInt])
   ·rename_i str
    cases hb:isK .str i with
    | false=>rw [hb] at hx;cases hx
    | true=>
     rw [hb] at hx
     simp only [cond_true] at hx
     have e:=hv.str_inv
     have hu:=(hE.ti t i hi).str hb
     exact done_pure (o:=⟨dst,.call { callee:=.builtin .len,args:=#[x],argTypes:=#[t] },ty,pos,after,guard⟩) hn hh hx (.int _ _) (by
      simp [execOp,resolve,invoke,builtin,Builtin.len_,e,TFact.under hu,goInt])
   ·cases hx
  ·cases hx
 ·cases hx
theorem max_run (w:World):∀ (vs us:List Value) (v u:Value) (cc:Value→Option R),maxV v vs cc=some r→vs.length=us.length→(∀ (i:Nat) (x y:Value),vs[i]? = some x→us[i]? = some y→VR E.P E.base φ h.length w x y) →
  VR E.P E.base φ h.length w v u→∃ z,cc z=some r∧∃ z',VR E.P E.base φ h.length w z z'∧(us.foldlM Builtin.max2 u).run E.P w = .ok z' w
 | [],us,v,u,cc,hx,hl,hr,hv=>by
  have:us = []:=List.eq_nil_of_length_eq_zero (by simpa using hl.symm)
  subst this
  cases v<;>(simp only [maxV] at hx;exact ⟨_,hx,u,hv,by simp⟩)
 | x :: vs,[],v,u,cc,hx,hl,hr,hv=>by simp at hl
 | x :: vs,y :: us,v,u,cc,hx,hl,hr,hv=>by
  have hxy:=hr 0 x y rfl rfl
  simp only [maxV] at hx
  split at hx
  ·rename_i k m k' n
   have e3:=hv.int_inv
   have e4:=hxy.int_inv
   subst e3;subst e4
   obtain ⟨z,h1,z',h2,h3⟩:=max_run w vs us _ (.int k (if n>m then n else m)) cc hx (by simpa using hl) (fun i p q hp hq=>hr (i+1) p q hp hq) (.int _ _)
   exact ⟨z,h1,z',h2,by simp only [List.foldlM_cons,Sem.run_bind,Builtin.max2,Sem.run_pure,Result.andThen_ok];exact h3⟩
  ·cases hx
theorem min_run (w:World):∀ (vs us:List Value) (v u:Value) (cc:Value→Option R),minV v vs cc=some r→vs.length=us.length→(∀ (i:Nat) (x y:Value),vs[i]? = some x→us[i]? = some y→VR E.P E.base φ h.length w x y) →
  VR E.P E.base φ h.length w v u→∃ z,cc z=some r∧∃ z',VR E.P E.base φ h.length w z z'∧(us.foldlM Builtin.min2 u).run E.P w = .ok z' w
 | [],us,v,u,cc,hx,hl,hr,hv=>by
  have:us = []:=List.eq_nil_of_length_eq_zero (by simpa using hl.symm)
  subst this
  cases v<;>(simp only [minV] at hx;exact ⟨_,hx,u,hv,by simp⟩)
 | x :: vs,[],v,u,cc,hx,hl,hr,hv=>by simp at hl
 | x :: vs,y :: us,v,u,cc,hx,hl,hr,hv=>by
  have hxy:=hr 0 x y rfl rfl
  simp only [minV] at hx
  split at hx
  ·rename_i k m k' n
   have e3:=hv.int_inv
   have e4:=hxy.int_inv
   subst e3;subst e4
   obtain ⟨z,h1,z',h2,h3⟩:=min_run w vs us _ (.int k (if n<m then n else m)) cc hx (by simpa using hl) (fun i p q hp hq=>hr (i+1) p q hp hq) (.int _ _)
   exact ⟨z,h1,z',h2,by simp only [List.foldlM_cons,Sem.run_bind,Builtin.min2,Sem.run_pure,Result.andThen_ok];exact h3⟩
  ·cases hx
end
end Go.Proofs.Ytkdenmdijdmnjaa.Am
set_option linter.unusedSimpArgs false
set_option linter.unusedVariables false
namespace Go.Proofs.Ytkdenmdijdmnjaa.Am
open Go Go.RowKit
section
variable {R:Type} {E:Env} {w0 w:World} {φ:Nat→Nat×Nat} {h:AH} {s:Slots} {a:Act} {next:Act→World→Prop} {Q:Exit→Act→World→Prop} {r:R} {c:Value→AH→Option R}
 {rec:Rec} {dst:Option Tmp} {ty:TypeId} {pos:String} {after:Array Edge} {guard:Option (Nat×Bool)}
theorem op_min (xs:Array Operand) (ts:Array TypeId) (v:Value) (vs:List Value) (hev:evs s xs.toList=some (v :: vs)) (hx:minV v vs (fun x=>c x h)=some r) (hs:SR E.P E.base φ h.length w s a) (hh:HR E.P E.base w0 φ h w) (hn:Cont E w0 φ h w dst a next c r) :
  (⟨dst,.call { callee:=.builtin .min,args:=xs,argTypes:=ts },ty,pos,after,guard⟩:Oper).wp E.P a w next Q:=by
 obtain ⟨hl,hr⟩:=evs_rel hs hev
 obtain ⟨xs⟩:=xs
 simp only at hl hr
 match xs,hl,hr with
 | x :: xs,hl,hr=>
  obtain ⟨z,h1,z',h2,h3⟩:=min_run w vs (xs.map a.eval) v (a.eval x) _ hx (by simpa using hl) (fun i p q hp hq=>hr (i+1) p q hp (by simpa using hq)) (hr 0 v _ rfl rfl)
  exact done_pure (o:=⟨dst,.call { callee:=.builtin .min,args:=(x :: xs).toArray,argTypes:=ts },ty,pos,after,guard⟩) hn hh h1 h2 (by
   simp only [execOp,resolve,invoke,builtin,Builtin.min_,Sem.run_bind,Sem.run_pure,Result.andThen_ok,List.map_toArray,List.map_cons]
   rw [h3];rfl)
theorem op_max (xs:Array Operand) (ts:Array TypeId) (v:Value) (vs:List Value) (hev:evs s xs.toList=some (v :: vs)) (hx:maxV v vs (fun x=>c x h)=some r) (hs:SR E.P E.base φ h.length w s a) (hh:HR E.P E.base w0 φ h w) (hn:Cont E w0 φ h w dst a next c r) :
  (⟨dst,.call { callee:=.builtin .max,args:=xs,argTypes:=ts },ty,pos,after,guard⟩:Oper).wp E.P a w next Q:=by
 obtain ⟨hl,hr⟩:=evs_rel hs hev
 obtain ⟨xs⟩:=xs
 simp only at hl hr
 match xs,hl,hr with
 | x :: xs,hl,hr=>
  obtain ⟨z,h1,z',h2,h3⟩:=max_run w vs (xs.map a.eval) v (a.eval x) _ hx (by simpa using hl) (fun i p q hp hq=>hr (i+1) p q hp (by simpa using hq)) (hr 0 v _ rfl rfl)
  exact done_pure (o:=⟨dst,.call { callee:=.builtin .max,args:=(x :: xs).toArray,argTypes:=ts },ty,pos,after,guard⟩) hn hh h1 h2 (by
   simp only [execOp,resolve,invoke,builtin,Builtin.max_,Sem.run_bind,Sem.run_pure,Result.andThen_ok,List.map_toArray,List.map_cons]
   rw [h3];rfl)
theorem HR.regrow (hh:HR E.P E.base w0 φ h w) {b:Nat} {k:Blk} (hk:hget h b=some k) (hkm:k.m=none) (hb:E.base≤b) {cur:Array Value} (hcur:w.heap[(φ b).1]? = some (.cells cur k.ty (0,0)))
  (nc:Array Value) (hsz:nc.size=cur.size) (o:Nat) (ncs:List Value) (hr:∀ (j:Nat) (v:Value),ncs[j]? = some v→∃ u,nc[o+j]? = some u∧CR E.P E.base φ h.length w v u) :
  ∃ φ',Ext φ h w φ' (h.set b none++[some ⟨ncs,k.ty⟩]) (w.setRow (φ b).1 nc)∧HR E.P E.base w0 φ' (h.set b none++[some ⟨ncs,k.ty⟩]) (w.setRow (φ b).1 nc)∧φ' h.length=((φ b).1,o):=by
 let φ':Nat→Nat×Nat:=fun i=>if i=h.length then ((φ b).1,o) else φ i
 have hold:∀ i,i<h.length→φ' i=φ i:=fun i hi=>by simp only [φ'];rw [if_neg (by omega)]
 have hnew:φ' h.length=((φ b).1,o):=by simp [φ']
 have hshape:=setRow_shape w (φ b).1 cur nc k.ty (0,0) hcur hsz
 have hbase:E.base≤(φ b).1:=by
  obtain ⟨cs,fr,_,_,h3⟩:=hh.blk b k hk hkm
  exact (h3 hb).2
 have hlt:=hget_lt hk
 have hbl:∀ i l,hget h i=some l→i≠b→(φ i).1≠(φ b).1:=fun i l hi hne e=>hne (hh.inj i b l k hi hk e)
 have hlen:(h.set b none).length=h.length:=by simp
 have hcase:∀ i l,hget (h.set b none++[some ⟨ncs,k.ty⟩]) i=some l→(i<h.length∧i≠b∧hget h i=some l)∨(i=h.length∧l=⟨ncs,k.ty⟩):=fun i l hi=>by
  rcases Nat.lt_trichotomy i h.length with hl|heq|hgt
  ·rw [hget_append_lt (by rw [hlen];exact hl)] at hi
   obtain ⟨h1,h2⟩:=kill_live hi
   exact .inl ⟨hl,Ne.symm h2,h1⟩
  ·have:hget (h.set b none++[some ⟨ncs,k.ty⟩]) h.length=some ⟨ncs,k.ty⟩:=by
    have:=hget_append_new (h:=h.set b none) (x:=some ⟨ncs,k.ty⟩)
    rw [hlen] at this;exact this
   rw [heq,this] at hi
   injection hi with hi
   exact .inr ⟨heq,hi.symm⟩
  ·rw [hget_append_ge (by rw [hlen];exact hgt)] at hi;cases hi
 refine ⟨φ',⟨by simp,hold,?_,fun x _ hx=>?_,by simp,hshape⟩,⟨?_,?_,?_,?_,?_,?_,?_⟩,hnew⟩
 ·intro i l hi _
  rcases hcase i l hi with ⟨h1,h2,h3⟩|⟨h1,_⟩
  ·exact ⟨i,l,h3,by rw [hold i h1]⟩
  ·rw [h1,hnew];exact ⟨b,k,hk,rfl⟩
 ·exact setRow_other w _ x nc (fun e=>hx b k hk e.symm)
 ·exact hh.below.trans ⟨rfl,rfl,rfl,by simp,fun x hx=>setRow_other w _ x nc (by omega)⟩
 ·intro i l hi hm
  rcases hcase i l hi with ⟨h1,h2,h3⟩|⟨h1,h2⟩
  ·obtain ⟨cs,fr,g1,g2,g3⟩:=hh.blk i l h3 hm
   rw [hold i h1]
   refine ⟨cs,fr,by rw [setRow_other w _ _ nc (hbl i l h3 h2)];exact g1,fun j v hj=>?_,g3⟩
   obtain ⟨u,hu,hv⟩:=g2 j v hj
   exact ⟨u,hu,hv.mono hold (by simp) hshape⟩
  ·subst h2
   rw [h1,hnew]
   refine ⟨nc,(0,0),setRow_heap w _ cur nc k.ty (0,0) hcur,fun j v hj=>?_,fun _=>⟨rfl,hbase⟩⟩
   obtain ⟨u,hu,hv⟩:=hr j v hj
   exact ⟨u,hu,hv.mono hold (by simp) hshape⟩
 ·intro i l m hi hm
  rcases hcase i l hi with ⟨h1,h2,h3⟩|⟨h1,h2⟩
  ·obtain ⟨g0,g1,g2,es,clock,g3,g4⟩:=hh.mp i l m h3 hm
   rw [hold i h1]
   exact ⟨g0,g1,g2,es,clock,by rw [setRow_other w _ _ nc (hbl i l h3 h2)];exact g3,g4⟩
  ·subst h2;cases hm
 ·intro i j l m hi hj e
  rcases hcase i l hi with ⟨h1,h2,h3⟩|⟨h1,h2⟩<;>rcases hcase j m hj with ⟨g1,g2,g3⟩|⟨g1,g2⟩
  ·rw [hold i h1,hold j g1] at e;exact hh.inj i j l m h3 g3 e
  ·rw [g1,hold i h1,hnew] at e
   exact absurd e (hbl i l h3 h2)
  ·rw [h1,hold j g1,hnew] at e
   exact absurd e.symm (hbl j m g3 g2)
  ·omega
 ·intro i hi;rw [hold i (Nat.lt_of_lt_of_le hi hh.len)];exact hh.lo i hi
 ·have:=hh.len;simp;omega
 ·simpa using hh.bw
def AppRoom (P:Program) (w:World) (t u ty:TypeId) (sz:Nat) (x:Value) (m:Nat) (news:List Value):Prop:=
 ∀ (b:Addr) (n cap:Nat) (w':World),n+m≤cap→(storeCells (b.add (n*sz)) news).run P w = .ok () w'→(Builtin.append_ #[t,u] ty #[.slice (some b) n cap,x]).run P w = .ok (.slice (some b) (n+m) cap) w'
def AppGrow (P:Program) (w:World) (t u ty e:TypeId) (sz bytes:Nat) (z:Value) (x:Value) (m:Nat) (news:List Value):Prop:=
 ∀ (ba:Option Addr) (n cap:Nat) (olds:List Value),(Builtin.firstCells sz n (.slice ba n cap)).run P w.drew = .ok olds.toArray w.drew→cap<n+m→n+m≤9223372036854775807→(n+m)*bytes≤140737488355328 →
  (Builtin.append_ #[t,u] ty #[.slice ba n cap,x]).run P w = .ok (.slice (some ⟨w.heap.size,0,none⟩) (n+m) (grownCap w (n+m) cap e))
    (w.drew.alloc (.cells (olds.toArray++news.toArray++Builtin.zeroCells z.cells (grownCap w (n+m) cap e-(n+m))) e))
theorem app_plain {P:Program} {t u ty e:TypeId} {i:TypeInfo} {z:Value} (ht:P.underlying t=some (.slice e)) (hu:P.underlying u=some (.slice e)∨P.underlying u=some .string) (hi:P.info? e=some i) (hz:i.zero=some z)
  {x:Value} {m:Nat} {news:List Value} (hl:Builtin.lenOf x=pure m) (hf:(Builtin.firstCells i.size m x).run P w = .ok news.toArray w) (hf':(Builtin.firstCells i.size m x).run P w.drew = .ok news.toArray w.drew) :
  AppRoom P w t u ty i.size x m news∧AppGrow P w t u ty e i.size i.bytes z x m news:=by
 constructor
 ·intro b n cap w' hr hst
  rcases hu with hu|hu<;>simp [Builtin.append_,run_underlying ht,run_underlying hu,sizeOf,typeInfo,hi,hl,hr,hf,hst]
 ·intro ba n cap olds hfo hg h63 hb
  have hn:¬(n+m≤cap):=by omega
  have h63':¬(9223372036854775807<((n:Int)+(m:Int))):=by omega
  have h48:=growslice_fits hg hb
  have h48':¬(281474976710656<Builtin.nextslicecap (n+m) cap*i.bytes):=by omega
  rcases hu with hu|hu<;>(
   simp [Builtin.append_,run_underlying ht,run_underlying hu,sizeOf,typeInfo,zeroValue,hi,hz,hl,hn,h63',h48',Question.forced,hf',hfo,newRow,grownCap]
   congr 2
   apply Array.ext'
   simp [List.append_assoc])
theorem app_zeros {P:Program} {t u ty e:TypeId} {i:TypeInfo} {z:Value} (ht:P.underlying t=some (.slice e)) {k:IntKind} (hu:P.underlying u=some (.int k)) (hi:P.info? e=some i) (hz:i.zero=some z)
  {m:Int} (h0:0<m) (hm:m≤140737488355328) (hb:m.toNat*i.bytes≤140737488355328) (hsz:0<i.size) :
  AppRoom P w t u ty i.size (.int .i64 m) m.toNat (Builtin.zeroCells z.cells m.toNat).toList∧AppGrow P w t u ty e i.size i.bytes z (.int .i64 m) m.toNat (Builtin.zeroCells z.cells m.toNat).toList:=by
 have hw:IntKind.i64.wrap m=m:=IntWalk.i64_in m (by omega)
 have hneg:¬(m<0):=by omega
 have hbig:¬(m*(i.bytes:Int)>281474976710656):=by
  have:m*(i.bytes:Int)=((m.toNat*i.bytes:Nat):Int):=by
   rw [Int.natCast_mul,Int.toNat_of_nonneg (by omega)]
  rw [this];omega
 have hne:m.toNat*i.size≠0:=Nat.mul_ne_zero (by omega) (by omega)
 have hne':¬(m.toNat=0∨i.size=0):=by omega
 constructor
 ·intro b n cap w' hr hst
  simp [Builtin.append_,run_underlying ht,run_underlying hu,sizeOf,typeInfo,zeroValue,hi,hz,hr,hst,hw,hneg,hbig,hne,hne',asInt,asIntOf]
 ·intro ba n cap olds hfo hg h63 hb
  have hn:¬(n+m.toNat≤cap):=by omega
  have h63':¬(9223372036854775807<((n:Int)+(m.toNat:Int))):=by omega
  have h48:=growslice_fits hg hb
  have h48':¬(281474976710656<Builtin.nextslicecap (n+m.toNat) cap*i.bytes):=by omega
  simp [Builtin.append_,run_underlying ht,run_underlying hu,sizeOf,typeInfo,zeroValue,hi,hz,hn,h63',h48',Question.forced,hfo,newRow,grownCap,hw,hneg,hbig,hne,hne',asInt,asIntOf]
  intro hq
  omega
theorem grow_some {base:Nat} {h:AH} {t sz bytes:Nat} {ad:Option Addr} {n m:Nat} {new:List Value} {p:Value×AH} (hx:grow base h t sz bytes ad n new m=some p):(n+m)*bytes≤140737488355328∧n+m≤9223372036854775807 ∧
  ((ad=none∧n=0∧p=(.slice (some ⟨h.length,0,none⟩) m m,h++[some ⟨new,t⟩]))∨∃ x k,ad=some x∧hget h x.block=some k∧base≤x.block∧k.ty=t∧x.off+n*sz≤k.cs.length ∧
   p=(.slice (some ⟨h.length,0,none⟩) (n+m) (n+m),h.set x.block none++[some ⟨(k.cs.drop x.off).take (n*sz)++new,t⟩])):=by
 unfold grow at hx
 split at hx
 ·rename_i h1
  refine ⟨h1.1,h1.2,?_⟩
  cases ad with
  | none=>
   simp only at hx
   split at hx
   ·rename_i h2;injection hx with hx;exact .inl ⟨rfl,h2,hx.symm⟩
   ·cases hx
  | some x=>
   simp only at hx
   cases hk:hget h x.block with
   | none=>rw [hk] at hx;cases hx
   | some k=>
    rw [hk] at hx
    simp only [Option.bind_some] at hx
    split at hx
    ·rename_i h2;injection hx with hx;exact .inr ⟨x,k,rfl,hk,h2.1,h2.2.1,h2.2.2,hx.symm⟩
    ·cases hx
 ·cases hx
theorem addr_add (b o n:Nat):(⟨b,o,none⟩:Addr).add n=⟨b,o+n,none⟩:=by
 unfold Addr.add
 split
 ·rename_i h0;rw [h0];rfl
 ·rfl
theorem app_sound (hE:EnvOk E) (hh:HR E.P E.base w0 φ h w) {t u ty e sz bytes:Nat} {j:TI} {z:Value} (hj:E.ti e=some j) (hsz:j.ks.length=sz) (hzs:z.cells.size=sz) (hpos:0<sz) {x:Value} {m:Nat} {new news:List Value} (hm:0<m) (hnl:new.length=m*sz) (hnl2:news.length=m*sz)
  (hnr:∀ (j:Nat) (p q:Value),new[j]? = some p→news[j]? = some q→VR E.P E.base φ h.length w p q) (h1c:∀ v∈news,v.oneCell'=true)
  (hR:AppRoom E.P w t u ty sz x m news) (hG:AppGrow E.P w t u ty e sz bytes z x m news) {ad:Option Addr} {n c0:Nat} {y:Value} (hv:VR E.P E.base φ h.length w (.slice ad n c0) y) {p:Value×AH} (hg:grow E.base h e sz bytes ad n new m=some p) :
  ∃ v' w' φ',(Builtin.append_ #[t,u] ty #[y,x]).run E.P w = .ok v' w'∧Ext φ h w φ' p.2 w'∧HR E.P E.base w0 φ' p.2 w'∧VR E.P E.base φ' p.2.length w' p.1 v':=by
 obtain ⟨a',cap,rfl,hnc,hor⟩:=hv.slice_inv
 obtain ⟨hb1,hb2,hcase⟩:=grow_some hg
 have hsub:(Builtin.zeroCells z.cells (grownCap w (n+m) cap e-(n+m))).size=(grownCap w (n+m) cap e-(n+m))*sz:=by simp [Builtin.zeroCells,hzs]
 have hco:=(hE.ti e j hj).cellsOf
 have hge:=grownCap_ge w (n+m) cap e
 have fresh:∀ (olds oldc:List Value),oldc.length=n*sz→olds.length=n*sz→(∀ (i:Nat) (p q:Value),oldc[i]? = some p→olds[i]? = some q→CR E.P E.base φ h.length w p q) →
   (Builtin.firstCells sz n (.slice a' n cap)).run E.P w.drew = .ok olds.toArray w.drew→cap<n+m→∀ h1,(∃ k,h1=h∨h1=h.set k none)→p=(.slice (some ⟨h.length,0,none⟩) (n+m) (n+m),h1++[some ⟨oldc++new,e⟩]) →
   ∃ v' w' φ',(Builtin.append_ #[t,u] ty #[.slice a' n cap,x]).run E.P w = .ok v' w'∧Ext φ h w φ' p.2 w'∧HR E.P E.base w0 φ' p.2 w'∧VR E.P E.base φ' p.2.length w' p.1 v':=by
  intro olds oldc l1 l2 hr hf hcap h1 hh1 hp
  have hH:HR E.P E.base w0 φ h1 w∧Ext φ h w φ h1 w∧h1.length=h.length:=by
   obtain ⟨k,rfl|rfl⟩:=hh1
   ·exact ⟨hh,Ext.refl ..,rfl⟩
   ·exact ⟨hh.kill k,Ext.kill ..,by simp⟩
  obtain ⟨H1,H2,H3⟩:=hH
  obtain ⟨φ',e1,e2,e3,e4,_⟩:=H1.push (oldc++new) e (olds.toArray++news.toArray++Builtin.zeroCells z.cells (grownCap w (n+m) cap e-(n+m))) (w.drew.alloc (.cells (olds.toArray++news.toArray++Builtin.zeroCells z.cells (grownCap w (n+m) cap e-(n+m))) e)) ⟨w.drawn+1,rfl⟩ (fun i v hi=>by
   rw [H3]
   by_cases hlt:i<n*sz
   ·rw [List.getElem?_append_left (by omega)] at hi
    have hq:i<olds.length:=by omega
    refine ⟨olds[i],?_,hr i v _ hi (List.getElem?_eq_getElem hq)⟩
    rw [Array.getElem?_append_left (by simp;omega),Array.getElem?_append_left (by simp;omega)]
    simp [hq]
   ·rw [List.getElem?_append_right (by omega)] at hi
    have hi':=(List.getElem?_eq_some_iff.1 hi).1
    have hq:i-oldc.length<news.length:=by omega
    refine ⟨news[i-oldc.length],?_,fun _=>hnr (i-oldc.length) v _ hi (List.getElem?_eq_getElem hq)⟩
    rw [Array.getElem?_append_left (by simp;omega),Array.getElem?_append_right (by simp;omega)]
    simp [l1,l2])
  subst hp
  refine ⟨_,_,φ',hG a' n cap olds hf hcap hb2 hb1,H2.trans e1,e2,?_⟩
  simp only
  rw [← H3]
  refine new_slice (E:=E) (cs:=0) (us:=0) e3 (by simp) e4 hge ?_
  rw [hco,hsz]
  simp only [Array.size_append,List.size_toArray,hsub,l2,hnl2,← Nat.add_mul]
  exact Nat.le_of_eq (by congr 1;omega)
 rcases hcase with ⟨rfl,hn0,hp⟩|⟨xa,k,rfl,hk,hkb,hkt,hko,hp⟩
 ·subst hn0
  rcases hor with ⟨_,hc0,_⟩|⟨z,hz,_⟩
  ·subst hc0
   refine fresh [] [] (by simp) (by simp) (fun i p q hp _=>by simp at hp) ?_ (by omega) h ⟨0,.inl rfl⟩ (by simpa using hp)
   cases a'<;>simp [Builtin.firstCells,loadCells,loadCellsFrom]
  ·cases hz
 ·have hkm:k.m=none:=hh.nomT hk (by rw [hkt];exact hE.nomT hj)
  obtain ⟨cur,fr,g1,g2,g3⟩:=hh.blk xa.block k hk hkm
  obtain ⟨rfl,hbase⟩:=g3 hkb
  have hoc:((k.cs.drop xa.off).take (n*sz)).length=n*sz:=by simp;omega
  have hold:∀ j,j<n*sz→∃ u,cur[(φ xa.block).2+(xa.off+j)]? = some u∧∀ v,((k.cs.drop xa.off).take (n*sz))[j]? = some v→CR E.P E.base φ h.length w v u:=by
   intro j hj
   have hq:xa.off+j<k.cs.length:=by omega
   obtain ⟨u,hu,hr⟩:=g2 (xa.off+j) _ (List.getElem?_eq_getElem hq)
   refine ⟨u,hu,fun v hv=>?_⟩
   rw [List.getElem?_take_of_lt hj,List.getElem?_drop,List.getElem?_eq_getElem hq] at hv
   injection hv with hv
   rw [← hv];exact hr
  let f:Nat→Value:=fun j=>if hj:j<n*sz then (hold j hj).choose else undef
  have hf:∀ j,j<n*sz→cur[(φ xa.block).2+(xa.off+j)]? = some (f j)∧∀ v,((k.cs.drop xa.off).take (n*sz))[j]? = some v→CR E.P E.base φ h.length w v (f j):=by
   intro j hj
   simp only [f,hj,dite_true]
   exact (hold j hj).choose_spec
  by_cases hroom:n+m≤cap
  ·rcases hor with ⟨_,hc0,_⟩|⟨xb,hxb,hsp,hlt,ha',hrm⟩
   ·omega
   ·injection hxb with hxb
    subst hxb
    subst ha'
    obtain ⟨e',sz',q1,q2⟩:=hrm hbase
    simp only [World.shape?,g1] at q1
    injection q1 with q1
    injection q1 with q1 q3
    subst q1;subst q3
    rw [hkt,hco,hsz] at q2
    have hfit:(φ xa.block).2+xa.off+n*sz+news.length≤cur.size:=by
     have:(n+m)*sz≤cap*sz:=Nat.mul_le_mul_right _ hroom
     rw [Nat.add_mul] at this
     omega
    have hst:=run_storeCells_at E.P (φ xa.block).1 ((φ xa.block).2+xa.off+n*sz) k.ty news 0 cur w g1 (by simpa using hfit) h1c
    simp only [Nat.add_zero] at hst
    generalize hnc:(cur.toList.take ((φ xa.block).2+xa.off+n*sz)++news++cur.toList.drop ((φ xa.block).2+xa.off+n*sz+news.length)).toArray=nc at hst
    have hncs:nc.size=cur.size:=by rw [← hnc];simp;omega
    have hget:∀ j,nc[j]? = if (φ xa.block).2+xa.off+n*sz≤j∧j<(φ xa.block).2+xa.off+n*sz+news.length then news[j-((φ xa.block).2+xa.off+n*sz)]? else cur[j]?:=by
     intro j
     have:=setAt_get (cs:=cur.toList) (vs:=news) (o:=(φ xa.block).2+xa.off+n*sz) (by simpa using hfit) j
     rw [← hnc]
     simp only [setAt] at this
     simpa using this
    obtain ⟨φ',e1,e2,e3⟩:=hh.regrow hk hkm hkb g1 nc hncs ((φ xa.block).2+xa.off) ((k.cs.drop xa.off).take (n*sz)++new) (fun j v hj=>by
     by_cases hlt':j<n*sz
     ·rw [List.getElem?_append_left (by omega)] at hj
      obtain ⟨r1,r2⟩:=hf j hlt'
      exact ⟨f j,by rw [hget,if_neg (by omega),Nat.add_assoc];exact r1,r2 v hj⟩
     ·rw [List.getElem?_append_right (by omega)] at hj
      have hi':=(List.getElem?_eq_some_iff.1 hj).1
      have hq:j-((k.cs.drop xa.off).take (n*sz)).length<news.length:=by omega
      refine ⟨news[j-((k.cs.drop xa.off).take (n*sz)).length],?_,fun _=>hnr _ v _ hj (List.getElem?_eq_getElem hq)⟩
      rw [hget,if_pos ⟨by omega,by omega⟩,← List.getElem?_eq_getElem hq]
      congr 1
      omega)
    subst hp
    rw [← hkt]
    refine ⟨_,_,φ',hR _ n cap _ hroom (by rw [addr_add];exact hst),e1,e2,?_⟩
    have:=VR.slice (P:=E.P) (base:=E.base) (φ:=φ') (n:=(h.set xa.block none++[some (⟨(k.cs.drop xa.off).take (n*sz)++new,k.ty⟩:Blk)]).length) (w:=w.setRow (φ xa.block).1 nc) h.length 0 (n+m) (n+m) cap (by simp) hroom (fun _=>⟨k.ty,cur.size,by
     rw [e3]
     simp only [World.shape?,setRow_heap w _ cur nc k.ty (0,0) g1,hncs],by
     rw [e3,hkt,hco,hsz]
     simpa using q2⟩)
    rw [e3] at this
    simpa using this
  ·refine fresh ((List.range (n*sz)).map f) _ hoc (by simp) (fun i p q hp hq=>?_) ?_ (by omega) (h.set xa.block none) ⟨_,.inr rfl⟩ hp
   ·have hi:i<n*sz:=by have:=(List.getElem?_eq_some_iff.1 hp).1;omega
    simp [hi] at hq
    rw [← hq]
    exact (hf i hi).2 p hp
   ·rcases hor with ⟨hn0,_,_⟩|⟨xb,hxb,hsp,hlt,ha',hrm⟩
    ·subst hn0
     cases a'<;>simp [Builtin.firstCells,loadCells,loadCellsFrom]
    ·injection hxb with hxb
     subst hxb
     subst ha'
     exact run_firstCells_some (P:=E.P) w.drew sz n _ _ _ _ (by simp) (fun i v hi=>by
      have hlt':i<n*sz:=by have:=(List.getElem?_eq_some_iff.1 hi).1;simpa using this
      simp [hlt'] at hi
      subst hi
      rw [addr_add]
      have:=(hf i hlt').1
      rw [← Nat.add_assoc] at this
      have hg1:w.drew.heap[(φ xa.block).1]? = some (.cells cur k.ty (0,0)):=g1
      simp [World.cell?,hg1,this])
end
end Go.Proofs.Ytkdenmdijdmnjaa.Am
set_option linter.unusedSimpArgs false
set_option linter.unusedVariables false
namespace Go.Proofs.Ytkdenmdijdmnjaa.Am
open Go Go.RowKit
def RecOk (E:Env) (w0:World) (rec:Rec):Prop:=
 ∀ f args h v h',rec f args h=some (v,h')→∀ φ w (args':List Value),HR E.P E.base w0 φ h w→args.length=args'.length →
  (∀ (i:Nat) (x y:Value),args[i]? = some x→args'[i]? = some y→VR E.P E.base φ h.length w x y) →
  Calls E.P f args'.toArray w fun e w'=>∃ u φ',e = .returned u∧Ext φ h w φ' h' w'∧HR E.P E.base w0 φ' h' w'∧VR E.P E.base φ' h'.length w' v u
theorem getAgg_some {n:Nat} {v:Value} {l:List Value} (h:getAgg n v=some l):v = .agg l.toArray∧l.length=n:=by
 cases v<;>simp only [getAgg] at h<;>first|(cases h;done)|skip
 rename_i cs
 cases hb:Nat.beq cs.toList.length n with
 | false=>rw [hb] at h;cases h
 | true=>rw [hb] at h;injection h with h;subst h;exact ⟨rfl,Nat.eq_of_beq_eq_true hb⟩
theorem getTup_some {n:Nat} {v:Value} {l:List Value} (h:getTup n v=some l):v = .tuple l.toArray∧l.length=n:=by
 cases v<;>simp only [getTup] at h<;>first|(cases h;done)|skip
 rename_i cs
 cases hb:Nat.beq cs.toList.length n with
 | false=>rw [hb] at h;cases h
 | true=>rw [hb] at h;injection h with h;subst h;exact ⟨rfl,Nat.eq_of_beq_eq_true hb⟩
theorem viewV_some {R:Type} {sh:Bool×List K} {v:Option Value} {c:Value→Option R} {r:R} (h:viewV sh v c=some r) :
  ∃ x y,v=some x∧c y=some r∧∀ P base φ n w u,VR P base φ n w x u→VR P base φ n w y u:=by
 obtain ⟨b,ks⟩:=sh
 cases b with
 | false=>
  match ks,h with
  | [k],h=>
   obtain ⟨x,y,h1,h2,h3⟩:=viewO_some h
   exact ⟨x,y,h1,h2,fun P base φ n w u hr=>h3 P base φ n w u fun _=>hr⟩
  | [],h=>simp [viewV] at h
  | _ :: _ :: _,h=>simp [viewV] at h
 | true=>
  simp only [viewV] at h
  cases v with
  | none=>cases h
  | some x=>
   simp only [Option.bind_some] at h
   cases hl:getAgg ks.length x with
   | none=>rw [hl] at h;cases h
   | some l=>
    rw [hl] at h
    simp only [Option.bind_some] at h
    obtain ⟨rfl,hlen⟩:=getAgg_some hl
    obtain ⟨vs,h1,h2,h3⟩:=viewMany_some h
    refine ⟨_,_,rfl,h2,fun P base φ n w u hr=>?_⟩
    obtain ⟨ys,rfl,hs,hr'⟩:=hr.agg_inv
    refine .agg _ _ (by simp at hs ⊢;omega) fun i y z hy hz=>?_
    obtain ⟨x',hx',hr2⟩:=h3 i y (by simpa using hy)
    rw [Nat.zero_add] at hx'
    exact hr2 _ _ _ _ _ _ fun _=>hr' i x' z (by simpa using hx') hz
theorem viewTup_some {R:Type} {l:List Value}:∀ {shs:List (Bool×List K)} {o:Nat} {c:List Value→Option R} {r:R},viewTup l o shs c=some r →
  ∃ vs,vs.length=shs.length∧c vs=some r∧∀ (i:Nat) (y:Value),vs[i]? = some y→∃ x,l[o+i]? = some x∧∀ P base φ n w u,VR P base φ n w x u→VR P base φ n w y u
 | [],o,c,r,h=>⟨[],rfl,h,fun i y hy=>by simp at hy⟩
 | k :: ks,o,c,r,h=>by
  simp only [viewTup] at h
  obtain ⟨x,y,hx,hc,hr⟩:=viewV_some h
  obtain ⟨vs,hl,hc2,hv⟩:=viewTup_some hc
  refine ⟨y :: vs,by simp [hl],hc2,fun i z hz=>?_⟩
  cases i with
  | zero=>simp at hz;subst hz;exact ⟨x,hx,hr⟩
  | succ i=>
   simp only [List.getElem?_cons_succ] at hz
   obtain ⟨x',hx',hr'⟩:=hv i z hz
   exact ⟨x',by rw [← hx'];congr 1;omega,hr'⟩
theorem viewRes_some {R:Type} {rs:List (Bool×List K)} {v:Value} {c:Value→Option R} {r:R} (h:viewRes rs v c=some r) :
  ∃ y,c y=some r∧∀ P base φ n w u,VR P base φ n w v u→VR P base φ n w y u:=by
 rcases rs with _|⟨sh,_|⟨sh2,rr⟩⟩
 ·simp only [viewRes] at h
  cases hl:getTup 0 v with
  | none=>rw [hl] at h;cases h
  | some l=>
   rw [hl] at h
   obtain ⟨rfl,hlen⟩:=getTup_some hl
   have:l = []:=List.eq_nil_of_length_eq_zero hlen
   subst this
   exact ⟨undef,h,fun P base φ n w u hr=>hr⟩
 ·obtain ⟨x,y,hx,hc,hr⟩:=viewV_some (show viewV sh (some v) c=some r from h)
  injection hx with hx
  subst hx
  exact ⟨y,hc,hr⟩
 ·simp only [viewRes] at h
  cases hl:getTup (sh :: sh2 :: rr).length v with
  | none=>rw [hl] at h;cases h
  | some l=>
   rw [hl] at h
   simp only [Option.bind_some] at h
   obtain ⟨rfl,hlen⟩:=getTup_some hl
   obtain ⟨vs,h1,h2,h3⟩:=viewTup_some h
   refine ⟨_,h2,fun P base φ n w u hr=>?_⟩
   obtain ⟨ys,rfl,hs,hr'⟩:=hr.tup_inv
   refine .tup _ _ (by simp at hs ⊢;omega) fun i y z hy hz=>?_
   obtain ⟨x',hx',hr2⟩:=h3 i y (by simpa using hy)
   rw [Nat.zero_add] at hx'
   exact hr2 _ _ _ _ _ _ (hr' i x' z (by simpa using hx') hz)
section
variable {R:Type} {E:Env} {w0 w:World} {φ:Nat→Nat×Nat} {h:AH} {s:Slots} {a:Act} {next:Act→World→Prop} {Q:Exit→Act→World→Prop} {r:R} {c:Value→AH→Option R}
 {rec:Rec} {dst:Option Tmp} {ty:TypeId} {pos:String} {after:Array Edge} {guard:Option (Nat×Bool)}
theorem VR.recap {P:Program} {base n:Nat} {ad:Option Addr} {m c0 c1:Nat} {u:Value} (hv:VR P base φ n w (.slice ad m c0) u):VR P base φ n w (.slice ad m c1) u:=by
 cases hv with
 | empty a c a' ha=>exact .empty _ _ _ ha
 | slice b o _ _ c' hb hm hr=>exact .slice b o _ _ c' hb hm hr
theorem raw_some {ad:Option Addr} {n:Nat} {new:List Value} (hn:0<n) (hx:rawAt h ad n=some new):∃ x k,ad=some x∧hget h x.block=some k∧x.off+n≤k.cs.length∧new=(k.cs.drop x.off).take n∧new.all leaf=true:=by
 unfold rawAt at hx
 rw [if_neg (by omega)] at hx
 cases ad with
 | none=>cases hx
 | some x=>
  simp only [Option.bind_some] at hx
  cases hk:hget h x.block with
  | none=>rw [hk] at hx;cases hx
  | some k=>
   rw [hk] at hx
   simp only [Option.bind_some] at hx
   split at hx
   ·rename_i hc
    injection hx with hx
    exact ⟨x,k,rfl,hk,hc.1,hx.symm,by rw [← hx];exact hc.2⟩
   ·cases hx
theorem op_append (hE:EnvOk E) (xs:Array Operand) (ts:Array TypeId) (vs:List Value) (hev:evs s xs.toList=some vs) (hx:exAppend E ts.toList vs h c=some r) (hs:SR E.P E.base φ h.length w s a) (hh:HR E.P E.base w0 φ h w) (hn:Cont E w0 φ h w dst a next c r) :
  (⟨dst,.call { callee:=.builtin .append,args:=xs,argTypes:=ts },ty,pos,after,guard⟩:Oper).wp E.P a w next Q:=by
 unfold exAppend at hx
 split at hx
 ·rename_i v y t u ht
  obtain ⟨xa,ya,rfl,hv,hy⟩:=args_two hs hev
  obtain rfl:=arr_of ht
  split at hx
  ·rename_i i l hi hl
   split at hx
   ·rename_i j hj
    cases hb:(isSl i&&Nat.blt 0 j.ks.length) with
    | false=>rw [hb] at hx;cases hx
    | true=>
     rw [hb] at hx
     simp only [cond_true] at hx
     simp only [Bool.and_eq_true,Nat.blt_eq] at hb
     obtain ⟨hb0,hb1⟩:=hb
     have F:=hE.ti i.elem j hj
     have hu:=(hE.ti t i hi).slice hb0
     obtain ⟨inf,z,hinf,hisz,hby,hz,hzc,hzl,hzf⟩:=F.inf
     have hzs:z.cells.size=inf.size:=by rw [hisz,← hzl,← hzc];simp
     have hzs':z.cells.size=j.ks.length:=by rw [hzs,hisz]
     have fin:∀ (p:Value×AH),(viewO .slice (some p.1) fun v=>c v p.2)=some r→(∃ v' w' φ',(Builtin.append_ #[t,u] ty #[a.eval xa,a.eval ya]).run E.P w = .ok v' w'∧Ext φ h w φ' p.2 w'∧HR E.P E.base w0 φ' p.2 w'∧VR E.P E.base φ' p.2.length w' p.1 v') →
       (⟨dst,.call { callee:=.builtin .append,args:=#[xa,ya],argTypes:=#[t,u] },ty,pos,after,guard⟩:Oper).wp E.P a w next Q:=by
      intro p hc hex
      obtain ⟨v',w',φ',hrun,e1,e2,e3⟩:=hex
      unfold Oper.wp
      have:(execOp a.eval (⟨dst,.call { callee:=.builtin .append,args:=#[xa,ya],argTypes:=#[t,u] },ty,pos,after,guard⟩:Oper)).run E.P w = .ok (.value v') w':=by
       simp [execOp,resolve,invoke,builtin,hrun]
      rw [this]
      obtain ⟨x1,y1,hx1,hc1,hr1⟩:=viewO_some hc
      injection hx1 with hx1
      subst hx1
      exact hn _ _ φ' _ _ hc1 e1 e2 (hr1 _ _ _ _ _ _ fun _=>e3)
     have emptyCase:∀ (ad:Option Addr) (n c0:Nat),VR E.P E.base φ h.length w (.slice ad n c0) (a.eval xa)→(viewO .slice (some (.slice ad n n)) fun v=>c v h)=some r→(∀ ba cap,n≤cap→(Builtin.append_ #[t,u] ty #[.slice ba n cap,a.eval ya]).run E.P w = .ok (.slice ba n cap) w) →
       (⟨dst,.call { callee:=.builtin .append,args:=#[xa,ya],argTypes:=#[t,u] },ty,pos,after,guard⟩:Oper).wp E.P a w next Q:=by
      intro ad n c0 hv hc hrun
      obtain ⟨a',cap,e,hm,_⟩:=hv.slice_inv
      refine fin (.slice ad n n,h) hc ⟨a.eval xa,w,φ,?_,Ext.refl ..,hh,hv.recap⟩
      rw [e]
      exact hrun a' cap hm
     split at hx
     ·rename_i ad n c0
      split at hx
      ·rename_i a2 m c2
       cases htu:Nat.beq t u with
       | false=>rw [htu] at hx;cases hx
       | true=>
        rw [htu] at hx
        simp only [cond_true] at hx
        have:=Nat.eq_of_beq_eq_true htu
        subst this
        obtain ⟨ya',ycap,ey,hym,hyor⟩:=hy.slice_inv
        unfold app at hx
        split at hx
        ·rename_i hm0
         subst hm0
         refine emptyCase ad n c0 hv (by simpa using hx) fun ba cap hc=>?_
         rw [ey]
         have hst:∀ b,(storeCells b []).run E.P w = .ok () w:=fun b=>rfl
         cases ba<;>cases ya'<;>simp [Builtin.append_,run_underlying hu,sizeOf,typeInfo,hinf,Builtin.lenOf,Builtin.firstCells,loadCells,loadCellsFrom,hc,hst]
        ·rename_i hm0
         cases hraw:rawAt h a2 (m*j.ks.length) with
         | none=>rw [hraw] at hx;cases hx
         | some new=>
          rw [hraw] at hx
          simp only [Option.bind_some] at hx
          cases hg:grow E.base h i.elem j.ks.length j.bytes ad n new m with
          | none=>rw [hg] at hx;cases hx
          | some p=>
           rw [hg] at hx
           simp only [Option.bind_some] at hx
           have hmp:0<m:=by omega
           obtain ⟨x2,k2,rfl,hk2,ho2,hnew,hleaf⟩:=raw_some (Nat.mul_pos hmp hb1) hraw
           rcases hyor with ⟨h0,_⟩|⟨x3,hx3,hsp,hlt,hya,_⟩
           ·omega
           ·injection hx3 with hx3
            subst hx3
            subst hya
            have hnl:new.length=m*j.ks.length:=by rw [hnew];simp;omega
            have hcell:∀ q,q<m*j.ks.length→∃ uu,w.cell? ((⟨(φ x2.block).1,(φ x2.block).2+x2.off,none⟩:Addr).add q)=some uu∧∀ vv,new[q]? = some vv→VR E.P E.base φ h.length w vv uu:=by
             intro q hq
             have hq':x2.off+q<k2.cs.length:=by omega
             obtain ⟨uu,hu1,hu2⟩:=hh.cell (b:=x2.block) (o:=x2.off+q) (v:=k2.cs[x2.off+q]) (by simp [Am.cell,hk2,List.getElem?_eq_getElem hq'])
             refine ⟨uu,by rw [addr_add,Nat.add_assoc];exact hu1,fun vv hvv=>?_⟩
             have hvv0:=hvv
             rw [hnew,List.getElem?_take_of_lt hq,List.getElem?_drop,List.getElem?_eq_getElem hq'] at hvv
             injection hvv with hvv
             have hlf:leaf vv=true:=List.all_eq_true.1 hleaf vv (List.mem_of_getElem? hvv0)
             have hne:vv≠.nilIface:=fun e=>by rw [e] at hlf;cases hlf
             rw [← hvv] at hne ⊢;exact hu2 hne
            let f:Nat→Value:=fun q=>if hq:q<m*j.ks.length then (hcell q hq).choose else undef
            have hf:∀ q,q<m*j.ks.length→w.cell? ((⟨(φ x2.block).1,(φ x2.block).2+x2.off,none⟩:Addr).add q)=some (f q)∧∀ vv,new[q]? = some vv→VR E.P E.base φ h.length w vv (f q):=by
             intro q hq
             simp only [f,hq,dite_true]
             exact (hcell q hq).choose_spec
            have hnews:∀ q v,((List.range (m*j.ks.length)).map f)[q]? = some v→w.cell? ((⟨(φ x2.block).1,(φ x2.block).2+x2.off,none⟩:Addr).add q)=some v:=by
             intro q v hv
             have hq:q<m*j.ks.length:=by have:=(List.getElem?_eq_some_iff.1 hv).1;simpa using this
             simp [hq] at hv
             rw [← hv];exact (hf q hq).1
            have hpl:=app_plain (w:=w) (ty:=ty) hu (.inl hu) hinf hz (x:=.slice (some ⟨(φ x2.block).1,(φ x2.block).2+x2.off,none⟩) m ycap) (m:=m) (news:=(List.range (m*j.ks.length)).map f) rfl
             (by rw [hisz];exact run_firstCells_some (P:=E.P) w j.ks.length m _ m ycap _ (by simp) hnews)
             (by rw [hisz];exact run_firstCells_some (P:=E.P) w.drew j.ks.length m _ m ycap _ (by simp) (fun q v hq=>by have:=hnews q v hq;simpa using this))
            rw [hisz,hby] at hpl
            refine fin p hx ?_
            rw [ey]
            refine app_sound hE hh hj rfl hzs' hb1 hmp hnl (by simp) (fun q pp qq hp hq=>?_) (fun v hv=>?_) hpl.1 hpl.2 hv hg
            ·have hlt':q<m*j.ks.length:=by have:=(List.getElem?_eq_some_iff.1 hp).1;omega
             simp [hlt'] at hq
             rw [← hq];exact (hf q hlt').2 pp hp
            ·obtain ⟨q,hq,rfl⟩:=List.mem_iff_getElem.1 hv
             have hlt':q<m*j.ks.length:=by simpa using hq
             simp only [List.getElem_map,List.getElem_range]
             have hq2:q<new.length:=by omega
             exact ((hf q hlt').2 new[q] (List.getElem?_eq_getElem hq2)).oneCell (List.all_eq_true.1 hleaf _ (List.getElem_mem hq2))
      ·rename_i str
       cases hb2:(isK .str l&&isK (.int .u8) j) with
       | false=>rw [hb2] at hx;cases hx
       | true=>
        rw [hb2] at hx
        simp only [cond_true] at hx
        simp only [Bool.and_eq_true] at hb2
        have hul:=(hE.ti u l hl).str hb2.1
        obtain ⟨_,hks⟩:=isK_spec hb2.2
        have hk1:j.ks.length=1:=by rw [hks];rfl
        have ey:=hy.str_inv
        unfold app at hx
        split at hx
        ·rename_i hm0
         refine emptyCase ad n c0 hv (by simpa using hx) fun ba cap hc=>?_
         rw [ey]
         have hst:∀ b,(storeCells b []).run E.P w = .ok () w:=fun b=>rfl
         have hex:str.extract 0 0=ByteArray.empty:=by
          apply ByteArray.ext
          simp
         cases ba<;>simp [Builtin.append_,run_underlying hu,run_underlying hul,sizeOf,typeInfo,hinf,Builtin.lenOf,Builtin.firstCells,hm0,hc,hst,hex]
        ·rename_i hm0
         simp only [Option.bind_some] at hx
         cases hg:grow E.base h i.elem 1 j.bytes ad n (bytesV str) str.size with
         | none=>rw [hg] at hx;cases hx
         | some p=>
          rw [hg] at hx
          simp only [Option.bind_some] at hx
          have hbl:(bytesV str).length=str.size:=by simp [bytesV]
          have hfc:∀ w',(Builtin.firstCells 1 str.size (.string str)).run E.P w' = .ok (bytesV str).toArray w':=by
           intro w'
           have hx2:str.extract 0 str.size=str:=by
            apply ByteArray.ext
            simp
           simp only [Builtin.firstCells,hx2,Sem.run_pure]
           congr 1
           apply Array.ext'
           simp [bytesV]
          have hisz1:inf.size=1:=by rw [hisz,hk1]
          have hpl:=app_plain (w:=w) (ty:=ty) hu (.inr hul) hinf hz (x:=.string str) (m:=str.size) (news:=bytesV str) rfl (by rw [hisz1];exact hfc w) (by rw [hisz1];exact hfc w.drew)
          rw [hisz1,hby] at hpl
          refine fin p hx ?_
          rw [ey]
          refine app_sound hE hh hj hk1 (by rw [hzs',hk1]) (by omega) (by omega) (by omega) (by omega) (fun q pp qq hp hq=>?_) (fun v hv=>?_) hpl.1 hpl.2 hv hg
          ·rw [hp] at hq
           injection hq with hq
           subst hq
           simp only [bytesV,List.getElem?_map] at hp
           cases hd:str.data.toList[q]? with
           | none=>rw [hd] at hp;cases hp
           | some d=>rw [hd] at hp;injection hp with hp;rw [← hp];exact .int _ _
          ·simp only [bytesV,List.mem_map] at hv
           obtain ⟨d,_,rfl⟩:=hv
           rfl
      ·rename_i m
       cases hb2:isK (.int .i64) l with
       | false=>rw [hb2] at hx;cases hx
       | true=>
        rw [hb2] at hx
        simp only [cond_true] at hx
        have hul:=(hE.ti u l hl).int hb2
        have ey:=hy.int_inv
        split at hx
        ·rename_i hmr
         unfold app at hx
         split at hx
         ·rename_i hm00
          have hm0:m=0:=by omega
          subst hm0
          refine emptyCase ad n c0 hv (by simpa using hx) fun ba cap hc=>?_
          rw [ey]
          have hst:∀ b,(storeCells b []).run E.P w = .ok () w:=fun b=>rfl
          have hw:IntKind.i64.wrap 0=0:=IntWalk.i64_in 0 (by omega)
          cases ba<;>simp [Builtin.append_,run_underlying hu,run_underlying hul,sizeOf,typeInfo,hinf,hc,hst,asInt,asIntOf,hw]
         ·rename_i hm0
          simp only [Option.bind_some] at hx
          cases hg:grow E.base h i.elem j.ks.length j.bytes ad n (rep j.zero m.toNat) m.toNat with
          | none=>rw [hg] at hx;cases hx
          | some p=>
           rw [hg] at hx
           simp only [Option.bind_some] at hx
           have hgb:=(grow_some hg).1
           have hmb:m.toNat*inf.bytes≤140737488355328:=by
            rw [hby]
            have:m.toNat*j.bytes≤(n+m.toNat)*j.bytes:=Nat.mul_le_mul_right _ (by omega)
            omega
           have hpl:=app_zeros (w:=w) (ty:=ty) hu hul hinf hz (m:=m) (by omega) hmr.2 hmb (by rw [hisz];exact hb1)
           rw [hisz,hby] at hpl
           refine fin p hx ?_
           rw [ey]
           have hzget:∀ (q:Nat) (v:Value),(Builtin.zeroCells z.cells m.toNat).toList[q]? = some v→q<m.toNat*j.ks.length∧z.cells[q % z.cells.size]? = some v:=by
            intro q v hq
            have hlt':q<m.toNat*z.cells.size:=by
             have:=(List.getElem?_eq_some_iff.1 hq).1
             simpa [Builtin.zeroCells] using this
            refine ⟨by rw [← hzs'];exact hlt',?_⟩
            have:=zerosArr z.cells (m.toNat*z.cells.size) q (by omega) hlt'
            rw [← this]
            rw [Array.getElem?_toList] at hq
            exact hq
           refine app_sound hE hh hj rfl hzs' hb1 (by omega) (by rw [rep_length,hzl]) (by simp [Builtin.zeroCells,hzs']) (fun q pp qq hp hq=>?_) (fun v hv=>?_) hpl.1 hpl.2 hv hg
           ·obtain ⟨h1,h2⟩:=hzget q qq hq
            rw [rep_get _ _ _ (by rw [hzl];exact h1),hzl,← hzc] at hp
            rw [hzs'] at h2
            have:pp=qq:=by
             have:=hp.symm.trans (by simpa using h2)
             injection this
            subst this
            exact VR.flat (List.all_eq_true.1 hzf _ (by rw [← hzc];exact List.mem_of_getElem? hp))
           ·obtain ⟨q,hq⟩:=List.mem_iff_getElem?.1 hv
            obtain ⟨h1,h2⟩:=hzget q v hq
            have hfl:=List.all_eq_true.1 hzf v (by rw [← hzc];exact List.mem_of_getElem? (by simpa using h2))
            cases v<;>first|rfl|(simp [flatZ] at hfl)
        ·cases hx
      ·cases hx
     ·cases hx
   ·cases hx
  ·cases hx
 ·cases hx
theorem u8s_spec:∀ {new:List Value} {ns:List Int},u8s new=some ns→new=ns.map (Value.int .u8)
 | [],ns,h=>by simp only [u8s] at h;injection h with h;subst h;rfl
 | .int .u8 n :: r,ns,h=>by
  simp only [u8s] at h
  cases hr:u8s r with
  | none=>rw [hr] at h;cases h
  | some m=>
   rw [hr] at h
   injection h with h
   subst h
   simp [u8s_spec hr]
theorem op_convert (hE:EnvOk E) (src t:TypeId) (x:Operand) (hx:exOp E rec (.convert src t x) s h c=some r) (hs:SR E.P E.base φ h.length w s a) (hh:HR E.P E.base w0 φ h w) (hn:Cont E w0 φ h w dst a next c r) :
  (⟨dst,.convert src t x,ty,pos,after,guard⟩:Oper).wp E.P a w next Q:=by
 simp only [exOp] at hx
 split at hx
 ·rename_i k0 n i0 i h1 h0 h2
  have e:=(ev_rel hs h1).int_inv
  cases hag:i.agg with
  | true=>rw [hag] at hx;cases hx
  | false=>
   rw [hag] at hx
   simp only [cond_false] at hx
   split at hx
   ·rename_i k hk
    have hu:=((hE.ti t i h2).of_ks hag hk).1 k rfl
    obtain ⟨d,hd,_⟩:=(hE.ti src i0 h0).und
    exact done_pure (o:=⟨dst,.convert src t x,ty,pos,after,guard⟩) hn hh hx (.int _ _) (by
     simp [execOp,e,convert,TFact.under hu,TFact.under hd,Conv.intToInt])
   ·cases hx
 ·rename_i ad n c0 i0 i h1 h0 h2
  cases hb:(Nat.beq t 9&&isK .str i&&isSl i0) with
  | false=>rw [hb] at hx;cases hx
  | true=>
   rw [hb] at hx
   simp only [cond_true] at hx
   simp only [Bool.and_eq_true] at hb
   obtain ⟨⟨_,hb1⟩,hb2⟩:=hb
   split at hx
   ·rename_i j hj
    cases hb3:isK (.int .u8) j with
    | false=>rw [hb3] at hx;cases hx
    | true=>
     rw [hb3] at hx
     simp only [cond_true] at hx
     cases hraw:rawAt h ad n with
     | none=>rw [hraw] at hx;cases hx
     | some new=>
      rw [hraw] at hx
      simp only [Option.bind_some] at hx
      cases hns:u8s new with
      | none=>rw [hns] at hx;cases hx
      | some ns=>
       rw [hns] at hx
       simp only [Option.bind_some] at hx
       have hd:=(hE.ti t i h2).str hb1
       have hsr:=(hE.ti src i0 h0).slice hb2
       have he:=(hE.ti i0.elem j hj).int hb3
       obtain ⟨a',c',e,hm,hor⟩:=(ev_rel hs h1).slice_inv
       have hnew:=u8s_spec hns
       have key:(Conv.bytesToString (.slice a' n c')).run E.P w = .ok (.string (bstr ns)) w:=by
        by_cases hn0:n=0
        ·subst hn0
         simp only [rawAt,if_true] at hraw
         injection hraw with hraw
         subst hraw
         simp only [u8s] at hns
         injection hns with hns
         subst hns
         cases a' with
         | none=>simp [Conv.bytesToString,bstr,Sem.run_pure]
         | some x=>exact run_bytesToString w x 0 c' [] (by simp [loadCells,loadCellsFrom])
        ·obtain ⟨x,k,rfl,hk,ho,hnw,hleaf⟩:=raw_some (by omega) hraw
         rcases hor with ⟨h0',_⟩|⟨x3,hx3,hsp,hlt,hya,_⟩
         ·exact absurd h0' hn0
         ·injection hx3 with hx3
          subst hx3
          subst hya
          have hlen:new.length=n:=by rw [hnw];simp;omega
          refine run_bytesToString w _ n c' ns ?_
          have hll:(ns.map (Value.int .u8)).length=n:=by rw [← hnew];exact hlen
          have:=run_loadCells_list (P:=E.P) w (⟨(φ x.block).1,(φ x.block).2+x.off,none⟩:Addr) (ns.map (Value.int .u8)) (fun q v hq=>by
           have hql:q<n:=by have:=(List.getElem?_eq_some_iff.1 hq).1;omega
           rw [← hnew,hnw,List.getElem?_take_of_lt hql,List.getElem?_drop] at hq
           obtain ⟨uu,hu1,hu2⟩:=hh.cell (b:=x.block) (o:=x.off+q) (v:=v) (by simp [Am.cell,hk,hq])
           have hvv:∃ z,v = .int .u8 z:=by
            have hq2:(ns.map (Value.int .u8))[q]? = some v:=by rw [← hnew,hnw,List.getElem?_take_of_lt hql,List.getElem?_drop];exact hq
            simp only [List.getElem?_map,Option.map_eq_some_iff] at hq2
            obtain ⟨z,_,rfl⟩:=hq2
            exact ⟨z,rfl⟩
           obtain ⟨z,rfl⟩:=hvv
           have:=(hu2 (by simp)).int_inv
           subst this
           rw [addr_add,Nat.add_assoc]
           exact hu1)
          rw [hll] at this
          exact this
       refine done_pure (o:=⟨dst,.convert src t x,ty,pos,after,guard⟩) hn hh hx (.str _) ?_
       simp only [execOp,e]
       have cv:=run_convert_bytes_string (P:=E.P) w src t i0.elem a' n c' hsr he hd
       simp [cv,key]
   ·cases hx
 ·cases hx
end
end Go.Proofs.Ytkdenmdijdmnjaa.Am
set_option linter.unusedSimpArgs false
set_option linter.unusedVariables false
namespace Go.Proofs.Ytkdenmdijdmnjaa.Am
open Go Go.RowKit
section
variable {R:Type} {E:Env} {w0 w:World} {φ:Nat→Nat×Nat} {h:AH} {s:Slots} {a:Act} {next:Act→World→Prop} {Q:Exit→Act→World→Prop} {r:R} {c:Value→AH→Option R}
 {rec:Rec} {dst:Option Tmp} {ty:TypeId} {pos:String} {after:Array Edge} {guard:Option (Nat×Bool)}
theorem TFact.map {P:Program} {t:Nat} {i:TI} (F:TFact P t i) (h:isK .map i=true):P.underlying t=some (.map i.elem i.elem):=by
 obtain ⟨ha,hk⟩:=isK_spec h
 obtain ⟨d,hd,hu⟩:=F.und
 cases d<;>simp only [UFact] at hu<;>first|(exact hu.elim)|skip
 all_goals first
  | (obtain ⟨_,_,_,rfl,rfl⟩:=hu;exact hd)
  | (rw [hk] at hu;simp at hu;done)
  | (rw [ha] at hu;simp at hu;done)
theorem VR.map_inv {P:Program} {base n:Nat} {b:Nat} {u:Value} (h:VR P base φ n w (.map (some b)) u):b<n∧u = .map (some (φ b).1):=by cases h;exact ⟨‹_›,rfl⟩
theorem alloc_shapeM (w:World) (o:Obj):ShapeLe w (w.alloc o):=by
 intro b x hx
 have hb:b<w.heap.size:=by
  simp only [World.shape?] at hx
  by_cases hb:b<w.heap.size
  ·exact hb
  ·rw [Array.getElem?_eq_none (Nat.le_of_not_lt hb)] at hx;cases hx
 simp only [World.shape?,Below.heap_alloc _ _ _ hb]
 exact hx
theorem HR.pushM (hh:HR E.P E.base w0 φ h w) :
  ∃ φ',Ext φ h w φ' (h++[some (mblk [])]) (w.alloc (.map #[] 0))∧HR E.P E.base w0 φ' (h++[some (mblk [])]) (w.alloc (.map #[] 0))∧φ' h.length=(w.heap.size,0):=by
 let φ':Nat→Nat×Nat:=fun i=>if i=h.length then (w.heap.size,0) else φ i
 have hold:∀ i,i<h.length→φ' i=φ i:=fun i hi=>by simp only [φ'];rw [if_neg (by omega)]
 have hnew:φ' h.length=(w.heap.size,0):=by simp [φ']
 have hhp:∀ b,b<w.heap.size→((w.alloc (.map #[] 0)).heap)[b]? = w.heap[b]?:=fun b hb=>Below.heap_alloc _ _ _ hb
 have hnb:((w.alloc (.map #[] 0)).heap)[w.heap.size]? = some (.map #[] 0):=heap_alloc_new _ _
 have hsz:(w.alloc (.map #[] 0)).heap.size=w.heap.size+1:=by simp
 have hshape:ShapeLe w (w.alloc (.map #[] 0)):=alloc_shapeM _ _
 have hbl:∀ i k,hget h i=some k→(φ i).1<w.heap.size:=fun i k hi=>hh.lt hi
 have hcase:∀ i k,hget (h++[some (mblk [])]) i=some k→(i<h.length∧hget h i=some k)∨(i=h.length∧k=mblk []):=fun i k hi=>by
  rcases Nat.lt_trichotomy i h.length with hlt|heq|hgt
  ·exact .inl ⟨hlt,by rw [hget_append_lt hlt] at hi;exact hi⟩
  ·subst heq;rw [hget_append_new] at hi;injection hi with hi;exact .inr ⟨rfl,hi.symm⟩
  ·rw [hget_append_ge hgt] at hi;cases hi
 refine ⟨φ',⟨by simp,hold,?_,fun b hb _=>hhp b hb,by rw [hsz];omega,hshape⟩,⟨?_,?_,?_,?_,?_,?_,?_⟩,hnew⟩
 ·intro i k hi hlt
  rcases hcase i k hi with ⟨h1,h2⟩|⟨h1,_⟩
  ·exact ⟨i,k,h2,by rw [hold i h1]⟩
  ·subst h1;rw [hnew] at hlt;exact absurd hlt (Nat.lt_irrefl _)
 ·exact hh.below.trans ⟨rfl,rfl,rfl,by rw [hsz];omega,fun b hb=>hhp b (Nat.lt_of_lt_of_le hb hh.bw)⟩
 ·intro i k hi hm
  rcases hcase i k hi with ⟨h1,h2⟩|⟨h1,h2⟩
  ·obtain ⟨cs',fr,g1,g2,g3⟩:=hh.blk i k h2 hm
   rw [hold i h1]
   refine ⟨cs',fr,by rw [hhp _ (hbl i k h2)];exact g1,fun j v hj=>?_,g3⟩
   obtain ⟨u,hu,hv⟩:=g2 j v hj
   exact ⟨u,hu,hv.mono hold (by simp) hshape⟩
  ·subst h2;cases hm
 ·intro i k l hi hm
  rcases hcase i k hi with ⟨h1,h2⟩|⟨h1,h2⟩
  ·obtain ⟨g0,g1,g2,es,clock,g3,g4⟩:=hh.mp i k l h2 hm
   rw [hold i h1]
   exact ⟨g0,g1,g2,es,clock,by rw [hhp _ (hbl i k h2)];exact g3,g4⟩
  ·subst h1;subst h2
   have hl:l = []:=by injection hm with hm;exact hm.symm
   subst hl
   rw [hnew]
   exact ⟨hh.len,hh.bw,rfl,#[],0,hnb,rfl⟩
 ·intro i j k l hi hj e
  rcases hcase i k hi with ⟨h1,h2⟩|⟨h1,h2⟩<;>rcases hcase j l hj with ⟨g1,g2⟩|⟨g1,g2⟩
  ·rw [hold i h1,hold j g1] at e;exact hh.inj i j k l h2 g2 e
  ·subst g1;rw [hold i h1,hnew] at e
   have:=hbl i k h2
   simp at e;omega
  ·subst h1;rw [hold j g1,hnew] at e
   have:=hbl j l g2
   simp at e;omega
  ·omega
 ·intro i hi;rw [hold i (Nat.lt_of_lt_of_le hi hh.len)];exact hh.lo i hi
 ·have:=hh.len;simp;omega
 ·rw [hsz];have:=hh.bw;omega
theorem op_makeMap (hE:EnvOk E) (t:TypeId) (x:Option Operand) (hx:exOp E rec (.makeMap t x) s h c=some r) (hs:SR E.P E.base φ h.length w s a) (hh:HR E.P E.base w0 φ h w) (hn:Cont E w0 φ h w dst a next c r) :
  (⟨dst,.makeMap t x,ty,pos,after,guard⟩:Oper).wp E.P a w next Q:=by
 cases x with
 | some x=>simp only [exOp] at hx;cases hx
 | none=>
  simp only [exOp] at hx
  split at hx
  ·rename_i i hi
   cases hb:isK .map i with
   | false=>rw [hb] at hx;cases hx
   | true=>
    rw [hb] at hx
    simp only [cond_true] at hx
    obtain ⟨φ',e1,e2,e3⟩:=hh.pushM
    unfold Oper.wp
    have hrun:(execOp a.eval (⟨dst,.makeMap t none,ty,pos,after,guard⟩:Oper)).run E.P w = .ok (.value (.map (some w.heap.size))) (w.alloc (.map #[] 0)):=by
     simp [execOp,Instr.makeMap]
    rw [hrun]
    refine hn _ _ φ' _ _ hx e1 e2 ?_
    have:=VR.map (P:=E.P) (base:=E.base) (φ:=φ') (n:=(h++[some (mblk [])]).length) (w:=w.alloc (.map #[] 0)) h.length (by simp)
    rw [e3] at this
    exact this
  ·cases hx
theorem findNow_rel {k:Int}:∀ (es:List MapEntry) (l:List (Int×Int)) (n:Nat),es.map (fun e=>(e.key,e.val))=l.map mv →
  (mfind l k=none∧Instr.findNow (.int .i64) (.int .i64 k) es n=some none∧mput l k=fun v=>l++[(k,v)]) ∨
  (∃ i v,mfind l k=some v∧Instr.findNow (.int .i64) (.int .i64 k) es n=some (some (n+i,.int .i64 v))∧i<es.length∧(es[i]?.map (·.key))=some (.int .i64 k)∧mput l k=fun v'=>l.set i (k,v'))
 | [],l,n,h=>by
  have:l = []:=by simpa using h.symm
  subst this
  exact .inl ⟨rfl,rfl,rfl⟩
 | e :: es,[],n,h=>by simp at h
 | e :: es,(a,b) :: l,n,h=>by
  simp only [List.map_cons,List.cons.injEq,mv,Prod.mk.injEq] at h
  obtain ⟨⟨h1,h2⟩,h3⟩:=h
  by_cases hk:k=a
  ·subst hk
   refine .inr ⟨0,b,by simp [mfind],?_,by simp,by simp [h1],?_⟩
   ·simp [Instr.findNow,Instr.sameNow,h1,h2]
   ·funext v';simp [mput]
  ·have hkb:(k==a)=false:=by simpa using hk
   rcases findNow_rel (k:=k) es l (n+1) h3 with ⟨q1,q2,q3⟩|⟨i,v,q1,q2,q3,q4,q5⟩
   ·refine .inl ⟨by simp [mfind,hk,q1],?_,?_⟩
    ·simp [Instr.findNow,Instr.sameNow,h1,hkb,q2]
    ·funext v';simp [mput,hk,q3]
   ·refine .inr ⟨i+1,v,by simp [mfind,hk,q1],?_,by simp;omega,by simpa using q4,?_⟩
    ·rw [show n+(i+1)=n+1+i from by omega]
     simp [Instr.findNow,Instr.sameNow,h1,hkb,q2]
    ·funext v';simp [mput,hk,q5]
theorem mget_some {h:AH} {b:Nat} {l:List (Int×Int)} (hm:mget h b=some l):∃ k,hget h b=some k∧k.m=some l:=by
 unfold mget at hm
 cases hk:hget h b with
 | none=>rw [hk] at hm;cases hm
 | some k=>rw [hk] at hm;exact ⟨k,rfl,hm⟩
theorem int_zero {t:Nat} {i:TI} (F:TFact E.P t i) (h:isK (.int .i64) i=true) (w:World):(zeroValue t).run E.P w = .ok (.int .i64 0) w:=by
 obtain ⟨f,h1,h2⟩:=F.zi h
 simp [zeroValue,typeInfo,h1,h2]
theorem op_lookup (hE:EnvOk E) (t:TypeId) (x y:Operand) (ok:Bool) (hx:exOp E rec (.lookup t x y ok) s h c=some r) (hs:SR E.P E.base φ h.length w s a) (hh:HR E.P E.base w0 φ h w) (hn:Cont E w0 φ h w dst a next c r) :
  (⟨dst,.lookup t x y ok,ty,pos,after,guard⟩:Oper).wp E.P a w next Q:=by
 cases ok with
 | false=>simp only [exOp] at hx;cases hx
 | true=>
  simp only [exOp] at hx
  split at hx
  ·rename_i b k i h1 h2 h3
   split at hx
   ·rename_i j hj
    cases hb:(isK .map i&&isK (.int .i64) j) with
    | false=>rw [hb] at hx;cases hx
    | true=>
     rw [hb] at hx
     simp only [cond_true] at hx
     simp only [Bool.and_eq_true] at hb
     cases hm:mget h b with
     | none=>rw [hm] at hx;cases hx
     | some l=>
      rw [hm] at hx
      simp only [Option.bind_some] at hx
      obtain ⟨kb,hk,hkm⟩:=mget_some hm
      obtain ⟨_,_,_,es,clock,g1,g2⟩:=hh.mp b kb l hk hkm
      obtain ⟨hlt,e1⟩:=(ev_rel hs h1).map_inv
      have e2:=(ev_rel hs h2).int_inv
      have hu:=(hE.ti t i h3).map hb.1
      have hku:=(hE.ti _ j hj).int hb.2
      have hz:=int_zero (hE.ti _ j hj) hb.2 w
      have hck:∀ em,(Instr.checkKey em 10000 i.elem (.int .i64 k)).run E.P w = .ok () w:=fun em=>by
       exact MapKept.run_checkKey (k:=.int .i64 k) hku (by simp [MapKept.IsKey]) em 9999
      rcases findNow_rel (k:=k) es.toList l 0 g2 with ⟨q1,q2,_⟩|⟨n,v,q1,q2,_,_,_⟩
      ·rw [q1] at hx
       refine done_pure (o:=⟨dst,.lookup t x y true,ty,pos,after,guard⟩) hn hh hx (.tup _ _ rfl ?_) (u:=.tuple #[.int .i64 0,.bool false]) ?_
       ·intro n p q hp hq
        match n with
        | 0=>simp at hp hq;subst hp;subst hq;exact .int _ _
        | 1=>simp at hp hq;subst hp;subst hq;exact .bool _
        | n+2=>simp at hp
       ·simp [execOp,Instr.lookup,e1,e2,run_underlying hu,MapKept.run_getObj_map g1,hck,Instr.findKey,run_underlying hku,q2,hz]
      ·rw [q1] at hx
       refine done_pure (o:=⟨dst,.lookup t x y true,ty,pos,after,guard⟩) hn hh hx (.tup _ _ rfl ?_) (u:=.tuple #[.int .i64 v,.bool true]) ?_
       ·intro n p q hp hq
        match n with
        | 0=>simp at hp hq;subst hp;subst hq;exact .int _ _
        | 1=>simp at hp hq;subst hp;subst hq;exact .bool _
        | n+2=>simp at hp
       ·simp [execOp,Instr.lookup,e1,e2,run_underlying hu,MapKept.run_getObj_map g1,hck,Instr.findKey,run_underlying hku,q2]
   ·cases hx
  ·cases hx
theorem HR.setM (hh:HR E.P E.base w0 φ h w) {b:Nat} {kb:Blk} {l:List (Int×Int)} (hk:hget h b=some kb) (hkm:kb.m=some l) (l':List (Int×Int)) (es':Array MapEntry) (clock':Nat) (he:es'.toList.map (fun e=>(e.key,e.val))=l'.map mv) :
  Ext φ h w φ (h.set b (some (mblk l'))) { w with heap:=w.heap.setIfInBounds (φ b).1 (.map es' clock') }∧HR E.P E.base w0 φ (h.set b (some (mblk l'))) { w with heap:=w.heap.setIfInBounds (φ b).1 (.map es' clock') }:=by
 obtain ⟨hb0,hb1,_,es,clock,g1,g2⟩:=hh.mp b kb l hk hkm
 have hlt:=hget_lt hk
 have hsz:(φ b).1<w.heap.size:=hh.lt hk
 have hself:({ w with heap:=w.heap.setIfInBounds (φ b).1 (.map es' clock') }:World).heap[(φ b).1]? = some (.map es' clock'):=by simp [hsz]
 have hother:∀ x,x≠(φ b).1→({ w with heap:=w.heap.setIfInBounds (φ b).1 (.map es' clock') }:World).heap[x]? = w.heap[x]?:=fun x hx=>by
  simp only
  rw [Array.getElem?_setIfInBounds_ne (Ne.symm hx)]
 have hshape:ShapeLe w { w with heap:=w.heap.setIfInBounds (φ b).1 (.map es' clock') }:=by
  intro x y hx
  by_cases e:x=(φ b).1
  ·subst e;simp only [World.shape?,g1] at hx;cases hx
  ·simp only [World.shape?,hother x e] at hx ⊢;exact hx
 have hbl:∀ i k,hget h i=some k→i≠b→(φ i).1≠(φ b).1:=fun i k hi hne e=>hne (hh.inj i b k kb hi hk e)
 have live:∀ {x y},hget (h.set b (some (mblk l'))) x=some y→∃ z,hget h x=some z:=by
  intro x y hx
  by_cases e:b=x
  ·subst e;exact ⟨kb,hk⟩
  ·rw [hget_set_ne e] at hx;exact ⟨y,hx⟩
 refine ⟨⟨by simp,fun _ _=>rfl,fun i k hi _=>?_,fun x _ hx=>hother x fun e=>hx b kb hk e.symm,by simp,hshape⟩,⟨?_,?_,?_,?_,hh.lo,by simpa using hh.len,by simpa using hh.bw⟩⟩
 ·obtain ⟨z,hz⟩:=live hi
  exact ⟨i,z,hz,rfl⟩
 ·exact hh.below.trans ⟨rfl,rfl,rfl,by simp,fun x hx=>hother x (by omega)⟩
 ·intro i k hi hm
  by_cases e:b=i
  ·subst e
   rw [hget_set_self hlt] at hi
   injection hi with hi
   subst hi
   cases hm
  ·rw [hget_set_ne e] at hi
   obtain ⟨cs,fr,q1,q2,q3⟩:=hh.blk i k hi hm
   refine ⟨cs,fr,by rw [hother _ (hbl i k hi (Ne.symm e))];exact q1,fun j v hj=>?_,q3⟩
   obtain ⟨u,hu,hv⟩:=q2 j v hj
   exact ⟨u,hu,hv.mono (fun _ _=>rfl) (by simp) hshape⟩
 ·intro i k m hi hm
  by_cases e:b=i
  ·subst e
   rw [hget_set_self hlt] at hi
   injection hi with hi
   subst hi
   have:m=l':=by injection hm with hm;exact hm.symm
   subst this
   exact ⟨hb0,hb1,rfl,es',clock',hself,he⟩
  ·rw [hget_set_ne e] at hi
   obtain ⟨q0,q1,q2,es2,cl2,q3,q4⟩:=hh.mp i k m hi hm
   exact ⟨q0,q1,q2,es2,cl2,by rw [hother _ (hbl i k hi (Ne.symm e))];exact q3,q4⟩
 ·intro i j k l2 hi hj e
  obtain ⟨z1,hz1⟩:=live hi
  obtain ⟨z2,hz2⟩:=live hj
  exact hh.inj i j z1 z2 hz1 hz2 e
theorem op_mapUpdate (hE:EnvOk E) (t:TypeId) (x y z:Operand) (hx:exOp E rec (.mapUpdate t x y z) s h c=some r) (hs:SR E.P E.base φ h.length w s a) (hh:HR E.P E.base w0 φ h w) (hn:Cont E w0 φ h w dst a next c r) :
  (⟨dst,.mapUpdate t x y z,ty,pos,after,guard⟩:Oper).wp E.P a w next Q:=by
 simp only [exOp] at hx
 split at hx
 ·rename_i b k v i h1 h2 h3 h4
  split at hx
  ·rename_i j hj
   cases hb:(isK .map i&&isK (.int .i64) j) with
   | false=>rw [hb] at hx;cases hx
   | true=>
    rw [hb] at hx
    simp only [cond_true] at hx
    simp only [Bool.and_eq_true] at hb
    cases hm:mget h b with
    | none=>rw [hm] at hx;cases hx
    | some l=>
     rw [hm] at hx
     simp only [Option.bind_some] at hx
     obtain ⟨kb,hk,hkm⟩:=mget_some hm
     obtain ⟨_,_,_,es,clock,g1,g2⟩:=hh.mp b kb l hk hkm
     obtain ⟨hlt,e1⟩:=(ev_rel hs h1).map_inv
     have e2:=(ev_rel hs h2).int_inv
     have e3:=(ev_rel hs h3).int_inv
     have hu:=(hE.ti t i h4).map hb.1
     have hku:=(hE.ti _ j hj).int hb.2
     have hck:∀ em,(Instr.checkKey em 10000 i.elem (.int .i64 k)).run E.P w = .ok () w:=fun em=>by
      exact MapKept.run_checkKey (k:=.int .i64 k) hku (by simp [MapKept.IsKey]) em 9999
     rcases findNow_rel (k:=k) es.toList l 0 g2 with ⟨q1,q2,q5⟩|⟨n,v0,q1,q2,q3,q4,q5⟩
     ·have hput:=congrFun q5 v
      obtain ⟨r1,r2⟩:=hh.setM hk hkm (mput l k v) (es.push ⟨.int .i64 k,.int .i64 v,clock⟩) (clock+1) (by rw [hput];simp [g2,mv])
      unfold Oper.wp
      have hrun:(execOp a.eval (⟨dst,.mapUpdate t x y z,ty,pos,after,guard⟩:Oper)).run E.P w = .ok .skip { w with heap:=w.heap.setIfInBounds (φ b).1 (.map (es.push ⟨.int .i64 k,.int .i64 v,clock⟩) (clock+1)) }:=by
       simp [execOp,Instr.mapUpdate,e1,e2,e3,run_underlying hu,MapKept.run_getObj_map g1,hck,Instr.findKey,run_underlying hku,q2,MapKept.run_setObj_map _ g1,Result.andThen]
      rw [hrun]
      exact hn _ _ φ _ _ hx r1 r2 undef_rel
     ·have hput:=congrFun q5 v
      have hkey:(es[n]?.map (·.key)).getD (.int .i64 k) = .int .i64 k:=by
       have:es[n]?.map (·.key)=some (.int .i64 k):=by simpa using q4
       rw [this];rfl
      obtain ⟨r1,r2⟩:=hh.setM hk hkm (mput l k v) (es.modify n fun e=>{ e with key:=.int .i64 k,val:=.int .i64 v }) clock (by
       rw [hput,List.map_set,← g2,Array.toList_modify]
       apply List.ext_getElem?
       intro j
       by_cases e:n=j
       ·subst e
        have hn:n<es.size:=by simpa using q3
        simp [mv,hn]
       ·simp [List.getElem?_modify,e])
      unfold Oper.wp
      have hrun:(execOp a.eval (⟨dst,.mapUpdate t x y z,ty,pos,after,guard⟩:Oper)).run E.P w = .ok .skip { w with heap:=w.heap.setIfInBounds (φ b).1 (.map (es.modify n fun e=>{ e with key:=.int .i64 k,val:=.int .i64 v }) clock) }:=by
       simp [execOp,Instr.mapUpdate,e1,e2,e3,run_underlying hu,MapKept.run_getObj_map g1,hck,Instr.findKey,run_underlying hku,q2,hkey,Instr.keyThatStays,Instr.sameBits,MapKept.run_setObj_map _ g1,Result.andThen]
      rw [hrun]
      exact hn _ _ φ _ _ hx r1 r2 undef_rel
  ·cases hx
 ·cases hx
end
end Go.Proofs.Ytkdenmdijdmnjaa.Am
set_option linter.unusedSimpArgs false
set_option linter.unusedVariables false
namespace Go.Proofs.Ytkdenmdijdmnjaa.Am
open Go Go.RowKit
section
variable {R:Type} {E:Env} {w0 w:World} {φ:Nat→Nat×Nat} {h:AH} {s:Slots} {a:Act} {next:Act→World→Prop} {Q:Exit→Act→World→Prop} {r:R} {c:Value→AH→Option R}
 {rec:Rec} {dst:Option Tmp} {ty:TypeId} {pos:String} {after:Array Edge} {guard:Option (Nat×Bool)}
theorem idxV_some {vs:List Value} {cc:Value→Option R} (hx:idxV vs cc=some r):∃ str n,vs = [.string str,.int .u8 n]∧cc (.int .i64 (firstIdx str n.toNat.toUInt8))=some r:=by
 unfold idxV at hx
 split at hx
 ·exact ⟨_,_,rfl,hx⟩
 ·cases hx
theorem call_args {p p' q q':Array Value} {xs:Array Operand} {vs:List Value} (hp:p.size=p'.size) (hpp:∀ (i:Nat) (x y:Value),p[i]? = some x→p'[i]? = some y→VR E.P E.base φ h.length w x y) (hqq:∀ (i:Nat) (x y:Value),q[i]? = some x→q'[i]? = some y→VR E.P E.base φ h.length w x y)
  (hl:vs.length=xs.toList.length) (hrel:∀ (i:Nat) (x y:Value),vs[i]? = some x→(xs.toList.map a.eval)[i]? = some y→VR E.P E.base φ h.length w x y) :
  ∀ (i:Nat) (x y:Value),(p.toList++vs++q.toList)[i]? = some x→(p'.toList++xs.toList.map a.eval++q'.toList)[i]? = some y→VR E.P E.base φ h.length w x y:=by
 intro i x y hx hy
 by_cases h1:i<p.size+vs.length
 ·rw [List.getElem?_append_left (by simpa using h1)] at hx
  rw [List.getElem?_append_left (by simp;rw [hl] at h1;simp at h1;omega)] at hy
  by_cases h2:i<p.size
  ·rw [List.getElem?_append_left (by simpa using h2)] at hx
   rw [List.getElem?_append_left (by simp;omega)] at hy
   exact hpp i x y (by simpa using hx) (by simpa using hy)
  ·rw [List.getElem?_append_right (by simp;omega)] at hx
   rw [List.getElem?_append_right (by simp;omega)] at hy
   refine hrel _ x y hx ?_
   simp only [Array.length_toList] at hy ⊢
   rw [hp];exact hy
 ·rw [List.getElem?_append_right (by simp;omega)] at hx
  rw [List.getElem?_append_right (by simp;rw [hl] at h1;simp at h1;omega)] at hy
  refine hqq (i-(p.size+vs.length)) x y ?_ ?_
  ·simpa using hx
  ·have:p'.size+xs.size=p.size+vs.length:=by rw [hl,hp];simp
   simp at hy
   rw [this] at hy
   exact hy
theorem op_call (hE:EnvOk E) (hrec:RecOk E w0 rec) (cc:Call) (hx:exOp E rec (.call cc) s h c=some r) (hs:SR E.P E.base φ h.length w s a) (hh:HR E.P E.base w0 φ h w) (hn:Cont E w0 φ h w dst a next c r) :
  (⟨dst,.call cc,ty,pos,after,guard⟩:Oper).wp E.P a w next Q:=by
 obtain ⟨callee,xs,ts⟩:=cc
 simp only [exOp] at hx
 split at hx
 ·rename_i vs hev
  split at hx
  ·rename_i b
   unfold exBuiltin at hx
   split at hx
   ·exact op_len hE xs ts vs hev hx hs hh hn
   ·split at hx
    ·rename_i v r'
     exact op_min xs ts _ _ hev hx hs hh hn
    ·cases hx
   ·split at hx
    ·rename_i v r'
     exact op_max xs ts _ _ hev hx hs hh hn
    ·cases hx
   ·exact op_append hE xs ts vs hev hx hs hh hn
   ·cases hx
  ·rename_i f
   split at hx
   ·rename_i g p q hf
    split at hx
    ·rename_i rs hg
     cases hr:rec g (p.toList++vs++q.toList) h with
     | none=>rw [hr] at hx;cases hx
     | some res=>
      obtain ⟨v,h'⟩:=res
      rw [hr] at hx
      simp only [Option.bind_some] at hx
      obtain ⟨y,hc,hy⟩:=viewRes_some hx
      have hfr:=ev_rel hs hf
      generalize hfe:a.eval f=fu at hfr
      cases hfr with
      | func _ _ p' _ q' hp hpp hq hqq=>
       obtain ⟨hl,hrel⟩:=evs_rel hs hev
       have hcall:=hrec g _ h v h' hr φ w (p'.toList++xs.toList.map a.eval++q'.toList) hh (by simp [hp,hq,hl]) (call_args hp hpp hqq hl hrel)
       unfold Oper.wp
       have hrun:(execOp a.eval (⟨dst,.call ⟨.value f,xs,ts⟩,ty,pos,after,guard⟩:Oper)).run E.P w = .ok (.enter g (p'.toList++xs.toList.map a.eval++q'.toList).toArray) w:=by
        have he:=hE.fn g rs hg (p'++xs.map a.eval++q') w
        have harr:(p'.toList++xs.toList.map a.eval++q'.toList).toArray=p'++xs.map a.eval++q':=by
         apply Array.ext'
         simp
        simp only [execOp,resolve,hfe,Deferred.ofValue,Sem.run_bind,Sem.run_pure,Result.andThen_ok,invoke]
        rw [he,harr]
       rw [hrun,Oper.upon_enter]
       refine hcall.mono fun e w' he=>?_
       obtain ⟨u,φ',rfl,e1,e2,e3⟩:=he
       exact hn y h' φ' u w' hc e1 e2 (hy _ _ _ _ _ _ e3)
    ·cases hb:memN g E.ix with
     | false=>rw [hb] at hx;cases hx
     | true=>
      rw [hb] at hx
      simp only [cond_true] at hx
      obtain ⟨str,n,hargs,hc⟩:=idxV_some hx
      have hfr:=ev_rel hs hf
      generalize hfe:a.eval f=fu at hfr
      cases hfr with
      | func _ _ p' _ q' hp hpp hq hqq=>
       obtain ⟨hl,hrel⟩:=evs_rel hs hev
       have hall:=call_args (xs:=xs) (p:=p) (q:=q) (vs:=vs) hp hpp hqq hl hrel
       rw [hargs] at hall
       have hlen:(p'.toList++xs.toList.map a.eval++q'.toList).length=2:=by
        have:(p.toList++vs++q.toList).length=2:=by rw [hargs];rfl
        simp [hp,hq,hl] at this ⊢
        omega
       have hreal:p'++xs.map a.eval++q'=#[.string str,.int .u8 n]:=by
        have harr:(p'.toList++xs.toList.map a.eval++q'.toList).toArray=p'++xs.map a.eval++q':=by
         apply Array.ext'
         simp
        rw [← harr]
        generalize p'.toList++xs.toList.map a.eval++q'.toList=l at hall hlen
        match l,hlen,hall with
        | [u0,u1],_,hall=>
         have h0:=(hall 0 _ u0 rfl rfl).str_inv
         have h1:=(hall 1 _ u1 rfl rfl).int_inv
         rw [h0,h1]
       refine done_pure (o:=⟨dst,.call ⟨.value f,xs,ts⟩,ty,pos,after,guard⟩) hn hh hc (.int _ _) ?_
       simp only [execOp,resolve,hfe,Deferred.ofValue,Sem.run_bind,Sem.run_pure,Result.andThen_ok,invoke]
       rw [hreal,hE.ix g hb]
   ·cases hx
  ·cases hx
 ·cases hx
theorem op_sound (hE:EnvOk E) (hrec:RecOk E w0 rec) (o:Oper) (hx:exOp E rec o.op s h c=some r) (hs:SR E.P E.base φ h.length w s a) (hh:HR E.P E.base w0 φ h w) (hn:Cont E w0 φ h w o.dst a next c r) :
  o.wp E.P a w next Q:=by
 obtain ⟨dst,op,ty,pos,after,guard⟩:=o
 cases op
 case move=>exact op_move _ hx hs hh hn
 case assign=>exact op_assign _ hx hs hh hn
 case pick=>exact op_pick _ _ _ hx hs hh hn
 case alloc=>exact op_alloc hE _ hx hs hh hn
 case box=>exact op_box hE _ _ hx hs hh hn
 case build=>exact op_build hE _ _ hx hs hh hn
 case buildSlice=>exact op_buildSlice hE _ _ _ hx hs hh hn
 case load=>exact op_load hE _ _ hx hs hh hn
 case store=>exact op_store hE _ _ _ hx hs hh hn
 case nilCheck=>exact op_nil _ hx hs hh hn
 case binOp=>exact op_bin hE _ _ _ _ _ hx hs hh hn
 case unOp=>exact op_un _ _ _ hx hs hh hn
 case convert=>exact op_convert hE _ _ _ hx hs hh hn
 case makeSlice=>exact op_makeSlice hE _ _ _ hx hs hh hn
 case slice=>exact op_slice hE _ _ _ _ _ hx hs hh hn
 case fieldAddr=>exact op_fieldAddr hE _ _ _ hx hs hh hn
 case field=>exact op_field hE _ _ _ hx hs hh hn
 case indexAddr=>exact op_indexAddr hE _ _ _ hx hs hh hn
 case index=>exact op_index hE _ _ _ hx hs hh hn
 case extract=>exact op_extract _ _ hx hs hh hn
 case makeFunc=>exact op_func _ _ _ hx hs hh hn
 case call=>exact op_call hE hrec _ hx hs hh hn
 case makeMap=>exact op_makeMap hE _ _ hx hs hh hn
 case lookup=>exact op_lookup hE _ _ _ _ hx hs hh hn
 case mapUpdate=>exact op_mapUpdate hE _ _ _ _ hx hs hh hn
 all_goals (simp only [exOp] at hx;cases hx)
theorem callU_some {fn:Fn} {as:List Value} {v:Value} {h':AH} (hx:callU E rec fn as h=some (v,h')):∃ g rs v0,fn = .func g∧E.fn g=some rs∧rec g as h=some (v0,h')∧∀ P base φ n w u,VR P base φ n w v0 u→VR P base φ n w v u:=by
 unfold callU at hx
 split at hx
 ·rename_i g
  split at hx
  ·rename_i rs hg
   cases hr:rec g as h with
   | none=>rw [hr] at hx;cases hx
   | some res=>
    obtain ⟨v0,h0⟩:=res
    rw [hr] at hx
    simp only [Option.bind_some] at hx
    obtain ⟨y,hc,hy⟩:=viewRes_some hx
    injection hc with hc
    injection hc with hc1 hc2
    subst hc1;subst hc2
    exact ⟨g,rs,v0,rfl,hg,hr,hy⟩
  ·cases hx
 ·cases hx
theorem exO_sound (hE:EnvOk E) (hrec:RecOk E w0 rec) (o:Oper) (hx:exO E rec o s h c=some r) (hs:SR E.P E.base φ h.length w s a) (hh:HR E.P E.base w0 φ h w) (hn:Cont E w0 φ h w o.dst a next c r) :
  o.wp E.P a w next Q:=by
 unfold exO at hx
 split at hx
 ·exact op_sound hE hrec o hx hs hh hn
 ·rename_i t xs0 ht
  obtain ⟨dst,op,ty,pos,after,guard⟩:=o
  simp only at hx ht hn
  have hop:∃ cc:Call,op = .call cc∧cc.callee = .value (.tmp t)∧cc.args.toList=xs0:=by
   unfold tmpCall at ht
   split at ht
   ·rename_i cc
    split at ht
    ·rename_i t' hc
     injection ht with ht
     injection ht with h1 h2
     subst h1
     exact ⟨cc,rfl,hc,h2⟩
    ·cases ht
   ·cases ht
  obtain ⟨⟨callee,xs,ts⟩,rfl,hcal,rfl⟩:=hop
  simp only at hcal
  subst hcal
  split at hx
  ·rename_i fn p q vs rs hf hev hrs
   cases hr:callU E rec fn (p.toList++vs++q.toList) h with
   | none=>rw [hr] at hx;cases hx
   | some res=>
    obtain ⟨v,h'⟩:=res
    rw [hr] at hx
    simp only [Option.bind_some] at hx
    obtain ⟨y,hc,hy⟩:=viewRes_some hx
    obtain ⟨g,rs2,v0,rfl,hg,hrr,hv0⟩:=callU_some hr
    have hfr:=ev_rel hs (x:=.tmp t) hf
    generalize hfe:a.eval (.tmp t)=fu at hfr
    cases hfr with
    | func _ _ p' _ q' hp hpp hq hqq=>
     obtain ⟨hl,hrel⟩:=evs_rel hs hev
     have hcall:=hrec g _ h v0 h' hrr φ w (p'.toList++xs.toList.map a.eval++q'.toList) hh (by simp [hp,hq,hl]) (call_args hp hpp hqq hl hrel)
     unfold Oper.wp
     have hrun:(execOp a.eval (⟨dst,.call ⟨.value (.tmp t),xs,ts⟩,ty,pos,after,guard⟩:Oper)).run E.P w = .ok (.enter g (p'.toList++xs.toList.map a.eval++q'.toList).toArray) w:=by
      have he:=hE.fn g rs2 hg (p'++xs.map a.eval++q') w
      have harr:(p'.toList++xs.toList.map a.eval++q'.toList).toArray=p'++xs.map a.eval++q':=by
       apply Array.ext'
       simp
      simp only [execOp,resolve,hfe,Deferred.ofValue,Sem.run_bind,Sem.run_pure,Result.andThen_ok,invoke]
      rw [he,harr]
     rw [hrun,Oper.upon_enter]
     refine hcall.mono fun e w' he=>?_
     obtain ⟨u,φ',rfl,e1,e2,e3⟩:=he
     exact hn y h' φ' u w' hc e1 e2 (hy _ _ _ _ _ _ (hv0 _ _ _ _ _ _ e3))
  ·cases hx
end
end Go.Proofs.Ytkdenmdijdmnjaa.Am
