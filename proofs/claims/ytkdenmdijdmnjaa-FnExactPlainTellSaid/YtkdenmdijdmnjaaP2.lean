/- What the functions of this law compute, lemma by lemma, up to the law.
Conditions: none. -/
import Derived.Test.YtkdenmdijdmnjaaP1
import Derived.IntWalk
import Derived.Laws.BitsLemmas
set_option linter.unusedSimpArgs false
set_option linter.unusedVariables false
namespace Go.Proofs.Ytkdenmdijdmnjaa.Am
open Go Go.RowKit
section
def wpart (D : Ds) (R : List Rs) : Fp:=fun b=>(∃ x∈D,x.1 = b)∨∃ r∈R,r.mu = true∧r.S b
namespace Hs
variable {base : Nat} {W : Fp} {h0 h : AH} {D : Ds} {R : List Rs}
theorem tl {x : Nat × Nat × List Value} (d : Hs base W h0 h (x :: D) R) : Hs base W h0 h D R:=
 ⟨d.ge,d.kb,fun y hy=>d.own y (.tail _ hy),(List.nodup_cons.1 d.nd).2,fun r hr=>by
  obtain ⟨r1,r2,r3,r4,r5⟩:=d.res r hr
  exact ⟨r1,r2,r3,r4,fun y hy=>r5 y (.tail _ hy)⟩,d.dj⟩
theorem takeR (d : Hs base W h0 h D R) (n : Nat) : Hs base W h0 h D (R.take n):=
 ⟨d.ge,d.kb,d.own,d.nd,fun r hr=>d.res r (List.mem_of_mem_take hr),d.dj.sublist (List.take_sublist _ _)⟩
theorem front {x : Nat × Nat × List Value} {D' : Ds} (d : Hs base W h0 h D R) (u : Del D x D') : Hs base W h0 h (x :: D') R:=by
 obtain ⟨n1,n2⟩:=u.others d.nd
 refine ⟨d.ge,d.kb,fun y hy=>?_,?_,fun r hr=>?_,d.dj⟩
 ·rcases List.mem_cons.1 hy with rfl|hy
  ·exact d.own _ u.mem
  ·exact d.own y (u.of y hy)
 ·rw [List.map_cons,List.nodup_cons]
  refine ⟨fun hm=>?_,n1⟩
  obtain ⟨y,hy,e⟩:=List.mem_map.1 hm
  exact n2 y hy e
 ·obtain ⟨r1,r2,r3,r4,r5⟩:=d.res r hr
  refine ⟨r1,r2,r3,r4,fun y hy=>?_⟩
  rcases List.mem_cons.1 hy with rfl|hy
  ·exact r5 _ u.mem
  ·exact r5 y (u.of y hy)
theorem pull {l l' : List Rs} {r : Rs} (u : Del l r l') (p : l.Pairwise Rs.dj) : (r :: l').Pairwise Rs.dj:=by
 induction u with
 | here=>exact p
 | @there x z l l' u ih=>
  rw [List.pairwise_cons] at p
  have:=ih p.2
  rw [List.pairwise_cons] at this ⊢
  refine ⟨fun s hs=>?_,?_⟩
  ·rcases List.mem_cons.1 hs with rfl|hs
   ·exact (p.1 _ u.mem).symm
   ·exact this.1 s hs
  ·rw [List.pairwise_cons]
   exact ⟨fun s hs=>p.1 s (u.of s hs),this.2⟩
theorem frontR {r : Rs} {R' : List Rs} (d : Hs base W h0 h D R) (u : Del R r R') : Hs base W h0 h D (r :: R'):=by
 refine ⟨d.ge,d.kb,d.own,d.nd,fun s hs=>?_,pull u d.dj⟩
 rcases List.mem_cons.1 hs with rfl|hs
 ·exact d.res _ u.mem
 ·exact d.res s (u.of s hs)
theorem part {D1 D2 : Ds} {R1 R2 : List Rs} (d : Hs base W h0 h (D1++D2) (R1++R2)) : Hs base (wpart D1 R1) h h D1 R1:=by
 refine ⟨d.ge,KB.refl _ _,fun x hx=>⟨(d.own x (List.mem_append_left _ hx)).1,.inl (.inl ⟨x,hx,rfl⟩)⟩,?_,fun r hr=>?_,(List.pairwise_append.1 d.dj).1⟩
 ·have:=d.nd
  rw [List.map_append] at this
  exact (List.nodup_append.1 this).1
 ·obtain ⟨r1,r2,r3,r4,r5⟩:=d.res r (List.mem_append_left _ hr)
  exact ⟨r1,r2,r3,fun m b hb=>.inl (.inr ⟨r,hr,m,hb⟩),fun x hx=>r5 x (List.mem_append_left _ hx)⟩
theorem back {D1 D2 D1' : Ds} {R1 R2 R1' : List Rs} {h' : AH} (d : Hs base W h0 h (D1++D2) (R1++R2)) (d' : Hs base (wpart D1 R1) h h' D1' R1') (him : ∀ r∈R1',r.mu = false→∃ r0∈R1,r0.mu = false∧r0.S = r.S) : Hs base W h0 h' (D1'++D2) (R1'++R2):=by
 have nd:=d.nd
 rw [List.map_append] at nd
 obtain ⟨nd1,nd2,nd3⟩:=List.nodup_append.1 nd
 obtain ⟨p1,p2,p3⟩:=List.pairwise_append.1 d.dj
 have n0:=d.kb.1
 have wW : ∀ b,wpart D1 R1 b→W b∨h0.length≤b:=by
  rintro b (⟨x,hx,rfl⟩|⟨r,hr,m,hb⟩)
  ·exact (d.own x (List.mem_append_left _ hx)).2
  ·exact (d.res r (List.mem_append_left _ hr)).2.2.2.1 m b hb
 have wlt : ∀ b,wpart D1 R1 b→b < h.length:=by
  rintro b (⟨x,hx,rfl⟩|⟨r,hr,m,hb⟩)
  ·exact ((d.own x (List.mem_append_left _ hx)).1.lt (blk_at0.2 rfl)).2
  ·exact (d.res r (List.mem_append_left _ hr)).2.2.1 b hb
 have wD2 : ∀ x∈D2,¬ wpart D1 R1 x.1:=by
  rintro x hx (⟨y,hy,e⟩|⟨r,hr,m,hb⟩)
  ·exact nd3 _ (List.mem_map.2 ⟨y,hy,rfl⟩) _ (List.mem_map.2 ⟨x,hx,rfl⟩) e
  ·exact (d.res r (List.mem_append_left _ hr)).2.2.2.2 x (List.mem_append_right _ hx) hb
 have wR2 : ∀ s∈R2,∀ b,s.S b→¬ wpart D1 R1 b:=by
  rintro s hs b hb (⟨y,hy,rfl⟩|⟨r,hr,m,hb'⟩)
  ·exact (d.res s (List.mem_append_right _ hs)).2.2.2.2 y (List.mem_append_left _ hy) hb
  ·exact p3 r hr s hs (by rw [m]; rfl) b hb' hb
 have ltD2 : ∀ x∈D2,x.1 < h.length:=fun x hx=>((d.own x (List.mem_append_right _ hx)).1.lt (blk_at0.2 rfl)).2
 have ltR2 : ∀ s∈R2,∀ b,s.S b→b < h.length:=fun s hs=>(d.res s (List.mem_append_right _ hs)).2.2.1
 have nn:=d'.kb.1
 refine ⟨d'.ge,KB.trans d.kb d'.kb (fun _ _ h=>h) (fun i hi hw=>(wW i hw).resolve_right (by omega)),fun x hx=>?_,?_,fun r hr=>?_,?_⟩
 ·rcases List.mem_append.1 hx with hx|hx
  ·obtain ⟨o,hw⟩:=d'.own x hx
   exact ⟨o,hw.elim (wW _) fun h=>.inr (by omega)⟩
  ·obtain ⟨o,hw⟩:=d.own x (List.mem_append_right _ hx)
   exact ⟨o.keep d'.kb fun b hb hu=>wD2 x hx ((blk_at0.1 hb) ▸ hu),hw⟩
 ·rw [List.map_append,List.nodup_append]
  refine ⟨d'.nd,nd2,fun a ha b hb e=>?_⟩
  obtain ⟨x,hx,rfl⟩:=List.mem_map.1 ha
  obtain ⟨y,hy,rfl⟩:=List.mem_map.1 hb
  rcases (d'.own x hx).2 with hw|hw
  ·exact wD2 y hy (e ▸ hw)
  ·have:=ltD2 y hy; omega
 ·rcases List.mem_append.1 hr with hr|hr
  ·obtain ⟨r1,r2,r3,r4,r5⟩:=d'.res r hr
   refine ⟨r1,r2,r3,fun m b hb=>(r4 m b hb).elim (wW b) fun h=>.inr (by omega),fun x hx hb=>?_⟩
   rcases List.mem_append.1 hx with hx|hx
   ·exact r5 x hx hb
   ·cases hm : r.mu with
    | true=>
     rcases r4 hm _ hb with hw|hw
     ·exact wD2 x hx hw
     ·have:=ltD2 x hx; omega
    | false=>
     obtain ⟨r0,hr0,_,e⟩:=him r hr hm
     rw [← e] at hb
     exact (d.res r0 (List.mem_append_left _ hr0)).2.2.2.2 x (List.mem_append_right _ hx) hb
  ·obtain ⟨r1,r2,r3,r4,r5⟩:=d.res r (List.mem_append_right _ hr)
   refine ⟨r2 _ _ _ d'.kb (wR2 r hr) r1,r2,fun b hb=>Nat.lt_of_lt_of_le (r3 b hb) nn,r4,fun x hx hb=>?_⟩
   rcases List.mem_append.1 hx with hx|hx
   ·rcases (d'.own x hx).2 with hw|hw
    ·exact wR2 r hr _ hb hw
    ·have:=r3 _ hb; omega
   ·exact r5 x (List.mem_append_right _ hx) hb
 ·rw [List.pairwise_append]
  refine ⟨d'.dj,p2,fun r hr s hs e b h1 h2=>?_⟩
  cases hm : r.mu with
  | true=>
   rcases (d'.res r hr).2.2.2.1 hm b h1 with hw|hw
   ·exact wR2 s hs b h2 hw
   ·have:=ltR2 s hs b h2; omega
  | false=>
   obtain ⟨r0,hr0,_,e0⟩:=him r hr hm
   rw [hm,Bool.false_or] at e
   rw [← e0] at h1
   exact p3 r0 hr0 s hs (by rw [e]; simp) b h1 h2
theorem app1 {α : Type} {t w bytes i j nb : Nat} {P : Fp→AH→α→List Value→Prop} {S C : Fp} {l : List α} {a : Option Addr} {y : α} {cs : List Value} (d : Hs base W h0 h D R) (kp : Kp P) (ei : R[i]? = some ⟨S,true,fun x=>RowO base t w P S x l a⟩) (ej : R[j]? = some ⟨C,true,fun x=>P C x y cs⟩) (hij : i≠j) (m : (nb,t,cs)∈D) (hc : cs.length = w) (hw : 0 < w) (hlf : cs.all leaf = true) (h1 : (l.length + 1) * bytes≤140737488355328) (h2 : l.length + 1≤9223372036854775807) :
  ∃ a' h' S',Am.app base h t w bytes a l.length (rawAt h (at0 nb) (1 * w)) 1 = some (.slice a' (l.length + 1) (l.length + 1),h')∧Hs base W h0 h' D ((R.set j ⟨fun _=>False,true,fun _=>True⟩).set i ⟨S',true,fun x=>RowO base t w P S' x (l++[y]) a'⟩)∧(∀ b,S' b→S b∨C b∨(h.length≤b∧b < h'.length))∧h.length≤h'.length∧KB S h h':=by
 have row : RowO base t w P S h l a:=d.rs ei
 have hy : P C h y cs:=d.rs ej
 have o:=d.ol m
 obtain ⟨vs,T,x1,x2,x3,x4,x5⟩:=row
 have hrow : RowO base t w P S h l a:=⟨vs,T,x1,x2,x3,x4,x5⟩
 have hraw : rawAt h (at0 nb) (([y] : List α).length * w) = some cs:=by
  have:=o.sl.raw hlf
  rw [hc] at this
  simpa using this
 have hd : ∀ b,C b→¬ S b:=by
  have hm1:=List.mem_of_getElem? ei
  have hm2:=List.mem_of_getElem? ej
  have hij' : ∀ {l : List Rs} {i j : Nat} {r s : Rs},l.Pairwise Rs.dj→i < j→l[i]? = some r→l[j]? = some s→r.dj s:=fun {l i j r s} p hlt hr hs=>by
   obtain ⟨hi,rfl⟩:=List.getElem?_eq_some_iff.1 hr
   obtain ⟨hj,rfl⟩:=List.getElem?_eq_some_iff.1 hs
   exact List.pairwise_iff_getElem.1 p i j hi hj hlt
  rcases Nat.lt_or_gt_of_ne hij with hlt|hgt
  ·exact fun b h1 h2=>hij' d.dj hlt ei ej rfl b h2 h1
  ·exact fun b h1 h2=>hij' d.dj hgt ej ei rfl b h1 h2
 obtain ⟨a',h',e,r',k⟩:=hrow.appR kp (bytes:=bytes) (a2:=at0 nb) (l2:=[y]) hraw (by simpa using hc) (⟨fun q b=>q = 0∧C b,fun q b hb=>hb.2,fun q j b hq hb hb'=>hq (hb.1.trans hb'.1.symm),fun q z hz=>by
  cases q with
  | zero=>
   simp at hz
   subst hz
   have ee : (fun b=>(0 : Nat) = 0∧C b) = C:=by funext b; simp
   show P (fun b=>(0 : Nat) = 0∧C b) h y (chunk w 0 cs)
   rw [ee,show chunk w 0 cs = cs from by simp only [chunk,Nat.zero_mul,List.drop_zero]; exact List.take_of_length_le (by omega)]
   exact hy
  | succ q=>simp at hz⟩ : Chunks w P C h [y] cs) hw hd (d.rlt ej) (d.rlt ei) d.ge h1 h2
 refine ⟨a',h',_,e,?_,fun b hb=>hb,k.1,k.mono fun b _ hb=>(x3 b hb).1⟩
 have ei' : (R.set j ⟨fun _=>False,true,fun _=>True⟩)[i]? = some ⟨S,true,fun x=>RowO base t w P S x l a⟩:=by rw [List.getElem?_set_ne (by omega)]; exact ei
 exact d.joinO kp (Upd.at ej) (Upd.at ei') rfl rfl k r' (fun b hb=>.inl (x3 b hb).1) fun b hb=>by
  rcases hb with hb|hb|hb
  ·exact .inl hb
  ·exact .inr (.inl hb)
  ·exact .inr (.inr hb)
theorem app1O {t w bytes i nb n : Nat} {S : Fp} {a : Option Addr} {olds cs : List Value} (d : Hs base W h0 h D R) (ei : R[i]? = some ⟨S,true,fun x=>Own base t x a olds⟩) (hS : ∀ b,blk a b→S b) (m : (nb,t,cs)∈D) (hc : cs.length = w) (hw : 0 < w) (hn : olds.length = n * w) (hlf : cs.all leaf = true) (h1 : (n + 1) * bytes≤140737488355328) (h2 : n + 1≤9223372036854775807) :
  ∃ a' h',Am.app base h t w bytes a n (rawAt h (at0 nb) (1 * w)) 1 = some (.slice a' (n + 1) (n + 1),h')∧Hs base W h0 h' D (R.set i ⟨blk a',true,fun x=>Own base t x a' (olds++cs)⟩)∧(∀ b,blk a' b→b = h.length)∧KB S h h'∧h.length < h'.length:=by
 have hraw : rawAt h (at0 nb) (1 * w) = some cs:=by
  have:=(d.ol m).sl.raw hlf
  rw [hc] at this
  simpa using this
 obtain ⟨a',h',e,o,k,q⟩:=Own.app (x:=d.rs ei) (bytes:=bytes) (m:=1) hn hw hraw d.ge h1 h2 (by omega)
 have q : ∀ b,blk a' b→b = h.length:=q.resolve_left fun h=>by omega
 have hne : cs≠[]:=by intro e; subst e; simp at hc; omega
 have hlt : h.length < h'.length:=by
  have o':=o
  rcases o' with ⟨_,e⟩|⟨ad,kk,e,_⟩
  ·exact absurd (List.append_eq_nil_iff.1 e).2 hne
  ·have hb : blk a' ad.block:=⟨ad,e,rfl⟩
   have:=q _ hb
   have:=(o.lt hb).2
   omega
 have k : KB S h h':=k.mono fun b _ hb=>hS b hb
 exact ⟨a',h',e,d.upd (Upd.at ei) rfl rfl k (fun b hb=>.inl hb) o (fun U y y' ky hs x=>x.keep ky hs) (fun b hb=>.inr ⟨by have:=q b hb; omega,(o.lt hb).2⟩),q,k,hlt⟩
end Hs
section
variable {α : Type} {w : Nat} {P : Fp→AH→α→List Value→Prop}
theorem RowO.mod (kp : Kp P) {base t : Nat} {S : Fp} {h : AH} {l : List α} {a : Option Addr} (x : RowO base t w P S h l a) (hw : 0 < w) {i : Nat} (hi : i < l.length) (hS : ∀ b,S b→b < h.length) :
  ∃ C cs ad,P C h l[i] cs∧cs.length = w∧a = some ad∧(∀ j v,cs[j]? = some v→Am.cell h ad.block (ad.off + i * w + j) = some v)∧(∀ b,C b→S b)∧S ad.block∧¬ C ad.block ∧
   ∀ (U C' : Fp) (h1 : AH) (cs' new : List Value) (j : Nat) (y : α),KB U h h1→(∀ b,U b→S b→C b)→j + new.length≤w→0 < new.length→cs' = setAt cs j new→(∀ h2,KB (· = ad.block) h1 h2→P C' h2 y cs')→(∀ b,C' b→S b→C b) →
    ∃ h2,Am.wr base h1 ad.block (ad.off + i * w + j) new = some h2∧RowO base t w P (fun b=>S b∨C' b) h2 (l.set i y) a∧KB (· = ad.block) h1 h2∧h2.length = h1.length:=by
 obtain ⟨vs,T,x1,x2,x3,x4,A,a1,a2,a3⟩:=x
 have hle:=mul_le' (w:=w) hi
 have hne : vs≠[]:=by intro e; subst e; simp at x2; omega
 rcases x1 with ⟨_,e⟩|⟨ad,k,e1,e2,e3,e4,e5,e6⟩
 ·exact absurd e hne
 subst e1
 have hbS:=x3 ad.block ⟨ad,rfl,rfl⟩
 refine ⟨A i,chunk w i vs,ad,a3 i _ (List.getElem?_eq_getElem hi),chunk_len x2 hi,rfl,fun j v hj=>?_,fun b hb=>x4 b (a1 i b hb),hbS.1,fun hb=>hbS.2 (a1 i _ hb),?_⟩
 ·have hjw : j < w:=by have:=(List.getElem?_eq_some_iff.1 hj).1; rw [chunk_len x2 hi] at this; exact this
  rw [chunk,List.getElem?_take_of_lt hjw,List.getElem?_drop] at hj
  have:=e6 _ _ hj
  rw [Nat.add_assoc]
  simp [Am.cell,e3,this]
 ·intro U C' h1 cs' new j y k1 hU hj hn hcs hP hC'
  have hb1 : ¬ U ad.block:=fun hu=>hbS.2 (a1 i _ (hU _ hu hbS.1))
  have o1 : Own base t h1 (some ad) vs:=(Own.keep (.inr ⟨ad,k,rfl,e2,e3,e4,e5,e6⟩ : Own base t h (some ad) vs) k1 fun b hb hu=>by
   obtain ⟨ad',e,eb⟩:=hb
   injection e with e
   subst e
   subst eb
   exact hb1 hu)
  obtain ⟨ad',h2,e,w1,w2,w3,w4⟩:=Own.wr o1 (i:=i * w + j) (new:=new) (by omega) hn
  injection e with e
  subst e
  have k2 : KB (· = ad.block) h1 h2:=w3.mono fun b _ hb=>by obtain ⟨ad',e,eb⟩:=hb; injection e with e; subst e; exact eb.symm
  refine ⟨h2,by rw [Nat.add_assoc]; exact w1,⟨setAt vs (i * w + j) new,fun b=>T b∨C' b,w2,by simp [setAt]; omega,fun b hb=>⟨.inl (x3 b hb).1,fun hh=>?_⟩,fun b hb=>hb.elim (fun h=>.inl (x4 b h)) .inr,fun q=>if q = i then C' else A q,fun q b hb=>?_,fun q q2 b hq hb hb'=>?_,fun q z hz=>?_⟩,k2,w4⟩
  ·rcases hh with hh|hh
   ·exact (x3 b hb).2 hh
   ·exact (x3 b hb).2 (a1 i b (hC' b hh (x3 b hb).1))
  ·simp only at hb
   split at hb
   ·exact .inr hb
   ·exact .inl (a1 q b hb)
  ·simp only at hb hb'
   split at hb
   ·split at hb'
    ·omega
    ·exact a2 _ _ b (by omega) (hC' b hb (x4 b (a1 _ b hb'))) hb'
   ·split at hb'
    ·exact a2 _ _ b (by omega) hb (hC' b hb' (x4 b (a1 _ b hb)))
    ·exact a2 _ _ b hq hb hb'
  ·have hcl : (chunk w i vs).length = w:=chunk_len x2 hi
   by_cases e : q = i
   ·subst e
    rw [List.getElem?_set_self hi] at hz
    injection hz with hz
    subst hz
    have ee : (if q = q then C' else A q) = C':=if_pos rfl
    show P (if q = q then C' else A q) h2 y (chunk w q (setAt vs (q * w + j) new))
    rw [ee]
    have ec : chunk w q (setAt vs (q * w + j) new) = cs':=by
     rw [hcs]
     apply List.ext_getElem?
     intro u
     by_cases hu : u < w
     ·rw [chunk,List.getElem?_take_of_lt hu,List.getElem?_drop,setAt_get (by omega),setAt_get (by omega)]
      by_cases hin : j≤u∧u < j + new.length
      ·rw [if_pos (by omega),if_pos (by omega),show q * w + u - (q * w + j) = u - j from by omega]
      ·rw [if_neg (by omega),if_neg (by omega),chunk,List.getElem?_take_of_lt hu,List.getElem?_drop]
     ·rw [List.getElem?_eq_none (by simp [chunk]; omega),List.getElem?_eq_none (by simp [setAt]; omega)]
    rw [ec]
    exact hP h2 k2
   ·rw [List.getElem?_set_ne (by omega)] at hz
    have ee : (if q = i then C' else A q) = A q:=if_neg e
    show P (if q = i then C' else A q) h2 z (chunk w q (setAt vs (i * w + j) new))
    rw [ee]
    have ec : chunk w q (setAt vs (i * w + j) new) = chunk w q vs:=by
     apply List.ext_getElem?
     intro u
     by_cases hu : u < w
     ·rw [chunk,chunk,List.getElem?_take_of_lt hu,List.getElem?_take_of_lt hu,List.getElem?_drop,List.getElem?_drop,setAt_get (by omega),if_neg]
      intro hh
      rcases Nat.lt_or_gt_of_ne e with hlt|hgt
      ·have:=mul_le' (w:=w) hlt; omega
      ·have:=mul_le' (w:=w) hgt; omega
     ·rw [List.getElem?_eq_none (by simp [chunk]; omega),List.getElem?_eq_none (by simp [chunk]; omega)]
    rw [ec]
    refine kp _ _ _ _ _ _ k2 (fun b hb hk=>?_) (kp _ _ _ _ _ _ k1 (fun b hb hu=>?_) (a3 q z hz))
    ·subst hk; exact hbS.2 (a1 q _ hb)
    ·exact a2 _ _ b e hb (hU b hu (x4 b (a1 q b hb)))
end
end
theorem specActorOk_run {base f : Nat} {h : AH} {p : Nat→Prop} {l : List In} {c : Option Addr} {A : Ac} {cs : List Value} (hL : ∀ x∈l,x.s.size≤9223372036854775807) (hl : l.length≤9223372036854775807) (hc : Sl h c (insR l)) (hM : AcM A) (x : AcR h p f A cs) (hb : base≤h.length) :
  ∃ h',run (Et base) 92 [.slice c l.length l.length,.agg cs.toArray] h = some (.bool (acOk f l A),h')∧KB NoB h h':=by
 obtain ⟨a,b,g,rfl,hr,hx,hk,_⟩:=x
 obtain ⟨m1,m2,m3⟩:=hM
 obtain ⟨o1,k1,q1⟩:=box_own (base:=base) (t:=54) (h:=h) (cs:=acV A.pid A.pc a A.regs.length b A.box.length g A.links.length) hb rfl
 generalize hh1 : h++[some (⟨acV A.pid A.pc a A.regs.length b A.box.length g A.links.length,54⟩ : Blk)] = h1 at o1 k1 q1
 obtain ⟨h2,e2,k2⟩:=specCodeOk_run (base:=base) hL hl (hc.keepN k1) (by omega)
 have n2:=k2.1
 have o2:=o1.keepN k2
 have k02:=kN k1 k2
 obtain ⟨h3,e3,k3⟩:=l9Terms_run (base:=base) m1 (hr.keep k02 fun _ _ h=>h) (by omega)
 have n3:=k3.1
 have o3:=o2.keepN k3
 have k03:=kN k02 k3
 obtain ⟨h4,e4,k4⟩:=l9Terms_run (base:=base) m2 (hx.keep k03 fun _ _ h=>h) (by omega)
 have o4:=o3.keepN k4
 have k04:=kN k03 k4
 have e5:=l9Links_run (base:=base) (v:=A.pid) m3 (hk.keepN k04)
 have e6:=l1In_run (base:=base) (h:=h2) (x:=A.pid) (a:=1) (b:=99999)
 have e7:=l1In_run (base:=base) (h:=h2) (x:=A.pc) (a:=0) (b:=IntKind.wrap .i64 ((l.length : Int) - (1 : Int)))
 have hJ : ∃ J : Bool,(codeOk l && (inB A.pid 1 99999 && (inB A.pc 0 (IntKind.wrap .i64 ((l.length : Int) - (1 : Int))) && (((A.regs.length : Int) == (8 : Int)) && decide ((A.box.length : Int)≤(30 : Int)))))) = J:=⟨_,rfl⟩
 obtain ⟨J,hJ⟩:=hJ
 have ev : acOk f l A = (J && (tsB f A.regs && (tsB f A.box && lkOk A.links A.pid))):=by
  rw [← hJ]
  unfold acOk
  cases codeOk l <;> cases inB A.pid 1 99999 <;> cases inB A.pc 0 (IntKind.wrap .i64 ((l.length : Int) - (1 : Int))) <;> cases ((A.regs.length : Int) == (8 : Int)) <;> cases tsB f A.regs <;> cases decide ((A.box.length : Int)≤(30 : Int)) <;> rfl
 rw [ev]
 have start : ∀ {r : Value × AH},_ = some r→run (Et base) 92 [.slice c l.length l.length,.agg (acV A.pid A.pc a A.regs.length b A.box.length g A.links.length).toArray] h = some r:=fun {r} hr=>Am.r92 (lets fun y ey=>(by
  rw [ey,hh1]
  refine bj (q:=([some (.pointer (at0 h.length)),some (.bool (!J))],h2)) ?_ (bs rfl (bB rfl hr))
  refine bs e2 (bB rfl ?_)
  rw [← hJ]
  cases codeOk l with
  | false=>exact ifT rfl rfl
  | true=>
   refine ifF (by decide) (bI (o2.at0 (i:=0) rfl) (bs e6 (bB rfl ?_)))
   cases inB A.pid 1 99999 with
   | false=>exact ifT rfl rfl
   | true=>
    refine ifF (by decide) (bI (o2.at0 (i:=1) rfl) (bs e7 (bB rfl ?_)))
    cases inB A.pc 0 (IntKind.wrap .i64 ((l.length : Int) - (1 : Int))) with
    | false=>exact ifT rfl rfl
    | true=>
     refine ifF (by decide) (bS (o2.at0 (i:=2) rfl) ?_)
     cases c4 : (A.regs.length : Int) == (8 : Int) with
     | false=>exact ifT (by simp [bne,c4]) rfl
     | true=>
      refine ifF (by simp [bne,c4]) (bS (o2.at0 (i:=3) rfl) ?_)
      by_cases c6 : (A.box.length : Int)≤30
      ·rw [decide_eq_true c6,decide_eq_false (by omega)]; rfl
      ·rw [decide_eq_false c6,decide_eq_true (by omega)]; rfl))
 cases J with
 | false=>exact ⟨h2,start (ifT rfl rfl),k02⟩
 | true=>
  cases c5 : tsB f A.regs with
  | false=>rw [c5] at e3; exact ⟨h3,start (ifF (by decide) (bS (o2.at0 (i:=2) rfl) (bs e3 (bB rfl (ifF (by decide) rfl))))),k03⟩
  | true=>
   rw [c5] at e3
   cases c7 : tsB f A.box with
   | false=>rw [c7] at e4; exact ⟨h4,start (ifF (by decide) (bS (o2.at0 (i:=2) rfl) (bs e3 (bB rfl (ifT rfl (bS (o3.at0 (i:=3) rfl) (bs e4 (bB rfl (ifF (by decide) rfl))))))))),k04⟩
   | true=>rw [c7] at e4; exact ⟨h4,start (ifF (by decide) (bS (o2.at0 (i:=2) rfl) (bs e3 (bB rfl (ifT rfl (bS (o3.at0 (i:=3) rfl) (bs e4 (bB rfl (ifT rfl (bS (o4.at0 (i:=4) rfl) (bI (o4.at0 (i:=0) rfl) (bs e5 (bB rfl rfl))))))))))))),k04⟩
set_option maxRecDepth 100000 in
theorem rd_terms {h : AH} {f : Nat} {u : Value} (x : Rd Try.prog h f 27 [u]) : ∃ a l,u = .slice a (List.length l) (List.length l)∧l.length≤maxLen∧TsR h (· < h.length) f l a:=by
 have cT : Try.prog.cellsOf 29 = 4:=by kernel_rfl
 match f,x with
 | 0,x=>exact x.elim
 | f + 1,x=>
  simp only [Rd,Try.underlying27] at x
  obtain ⟨a,n,vs,e,h2,h3,h4,h5⟩:=x
  injection e with e _
  subst e
  rw [cT] at h4 h5
  have each : ∀ i,i < n→∃ t,TmR h (· < h.length) f t ((vs.drop (i * 4)).take 4):=fun i hi=>rd_term f _ (h5 i hi)
  let g : Nat→Tm:=fun i=>if hi : i < n then (each i hi).choose else .mk 0 0 ⟨#[]⟩ []
  have hg : ∀ i,i < n→TmR h (· < h.length) f (g i) ((vs.drop (i * 4)).take 4):=by
   intro i hi
   simp only [g,hi,dite_true]
   exact (each i hi).choose_spec
  refine ⟨a,(List.range n).map g,by simp,by simpa using h2,vs,h3,sl_below h3,by simpa using h4,fun i t hi=>?_⟩
  have hlt : i < n:=by have:=(List.getElem?_eq_some_iff.1 hi).1; simpa using this
  simp [hlt] at hi
  subst hi
  exact TmR.up _ _ _ (hg i hlt)
def AsR (h : AH) (p : Nat→Prop) (f : Nat) (l : List Ac) (a : Option Addr) : Prop:=
 ∃ vs,Sl h a vs∧(vs = []∨∀ b,blk a b→p b)∧vs.length = l.length * 5∧∀ i x,l[i]? = some x→AcR h p f x (chunk 5 i vs)
theorem AsR.keep {h h' : AH} {p S : Nat→Prop} (k : KB S h h') (hp : ∀ b,p b→¬ S b) {f : Nat} {l : List Ac} {a : Option Addr} (x : AsR h p f l a) : AsR h' p f l a:=by
 obtain ⟨vs,h4,h5,h6,h7⟩:=x
 refine ⟨vs,?_,h5,h6,fun i t hi=>(h7 i t hi).keep k hp⟩
 rcases h5 with e|h5
 ·exact .inl e
 ·exact h4.keep k fun b hb hs=>hp b (h5 b hb) hs
theorem AsR.keepN {h h' : AH} {p : Nat→Prop} (k : KB NoB h h') {f : Nat} {l : List Ac} {a : Option Addr} (x : AsR h p f l a) : AsR h' p f l a:=x.keep k fun _ _ h=>h
theorem AcR.mono {h : AH} {p q : Nat→Prop} (hpq : ∀ b,p b→q b) {f : Nat} {A : Ac} {cs : List Value} (x : AcR h p f A cs) : AcR h q f A cs:=by
 obtain ⟨a,b,g,e,h1,h2,h3,h4⟩:=x
 exact ⟨a,b,g,e,h1.mono hpq,h2.mono hpq,h3,h4.imp id fun k y hy=>hpq y (k y hy)⟩
theorem RowD.asR {base f : Nat} {S : Fp} {h : AH} {l : List Ac} {a : Option Addr} (x : RowD 5 (AcD base f) S h l a) : AsR h S f l a:=by
 obtain ⟨vs,T,x1,x2,x3,x4,C,c1,c2,c3⟩:=x
 exact ⟨vs,x1,x3.imp id fun g b hb=>(g b hb).1,x2,fun i t hi=>(c3 i t hi).acR.mono fun b hb=>x4 b (c1 i b hb)⟩
theorem RowO.asR {base t f : Nat} {S : Fp} {h : AH} {l : List Ac} {a : Option Addr} (x : RowO base t 5 (AcG base f) S h l a) : AsR h S f l a:=(x.d.imp fun _ _ _ _=>AcG.acD).asR
theorem AsR.get {h : AH} {p : Nat→Prop} {f : Nat} {l : List Ac} {al : Option Addr} (x : AsR h p f l al) {i : Nat} (hi : i < l.length) :
  ∃ ad a b g,al = some ad∧ad.block < h.length∧Am.cell h ad.block (ad.off + i * 5) = some (.int .i64 l[i].pid)∧Am.cell h ad.block (ad.off + i * 5 + 1) = some (.int .i64 l[i].pc)∧Am.cell h ad.block (ad.off + i * 5 + 1 + 1) = some (.slice a l[i].regs.length l[i].regs.length) ∧
   Am.cell h ad.block (ad.off + i * 5 + 1 + 1 + 1) = some (.slice b l[i].box.length l[i].box.length)∧Am.cell h ad.block (ad.off + i * 5 + 1 + 1 + 1 + 1) = some (.slice g l[i].links.length l[i].links.length) ∧
   AcR h p f l[i] (acV l[i].pid l[i].pc a l[i].regs.length b l[i].box.length g l[i].links.length)∧Sl h g (iv .i64 l[i].links):=by
 obtain ⟨vs,h4,h5,h6,h7⟩:=x
 have hlt : i * 5 + 4 < vs.length:=by omega
 have hm:=h7 i l[i] (List.getElem?_eq_getElem hi)
 obtain ⟨a,b,g,ecs,q1,q2,q3,q4⟩:=hm
 have each : ∀ (j : Nat) (v : Value),(acV l[i].pid l[i].pc a l[i].regs.length b l[i].box.length g l[i].links.length)[j]? = some v→vs[i * 5 + j]? = some v:=by
  intro j v hv
  have hj : j < 5:=by have:=(List.getElem?_eq_some_iff.1 hv).1; simpa using this
  rw [← ecs] at hv
  unfold chunk at hv
  rw [List.getElem?_take_of_lt hj,List.getElem?_drop] at hv
  exact hv
 rcases h4 with e|⟨ad,kk,e1,e2,e3,e4⟩
 ·subst e; simp at hlt
 ·have c : ∀ (j : Nat) (v : Value),(acV l[i].pid l[i].pc a l[i].regs.length b l[i].box.length g l[i].links.length)[j]? = some v→Am.cell h ad.block (ad.off + i * 5 + j) = some v:=by
   intro j v hv
   have:=e4 _ _ (each j v hv)
   rw [Nat.add_assoc]
   simp [Am.cell,e2,this]
  exact ⟨ad,a,b,g,e1,hget_lt e2,c 0 _ rfl,c 1 _ rfl,c 2 _ rfl,c 3 _ rfl,c 4 _ rfl,⟨a,b,g,rfl,q1,q2,q3,q4⟩,q3⟩
def acnt (f : Nat) (A : Ac) : Nat:=A.regs.length + sumL (tcnt f) A.regs + (A.box.length + sumL (tcnt f) A.box) + A.links.length
theorem szActorS_loop {base f : Nat} {p : Nat→Prop} {l : List Ac} {a : Option Addr} (hl : l.length≤1048576) (hM : ∀ x∈l,AcM x) : ∀ (d i : Nat) (h : AH) (left : Int),i + d = l.length→AsR h p f l a→base≤h.length→(∀ b,p b→b < h.length)→0≤left→left≤1048576 →
  ∃ e z h',loopL (B54_0 base) [some (.slice a l.length l.length),some (.int .i64 left),some (.int .i64 (i : Int))] h = some (e,[some (.int .i64 z)],h')∧(e = 1∨e = 2)∧KB NoB h h'∧z≤left∧-1≤z∧(¬ z < 0→(∀ j x,i≤j→l[j]? = some x→AcB f x)∧z + (sumL (acnt f) (l.drop i) : Int)≤left):=by
 intro d
 induction d with
 | zero=>
  intro i h left hi hs hb hp h0 h1
  refine ⟨2,left,h,?_,.inr rfl,KB.refl _ _,Int.le_refl _,by omega,fun _=>⟨fun j t hj hjt=>?_,by rw [show l.drop i = [] from List.drop_eq_nil_of_le (by omega)]; simp [sumL]⟩⟩
  ·refine loop_off (by decide) ?_
   rw [B54_0_eq]
   exact ifF (by simp; omega) rfl
  ·have:=(List.getElem?_eq_some_iff.1 hjt).1; omega
 | succ d ihd=>
  intro i h left hi hs hb hp h0 h1
  have hlt : i < l.length:=by omega
  obtain ⟨ad,x1,x2,x3,rfl,hbl,g0,g1,g2,g3,g4,hm,_⟩:=hs.get hlt
  obtain ⟨z,h',e1,k1,z1,z2,z3⟩:=szActor_run (base:=base) (hM _ (List.getElem_mem hlt)) hm hb hp h0 h1
  have step : ∀ r,(if (decide (z < (0 : Int))) = true then
    some (1,[some (Value.int .i64 (-1 : Int))],h')
   else
    some (0,[some (.slice (some ad) l.length l.length),some (.int .i64 z),some (.int .i64 (IntKind.wrap .i64 ((i : Int) + (1 : Int))))],h')) = some r →
    B54_0 base [some (.slice (some ad) l.length l.length),some (.int .i64 left),some (.int .i64 (i : Int))] h = some r:=by
   intro r hr
   rw [B54_0_eq]
   refine ifT (decide_eq_true (by omega)) (ifT ⟨by omega,by omega⟩ (bs rfl ?_))
   simp only [Int.toNat_natCast]
   refine bI g0 (bI g1 (bS g2 (bS g3 (bS g4 ?_))))
   exact bs e1 (bI rfl hr)
  by_cases hz : z < 0
  ·exact ⟨1,-1,h',loop_off (by decide) (step _ (ifT (decide_eq_true hz) rfl)),.inl rfl,k1,by omega,by omega,fun h=>absurd (by decide) h⟩
  ·obtain ⟨e,zz,h'',m1,m2,m3,m4,m5,m6⟩:=ihd (i + 1) h' z (by omega) (hs.keep k1 fun _ _ h=>h) (by have:=k1.1; omega) (fun b hbp=>by have:=hp b hbp; have:=k1.1; omega) (by omega) (by omega)
   refine ⟨e,zz,h'',?_,m2,kN k1 m3,by omega,m5,fun hzz=>⟨fun j t hj hjt=>?_,by rw [sumL_drop _ hlt]; have:=(m6 hzz).2; have:=(z3 hz).2; unfold acnt at *; omega⟩⟩
   ·refine loop_on (step _ (ifF (by simpa using hz) rfl)) ?_
    rw [w64i (by omega) (by omega)]
    exact m1
   ·by_cases hji : j = i
    ·subst hji
     rw [List.getElem?_eq_getElem hlt] at hjt
     injection hjt with hjt
     rw [← hjt]
     exact (z3 hz).1
    ·exact (m6 hzz).1 j t (by omega) hjt
theorem szActorS_run {base f : Nat} {p : Nat→Prop} {h : AH} {l : List Ac} {a : Option Addr} {left : Int} (hl : l.length≤9223372036854775807) (hM : ∀ x∈l,AcM x) (hs : AsR h p f l a) (hb : base≤h.length) (hp : ∀ b,p b→b < h.length) (h0 : 0≤left) (h1 : left≤1048576) :
  ∃ z h',run (Et base) 54 [.slice a l.length l.length,.int .i64 left] h = some (.int .i64 z,h')∧KB NoB h h'∧z≤left∧-1≤z∧(¬ z < 0→l.length≤1048576∧(∀ x∈l,AcB f x)∧z + ((l.length + sumL (acnt f) l : Nat) : Int)≤left):=by
 by_cases c : left - (l.length : Int) < 0
 ·refine ⟨-1,h,Am.r54 ?_,KB.refl _ _,by omega,by omega,fun h=>absurd (by decide) h⟩
  rw [w64i (by omega) (by omega)]
  exact ifT (decide_eq_true c) rfl
 ·obtain ⟨e,z,h2,m1,m2,m3,m4,m5,m6⟩:=szActorS_loop (base:=base) (f:=f) (by omega) hM l.length 0 h (left - l.length) (by omega) hs hb hp (by omega) (by omega)
  refine ⟨z,h2,Am.r54 ?_,m3,by omega,m5,fun hz=>⟨by omega,fun x hx=>?_,by have:=(m6 hz).2; simp only [List.drop_zero] at this; omega⟩⟩
  ·rw [w64i (by omega) (by omega)]
   rw [show ((0 : Nat) : Int) = 0 from rfl] at m1
   refine ifF (by simpa using c) (bs m1 ?_)
   rcases m2 with rfl|rfl
   ·exact ifT rfl (bI rfl rfl)
   ·exact ifF (by simp) (ifT rfl (bI rfl rfl))
  ·obtain ⟨j,hj,rfl⟩:=List.mem_iff_getElem.1 hx
   exact (m6 hz).1 j _ (by omega) (List.getElem?_eq_getElem hj)
theorem eqActorS_loop {base f f2 : Nat} {p p2 : Nat→Prop} {l : List Ac} {a a2 : Option Addr} (hl : l.length≤9223372036854775807) (hL : ∀ x∈l,x.Le) : ∀ (d i : Nat) (h : AH),i + d = l.length→AsR h p f l a→AsR h p2 f2 l a2→base≤h.length →
  ∃ h',loopL (B68_0 base) [some (.slice a l.length l.length),some (.slice a2 l.length l.length),some (.int .i64 (i : Int))] h = some (2,[],h')∧KB NoB h h':=by
 intro d
 induction d with
 | zero=>
  intro i h hi hs hs2 hb
  refine ⟨h,?_,KB.refl _ _⟩
  refine loop_off (by decide) ?_
  rw [B68_0_eq]
  exact ifF (by simp; omega) rfl
 | succ d ihd=>
  intro i h hi hs hs2 hb
  have hlt : i < l.length:=by omega
  obtain ⟨ad,x1,x2,x3,rfl,_,g0,g1,g2,g3,g4,hm,_⟩:=hs.get hlt
  obtain ⟨ad2,u1,u2,u3,rfl,_,y0,y1,y2,y3,y4,hm2,_⟩:=hs2.get hlt
  obtain ⟨h1,e1,k1⟩:=eqActor_run (base:=base) (hL _ (List.getElem_mem hlt)) hm hm2 hb
  obtain ⟨h2,m1,q2⟩:=ihd (i + 1) h1 (by omega) (hs.keep k1 fun _ _ h=>h) (hs2.keep k1 fun _ _ h=>h) (by have:=k1.1; omega)
  refine ⟨h2,loop_on ?_ m1,kN k1 q2⟩
  rw [B68_0_eq]
  refine ifT (decide_eq_true (by omega)) (ifT ⟨by omega,by omega⟩ (bs rfl ?_))
  simp only [Int.toNat_natCast]
  refine bI g0 (bI g1 (bS g2 (bS g3 (bS g4 (ifT ⟨by omega,by omega⟩ (bs rfl ?_))))))
  refine bI y0 (bI y1 (bS y2 (bS y3 (bS y4 (bs e1 (bB rfl (ifF (by decide) ?_)))))))
  rw [w64i (n:=(i : Int) + 1) (by omega) (by omega)]
  rfl
theorem eqActorS_run {base f f2 : Nat} {h : AH} {p p2 : Nat→Prop} {l : List Ac} {a a2 : Option Addr} (hl : l.length≤9223372036854775807) (hL : ∀ x∈l,x.Le) (hs : AsR h p f l a) (hs2 : AsR h p2 f2 l a2) (hb : base≤h.length) :
  ∃ h',run (Et base) 68 [.slice a l.length l.length,.slice a2 l.length l.length] h = some (.bool true,h')∧KB NoB h h':=by
 obtain ⟨h',e,k⟩:=eqActorS_loop (base:=base) hl hL l.length 0 h (by omega) hs hs2 hb
 refine ⟨h',Am.r68 (ifF (by simp) ?_),k⟩
 rw [show ((0 : Nat) : Int) = 0 from rfl] at e
 exact bs e (ifF (by simp) (ifT rfl rfl))
theorem toActorS_loop {base f : Nat} {p : Nat→Prop} {l : List Ac} {a : Option Addr} {ob : Nat} (hl : l.length≤1048576) (hB : ∀ x∈l,AcB f x) (hp : ∀ b,p b→b < ob) : ∀ (d i : Nat) (h : AH) (vs : List Value),i + d = l.length→AsR h p f l a→ob < h.length→base≤h.length→Own base 54 h (at0 ob) vs→vs.length = l.length * 5 →
  Chunks 5 (AcG base f) (iS (ob + 1) h.length) h (l.take i) vs →
  ∃ h' vs',loopL (B61_0 base) [some (.slice a l.length l.length),some (.slice (at0 ob) l.length l.length),some (.int .i64 (i : Int))] h = some (2,[some (.slice (at0 ob) l.length l.length)],h')∧Own base 54 h' (at0 ob) vs'∧vs'.length = l.length * 5 ∧
   Chunks 5 (AcG base f) (iS (ob + 1) h'.length) h' l vs'∧KB (· = ob) h h':=by
 intro d
 induction d with
 | zero=>
  intro i h vs hi hs ho hb ow hv hd
  rw [List.take_of_length_le (by omega)] at hd
  refine ⟨h,vs,?_,ow,hv,hd,KB.refl _ _⟩
  refine loop_off (by decide) ?_
  rw [B61_0_eq]
  exact ifF (by simp; omega) rfl
 | succ d ihd=>
  intro i h vs hi hs ho hb ow hv hd
  have hlt : i < l.length:=by omega
  obtain ⟨ad,x1,x2,x3,rfl,hbl,g0,g1,g2,g3,g4,hm,_⟩:=hs.get hlt
  obtain ⟨cs',h1,e1,m1,k1⟩:=toActor_run (base:=base) (hB _ (List.getElem_mem hlt)) hm hb (fun b hbp=>by have:=hp b hbp; omega)
  have n1:=k1.1
  obtain ⟨p5,c5,a5,n5,b5,m5,g5,q5,rfl⟩:=m1.form
  obtain ⟨h2,w1,w2,w3,w4⟩:=(ow.keepN k1).wr0 (i:=i * 5) (new:=acV p5 c5 a5 n5 b5 m5 g5 q5) (by simp; omega) (by simp)
  have kall : KB (· = ob) h h2:=kNB k1 w3
  have m2:=AcG.kp base f _ _ _ _ l[i] (acV p5 c5 a5 n5 b5 m5 g5 q5) w3 (fun b (hb' : iS h.length h1.length b) e=>by omega) m1
  have ch:=(hd.keep (AcG.kp _ _) kall fun b hb' e=>by omega).snoc (vs':=setAt vs (i * 5) (acV p5 c5 a5 n5 b5 m5 g5 q5)) (S':=iS (ob + 1) h2.length) m2 (fun b hb' hc=>by omega) (fun b hb'=>by constructor <;> omega) (fun b hb'=>by constructor <;> omega) (fun q hq=>chunk_setAt_other rfl (by omega) (by simp at hq; omega)) (by
   rw [List.length_take,Nat.min_eq_left (by omega)]
   exact chunk_setAt_self rfl (by omega))
  rw [← take_snoc hlt] at ch
  obtain ⟨h3,vs3,y1,y2,y3,y4,y5⟩:=ihd (i + 1) h2 (setAt vs (i * 5) (acV p5 c5 a5 n5 b5 m5 g5 q5)) (by omega) (hs.keep kall fun b h1 h2=>by have:=hp b h1; omega) (by omega) (by omega) w2 (by simp [setAt]; omega) ch
  refine ⟨h3,vs3,?_,y2,y3,y4,KB.trans kall y5 (fun _ _ h=>h) (fun _ _ h=>h)⟩
  refine loop_on ?_ y1
  rw [B61_0_eq]
  refine ifT (decide_eq_true (by omega)) (ifT ⟨by omega,by omega⟩ (bs rfl ?_))
  simp only [Int.toNat_natCast]
  refine bI g0 (bI g1 (bS g2 (bS g3 (bS g4 ?_))))
  refine bs e1 ?_
  refine bs (v:=acV p5 c5 a5 n5 b5 m5 g5 q5) rfl (bI rfl (bI rfl (bS rfl (bS rfl (bS rfl ?_)))))
  refine ifT ⟨by omega,by omega⟩ (bs rfl ?_)
  have w1' : Am.wr base h1 ob (0 + i * 5) (acV p5 c5 a5 n5 b5 m5 g5 q5) = some h2:=by rw [Nat.zero_add]; exact w1
  refine bs w1' ?_
  rw [w64i (n:=(i : Int) + 1) (by omega) (by omega)]
  rfl
theorem rep_len5 (z0 z1 z2 z3 z4 : Value) : ∀ n,(rep [z0,z1,z2,z3,z4] n).length = n * 5
 | 0=>rfl
 | n + 1=>by simp only [rep,List.length_append,rep_len5 z0 z1 z2 z3 z4 n]; simp; omega
theorem toActorS_run {base f : Nat} {h : AH} {p : Nat→Prop} {l : List Ac} {a : Option Addr} (hl : l.length≤1048576) (hB : ∀ x∈l,AcB f x) (hs : AsR h p f l a) (hb : base≤h.length) (hp : ∀ b,p b→b < h.length) :
  ∃ a' h',run (Et base) 61 [.slice a l.length l.length] h = some (.slice a' l.length l.length,h')∧RowO base 54 5 (AcG base f) (iS h.length h'.length) h' l a'∧KB NoB h h':=by
 obtain ⟨o1,k1,q1⟩:=box_own (base:=base) (t:=54) (h:=h) (cs:=rep [(.int .i64 0),(.int .i64 0),(.slice none 0 0),(.slice none 0 0),(.slice none 0 0)] l.length) hb rfl
 generalize hh1 : h++[some (⟨rep [(.int .i64 0),(.int .i64 0),(.slice none 0 0),(.slice none 0 0),(.slice none 0 0)] l.length,54⟩ : Blk)] = h1 at o1 k1 q1
 obtain ⟨h2,vs2,e2,o2,v2,m2,k2⟩:=toActorS_loop (base:=base) (p:=p) (ob:=h.length) hl hB hp l.length 0 h1 _ (by omega) (hs.keep k1 fun _ _ h=>h) (by omega) (by omega) o1 (rep_len5 ..) Chunks.nil
 have n2:=k2.1
 refine ⟨at0 h.length,h2,Am.r61 ?_,⟨vs2,iS (h.length + 1) h2.length,o2,v2,fun b hb'=>by rw [blk_at0] at hb'; subst hb'; exact ⟨by constructor <;> omega,by omega⟩,fun b hb'=>by constructor <;> omega,m2⟩,KB.trans k1 k2 (fun _ _ h=>h) (fun i hi h=>by omega)⟩
 refine ifT ⟨rfl,by omega,by omega,by omega⟩ (lets fun h1' eh=>?_)
 simp only [Int.toNat_natCast] at eh ⊢
 rw [hh1] at eh
 subst eh
 rw [show ((0 : Nat) : Int) = 0 from rfl] at e2
 exact bs e2 (ifT rfl (bS rfl rfl))
def CopG (base f F : Nat) : Prop:=∀ (h : AH) (p : Nat→Prop) (t : Tm) (cs : List Value),TmR h p f t cs→TmB f t→base≤h.length→(∀ b,p b→b < h.length) →
 ∃ cs' h',run (Et base) F [.agg cs.toArray] h = some (.agg cs'.toArray,h')∧TmG base f (iS h.length h'.length) h' t cs'∧KB NoB h h'
theorem TmD.form {f : Nat} {S : Fp} {h : AH} {t : Tm} {cs : List Value} (x : TmD f S h t cs) : ∃ k n s a m,cs = termV k n s a m:=by
 cases f with
 | zero=>exact x.elim
 | succ f=>obtain ⟨k,n,s,l⟩:=t; obtain ⟨_,_,a,e,_⟩:=x; exact ⟨k,n,s,a,_,e⟩
theorem copyTerms_loop {base f : Nat} (ih : CopG base f 125) {p : Nat→Prop} {l : List Tm} {a : Option Addr} {lo : Nat} (hl : l.length≤1048576) (hB : ∀ t∈l,TmB f t) (hp : ∀ b,p b→b < lo) (hlo : base≤lo) : ∀ (d i : Nat) (h : AH) (ao : Option Addr) (vs : List Value) (T : Fp),i + d = l.length→TsR h p f l a→lo≤h.length→Own base 42 h ao vs→vs.length = i * 4→Chunks 4 (TmG base f) T h (l.take i) vs→(∀ b,T b→lo≤b∧b < h.length)→(∀ b,blk ao b→¬ T b∧lo≤b) →
  ∃ h' ao' vs' T',loopL (B165_0 base) [some (.slice ao i i),some (.slice a l.length l.length),some (.int .i64 (l.length : Int)),some (.int .i64 (i : Int))] h = some (2,[some (.slice ao' l.length l.length)],h')∧Own base 42 h' ao' vs'∧vs'.length = l.length * 4 ∧
   Chunks 4 (TmG base f) T' h' l vs'∧(∀ b,T' b→lo≤b∧b < h'.length)∧(∀ b,blk ao' b→¬ T' b∧lo≤b)∧KB (fun b=>lo≤b) h h':=by
 intro d
 induction d with
 | zero=>
  intro i h ao vs T hi hs hlh ow hv hc hT ha
  rw [List.take_of_length_le (by omega)] at hc
  have hi' : i = l.length:=by omega
  subst hi'
  refine ⟨h,ao,vs,T,?_,ow,hv,hc,hT,ha,KB.refl _ _⟩
  refine loop_off (by decide) ?_
  rw [B165_0_eq]
  exact ifF (by simp) rfl
 | succ d ihd=>
  intro i h ao vs T hi hs hlh ow hv hc hT ha
  have hlt : i < l.length:=by omega
  obtain ⟨ad,c0,c1,c2,c3,rfl,g0,g1,g2,g3,hm⟩:=hs.get hlt
  have kp1 : KB NoB h (h++[some ⟨[c0,c1,c2,c3],42⟩]):=KB.push _ _ _
  have hm':=hm
  cases f with
  | zero=>exact hm'.elim
  | succ f=>
   generalize ht : l[i] = tt at hm'
   obtain ⟨k,n,s,ll⟩:=tt
   obtain ⟨a2,ecs,_,_,_⟩:=hm'.parts
   injection ecs with q0 ecs
   injection ecs with q1 ecs
   injection ecs with q2 ecs
   injection ecs with q3 _
   subst q0; subst q1; subst q2; subst q3
   obtain ⟨o1,k1,q1⟩:=box_own (base:=base) (t:=42) (h:=h) (cs:=termV k n s a2 ll.length) (by omega) rfl
   generalize hh1 : h++[some (⟨termV k n s a2 ll.length,42⟩ : Blk)] = h1 at o1 k1 q1
   obtain ⟨cs',h2,e2,m2,k2⟩:=ih h1 p l[i] _ (TmR.keep k1 (fun _ _ h=>h) _ _ _ hm) (hB _ (List.getElem_mem hlt)) (by omega) (fun b hb=>by have:=hp b hb; omega)
   have n2:=k2.1
   have k02 : KB NoB h h2:=kN k1 k2
   obtain ⟨k',n',s',a',m',rfl⟩:=m2.form
   obtain ⟨a3,h3,e3,o3,k3,b3,n3⟩:=Am.app1 (bytes:=56) (ow.keepN k02) (n:=i) (sz:=4) (cs:=termV k' n' s' a' m') hv rfl (by decide) rfl (by omega) (by omega) (by omega)
   have hao : ∀ b,blk ao b→b < h.length:=fun b hb=>(ow.lt hb).2
   have ch:=((hc.keep (TmG.kp _ _) k02 fun _ _ h=>h).snoc (vs':=vs++termV k' n' s' a' m') (S':=fun b=>T b∨iS h1.length h2.length b) m2 (fun b hb hb'=>by have:=hT b hb'; omega) (fun b hb=>.inl hb) (fun b hb=>.inr hb) (fun q hq=>chunk_app_other (by simp at hq; have:=mul_le' (w:=4) (show q < i from by omega); omega)) (by
    rw [List.length_take,Nat.min_eq_left (by omega)]
    exact chunk_app_self rfl hv)).keep (TmG.kp _ _) k3 (fun b hb hk=>by
     rcases hb with hb|hb
     ·exact (ha b hk).1 hb
     ·have:=hao b hk; omega)
   rw [← take_snoc hlt] at ch
   obtain ⟨h4,a4,vs4,T4,y1,y2,y3,y4,y5,y6,y7⟩:=ihd (i + 1) h3 a3 (vs++termV k' n' s' a' m') (fun b=>T b∨iS h1.length h2.length b) (by omega) (hs.keep (kNB k02 k3) fun b h1 h2=>by have:=hp b h1; have:=(ha b h2).2; omega) (by omega) o3 (by simp; omega) ch (fun b hb=>by
    rcases hb with hb|hb
    ·have:=hT b hb; omega
    ·constructor <;> omega) (fun b hb=>by
    have:=b3 b hb
    subst this
    refine ⟨fun hb=>?_,by omega⟩
    rcases hb with hb|hb
    ·have:=hT _ hb; omega
    ·omega)
   refine ⟨h4,a4,vs4,T4,?_,y2,y3,y4,y5,y6,KB.trans (kNB k02 k3) y7 (fun b _ hb=>(ha b hb).2) (fun _ _ h=>h)⟩
   refine loop_on ?_ y1
   rw [B165_0_eq]
   refine ifT (decide_eq_true (by omega)) (ifT ⟨by omega,by omega⟩ (bs rfl ?_))
   simp only [Int.toNat_natCast]
   refine bI g0 (bI g1 (bT g2 (bS g3 (nw (by omega) rfl fun y ey=>?_))))
   rw [hh1] at ey
   subst ey
   refine q4 o1 (bs e2 (bs (v:=termV k' n' s' a' m') rfl (bI rfl (bI rfl (bT rfl (bS rfl (lets fun y2 ey2=>?_)))))))
   subst ey2
   refine bs e3 (bS rfl ?_)
   rw [w64i (n:=(i : Int) + 1) (by omega) (by omega)]
   rfl
theorem copyTerms_run {base f : Nat} (ih : CopG base f 125) {h : AH} {p : Nat→Prop} {l : List Tm} {a : Option Addr} (hl : l.length≤1048576) (hB : ∀ t∈l,TmB f t) (hs : TsR h p f l a) (hb : base≤h.length) (hp : ∀ b,p b→b < h.length) :
  ∃ a' h',run (Et base) 165 [.slice a l.length l.length] h = some (.slice a' l.length l.length,h')∧RowO base 42 4 (TmG base f) (iS h.length h'.length) h' l a'∧KB NoB h h':=by
 obtain ⟨h',ao,vs,T,e,ow,hv,hc,hT,ha,k⟩:=copyTerms_loop (base:=base) ih hl hB hp hb l.length 0 h none [] (fun _=>False) (by omega) hs (by omega) (.inl ⟨rfl,rfl⟩) (by simp) Chunks.nil (fun _ h=>h.elim) (fun b hb=>by obtain ⟨_,e,_⟩:=hb; cases e)
 rw [show ((0 : Nat) : Int) = 0 from rfl] at e
 refine ⟨ao,h',Am.r165 (bs e (ifT rfl (bS rfl rfl))),⟨vs,T,ow,hv,fun b hb'=>⟨⟨(ha b hb').2,(ow.lt hb').2⟩,(ha b hb').1⟩,fun b hb'=>hT b hb',hc⟩,k.mono fun i hi h=>by omega⟩
theorem copyTermG_run {base : Nat} : ∀ f,CopG base f 125
 | 0=>fun h p t cs x=>x.elim
 | f + 1=>fun h p t cs x hB hb hp=>by
  obtain ⟨k,n,s,l⟩:=t
  obtain ⟨a,rfl,hts,hs,hl⟩:=x.parts
  obtain ⟨b1,b2,b3⟩:=hB
  obtain ⟨o1,k1,q1⟩:=box_own (base:=base) (t:=42) (h:=h) (cs:=termV k n s a l.length) hb rfl
  generalize hh1 : h++[some (⟨termV k n s a l.length,42⟩ : Blk)] = h1 at o1 k1 q1
  obtain ⟨o2,k2,q2⟩:=box_own (base:=base) (t:=42) (h:=h1) (cs:=termV 0 0 ⟨#[]⟩ none 0) (by omega) rfl
  generalize hh2 : h1++[some (⟨termV 0 0 ⟨#[]⟩ none 0,42⟩ : Blk)] = h2 at o2 k2 q2
  have k02 : KB NoB h h2:=kN k1 k2
  obtain ⟨a',h3,e3,t3,k3⟩:=copyTerms_run (base:=base) (copyTermG_run f) b2 b3 (hts.keep k02 fun _ _ h=>h) (by omega) (fun b hb=>by have:=hp b hb; omega)
  have n3:=k3.1
  obtain ⟨h4,e4,o4,k4,l4⟩:=((o1.keepN k2).keepN k3).wr0 (i:=3) (new:=[.slice a' l.length l.length]) (by simp) (by simp)
  have hset : setAt (termV k n s a l.length) 3 [.slice a' l.length l.length] = termV k n s a' l.length:=rfl
  rw [hset] at o4
  have z4:=(o2.keepN k3).keepB k4 fun i hi=>by rw [blk_at0] at hi; omega
  obtain ⟨h5,e5,o5,k5,l5⟩:=z4.wr0 (i:=0) (new:=termV k n s a' l.length) (by simp) (by simp)
  have hz : setAt (termV 0 0 ⟨#[]⟩ none 0) 0 (termV k n s a' l.length) = termV k n s a' l.length:=rfl
  rw [hz] at o5
  have t5:=(t3.keep (TmG.kp _ _) k4 fun b h1 h2=>by omega).keep (TmG.kp _ _) k5 fun b h1 h2=>by omega
  refine ⟨termV k n s a' l.length,h5,Am.r125 (lets fun y1 ey=>?_),⟨hs,hl,a',rfl,t5.mono fun b hb'=>by constructor <;> omega⟩,kFresh (kFresh (kN k02 k3) k4 fun i hi=>by omega) k5 fun i hi=>by omega⟩
  rw [hh1] at ey
  subst ey
  refine lets fun y2 ey=>?_
  rw [hh2] at ey
  subst ey
  refine bS ((o1.keepN k2).at0 (i:=3) rfl) (bs e3 (bS rfl (bs e4 (q4 o4 (bs e5 (q4 o5 rfl))))))
theorem l1Copy_loop {base f : Nat} (ih : CopG base f 116) {p : Nat→Prop} {l : List Tm} {a : Option Addr} {b0 b1 b2 : Nat} {k n : Int} {s : ByteArray} (hl : l.length≤1048576) (hB : ∀ t∈l,TmB f t) (hp : ∀ b,p b→b < b2) (h02 : b0 < b2) (hb2 : base≤b2) : ∀ (d i : Nat) (h : AH) (ao : Option Addr) (vs : List Value) (T : Fp),i + d = l.length→TsR h p f l a→b2 < h.length→Own base 42 h (at0 b0) (termV k n s a l.length)→Own base 42 h (at0 b2) (termV k n s ao i)→Own base 42 h ao vs→vs.length = i * 4→Chunks 4 (TmG base f) T h (l.take i) vs→(∀ b,T b→b2 < b∧b < h.length)→(∀ b,blk ao b→¬ T b∧b2 < b) →
  ∃ h' ao' vs' T',loopL (B116_0 base) [some (.pointer (at0 b0)),some (.pointer (at0 b1)),some (.pointer (at0 b2)),some (.int .i64 (i : Int))] h = some (2,[some (.pointer (at0 b1)),some (.pointer (at0 b2))],h')∧Own base 42 h' (at0 b2) (termV k n s ao' l.length)∧Own base 42 h' ao' vs'∧vs'.length = l.length * 4 ∧
   Chunks 4 (TmG base f) T' h' l vs'∧(∀ b,T' b→b2 < b∧b < h'.length)∧(∀ b,blk ao' b→¬ T' b∧b2 < b)∧KB (fun b=>b2≤b) h h':=by
 intro d
 induction d with
 | zero=>
  intro i h ao vs T hi hs hlh ot oo ow hv hc hT ha
  rw [List.take_of_length_le (by omega)] at hc
  have hi' : i = l.length:=by omega
  subst hi'
  refine ⟨h,ao,vs,T,?_,oo,ow,hv,hc,hT,ha,KB.refl _ _⟩
  refine loop_off (by decide) ?_
  rw [B116_0_eq]
  exact bS (ot.at0 (i:=3) rfl) (ifF (by simp) rfl)
 | succ d ihd=>
  intro i h ao vs T hi hs hlh ot oo ow hv hc hT ha
  have hlt : i < l.length:=by omega
  obtain ⟨ad,c0,c1,c2,c3,rfl,g0,g1,g2,g3,hm⟩:=hs.get hlt
  have hm':=hm
  cases f with
  | zero=>exact hm'.elim
  | succ f=>
   generalize ht : l[i] = tt at hm'
   obtain ⟨k1,n1,s1,ll⟩:=tt
   obtain ⟨a2,ecs,_,_,_⟩:=hm'.parts
   injection ecs with q0 ecs
   injection ecs with q1 ecs
   injection ecs with q2 ecs
   injection ecs with q3 _
   subst q0; subst q1; subst q2; subst q3
   obtain ⟨cs',h2,e2,m2,k2⟩:=ih h p l[i] _ hm (hB _ (List.getElem_mem hlt)) (by omega) (fun b hb=>by have:=hp b hb; omega)
   have nn2:=k2.1
   obtain ⟨k',n',s',a',m',rfl⟩:=m2.form
   obtain ⟨a3,h3,e3,o3,k3,b3,n3⟩:=Am.app1 (bytes:=56) (ow.keepN k2) (n:=i) (sz:=4) (cs:=termV k' n' s' a' m') hv rfl (by decide) rfl (by omega) (by omega) (by omega)
   have hao : ∀ b,blk ao b→b < h.length:=fun b hb=>(ow.lt hb).2
   have oo3:=(oo.keepN k2).keep k3 fun b hb hk=>by have:=(ha b hk).2; rw [blk_at0] at hb; omega
   obtain ⟨h4,w4,oo4,k4,l4⟩:=oo3.wr0 (i:=3) (new:=[.slice a3 (i + 1) (i + 1)]) (by simp) (by simp)
   have hset : setAt (termV k n s ao i) 3 [.slice a3 (i + 1) (i + 1)] = termV k n s a3 (i + 1):=rfl
   rw [hset] at oo4
   have k03 : KB (blk ao) h h3:=kNB k2 k3
   have k04 : KB (fun b=>blk ao b∨b = b2) h h4:=KB.trans k03 k4 (fun _ _ h=>.inl h) (fun _ _ h=>.inr h)
   have ch:=(((hc.keep (TmG.kp _ _) k2 fun _ _ h=>h).snoc (vs':=vs++termV k' n' s' a' m') (S':=fun b=>T b∨iS h.length h2.length b) m2 (fun b hb hb'=>by have:=hT b hb'; omega) (fun b hb=>.inl hb) (fun b hb=>.inr hb) (fun q hq=>chunk_app_other (by simp at hq; have:=mul_le' (w:=4) (show q < i from by omega); omega)) (by
    rw [List.length_take,Nat.min_eq_left (by omega)]
    exact chunk_app_self rfl hv)).keep (TmG.kp _ _) k3 (fun b hb hk=>by
     rcases hb with hb|hb
     ·exact (ha b hk).1 hb
     ·have:=hao b hk; omega)).keep (TmG.kp _ _) k4 (fun b hb hk=>by
     rcases hb with hb|hb
     ·have:=hT b hb; omega
     ·omega)
   rw [← take_snoc hlt] at ch
   have hT' : ∀ b,(T b∨iS h.length h2.length b)→b2 < b∧b < h4.length:=fun b hb=>by
    rcases hb with hb|hb
    ·have:=hT b hb; omega
    ·omega
   have o4:=o3.keepB k4 fun b hb=>by have:=b3 b hb; omega
   obtain ⟨h5,a5,vs5,T5,y1,y1',y2,y3,y4,y5,y6,y7⟩:=ihd (i + 1) h4 a3 (vs++termV k' n' s' a' m') (fun b=>T b∨iS h.length h2.length b) (by omega) (hs.keep k04 fun b h1 h2=>by
    have:=hp b h1
    rcases h2 with h2|h2
    ·have:=(ha b h2).2; omega
    ·omega) (by omega) (ot.keep k04 fun b hb h2=>by
    rw [blk_at0] at hb
    rcases h2 with h2|h2
    ·have:=(ha b h2).2; omega
    ·omega) oo4 o4 (by simp; omega) ch hT' (fun b hb=>by
    have:=b3 b hb
    subst this
    refine ⟨fun hb=>?_,by omega⟩
    rcases hb with hb|hb
    ·have:=hT _ hb; omega
    ·omega)
   refine ⟨h5,a5,vs5,T5,?_,y1',y2,y3,y4,y5,y6,KB.trans k04 y7 (fun b _ hb=>by
    rcases hb with hb|hb
    ·have:=(ha b hb).2; omega
    ·omega) (fun _ _ h=>h)⟩
   refine loop_on ?_ y1
   rw [B116_0_eq]
   refine bS (ot.at0 (i:=3) rfl) (ifT (decide_eq_true (by simp; omega)) (bS (oo.at0 (i:=3) rfl) (bS (ot.at0 (i:=3) rfl) (ifT ⟨by omega,by simp; omega⟩ (bs rfl ?_)))))
   simp only [Int.toNat_natCast]
   refine bI g0 (bI g1 (bT g2 (bS g3 (bs e2 ?_))))
   refine bs (v:=termV k' n' s' a' m') rfl (bI rfl (bI rfl (bT rfl (bS rfl ?_))))
   try dsimp only
   rw [gate_pos (by
    intro x hx
    injection hx with hx
    subst hx
    have e:=k2.2 b2 hlh (fun h=>h)
    exact ⟨fun j _=>by unfold Am.cell; rw [e],by rw [e]⟩)]
   rw [gate_pos (by
    intro x hx
    injection hx with hx
    subst hx
    show b2≠h2.length
    omega)]
   refine lets fun y2 ey2=>?_
   subst ey2
   refine bs e3 (bS rfl (bs w4 ?_))
   rw [w64i (n:=(i : Int) + 1) (by omega) (by omega)]
   rfl
theorem l1CopyG_run {base : Nat} : ∀ f,CopG base f 116
 | 0=>fun h p t cs x=>x.elim
 | f + 1=>fun h p t cs x hB hb hp=>by
  obtain ⟨k,n,s,l⟩:=t
  obtain ⟨a,rfl,hts,hs,hl⟩:=x.parts
  obtain ⟨b1,b2,b3⟩:=hB
  obtain ⟨o1,k1,q1⟩:=box_own (base:=base) (t:=42) (h:=h) (cs:=termV k n s a l.length) hb rfl
  generalize hh1 : h++[some (⟨termV k n s a l.length,42⟩ : Blk)] = h1 at o1 k1 q1
  obtain ⟨o2,k2,q2⟩:=box_own (base:=base) (t:=42) (h:=h1) (cs:=termV 0 0 ⟨#[]⟩ none 0) (by omega) rfl
  generalize hh2 : h1++[some (⟨termV 0 0 ⟨#[]⟩ none 0,42⟩ : Blk)] = h2 at o2 k2 q2
  obtain ⟨o3,k3,q3⟩:=box_own (base:=base) (t:=42) (h:=h2) (cs:=termV k n s a l.length) (by omega) rfl
  generalize hh3 : h2++[some (⟨termV k n s a l.length,42⟩ : Blk)] = h3 at o3 k3 q3
  obtain ⟨o4,k4,q4'⟩:=box_own (base:=base) (t:=42) (h:=h3) (cs:=[]) (by omega) rfl
  generalize hh4 : h3++[some (⟨[],42⟩ : Blk)] = h4 at o4 k4 q4'
  obtain ⟨h5,e5,o5,k5,l5⟩:=(o3.keepN k4).wr0 (i:=3) (new:=[.slice (at0 h3.length) 0 0]) (by simp) (by simp)
  have hset : setAt (termV k n s a l.length) 3 [.slice (at0 h3.length) 0 0] = termV k n s (at0 h3.length) 0:=rfl
  rw [hset] at o5
  have k04 : KB NoB h h4:=kN (kN (kN k1 k2) k3) k4
  have k05 : KB NoB h h5:=kFresh k04 k5 fun i hi=>by omega
  obtain ⟨h6,ao,vs,T,e6,oo6,ow6,hv6,hc6,hT6,ha6,k6⟩:=l1Copy_loop (base:=base) (l1CopyG_run f) (p:=p) (l:=l) (a:=a) (b0:=h.length) (b1:=h1.length) (b2:=h2.length) (k:=k) (n:=n) (s:=s) b2 b3 (fun b hb=>by have:=hp b hb; omega) (by omega) (by omega) l.length 0 h5 (at0 h3.length) [] (fun _=>False) (by omega) (hts.keep k05 fun _ _ h=>h) (by omega)
   ((((o1.keepN k2).keepN k3).keepN k4).keepB k5 fun i hi=>by rw [blk_at0] at hi; omega) o5 (o4.keepB k5 fun i hi=>by rw [blk_at0] at hi; omega) (by simp) Chunks.nil (fun _ h=>h.elim) (fun b hb=>by rw [blk_at0] at hb; exact ⟨fun h=>h,by omega⟩)
  have n6:=k6.1
  have z6:=(((o2.keepN k3).keepN k4).keepB k5 fun i hi=>by rw [blk_at0] at hi; omega).keep k6 fun b hb hk=>by rw [blk_at0] at hb; omega
  obtain ⟨h7,e7,o7,k7,l7⟩:=z6.wr0 (i:=0) (new:=termV k n s ao l.length) (by simp) (by simp)
  have hz : setAt (termV 0 0 ⟨#[]⟩ none 0) 0 (termV k n s ao l.length) = termV k n s ao l.length:=rfl
  rw [hz] at o7
  have ow7:=ow6.keepB k7 fun b hb=>by have:=(ha6 b hb).2; omega
  have hc7:=hc6.keep (TmG.kp _ _) k7 fun b hb hk=>by have:=hT6 b hb; omega
  refine ⟨termV k n s ao l.length,h7,Am.r116 (lets fun y1 ey=>?_),⟨hs,hl,ao,rfl,⟨vs,T,ow7,hv6,fun b hb'=>⟨⟨by have:=(ha6 b hb').2; omega,by have:=(ow7.lt hb').2; omega⟩,(ha6 b hb').1⟩,fun b hb'=>by have:=hT6 b hb'; constructor <;> omega,hc7⟩⟩,kFresh (kFresh k05 k6 fun i hi=>by omega) k7 fun i hi=>by omega⟩
  rw [hh1] at ey
  subst ey
  refine lets fun y2 ey=>?_
  rw [hh2] at ey
  subst ey
  refine q4 (o1.keepN k2) (nw (by omega) rfl fun y3 ey=>?_)
  rw [hh3] at ey
  subst ey
  refine lets fun y4 ey=>?_
  rw [hh4] at ey
  subst ey
  refine bs e5 ?_
  rw [show ((0 : Nat) : Int) = 0 from rfl] at e6
  refine bs e6 (ifT rfl (bs rfl (bs rfl (q4 oo6 (bs e7 (q4 o7 rfl))))))
structure Sd where
 kind : Int
 pid : Int
 t : Tm
def SsR (h : AH) (p : Nat→Prop) (f : Nat) (l : List Sd) (a : Option Addr) : Prop:=
 ∃ vs,Sl h a vs∧(vs = []∨∀ b,blk a b→p b)∧vs.length = l.length * 6∧∀ i x,l[i]? = some x→∃ cs,(vs.drop (i * 6)).take 6 = .int .i64 x.kind :: .int .i64 x.pid :: cs∧TmR h p f x.t cs
theorem SsR.keep {h h' : AH} {p S : Nat→Prop} (k : KB S h h') (hp : ∀ b,p b→¬ S b) {f : Nat} {l : List Sd} {a : Option Addr} (x : SsR h p f l a) : SsR h' p f l a:=by
 obtain ⟨vs,h4,h5,h6,h7⟩:=x
 refine ⟨vs,?_,h5,h6,fun i t hi=>?_⟩
 ·rcases h5 with e|h5
  ·exact .inl e
  ·exact h4.keep k fun b hb hs=>hp b (h5 b hb) hs
 ·obtain ⟨cs,e,hm⟩:=h7 i t hi
  exact ⟨cs,e,TmR.keep k hp f _ _ hm⟩
theorem SsR.get {h : AH} {p : Nat→Prop} {f : Nat} {l : List Sd} {a : Option Addr} (x : SsR h p f l a) {i : Nat} (hi : i < l.length) :
  ∃ ad k n s a2 m,a = some ad∧ad.block < h.length∧Am.cell h ad.block (ad.off + i * 6) = some (.int .i64 l[i].kind)∧Am.cell h ad.block (ad.off + i * 6 + 1) = some (.int .i64 l[i].pid)∧Am.cell h ad.block (ad.off + i * 6 + 1 + 1) = some (.int .i64 k) ∧
   Am.cell h ad.block (ad.off + i * 6 + 1 + 1 + 1) = some (.int .i64 n)∧Am.cell h ad.block (ad.off + i * 6 + 1 + 1 + 1 + 1) = some (.string s)∧Am.cell h ad.block (ad.off + i * 6 + 1 + 1 + 1 + 1 + 1) = some (.slice a2 m m)∧TmR h p f l[i].t (termV k n s a2 m):=by
 obtain ⟨vs,h4,h5,h6,h7⟩:=x
 have hlt : i * 6 + 5 < vs.length:=by omega
 obtain ⟨cs,ecs,hm⟩:=h7 i l[i] (List.getElem?_eq_getElem hi)
 cases f with
 | zero=>exact hm.elim
 | succ f=>
  generalize ht : l[i].t = tt at hm
  obtain ⟨k,n,s,ll⟩:=tt
  obtain ⟨a2,rfl,_,_,_⟩:=hm.parts
  have each : ∀ (j : Nat) (v : Value),(Value.int .i64 l[i].kind :: .int .i64 l[i].pid :: termV k n s a2 ll.length)[j]? = some v→vs[i * 6 + j]? = some v:=by
   intro j v hv
   have hj : j < 6:=by have:=(List.getElem?_eq_some_iff.1 hv).1; simpa using this
   rw [← ecs,List.getElem?_take_of_lt hj,List.getElem?_drop] at hv
   exact hv
  rcases h4 with e|⟨ad,kk,e1,e2,e3,e4⟩
  ·subst e; simp at hlt
  ·have c : ∀ (j : Nat) (v : Value),(Value.int .i64 l[i].kind :: .int .i64 l[i].pid :: termV k n s a2 ll.length)[j]? = some v→Am.cell h ad.block (ad.off + i * 6 + j) = some v:=by
    intro j v hv
    have:=e4 _ _ (each j v hv)
    rw [Nat.add_assoc]
    simp [Am.cell,e2,this]
   exact ⟨ad,k,n,s,a2,ll.length,e1,hget_lt e2,c 0 _ rfl,c 1 _ rfl,c 2 _ rfl,c 3 _ rfl,c 4 _ rfl,c 5 _ rfl,hm⟩
abbrev saidV (kind pid k n : Int) (s : ByteArray) (a : Option Addr) (m : Nat) : List Value:=[.int .i64 kind,.int .i64 pid,.int .i64 k,.int .i64 n,.string s,.slice a m m]
theorem rep_len6 (z0 z1 z2 z3 z4 z5 : Value) : ∀ n,(rep [z0,z1,z2,z3,z4,z5] n).length = n * 6
 | 0=>rfl
 | n + 1=>by simp only [rep,List.length_append,rep_len6 z0 z1 z2 z3 z4 z5 n]; simp; omega
theorem SsR.le {h : AH} {p : Nat→Prop} {f f' : Nat} (hf : f≤f') {l : List Sd} {a : Option Addr} (x : SsR h p f l a) : SsR h p f' l a:=by
 obtain ⟨vs,h1,h2,h3,h4⟩:=x
 exact ⟨vs,h1,h2,h3,fun i y hy=>by obtain ⟨cs,e,m⟩:=h4 i y hy; exact ⟨cs,e,m.le hf⟩⟩
def d0 : Sd:=⟨0,0,.mk 0 0 ⟨#[]⟩ []⟩
def SdD (f : Nat) (S : Fp) (h : AH) (x : Sd) (cs : List Value) : Prop:=∃ k n s a m,cs = saidV x.kind x.pid k n s a m∧TmD f S h x.t (termV k n s a m)
theorem SdD.kp (f : Nat) : Kp (SdD f):=fun S U h h' x cs k hs y=>by
 obtain ⟨k1,n,s,a,m,e,r⟩:=y
 exact ⟨k1,n,s,a,m,e,TmD.kp f _ _ _ _ _ _ k hs r⟩
theorem RowD.ssR {f : Nat} {S : Fp} {h : AH} {l : List Sd} {a : Option Addr} (x : RowD 6 (SdD f) S h l a) : SsR h S f l a:=by
 obtain ⟨vs,T,x1,x2,x3,x4,C,c1,c2,c3⟩:=x
 refine ⟨vs,x1,x3.imp id fun g b hb=>(g b hb).1,x2,fun i t hi=>?_⟩
 obtain ⟨k,n,s,a,m,e,r⟩:=c3 i t hi
 exact ⟨_,e,(TmD.tmR _ _ _ _ _ r).mono (fun b hb=>x4 b (c1 i b hb)) _ _ _⟩
inductive IsMT : List Sd→Int→Int→Prop
 | nil (k : Int) : IsMT [] k k
 | cons {k k1 k2 : Int} {l : List Tm} {r : List Sd} : IsM l (k + 5) k1→IsMT r k1 k2→IsMT (⟨k,k + 1,.mk (k + 2) (k + 3) (mt (k + 4)) l⟩ :: r) k k2
theorem IsMT.le {l : List Sd} {k k' : Int} (x : IsMT l k k') : k≤k':=by
 induction x with
 | nil=>exact Int.le_refl _
 | cons m _ ih2=>have:=m.le; omega
def mcT (f : Nat) (l : List Sd) : Int:=((5 * l.length + 3 * sumL (fun x=>tcnt f x.t) l : Nat) : Int)
def isA (k n : Int) (s : ByteArray) (m : Nat) (w : ByteArray) : Bool:=!(k != 2) && !(n != 0) && (s.toList == w.toList) && !(((m : Nat) : Int) != ((0 : Nat) : Int))
theorem szSaid_run {base f : Nat} {h : AH} {p : Nat→Prop} {kind pid k n : Int} {s : ByteArray} {a : Option Addr} {m : Nat} {t : Tm} {left : Int} (hm : TmR h p f t (termV k n s a m)) (hb : base≤h.length) (hp : ∀ b,p b→b < h.length) (h0 : 0≤left) (h1 : left≤1048576) :
  ∃ z h',run (Et base) 114 [.agg (saidV kind pid k n s a m).toArray,.int .i64 left] h = some (.int .i64 z,h')∧KB NoB h h'∧z≤left∧-1≤z∧(¬ z < 0→TmB f t∧z + (tcnt f t : Int)≤left):=by
 obtain ⟨o1,k1,q1⟩:=box_own (base:=base) (t:=137) (h:=h) (cs:=saidV kind pid k n s a m) hb rfl
 generalize hh1 : h++[some (⟨saidV kind pid k n s a m,137⟩ : Blk)] = h1' at o1 k1 q1
 obtain ⟨z,h2,e,k2,z1,z2,z3⟩:=szTerm_run (base:=base) f h1' p t _ left (TmR.keep k1 (fun _ _ h=>h) _ _ _ hm) (by omega) (fun b hbp=>by have:=hp b hbp; omega) h0 h1
 have kk : KB NoB h h2:=KB.trans k1 k2 (fun _ _ h=>h) (fun _ _ h=>h)
 have start : ∀ r,(if (decide (z < (0 : Int))) = true then some (Value.int .i64 (-1 : Int),h2) else some (.int .i64 z,h2)) = some r→run (Et base) 114 [.agg (saidV kind pid k n s a m).toArray,.int .i64 left] h = some r:=by
  intro r hr
  refine Am.r114 (lets fun h1'' eh=>?_)
  rw [hh1] at eh
  subst eh
  refine bI (o1.at0 (i:=2) rfl) (bI (o1.at0 (i:=3) rfl) (bT (o1.at0 (i:=4) rfl) (bS (o1.at0 (i:=5) rfl) ?_)))
  exact bs e (bI rfl hr)
 by_cases hz : z < 0
 ·exact ⟨-1,h2,start _ (ifT (decide_eq_true hz) rfl),kk,by omega,by omega,fun h=>absurd (by decide) h⟩
 ·exact ⟨z,h2,start _ (ifF (by simpa using hz) rfl),kk,z1,z2,z3⟩
theorem szSaidS_loop {base f : Nat} {p : Nat→Prop} {l : List Sd} {a : Option Addr} (hl : l.length≤1048576) : ∀ (d i : Nat) (h : AH) (left : Int),i + d = l.length→SsR h p f l a→base≤h.length→(∀ b,p b→b < h.length)→0≤left→left≤1048576 →
  ∃ e z h',loopL (B55_0 base) [some (.slice a l.length l.length),some (.int .i64 left),some (.int .i64 (i : Int))] h = some (e,[some (.int .i64 z)],h')∧(e = 1∨e = 2)∧KB NoB h h'∧z≤left∧-1≤z∧(¬ z < 0→(∀ j x,i≤j→l[j]? = some x→TmB f x.t)∧z + (sumL (fun x=>tcnt f x.t) (l.drop i) : Int)≤left):=by
 intro d
 induction d with
 | zero=>
  intro i h left hi hs hb hp h0 h1
  refine ⟨2,left,h,?_,.inr rfl,KB.refl _ _,Int.le_refl _,by omega,fun _=>⟨fun j t hj hjt=>?_,by rw [show l.drop i = [] from List.drop_eq_nil_of_le (by omega)]; simp [sumL]⟩⟩
  ·rw [loopL_eq,B55_0_eq]
   have : ¬ ((i : Int) < (l.length : Int)):=by omega
   simp [this]
  ·have:=(List.getElem?_eq_some_iff.1 hjt).1; omega
 | succ d ihd=>
  intro i h left hi hs hb hp h0 h1
  have hlt : i < l.length:=by omega
  obtain ⟨ad,k,n,s,a2,m,rfl,hbl,g0,g1,g2,g3,g4,g5,hm⟩:=hs.get hlt
  obtain ⟨z,h',e1,k1,z1,z2,z3⟩:=szSaid_run (base:=base) (kind:=l[i].kind) (pid:=l[i].pid) hm hb hp h0 h1
  have step : ∀ r,(if (decide (z < (0 : Int))) = true then
    some (1,[some (Value.int .i64 (-1 : Int))],h')
   else
    some (0,[some (.slice (some ad) l.length l.length),some (.int .i64 z),some (.int .i64 (IntKind.wrap .i64 ((i : Int) + (1 : Int))))],h')) = some r →
    B55_0 base [some (.slice (some ad) l.length l.length),some (.int .i64 left),some (.int .i64 (i : Int))] h = some r:=by
   intro r hr
   rw [B55_0_eq]
   refine ifT (decide_eq_true (by omega)) (ifT ⟨by omega,by omega⟩ (bs rfl ?_))
   simp only [Int.toNat_natCast]
   refine bI g0 (bI g1 (bI g2 (bI g3 (bT g4 (bS g5 ?_)))))
   exact bs e1 (bI rfl hr)
  by_cases hz : z < 0
  ·refine ⟨1,-1,h',?_,.inl rfl,k1,by omega,by omega,fun h=>absurd (by decide) h⟩
   rw [loopL_eq,step _ (ifT (decide_eq_true hz) rfl)]
   simp
  ·obtain ⟨e,zz,h'',m1,m2,m3,m4,m5,m6⟩:=ihd (i + 1) h' z (by omega) (hs.keep k1 fun _ _ h=>h) (by have:=k1.1; omega) (fun b hbp=>by have:=hp b hbp; have:=k1.1; omega) (by omega) (by omega)
   refine ⟨e,zz,h'',?_,m2,KB.trans k1 m3 (fun _ _ h=>h) (fun _ _ h=>h),by omega,m5,fun hzz=>⟨fun j t hj hjt=>?_,by rw [sumL_drop _ hlt]; have:=(m6 hzz).2; have:=(z3 hz).2; omega⟩⟩
   ·rw [loopL_eq,step _ (ifF (by simpa using hz) rfl)]
    simp only [Option.bind_some,if_true]
    rw [w64i (by omega) (by omega),show ((i : Int) + 1) = ((i + 1 : Nat) : Int) from by omega]
    exact m1
   ·by_cases hji : j = i
    ·subst hji
     rw [List.getElem?_eq_getElem hlt] at hjt
     injection hjt with hjt
     rw [← hjt]
     exact (z3 hz).1
    ·exact (m6 hzz).1 j t (by omega) hjt
theorem eqSaid_run {base f f2 : Nat} {h : AH} {p p2 : Nat→Prop} {kind pid k n k2 n2 : Int} {s s2 : ByteArray} {a a2 : Option Addr} {m m2 : Nat} {t : Tm} (hm : TmR h p f t (termV k n s a m)) (hm2 : TmR h p2 f2 t (termV k2 n2 s2 a2 m2)) (hb : base≤h.length) :
  ∃ h',run (Et base) 128 [.agg (saidV kind pid k n s a m).toArray,.agg (saidV kind pid k2 n2 s2 a2 m2).toArray] h = some (.bool true,h')∧KB NoB h h':=by
 obtain ⟨o1,k1,q1⟩:=box_own (base:=base) (t:=140) (h:=h) (cs:=saidV kind pid k n s a m) hb rfl
 generalize hh1 : h++[some (⟨saidV kind pid k n s a m,140⟩ : Blk)] = h1 at o1 k1 q1
 obtain ⟨o2,k2',q2⟩:=box_own (base:=base) (t:=140) (h:=h1) (cs:=saidV kind pid k2 n2 s2 a2 m2) (by omega) rfl
 generalize hh2 : h1++[some (⟨saidV kind pid k2 n2 s2 a2 m2,140⟩ : Blk)] = h2 at o2 k2' q2
 have o1':=o1.keepN k2'
 have kk : KB NoB h h2:=KB.trans k1 k2' (fun _ _ h=>h) (fun _ _ h=>h)
 obtain ⟨h3,e3,k3⟩:=eqTerm_run (base:=base) f f2 h2 p p2 t _ _ (TmR.keep kk (fun _ _ h=>h) _ _ _ hm) (TmR.keep kk (fun _ _ h=>h) _ _ _ hm2) (by omega)
 refine ⟨h3,Am.r128 (lets fun h1' eh=>?_),KB.trans kk k3 (fun _ _ h=>h) (fun _ _ h=>h)⟩
 rw [hh1] at eh
 subst eh
 refine lets fun h2' eh=>?_
 rw [hh2] at eh
 subst eh
 refine bI (o1'.at0 (i:=0) rfl) (bI (o2.at0 (i:=0) rfl) (ifF (by simp) ?_))
 refine bI (o1'.at0 (i:=1) rfl) (bI (o2.at0 (i:=1) rfl) (ifF (by simp) ?_))
 refine bI (o1'.at0 (i:=2) rfl) (bI (o1'.at0 (i:=3) rfl) (bT (o1'.at0 (i:=4) rfl) (bS (o1'.at0 (i:=5) rfl) ?_)))
 refine bI (o2.at0 (i:=2) rfl) (bI (o2.at0 (i:=3) rfl) (bT (o2.at0 (i:=4) rfl) (bS (o2.at0 (i:=5) rfl) ?_)))
 exact bs e3 (bB rfl (ifF (by decide) rfl))
theorem eqSaidS_loop {base f f2 : Nat} {p p2 : Nat→Prop} {l : List Sd} {a a2 : Option Addr} (hl : l.length≤9223372036854775807) : ∀ (d i : Nat) (h : AH),i + d = l.length→SsR h p f l a→SsR h p2 f2 l a2→base≤h.length →
  ∃ h',loopL (B69_0 base) [some (.slice a l.length l.length),some (.slice a2 l.length l.length),some (.int .i64 (i : Int))] h = some (2,[],h')∧KB NoB h h':=by
 intro d
 induction d with
 | zero=>
  intro i h hi hs hs2 hb
  refine ⟨h,?_,KB.refl _ _⟩
  rw [loopL_eq,B69_0_eq]
  have : ¬ ((i : Int) < (l.length : Int)):=by omega
  simp [this]
 | succ d ihd=>
  intro i h hi hs hs2 hb
  have hlt : i < l.length:=by omega
  obtain ⟨ad,k,n,s,b,m,rfl,_,g0,g1,g2,g3,g4,g5,hm⟩:=hs.get hlt
  obtain ⟨ad2,k2,n2,s2,b2,m2,rfl,_,y0,y1,y2,y3,y4,y5,hm2⟩:=hs2.get hlt
  obtain ⟨h1,e1,k1⟩:=eqSaid_run (base:=base) (kind:=l[i].kind) (pid:=l[i].pid) hm hm2 hb
  obtain ⟨h2,m1,q2⟩:=ihd (i + 1) h1 (by omega) (hs.keep k1 fun _ _ h=>h) (hs2.keep k1 fun _ _ h=>h) (by have:=k1.1; omega)
  refine ⟨h2,?_,KB.trans k1 q2 (fun _ _ h=>h) (fun _ _ h=>h)⟩
  have step : B69_0 base [some (.slice (some ad) l.length l.length),some (.slice (some ad2) l.length l.length),some (.int .i64 (i : Int))] h = some (0,[some (.slice (some ad) l.length l.length),some (.slice (some ad2) l.length l.length),some (.int .i64 (IntKind.wrap .i64 ((i : Int) + (1 : Int))))],h1):=by
   rw [B69_0_eq]
   refine ifT (decide_eq_true (by omega)) (ifT ⟨by omega,by omega⟩ (bs rfl ?_))
   simp only [Int.toNat_natCast]
   refine bI g0 (bI g1 (bI g2 (bI g3 (bT g4 (bS g5 (ifT ⟨by omega,by omega⟩ (bs rfl ?_)))))))
   refine bI y0 (bI y1 (bI y2 (bI y3 (bT y4 (bS y5 ?_)))))
   exact bs e1 (bB rfl (ifF (by decide) rfl))
  rw [loopL_eq,step]
  simp only [Option.bind_some,if_true]
  rw [w64i (by omega) (by omega),show ((i : Int) + 1) = ((i + 1 : Nat) : Int) from by omega]
  exact m1
theorem eqSaidS_run {base f f2 : Nat} {h : AH} {p p2 : Nat→Prop} {l : List Sd} {a a2 : Option Addr} (hl : l.length≤9223372036854775807) (hs : SsR h p f l a) (hs2 : SsR h p2 f2 l a2) (hb : base≤h.length) :
  ∃ h',run (Et base) 69 [.slice a l.length l.length,.slice a2 l.length l.length] h = some (.bool true,h')∧KB NoB h h':=by
 obtain ⟨h',e,k⟩:=eqSaidS_loop (base:=base) hl l.length 0 h (by omega) hs hs2 hb
 refine ⟨h',Am.r69 (ifF (by simp) ?_),k⟩
 rw [show ((0 : Nat) : Int) = 0 from rfl] at e
 exact bs e (ifF (by simp) (ifT rfl rfl))
theorem szSaidS_any {base f : Nat} {p : Nat→Prop} {h : AH} {l : List Sd} {a : Option Addr} {left : Int} (hl : l.length≤9223372036854775807) (hs : SsR h p f l a) (hb : base≤h.length) (hp : ∀ b,p b→b < h.length) (h0 : 0≤left) (h1 : left≤1048576) :
  ∃ z h',run (Et base) 55 [.slice a l.length l.length,.int .i64 left] h = some (.int .i64 z,h')∧KB NoB h h'∧z≤left∧-1≤z∧(¬ z < 0→l.length≤1048576∧(∀ x∈l,TmB f x.t)∧z + ((l.length + sumL (fun x=>tcnt f x.t) l : Nat) : Int)≤left):=by
 by_cases c : left - (l.length : Int) < 0
 ·refine ⟨-1,h,Am.r55 ?_,KB.refl _ _,by omega,by omega,fun h=>absurd (by decide) h⟩
  rw [w64i (by omega) (by omega)]
  exact ifT (decide_eq_true c) rfl
 ·obtain ⟨e,z,h2,m1,m2,m3,m4,m5,m6⟩:=szSaidS_loop (base:=base) (f:=f) (by omega) l.length 0 h (left - l.length) (by omega) hs hb hp (by omega) (by omega)
  refine ⟨z,h2,Am.r55 ?_,m3,by omega,m5,fun hz=>⟨by omega,fun x hx=>?_,by have:=(m6 hz).2; simp only [List.drop_zero] at this; omega⟩⟩
  ·rw [w64i (by omega) (by omega)]
   rw [show ((0 : Nat) : Int) = 0 from rfl] at m1
   refine ifF (by simpa using c) (bs m1 ?_)
   rcases m2 with rfl|rfl
   ·exact ifT rfl (bI rfl rfl)
   ·exact ifF (by simp) (ifT rfl (bI rfl rfl))
  ·obtain ⟨j,hj,rfl⟩:=List.mem_iff_getElem.1 hx
   exact (m6 hz).1 j _ (by omega) (List.getElem?_eq_getElem hj)
theorem toSaidD_run {base f : Nat} {h : AH} {p : Nat→Prop} {kind pid k n : Int} {s : ByteArray} {a : Option Addr} {m : Nat} {t : Tm} (hm : TmR h p f t (termV k n s a m)) (hB : TmB f t) (hb : base≤h.length) (hp : ∀ b,p b→b < h.length) :
  ∃ k' n' s' a' m' h',run (Et base) 121 [.agg (saidV kind pid k n s a m).toArray] h = some (.agg (saidV kind pid k' n' s' a' m').toArray,h')∧TmD f (iS h.length h'.length) h' t (termV k' n' s' a' m')∧KB NoB h h':=by
 obtain ⟨o1,k1,q1⟩:=box_own (base:=base) (t:=137) (h:=h) (cs:=saidV kind pid k n s a m) hb rfl
 generalize hh1 : h++[some (⟨saidV kind pid k n s a m,137⟩ : Blk)] = h1 at o1 k1 q1
 obtain ⟨o2,k2,q2⟩:=box_own (base:=base) (t:=140) (h:=h1) (cs:=saidV 0 0 0 0 ⟨#[]⟩ none 0) (by omega) rfl
 generalize hh2 : h1++[some (⟨saidV 0 0 0 0 ⟨#[]⟩ none 0,140⟩ : Blk)] = h2 at o2 k2 q2
 obtain ⟨o3,k3,q3⟩:=box_own (base:=base) (t:=140) (h:=h2) (cs:=saidV 0 0 0 0 ⟨#[]⟩ none 0) (by omega) rfl
 generalize hh3 : h2++[some (⟨saidV 0 0 0 0 ⟨#[]⟩ none 0,140⟩ : Blk)] = h3 at o3 k3 q3
 have k03 : KB NoB h h3:=kN (kN k1 k2) k3
 have a3:=(o1.keepN k2).keepN k3
 have z3:=o2.keepN k3
 obtain ⟨h5,e5,o5,k5,l5⟩:=o3.wr0 (i:=0) (new:=[.int .i64 kind]) (by simp) (by simp)
 have a5:=a3.keepB k5 fun i hi=>by rw [blk_at0] at hi; omega
 have z5:=z3.keepB k5 fun i hi=>by rw [blk_at0] at hi; omega
 obtain ⟨h7,e7,o7,k7,l7⟩:=o5.wr0 (i:=1) (new:=[.int .i64 pid]) (by simp [setAt]) (by simp)
 have a7:=a5.keepB k7 fun i hi=>by rw [blk_at0] at hi; omega
 have z7:=z5.keepB k7 fun i hi=>by rw [blk_at0] at hi; omega
 have m7:=TmR.keep k7 (fun b h1 h2=>by have:=hp b h1; omega) _ _ _ (TmR.keep k5 (fun b h1 h2=>by have:=hp b h1; omega) _ _ _ (TmR.keep k03 (fun _ _ h=>h) _ _ _ hm))
 obtain ⟨cs,h12,e12,m12,k12⟩:=toTermD_run (base:=base) f h7 p t _ m7 hB (by omega) (fun b hbp=>by have:=hp b hbp; omega)
 have n12:=k12.1
 obtain ⟨k',n',s',a',m',rfl⟩:=m12.form
 obtain ⟨h18,e18,o18,k18,l18⟩:=(o7.keepN k12).wr0 (i:=2) (new:=termV k' n' s' a' m') (by simp [setAt]) (by simp)
 have z18:=(z7.keepN k12).keepB k18 fun i hi=>by rw [blk_at0] at hi; omega
 have m18:=TmD.kp _ _ _ _ _ _ _ k18 (fun b h1 h2=>by omega) m12
 have hout : setAt (setAt (setAt (saidV 0 0 0 0 ⟨#[]⟩ none 0) 0 [.int .i64 kind]) 1 [.int .i64 pid]) 2 (termV k' n' s' a' m') = saidV kind pid k' n' s' a' m':=rfl
 rw [hout] at o18
 obtain ⟨h25,e25,z25,k25,l25⟩:=z18.wr0 (i:=0) (new:=saidV kind pid k' n' s' a' m') (by simp) (by simp)
 have hz : setAt (saidV 0 0 0 0 ⟨#[]⟩ none 0) 0 (saidV kind pid k' n' s' a' m') = saidV kind pid k' n' s' a' m':=rfl
 rw [hz] at z25
 have m25:=TmD.kp _ _ _ _ _ _ _ k25 (fun b h1 h2=>by omega) m18
 have kAll : KB NoB h h25:=kFresh (kFresh (kFresh (kFresh (kFresh k03 k5 fun i hi=>by omega) k7 fun i hi=>by omega) k12 fun i hi=>hi.elim) k18 fun i hi=>by omega) k25 fun i hi=>by omega
 refine ⟨k',n',s',a',m',h25,Am.r121 (lets fun h1' eh=>?_),TmD.mo _ _ _ _ _ _ (fun b hb'=>by constructor <;> omega) m25,kAll⟩
 rw [hh1] at eh
 subst eh
 refine lets fun h2' eh=>?_
 rw [hh2] at eh
 subst eh
 refine lets fun h3' eh=>?_
 rw [hh3] at eh
 subst eh
 refine bI (a3.at0 (i:=0) rfl) (bs e5 (bI (a5.at0 (i:=1) rfl) (bs e7 ?_)))
 refine bI (a7.at0 (i:=2) rfl) (bI (a7.at0 (i:=3) rfl) (bT (a7.at0 (i:=4) rfl) (bS (a7.at0 (i:=5) rfl) ?_)))
 refine bs e12 (bs (v:=termV k' n' s' a' m') rfl (bI rfl (bI rfl (bT rfl (bS rfl (bs e18 ?_))))))
 refine bI (o18.at0 (i:=0) rfl) (bI (o18.at0 (i:=1) rfl) (bI (o18.at0 (i:=2) rfl) (bI (o18.at0 (i:=3) rfl) (bT (o18.at0 (i:=4) rfl) (bS (o18.at0 (i:=5) rfl) (bs e25 ?_))))))
 exact bI (z25.at0 (i:=0) rfl) (bI (z25.at0 (i:=1) rfl) (bI (z25.at0 (i:=2) rfl) (bI (z25.at0 (i:=3) rfl) (bT (z25.at0 (i:=4) rfl) (bS (z25.at0 (i:=5) rfl) rfl)))))
theorem toSaidSD_loop {base f : Nat} {p : Nat→Prop} {l : List Sd} {a : Option Addr} {ob : Nat} (hl : l.length≤1048576) (hB : ∀ x∈l,TmB f x.t) (hp : ∀ b,p b→b < ob) : ∀ (d i : Nat) (h : AH) (vs : List Value),i + d = l.length→SsR h p f l a→ob < h.length→base≤h.length→Own base 140 h (at0 ob) vs→vs.length = l.length * 6 →
  Chunks 6 (SdD f) (iS (ob + 1) h.length) h (l.take i) vs →
  ∃ h' vs',loopL (B62_0 base) [some (.slice a l.length l.length),some (.slice (at0 ob) l.length l.length),some (.int .i64 (i : Int))] h = some (2,[some (.slice (at0 ob) l.length l.length)],h')∧Own base 140 h' (at0 ob) vs'∧vs'.length = l.length * 6 ∧
   Chunks 6 (SdD f) (iS (ob + 1) h'.length) h' l vs'∧KB (· = ob) h h':=by
 intro d
 induction d with
 | zero=>
  intro i h vs hi hs ho hb ow hv hd
  rw [List.take_of_length_le (by omega)] at hd
  refine ⟨h,vs,?_,ow,hv,hd,KB.refl _ _⟩
  refine loop_off (by decide) ?_
  rw [B62_0_eq]
  exact ifF (by simp; omega) rfl
 | succ d ihd=>
  intro i h vs hi hs ho hb ow hv hd
  have hlt : i < l.length:=by omega
  obtain ⟨ad,k,n,s,a2,m,rfl,hbl,g0,g1,g2,g3,g4,g5,hm⟩:=hs.get hlt
  obtain ⟨k',n',s',a',m',h1,e1,m1,k1⟩:=toSaidD_run (base:=base) (kind:=l[i].kind) (pid:=l[i].pid) hm (hB _ (List.getElem_mem hlt)) hb (fun b hbp=>by have:=hp b hbp; omega)
  have n1:=k1.1
  obtain ⟨h2,w1,w2,w3,w4⟩:=(ow.keepN k1).wr0 (i:=i * 6) (new:=saidV l[i].kind l[i].pid k' n' s' a' m') (by simp; omega) (by simp)
  have kall : KB (· = ob) h h2:=kNB k1 w3
  have m2:=SdD.kp f _ _ _ _ l[i] (saidV l[i].kind l[i].pid k' n' s' a' m') w3 (fun b (hb' : iS h.length h1.length b) e=>by omega) ⟨_,_,_,_,_,rfl,m1⟩
  have ch:=(hd.keep (SdD.kp _) kall fun b hb' e=>by omega).snoc (vs':=setAt vs (i * 6) (saidV l[i].kind l[i].pid k' n' s' a' m')) (S':=iS (ob + 1) h2.length) m2 (fun b hb' hc=>by omega) (fun b hb'=>by constructor <;> omega) (fun b hb'=>by constructor <;> omega) (fun q hq=>chunk_setAt_other rfl (by omega) (by simp at hq; omega)) (by
   rw [List.length_take,Nat.min_eq_left (by omega)]
   exact chunk_setAt_self rfl (by omega))
  rw [← take_snoc hlt] at ch
  obtain ⟨h3,vs3,y1,y2,y3,y4,y5⟩:=ihd (i + 1) h2 (setAt vs (i * 6) (saidV l[i].kind l[i].pid k' n' s' a' m')) (by omega) (hs.keep kall fun b h1 h2=>by have:=hp b h1; omega) (by omega) (by omega) w2 (by simp [setAt]; omega) ch
  refine ⟨h3,vs3,?_,y2,y3,y4,KB.trans kall y5 (fun _ _ h=>h) (fun _ _ h=>h)⟩
  refine loop_on ?_ y1
  rw [B62_0_eq]
  refine ifT (decide_eq_true (by omega)) (ifT ⟨by omega,by omega⟩ (bs rfl ?_))
  simp only [Int.toNat_natCast]
  refine bI g0 (bI g1 (bI g2 (bI g3 (bT g4 (bS g5 ?_)))))
  refine bs e1 ?_
  refine bs (v:=saidV l[i].kind l[i].pid k' n' s' a' m') rfl (bI rfl (bI rfl (bI rfl (bI rfl (bT rfl (bS rfl ?_))))))
  refine ifT ⟨by omega,by omega⟩ (bs rfl ?_)
  have w1' : Am.wr base h1 ob (0 + i * 6) (saidV l[i].kind l[i].pid k' n' s' a' m') = some h2:=by rw [Nat.zero_add]; exact w1
  refine bs w1' ?_
  rw [w64i (n:=(i : Int) + 1) (by omega) (by omega)]
  rfl
theorem toSaidSD_run {base f : Nat} {h : AH} {p : Nat→Prop} {l : List Sd} {a : Option Addr} (hl : l.length≤1048576) (hB : ∀ x∈l,TmB f x.t) (hs : SsR h p f l a) (hb : base≤h.length) (hp : ∀ b,p b→b < h.length) :
  ∃ a' h',run (Et base) 62 [.slice a l.length l.length] h = some (.slice a' l.length l.length,h')∧RowO base 140 6 (SdD f) (iS h.length h'.length) h' l a'∧KB NoB h h':=by
 obtain ⟨o1,k1,q1⟩:=box_own (base:=base) (t:=140) (h:=h) (cs:=rep [(.int .i64 0),(.int .i64 0),(.int .i64 0),(.int .i64 0),(.string ⟨#[]⟩),(.slice none 0 0)] l.length) hb rfl
 generalize hh1 : h++[some (⟨rep [(.int .i64 0),(.int .i64 0),(.int .i64 0),(.int .i64 0),(.string ⟨#[]⟩),(.slice none 0 0)] l.length,140⟩ : Blk)] = h1 at o1 k1 q1
 obtain ⟨h2,vs2,e2,o2,v2,m2,k2⟩:=toSaidSD_loop (base:=base) (p:=p) (ob:=h.length) hl hB hp l.length 0 h1 _ (by omega) (hs.keep k1 fun _ _ h=>h) (by omega) (by omega) o1 (rep_len6 ..) Chunks.nil
 have n2:=k2.1
 refine ⟨at0 h.length,h2,Am.r62 ?_,⟨vs2,iS (h.length + 1) h2.length,o2,v2,fun b hb'=>by rw [blk_at0] at hb'; subst hb'; exact ⟨by constructor <;> omega,by omega⟩,fun b hb'=>by constructor <;> omega,m2⟩,KB.trans k1 k2 (fun _ _ h=>h) (fun i hi h=>by omega)⟩
 refine ifT ⟨rfl,by omega,by omega,by omega⟩ (lets fun h1' eh=>?_)
 simp only [Int.toNat_natCast] at eh ⊢
 rw [hh1] at eh
 subst eh
 rw [show ((0 : Nat) : Int) = 0 from rfl] at e2
 exact bs e2 (ifT rfl (bS rfl rfl))
theorem markSaidS_loop {base f n : Nat} (hn : n≤maxLen) {S : Fp} {a : Option Addr} : ∀ (r done : List Sd) (h : AH) (k : Int),done.length + r.length = n→RowD 6 (SdD f) S h (done++r) a→(∀ b,S b→base≤b∧b < h.length)→0≤k→k + mcT f r≤1000000000 →
  ∃ r' h',loopL (B73_0 base) [some (.slice a n n),some (.int .i64 k),some (.int .i64 (done.length : Int))] h = some (2,[some (.int .i64 (k + mcT f r))],h')∧RowD 6 (SdD f) S h' (done++r') a∧r'.length = r.length∧IsMT r' k (k + mcT f r)∧KB S h h':=by
 simp only [maxLen] at hn
 intro r
 induction r with
 | nil=>
  intro done h k hd hr hS h0 hk
  refine ⟨[],h,?_,hr,rfl,?_,KB.refl _ _⟩
  ·refine loop_off (by decide) ?_
   rw [B73_0_eq]
   refine ifF (by simp at hd ⊢; omega) ?_
   simp [mcT,sumL]
  ·simp only [mcT,sumL,List.length_nil]
   have : k + ((5 * 0 + 3 * 0 : Nat) : Int) = k:=by omega
   rw [this]
   exact .nil k
 | cons t r ihr=>
  intro done h k hd hr hS h0 hk
  simp only [List.length_cons] at hd
  have hlt : done.length < (done++t :: r).length:=by simp
  obtain ⟨Ci,cs,fo,hP,hcl,hsub,hdis⟩:=hr.open (by decide) hlt
  rw [get_split hlt] at hP
  obtain ⟨kind,pid,tt⟩:=t
  obtain ⟨kk,nn,ss,a2,m,ecs,hP⟩:=hP
  cases f with
  | zero=>exact hP.elim
  | succ f=>
   obtain ⟨kk',nn',ss',l⟩:=tt
   obtain ⟨hs1,hl1,a3,ecs2,hrow⟩:=hP
   injection ecs2 with q0 ecs2
   injection ecs2 with q1 ecs2
   injection ecs2 with q2 ecs2
   injection ecs2 with q3 _
   injection q0 with _ q0; injection q1 with _ q1; injection q2 with q2; injection q3 with q3 q4 _
   subst q0; subst q1; subst q2; subst q3; subst q4
   subst ecs
   have hcnt : mcT (f + 1) (⟨kind,pid,.mk kk nn ss l⟩ :: r) = 5 + 3 * ((l.length + sumL (tcnt f) l : Nat) : Int) + mcT (f + 1) r:=by
    simp only [mcT,sumL,tcnt,List.length_cons]; omega
   rw [hcnt] at hk ⊢
   have hr0 : 0≤mcT (f + 1) r:=by unfold mcT; omega
   have hbS : ∀ b,S b→base≤b:=fun b hb=>(hS b hb).1
   obtain ⟨ad,h1,rfl,w1,fo1,k1,n1⟩:=fo.wr (SdD.kp _) hbS (j:=0) (new:=[.int .i64 k]) (by simp) (by simp)
   obtain ⟨ad',h2,ead,w2,fo2,k2,n2⟩:=fo1.wr (SdD.kp _) hbS (j:=1) (new:=[.int .i64 (k + 1)]) (by simp) (by simp)
   injection ead with ead
   subst ead
   obtain ⟨ad',h2',ead,w2',fo2',k2',n2'⟩:=fo2.wr (SdD.kp _) hbS (j:=2) (new:=[.int .i64 (k + 1 + 1)]) (by simp) (by simp)
   injection ead with ead
   subst ead
   obtain ⟨ad',h2'',ead,w2'',fo2'',k2'',n2''⟩:=fo2'.wr (SdD.kp _) hbS (j:=3) (new:=[.int .i64 (k + 1 + 1 + 1)]) (by simp) (by simp)
   injection ead with ead
   subst ead
   obtain ⟨h3,e3,k3⟩:=markText_run (base:=base) (h:=h2'') (k:=k + 1 + 1 + 1 + 1) (by omega)
   have n3:=k3.1
   have fo3:=fo2''.keep (SdD.kp _) k3 fun _ _ h=>h.elim
   obtain ⟨ad',h4,ead,w4,fo4,k4,n4⟩:=fo3.wr (SdD.kp _) hbS (j:=4) (new:=[.string (mt (k + 1 + 1 + 1 + 1))]) (by simp) (by simp)
   injection ead with ead
   subst ead
   have ecs : setAt (setAt (setAt (setAt (setAt (saidV kind pid kk nn ss a2 l.length) 0 [.int .i64 k]) 1 [.int .i64 (k + 1)]) 2 [.int .i64 (k + 1 + 1)]) 3 [.int .i64 (k + 1 + 1 + 1)]) 4 [.string (mt (k + 1 + 1 + 1 + 1))] = saidV k (k + 1) (k + 1 + 1) (k + 1 + 1 + 1) (mt (k + 1 + 1 + 1 + 1)) a2 l.length:=rfl
   rw [ecs] at fo4
   obtain ⟨ad',ead,g4⟩:=fo4.cell (j:=5) (v:=.slice a2 l.length l.length) rfl
   injection ead with ead
   subst ead
   have kA : KB (blk (some ad)) h h4:=KB.trans (KB.trans (KB.trans (KB.trans (KB.trans k1 k2 (fun _ _ h=>h) (fun _ _ h=>h)) k2' (fun _ _ h=>h) (fun _ _ h=>h)) k2'' (fun _ _ h=>h) (fun _ _ h=>h)) k3 (fun _ _ h=>h) (fun _ _ h=>h.elim)) k4 (fun _ _ h=>h) (fun _ _ h=>h)
   have hrow4 : RowD 4 (TmD f) Ci h4 l a2:=hrow.keep (TmD.kp _) kA fun b hb hk=>hdis b hk hb
   obtain ⟨l',h5,e5,row5,len5,m5,k5⟩:=markTermS_run (base:=base) f l h4 Ci a2 (k + 1 + 1 + 1 + 1 + 1) hrow4 hl1 (fun b hb=>⟨(hS b (hsub b hb)).1,by have:=(hS b (hsub b hb)).2; have:=kA.1; omega⟩) (by omega) (by omega)
   have fo5:=fo4.keep (SdD.kp _) k5 fun b _ hb=>hb
   have hr5:=fo5.close (y:=⟨k,k + 1,.mk (k + 1 + 1) (k + 1 + 1 + 1) (mt (k + 1 + 1 + 1 + 1)) l'⟩) ⟨_,_,_,_,_,rfl,by have:=mt_size (k + 1 + 1 + 1 + 1); simp only [maxLen]; omega,by rw [len5]; exact hl1,a2,by rw [len5],row5⟩
   rw [set_split,show done++(⟨k,k + 1,.mk (k + 1 + 1) (k + 1 + 1 + 1) (mt (k + 1 + 1 + 1 + 1)) l'⟩ : Sd) :: r = (done++[(⟨k,k + 1,.mk (k + 1 + 1) (k + 1 + 1 + 1) (mt (k + 1 + 1 + 1 + 1)) l'⟩ : Sd)])++r from by simp] at hr5
   have kB : KB S h h5:=KB.trans kA k5 (fun b _ hb=>by
    obtain ⟨vs,T,C,_,_,x3,_⟩:=fo
    exact (x3 b hb).1) (fun b _ hb=>hsub b hb)
   obtain ⟨r',h6,e6,row6,len6,m6,k6⟩:=ihr (done++[(⟨k,k + 1,.mk (k + 1 + 1) (k + 1 + 1 + 1) (mt (k + 1 + 1 + 1 + 1)) l'⟩ : Sd)]) h5 (k + 1 + 1 + 1 + 1 + 1 + 3 * ((l.length + sumL (tcnt f) l : Nat) : Int)) (by simp; omega) hr5 (fun b hb=>⟨(hS b hb).1,by have:=(hS b hb).2; have:=kB.1; omega⟩) (by omega) (by omega)
   have ek : k + 1 + 1 + 1 + 1 + 1 + 3 * ((l.length + sumL (tcnt f) l : Nat) : Int) + mcT (f + 1) r = k + (5 + 3 * ((l.length + sumL (tcnt f) l : Nat) : Int) + mcT (f + 1) r):=by omega
   rw [ek] at e6 m6
   refine ⟨⟨k,k + 1,.mk (k + 1 + 1) (k + 1 + 1 + 1) (mt (k + 1 + 1 + 1 + 1)) l'⟩ :: r',h6,?_,by simpa using row6,by simp [len6],?_,KB.trans kB k6 (fun _ _ h=>h) (fun _ _ h=>h)⟩
   ·refine loop_on ?_ e6
    rw [B73_0_eq]
    have hlt' : (done.length : Int) < (n : Int):=by omega
    refine ifT (decide_eq_true hlt') (ifT ⟨by omega,hlt'⟩ (bs rfl ?_))
    simp only [Int.toNat_natCast]
    refine bs w1 (ifT ⟨by omega,hlt'⟩ (bs rfl ?_))
    rw [w64i (n:=k + 1) (by omega) (by omega)]
    refine bs w2 (ifT ⟨by omega,hlt'⟩ (bs rfl ?_))
    rw [w64i (n:=k + 1 + 1) (by omega) (by omega)]
    refine bs w2' (ifT ⟨by omega,hlt'⟩ (bs rfl ?_))
    rw [w64i (n:=k + 1 + 1 + 1) (by omega) (by omega)]
    refine bs w2'' ?_
    rw [w64i (n:=k + 1 + 1 + 1 + 1) (by omega) (by omega)]
    refine bs e3 (bT rfl (ifT ⟨by omega,hlt'⟩ (bs rfl (bs w4 (ifT ⟨by omega,hlt'⟩ (bs rfl (bS g4 ?_)))))))
    rw [w64i (n:=k + 1 + 1 + 1 + 1 + 1) (by omega) (by omega)]
    refine bs e5 (bI rfl ?_)
    rw [w64i (n:=(done.length : Int) + 1) (by omega) (by omega)]
    simp
   ·rw [show k + 1 + 1 + 1 + 1 + 1 = k + 5 from by omega] at m5 m6
    rw [show k + 1 + 1 + 1 + 1 = k + 4 from by omega,show k + 1 + 1 + 1 = k + 3 from by omega,show k + 1 + 1 = k + 2 from by omega]
    exact .cons m5 m6
theorem markSaidS_run {base f : Nat} {l : List Sd} {h : AH} {S : Fp} {a : Option Addr} {k : Int} (hr : RowD 6 (SdD f) S h l a) (hl : l.length≤maxLen) (hS : ∀ b,S b→base≤b∧b < h.length) (h0 : 0≤k) (hk : k + mcT f l≤1000000000) :
  ∃ l' h',run (Et base) 73 [.slice a l.length l.length,.int .i64 k] h = some (.int .i64 (k + mcT f l),h')∧RowD 6 (SdD f) S h' l' a∧l'.length = l.length∧IsMT l' k (k + mcT f l)∧KB S h h':=by
 obtain ⟨l',h',e,row,len,m,kk⟩:=markSaidS_loop (base:=base) hl l [] h k (by simp) (by simpa using hr) hS h0 hk
 exact ⟨l',h',Am.r73 (bs e (ifT rfl (bI rfl rfl))),by simpa using row,len,m,kk⟩
theorem heldSaidS_loop {base : Nat} : ∀ {r : List Sd} {k k' : Int},IsMT r k k'→0≤k→k'≤1000000000→∀ (f : Nat) (h : AH) (p : Nat→Prop) (L : List Sd) (i : Nat) (a : Option Addr),L.drop i = r→i≤L.length→L.length≤9223372036854775807→SsR h p f L a→base≤h.length →
  ∃ h',loopL (B77_0 base) [some (.slice a L.length L.length),some (.int .i64 k),some (.int .i64 (i : Int))] h = some (2,[some (.int .i64 k')],h')∧KB NoB h h':=by
 intro r k k' hm
 induction hm with
 | nil k=>
  intro h0 hk f h p L i a hr hi hL hs hb
  refine ⟨h,?_,KB.refl _ _⟩
  refine loop_off (by decide) ?_
  rw [B77_0_eq]
  have : L.length≤i:=by simpa using hr
  exact ifF (by simp; omega) rfl
 | @cons k k1 k2 l r m1 m2 ih2=>
  intro h0 hk f h p L i a hr hi hL hs hb
  have le1:=m1.le
  have le2:=m2.le
  have hlt : i < L.length:=by
   rcases Nat.lt_or_ge i L.length with h|h
   ·exact h
   ·rw [List.drop_eq_nil_of_le h] at hr; cases hr
  rw [List.drop_eq_getElem_cons hlt] at hr
  injection hr with hr1 hr2
  obtain ⟨ad,kk,nn,ss,a2,m,rfl,hbl,g0,g1,g2,g3,g4,g5,hmm⟩:=hs.get hlt
  rw [hr1] at hmm g0 g1
  cases f with
  | zero=>exact hmm.elim
  | succ f=>
   obtain ⟨a3,ecs,hts,_,hl2⟩:=hmm.parts
   simp only [maxLen] at hl2
   injection ecs with q0 ecs
   injection ecs with q1 ecs
   injection ecs with q2 ecs
   injection ecs with q3 _
   injection q0 with _ q0; injection q1 with _ q1; injection q2 with q2; injection q3 with q3 q4 _
   subst q0; subst q1; subst q2; subst q3; subst q4
   obtain ⟨h1,e1,kk1⟩:=markText_run (base:=base) (h:=h) (k:=k + 1 + 1 + 1 + 1) (by omega)
   have n1:=kk1.1
   obtain ⟨h2,e2,kk2⟩:=heldTermS_run (base:=base) m1 (by omega) (by omega) (by omega) (hts.keep kk1 fun _ _ h=>h) (by omega)
   have kk02 : KB NoB h h2:=kN kk1 kk2
   have n2:=kk02.1
   obtain ⟨h3,e3,kk3⟩:=ih2 (by omega) hk (f + 1) h2 p L (i + 1) (some ad) hr2 (by omega) hL (hs.keep kk02 fun _ _ h=>h) (by omega)
   refine ⟨h3,?_,kN kk02 kk3⟩
   refine loop_on ?_ e3
   rw [B77_0_eq]
   have hlt' : (i : Int) < (L.length : Int):=by omega
   refine ifT (decide_eq_true hlt') (ifT ⟨by omega,hlt'⟩ (bs rfl ?_))
   simp only [Int.toNat_natCast]
   refine bI g0 (ifF (by simp) (ifT ⟨by omega,hlt'⟩ (bs rfl (bI g1 ?_))))
   rw [w64i (n:=k + 1) (by omega) (by omega)]
   refine ifF (by simp) (ifT ⟨by omega,hlt'⟩ (bs rfl (bI g2 ?_)))
   rw [w64i (n:=k + 1 + 1) (by omega) (by omega)]
   refine ifF (by simp; omega) (ifT ⟨by omega,hlt'⟩ (bs rfl (bI g3 ?_)))
   rw [w64i (n:=k + 1 + 1 + 1) (by omega) (by omega)]
   refine ifF (by simp; omega) (ifT ⟨by omega,hlt'⟩ (bs rfl (bT g4 ?_)))
   rw [w64i (n:=k + 1 + 1 + 1 + 1) (by omega) (by omega)]
   refine bs e1 (bT rfl ?_)
   rw [gate_pos (same_keep kk1 g4)]
   refine ifF (by rw [show k + 1 + 1 + 1 + 1 = k + 4 from by omega]; simp) (ifT ⟨by omega,hlt'⟩ (bs rfl (bS (cell_keep kk1 g5) ?_)))
   rw [w64i (n:=k + 1 + 1 + 1 + 1 + 1) (by omega) (by omega),show k + 1 + 1 + 1 + 1 + 1 = k + 5 from by omega]
   refine bs e2 (bI rfl (ifF (by simp; omega) ?_))
   rw [w64i (n:=(i : Int) + 1) (by omega) (by omega)]
   simp
theorem heldSaidS_run {base f : Nat} {l : List Sd} {k k' : Int} (m : IsMT l k k') (h0 : 0≤k) (hk : k'≤1000000000) {h : AH} {p : Nat→Prop} {a : Option Addr} (hl : l.length≤9223372036854775807) (hs : SsR h p f l a) (hb : base≤h.length) :
  ∃ h',run (Et base) 77 [.slice a l.length l.length,.int .i64 k] h = some (.int .i64 k',h')∧KB NoB h h':=by
 obtain ⟨h',e,kk⟩:=heldSaidS_loop (base:=base) m h0 hk f h p l 0 a (by simp) (by omega) hl hs hb
 rw [show ((0 : Nat) : Int) = 0 from rfl] at e
 exact ⟨h',Am.r77 (bs e (ifF (by simp) (ifT rfl (bI rfl rfl)))),kk⟩
structure Pl where
 code : List In
 acs : List Ac
 next : Int
 out : List Sd
abbrev plV (a : Option Addr) (n : Nat) (b : Option Addr) (m : Nat) (v : Int) (g : Option Addr) (q : Nat) : List Value:=[.slice a n n,.slice b m m,.int .i64 v,.slice g q q]
def PlR (h : AH) (p : Nat→Prop) (f : Nat) (P : Pl) (cs : List Value) : Prop:=
 ∃ a b g,cs = plV a P.code.length b P.acs.length P.next g P.out.length∧Sl h a (insR P.code)∧(insR P.code = []∨∀ x,blk a x→p x)∧AsR h p f P.acs b∧SsR h p f P.out g
def PlM (P : Pl) : Prop:=P.code.length≤9223372036854775807∧(∀ x∈P.code,x.s.size≤9223372036854775807)∧P.acs.length≤9223372036854775807∧(∀ A∈P.acs,AcM A)∧P.out.length≤9223372036854775807
def PlB (f : Nat) (P : Pl) : Prop:=P.code.length≤1048576∧(∀ x∈P.code,x.s.size≤1048576)∧P.acs.length≤1048576∧(∀ A∈P.acs,AcB f A)∧P.out.length≤1048576∧(∀ x∈P.out,TmB f x.t)
theorem PlB.M {f : Nat} {P : Pl} (x : PlB f P) : PlM P:=by
 obtain ⟨h1,h2,h3,h4,h5,_⟩:=x
 exact ⟨by omega,fun x hx=>by have:=h2 x hx; omega,by omega,fun A hA=>(h4 A hA).M,by omega⟩
def PlD (base f : Nat) (S : Fp) (h : AH) (P : Pl) (cs : List Value) : Prop:=
 ∃ (a b g : Option Addr) (S1 S2 S3 : Fp),cs = plV a P.code.length b P.acs.length P.next g P.out.length∧Own base 143 h a (insR P.code)∧(∀ x,blk a x→S1 x)∧RowD 5 (AcD base f) S2 h P.acs b∧RowD 6 (SdD f) S3 h P.out g ∧
  (∀ x,S1 x→S x)∧(∀ x,S2 x→S x)∧(∀ x,S3 x→S x)∧(∀ x,S1 x→¬ S2 x)∧(∀ x,S1 x→¬ S3 x)∧(∀ x,S2 x→¬ S3 x)
def PlG (base f : Nat) (S : Fp) (h : AH) (P : Pl) (cs : List Value) : Prop:=
 ∃ (a b g : Option Addr) (S1 S2 S3 : Fp),cs = plV a P.code.length b P.acs.length P.next g P.out.length∧Own base 143 h a (insR P.code)∧(∀ x,blk a x→S1 x)∧RowO base 54 5 (AcG base f) S2 h P.acs b∧RowO base 140 6 (SdD f) S3 h P.out g ∧
  (∀ x,S1 x→S x)∧(∀ x,S2 x→S x)∧(∀ x,S3 x→S x)∧(∀ x,S1 x→¬ S2 x)∧(∀ x,S1 x→¬ S3 x)∧(∀ x,S2 x→¬ S3 x)
theorem PlG.plD {base f : Nat} {S : Fp} {h : AH} {P : Pl} {cs : List Value} (x : PlG base f S h P cs) : PlD base f S h P cs:=by
 obtain ⟨a,b,g,S1,S2,S3,e,h1,h2,h3,h4,h5⟩:=x
 exact ⟨a,b,g,S1,S2,S3,e,h1,h2,h3.d.imp fun _ _ _ _=>AcG.acD,h4.d,h5⟩
theorem PlG.kp (base f : Nat) : Kp (PlG base f):=fun S U h h' P cs k hs x=>by
 obtain ⟨a,b,g,S1,S2,S3,e,h1,h2,h3,h4,s1,s2,s3,d1,d2,d3⟩:=x
 exact ⟨a,b,g,S1,S2,S3,e,h1.keep k fun b hb=>hs b (s1 b (h2 b hb)),h2,h3.keep (AcG.kp _ _) k fun b hb=>hs b (s2 b hb),h4.keep (SdD.kp _) k fun b hb=>hs b (s3 b hb),s1,s2,s3,d1,d2,d3⟩
theorem SsR.monoP {h : AH} {p r : Nat→Prop} {f : Nat} {l : List Sd} {a : Option Addr} (x : SsR h p f l a) (hq : ∀ b,p b→r b) : SsR h r f l a:=by
 obtain ⟨vs,h1,h2,h3,h4⟩:=x
 exact ⟨vs,h1,h2.imp id fun g b hb=>hq b (g b hb),h3,fun i t hi=>by
  obtain ⟨cs,e,hm⟩:=h4 i t hi
  exact ⟨cs,e,hm.mono hq _ _ _⟩⟩
theorem AsR.monoP {h : AH} {p r : Nat→Prop} {f : Nat} {l : List Ac} {a : Option Addr} (x : AsR h p f l a) (hq : ∀ b,p b→r b) : AsR h r f l a:=by
 obtain ⟨vs,h1,h2,h3,h4⟩:=x
 exact ⟨vs,h1,h2.imp id fun g b hb=>hq b (g b hb),h3,fun i t hi=>(h4 i t hi).mono hq⟩
theorem PlR.keep {h h' : AH} {p S : Nat→Prop} (k : KB S h h') (hp : ∀ b,p b→¬ S b) {f : Nat} {P : Pl} {cs : List Value} (x : PlR h p f P cs) : PlR h' p f P cs:=by
 obtain ⟨a,b,g,e,h1,h2,h3,h4⟩:=x
 refine ⟨a,b,g,e,?_,h2,h3.keep k hp,h4.keep k hp⟩
 rcases h2 with e|h2
 ·exact .inl e
 ·exact h1.keep k fun b hb hs=>hp b (h2 b hb) hs
theorem PlD.plR {base f : Nat} {S : Fp} {h : AH} {P : Pl} {cs : List Value} (x : PlD base f S h P cs) : PlR h S f P cs:=by
 obtain ⟨a,b,g,S1,S2,S3,e,h1,h2,h3,h4,s1,s2,s3,_⟩:=x
 exact ⟨a,b,g,e,h1.sl,.inr fun x hx=>s1 x (h2 x hx),h3.asR.monoP s2,h4.ssR.monoP s3⟩
theorem PlD.kp (base f : Nat) : Kp (PlD base f):=fun S U h h' P cs k hs x=>by
 obtain ⟨a,b,g,S1,S2,S3,e,h1,h2,h3,h4,s1,s2,s3,d1,d2,d3⟩:=x
 exact ⟨a,b,g,S1,S2,S3,e,h1.keep k fun b hb=>hs b (s1 b (h2 b hb)),h2,h3.keep (AcD.kp _ _) k fun b hb=>hs b (s2 b hb),h4.keep (SdD.kp _) k fun b hb=>hs b (s3 b hb),s1,s2,s3,d1,d2,d3⟩
theorem PlD.form {base f : Nat} {S : Fp} {h : AH} {P : Pl} {cs : List Value} (x : PlD base f S h P cs) : ∃ a n b m v g q,cs = plV a n b m v g q:=by
 obtain ⟨a,b,g,S1,S2,S3,e,_⟩:=x
 exact ⟨_,_,_,_,_,_,_,e⟩
theorem PlG.plR {base f : Nat} {S : Fp} {h : AH} {P : Pl} {cs : List Value} (x : PlG base f S h P cs) : PlR h S f P cs:=x.plD.plR
theorem PlG.form {base f : Nat} {S : Fp} {h : AH} {P : Pl} {cs : List Value} (x : PlG base f S h P cs) : ∃ a n b m v g q,cs = plV a n b m v g q:=x.plD.form
theorem szPlain_run {base f : Nat} {h : AH} {p : Nat→Prop} {P : Pl} {cs : List Value} (hM : PlM P) (x : PlR h p f P cs) (hb : base≤h.length) (hp : ∀ b,p b→b < h.length) :
  ∃ z h',run (Et base) 11 [.agg cs.toArray,.int .i64 1048576] h = some (.int .i64 z,h')∧KB NoB h h'∧(¬ z < 0→PlB f P∧((P.acs.length + sumL (acnt f) P.acs : Nat) : Int) + ((P.out.length + sumL (fun x=>tcnt f x.t) P.out : Nat) : Int)≤1048576∧0≤z∧z + ((P.acs.length + sumL (acnt f) P.acs : Nat) : Int) + ((P.out.length + sumL (fun x=>tcnt f x.t) P.out : Nat) : Int)≤1048576):=by
 obtain ⟨a,b,g,rfl,hr,_,hx,ho⟩:=x
 obtain ⟨m1,m2,m3,m4,m5⟩:=hM
 obtain ⟨o1,k1,q1⟩:=box_own (base:=base) (t:=26) (h:=h) (cs:=plV a P.code.length b P.acs.length P.next g P.out.length) hb rfl
 generalize hh1 : h++[some (⟨plV a P.code.length b P.acs.length P.next g P.out.length,26⟩ : Blk)] = h1' at o1 k1 q1
 obtain ⟨z2,h2,e2,k2,y⟩:=szInsS_run (base:=base) (h:=h1') m2 m1 (hr.keepN k1) (by omega)
 have n2:=k2.1
 have k02:=kN k1 k2
 have go : ∀ {r : Value × AH},((if (decide (z2 < (0 : Int))) = true then some (.int .i64 (-1 : Int),h2) else ((cell h2 (List.length h) 1).bind getS).bind fun l5=>(run (Et base) 54 [(.slice l5.1 l5.2 l5.2),(.int .i64 z2)] h2).bind fun r6=>((some r6.1).bind (getI .i64)).bind fun n7=>
   (if (decide (n7 < (0 : Int))) = true then some ((.int .i64 (-1 : Int)),r6.2) else ((cell r6.2 (List.length h) 3).bind getS).bind fun l8=>(run (Et base) 55 [(.slice l8.1 l8.2 l8.2),(.int .i64 n7)] r6.2).bind fun r9=>((some r9.1).bind (getI .i64)).bind fun n10=>(if (decide (n10 < (0 : Int))) = true then some ((.int .i64 (-1 : Int)),r9.2) else some ((.int .i64 n10),r9.2)))) = some r) →
   run (Et base) 11 [.agg (plV a P.code.length b P.acs.length P.next g P.out.length).toArray,.int .i64 1048576] h = some r:=by
  intro r hr
  refine Am.r11 (lets fun y ey=>?_)
  rw [hh1] at ey
  rw [ey]
  exact bS (o1.at0 (i:=0) rfl) (bs e2 (bI rfl hr))
 by_cases c2 : z2 < 0
 ·exact ⟨-1,h2,go (ifT (decide_eq_true c2) rfl),k02,fun h=>absurd (by decide) h⟩
 obtain ⟨b1,b2,b3⟩:=y c2
 obtain ⟨z3,h3,e3,k3,u1,u2,u3⟩:=szActorS_run (base:=base) (left:=z2) m3 m4 (hx.keep k02 fun _ _ h=>h) (by omega) (fun b hb=>by have:=hp b hb; omega) (by omega) (by omega)
 have n3:=k3.1
 have k03:=kN k02 k3
 by_cases c3 : z3 < 0
 ·exact ⟨-1,h3,go (ifF (by simpa using c2) (bS ((o1.keepN k2).at0 (i:=1) rfl) (bs e3 (bI rfl (ifT (decide_eq_true c3) rfl))))),k03,fun h=>absurd (by decide) h⟩
 obtain ⟨d1,d2,d3⟩:=u3 c3
 obtain ⟨z4,h4,e4,k4,v1,v2,v3⟩:=szSaidS_any (base:=base) (left:=z3) m5 (ho.keep k03 fun _ _ h=>h) (by omega) (fun b hb=>by have:=hp b hb; omega) (by omega) (by omega)
 have k04:=kN k03 k4
 by_cases c4 : z4 < 0
 ·exact ⟨-1,h4,go (ifF (by simpa using c2) (bS ((o1.keepN k2).at0 (i:=1) rfl) (bs e3 (bI rfl (ifF (by simpa using c3) (bS (((o1.keepN k2).keepN k3).at0 (i:=3) rfl) (bs e4 (bI rfl (ifT (decide_eq_true c4) rfl))))))))),k04,fun h=>absurd (by decide) h⟩
 ·obtain ⟨w1,w2,w3⟩:=v3 c4
  exact ⟨z4,h4,go (ifF (by simpa using c2) (bS ((o1.keepN k2).at0 (i:=1) rfl) (bs e3 (bI rfl (ifF (by simpa using c3) (bS (((o1.keepN k2).keepN k3).at0 (i:=3) rfl) (bs e4 (bI rfl (ifF (by simpa using c4) rfl))))))))),k04,fun _=>⟨⟨b1,b2,d1,d2,w1,w2⟩,by omega,by omega,by omega⟩⟩
theorem eqPlain_run {base f f2 : Nat} {h : AH} {p p2 : Nat→Prop} {P : Pl} {cs cs2 : List Value} (hM : PlM P) (hL : ∀ A∈P.acs,A.Le) (x : PlR h p f P cs) (x2 : PlR h p2 f2 P cs2) (hb : base≤h.length) :
  ∃ h',run (Et base) 17 [.agg cs.toArray,.agg cs2.toArray] h = some (.bool true,h')∧KB NoB h h':=by
 obtain ⟨a,b,g,rfl,hr,_,hx,ho⟩:=x
 obtain ⟨a2,b2,g2,rfl,hr2,_,hx2,ho2⟩:=x2
 obtain ⟨m1,m2,m3,m4,m5⟩:=hM
 obtain ⟨o1,k1,q1⟩:=box_own (base:=base) (t:=36) (h:=h) (cs:=plV a P.code.length b P.acs.length P.next g P.out.length) hb rfl
 generalize hh1 : h++[some (⟨plV a P.code.length b P.acs.length P.next g P.out.length,36⟩ : Blk)] = h1 at o1 k1 q1
 obtain ⟨o2,k2,q2⟩:=box_own (base:=base) (t:=36) (h:=h1) (cs:=plV a2 P.code.length b2 P.acs.length P.next g2 P.out.length) (by omega) rfl
 generalize hh2 : h1++[some (⟨plV a2 P.code.length b2 P.acs.length P.next g2 P.out.length,36⟩ : Blk)] = h2 at o2 k2 q2
 have k02:=kN k1 k2
 have o1:=o1.keepN k2
 obtain ⟨h3,e3,k3⟩:=eqInsS_run (base:=base) (h:=h2) m1 (hr.keepN k02) (hr2.keepN k02) (by omega)
 have k03:=kN k02 k3
 have n3:=k3.1
 obtain ⟨h4,e4,k4⟩:=eqActorS_run (base:=base) m3 hL (hx.keepN k03) (hx2.keepN k03) (by omega)
 have k04:=kN k03 k4
 have n4:=k4.1
 obtain ⟨h5,e5,k5⟩:=eqSaidS_run (base:=base) m5 (ho.keep k04 fun _ _ h=>h) (ho2.keep k04 fun _ _ h=>h) (by omega)
 refine ⟨h5,Am.r17 (lets fun y ey=>?_),kN k04 k5⟩
 rw [hh1] at ey
 subst ey
 refine lets fun y ey=>?_
 rw [hh2] at ey
 subst ey
 refine bS (o1.at0 (i:=0) rfl) (bS (o2.at0 (i:=0) rfl) (bs e3 (bB rfl (ifF (by decide) ?_))))
 refine bS ((o1.keepN k3).at0 (i:=1) rfl) (bS ((o2.keepN k3).at0 (i:=1) rfl) (bs e4 (bB rfl (ifF (by decide) ?_))))
 refine bI (((o1.keepN k3).keepN k4).at0 (i:=2) rfl) (bI (((o2.keepN k3).keepN k4).at0 (i:=2) rfl) (ifF (by simp) ?_))
 exact bS (((o1.keepN k3).keepN k4).at0 (i:=3) rfl) (bS (((o2.keepN k3).keepN k4).at0 (i:=3) rfl) (bs e5 (bB rfl (ifF (by decide) rfl))))
theorem toPlain_run {base f : Nat} {h : AH} {p : Nat→Prop} {P : Pl} {cs : List Value} (hB : PlB f P) (x : PlR h p f P cs) (hb : base≤h.length) (hp : ∀ b,p b→b < h.length) :
  ∃ cs' h',run (Et base) 14 [.agg cs.toArray] h = some (.agg cs'.toArray,h')∧PlG base f (iS h.length h'.length) h' P cs'∧KB NoB h h':=by
 obtain ⟨a,b,g,rfl,hr,hrp,hx,ho⟩:=x
 obtain ⟨m1,m2,m3,m4,m5,m6⟩:=hB
 obtain ⟨o1,k1,q1⟩:=box_own (base:=base) (t:=26) (h:=h) (cs:=plV a P.code.length b P.acs.length P.next g P.out.length) hb rfl
 generalize hh1 : h++[some (⟨plV a P.code.length b P.acs.length P.next g P.out.length,26⟩ : Blk)] = h1 at o1 k1 q1
 obtain ⟨o2,k2,q2⟩:=box_own (base:=base) (t:=36) (h:=h1) (cs:=plV none 0 none 0 0 none 0) (by omega) rfl
 generalize hh2 : h1++[some (⟨plV none 0 none 0 0 none 0,36⟩ : Blk)] = h2 at o2 k2 q2
 obtain ⟨o3,k3,q3⟩:=box_own (base:=base) (t:=36) (h:=h2) (cs:=plV none 0 none 0 0 none 0) (by omega) rfl
 generalize hh3 : h2++[some (⟨plV none 0 none 0 0 none 0,36⟩ : Blk)] = h3 at o3 k3 q3
 have p3:=(o1.keepN k2).keepN k3
 have z3:=o2.keepN k3
 have k03:=kN (kN k1 k2) k3
 have nb1 : ∀ {i},blk (at0 h.length) i→i≠h2.length:=fun hi=>by rw [blk_at0] at hi; omega
 have nb2 : ∀ {i},blk (at0 h1.length) i→i≠h2.length:=fun hi=>by rw [blk_at0] at hi; omega
 obtain ⟨h4,e4,r4,k4,l4⟩:=toInsS_run (base:=base) m1 (hr.keepN k03) (by omega)
 have n4:=k4.1
 obtain ⟨h5,e5,o5,k5,l5⟩:=(o3.keepN k4).wr0 (i:=0) (new:=[.slice (at0 h3.length) P.code.length P.code.length]) (by simp) (by simp)
 have p5:=(p3.keepN k4).keepB k5 fun i hi=>nb1 hi
 have z5:=(z3.keepN k4).keepB k5 fun i hi=>nb2 hi
 have r5:=r4.keepB k5 fun b hb=>by rw [blk_at0] at hb; omega
 have k05 : KB NoB h h5:=kFresh (kN k03 k4) k5 fun i hi=>by omega
 obtain ⟨a6,h6,e6,r6,k6⟩:=toActorS_run (base:=base) m3 m4 (hx.keepN k05) (by omega) (fun b hb=>by have:=hp b hb; omega)
 have n6:=k6.1
 obtain ⟨h7,e7,o7,k7,l7⟩:=(o5.keepN k6).wr0 (i:=1) (new:=[.slice a6 P.acs.length P.acs.length]) (by simp [setAt]) (by simp)
 have p7:=(p5.keepN k6).keepB k7 fun i hi=>nb1 hi
 have z7:=(z5.keepN k6).keepB k7 fun i hi=>nb2 hi
 have r7:=(r5.keepN k6).keepB k7 fun b hb=>by rw [blk_at0] at hb; omega
 have s7:=r6.keep (AcG.kp _ _) k7 fun b hb hk=>by omega
 have k07 : KB NoB h h7:=kFresh (kN k05 k6) k7 fun i hi=>by omega
 obtain ⟨h8,e8,o8,k8,l8⟩:=o7.wr0 (i:=2) (new:=[.int .i64 P.next]) (by simp [setAt]) (by simp)
 have p8:=p7.keepB k8 fun i hi=>nb1 hi
 have z8:=z7.keepB k8 fun i hi=>nb2 hi
 have r8:=r7.keepB k8 fun b hb=>by rw [blk_at0] at hb; omega
 have s8:=s7.keep (AcG.kp _ _) k8 fun b hb hk=>by omega
 have k08 : KB NoB h h8:=kFresh k07 k8 fun i hi=>by omega
 obtain ⟨a9,h9,e9,t9,k9⟩:=toSaidSD_run (base:=base) m5 m6 (ho.keep k08 fun _ _ h=>h) (by omega) (fun b hb=>by have:=hp b hb; omega)
 have n9:=k9.1
 obtain ⟨h10,e10,o10,k10,l10⟩:=(o8.keepN k9).wr0 (i:=3) (new:=[.slice a9 P.out.length P.out.length]) (by simp [setAt]) (by simp)
 have z10:=(z8.keepN k9).keepB k10 fun i hi=>nb2 hi
 have r10:=(r8.keepN k9).keepB k10 fun b hb=>by rw [blk_at0] at hb; omega
 have s10:=(s8.keep (AcG.kp _ _) k9 fun _ _ h=>h).keep (AcG.kp _ _) k10 fun b hb hk=>by omega
 have t10:=t9.keep (SdD.kp _) k10 fun b hb hk=>by omega
 have k010 : KB NoB h h10:=kFresh (kN k08 k9) k10 fun i hi=>by omega
 have hset : setAt (setAt (setAt (setAt (plV none 0 none 0 0 none 0) 0 [.slice (at0 h3.length) P.code.length P.code.length]) 1 [.slice a6 P.acs.length P.acs.length]) 2 [.int .i64 P.next]) 3 [.slice a9 P.out.length P.out.length] = plV (at0 h3.length) P.code.length a6 P.acs.length P.next a9 P.out.length:=rfl
 rw [hset] at o10
 obtain ⟨h11,e11,o11,k11,l11⟩:=z10.wr0 (i:=0) (new:=plV (at0 h3.length) P.code.length a6 P.acs.length P.next a9 P.out.length) (by simp) (by simp)
 have hz : setAt (plV none 0 none 0 0 none 0) 0 (plV (at0 h3.length) P.code.length a6 P.acs.length P.next a9 P.out.length) = plV (at0 h3.length) P.code.length a6 P.acs.length P.next a9 P.out.length:=rfl
 rw [hz] at o11
 have k011 : KB NoB h h11:=kFresh k010 k11 fun i hi=>by omega
 refine ⟨plV (at0 h3.length) P.code.length a6 P.acs.length P.next a9 P.out.length,h11,Am.r14 (lets fun y ey=>?_),⟨at0 h3.length,a6,a9,(· = h3.length),iS h5.length h6.length,iS h8.length h9.length,rfl,r10.keepB k11 fun b hb=>by rw [blk_at0] at hb; omega,fun b hb=>by rw [blk_at0] at hb; exact hb,s10.keep (AcG.kp _ _) k11 fun b hb hk=>by omega,t10.keep (SdD.kp _) k11 fun b hb hk=>by omega,fun b hb=>by constructor <;> omega,fun b hb=>by constructor <;> omega,fun b hb=>by constructor <;> omega,fun b h1 h2=>by omega,fun b h1 h2=>by omega,fun b h1 h2=>by omega⟩,k011⟩
 rw [hh1] at ey
 rw [ey]
 refine lets fun y ey=>?_
 rw [hh2] at ey
 rw [ey]
 refine lets fun y ey=>?_
 rw [hh3] at ey
 rw [ey]
 refine bS (p3.at0 (i:=0) rfl) (bs e4 (bS rfl (bs e5 (bS (p5.at0 (i:=1) rfl) (bs e6 (bS rfl (bs e7 ?_)))))))
 refine bI (p7.at0 (i:=2) rfl) (bs e8 (bS (p8.at0 (i:=3) rfl) (bs e9 (bS rfl (bs e10 ?_)))))
 refine bS (o10.at0 (i:=0) rfl) (bS (o10.at0 (i:=1) rfl) (bI (o10.at0 (i:=2) rfl) (bS (o10.at0 (i:=3) rfl) (bs e11 ?_))))
 exact bS (o11.at0 (i:=0) rfl) (bS (o11.at0 (i:=1) rfl) (bI (o11.at0 (i:=2) rfl) (bS (o11.at0 (i:=3) rfl) rfl)))
theorem heldInsS_loop {base : Nat} {ys : List In} {a : Option Addr} {k0 : Int} (hk0 : 0≤k0) (hkn : k0 + 6 * (ys.length : Int)≤1000000000) (hm : ∀ j : Nat,j < ys.length→ys[j]? = some (markI (k0 + 6 * (j : Int)))) : ∀ (d i : Nat) (h : AH),i + d = ys.length→Sl h a (insR ys)→base≤h.length →
  ∃ h',loopL (B75_0 base) [some (.slice a ys.length ys.length),some (.int .i64 (k0 + 6 * (i : Int))),some (.int .i64 (i : Int))] h = some (2,[some (.int .i64 (k0 + 6 * (ys.length : Int)))],h')∧KB NoB h h':=by
 intro d
 induction d with
 | zero=>
  intro i h hi hs hb
  have : i = ys.length:=by omega
  subst this
  refine ⟨h,loop_off (by decide) ?_,KB.refl _ _⟩
  rw [B75_0_eq]
  exact ifF (by simp) rfl
 | succ d ih=>
  intro i h hi hs hb
  have hlt : i < ys.length:=by omega
  obtain ⟨ad,rfl,g0,g1,g2,g3,g4,g5⟩:=In.get hs hlt
  have hx : ys[i] = markI (k0 + 6 * (i : Int)):=by
   have:=hm i hlt
   rw [List.getElem?_eq_getElem hlt] at this
   injection this
  rw [hx] at g0 g1 g2 g3 g4 g5
  generalize hk : k0 + 6 * (i : Int) = k at g0 g1 g2 g3 g4 g5
  obtain ⟨h1,e1,kk1⟩:=markText_run (base:=base) (h:=h) (k:=k + 1 + 1 + 1 + 1 + 1) (by omega)
  have n1:=kk1.1
  obtain ⟨h2,e2,kk2⟩:=ih (i + 1) h1 (by omega) (hs.keepN kk1) (by omega)
  rw [show k0 + 6 * ((i + 1 : Nat) : Int) = k + 6 from by omega] at e2
  refine ⟨h2,loop_on ?_ e2,kN kk1 kk2⟩
  rw [B75_0_eq]
  have hI : (0 : Int)≤(i : Int)∧(i : Int) < ((ys.length : Nat) : Int):=⟨by omega,by omega⟩
  refine ifT (decide_eq_true hI.2) (ifT hI (bs rfl ?_))
  simp only [Int.toNat_natCast]
  rw [w64i (n:=k + 1) (by omega) (by omega),w64i (n:=k + 1 + 1) (by omega) (by omega),w64i (n:=k + 1 + 1 + 1) (by omega) (by omega),w64i (n:=k + 1 + 1 + 1 + 1) (by omega) (by omega),w64i (n:=k + 1 + 1 + 1 + 1 + 1) (by omega) (by omega),w64i (n:=k + 1 + 1 + 1 + 1 + 1 + 1) (by omega) (by omega),w64i (n:=(i : Int) + 1) (by omega) (by omega)]
  refine bI g0 (ifF (by simp [markI]) (ifT hI (bs rfl (bI g1 (ifF (by simp [markI]) (ifT hI (bs rfl (bI g2 (ifF (by simp [markI]) (ifT hI (bs rfl (bI g3 (ifF (by simp [markI]) (ifT hI (bs rfl (bI g4 (ifF (by simp [markI]) (ifT hI (bs rfl (bT g5 (bs e1 (bT rfl ?_))))))))))))))))))))))
  rw [gate_pos (same_keep kk1 g5)]
  refine ifF (by simp [markI]) ?_
  rw [show k + 1 + 1 + 1 + 1 + 1 + 1 = k + 6 from by omega]
  rfl
theorem heldInsS_run {base : Nat} {h : AH} {ys : List In} {a : Option Addr} {k : Int} (hk0 : 0≤k) (hkn : k + 6 * (ys.length : Int)≤1000000000) (hm : ∀ j : Nat,j < ys.length→ys[j]? = some (markI (k + 6 * (j : Int)))) (hs : Sl h a (insR ys)) (hb : base≤h.length) :
  ∃ h',run (Et base) 75 [.slice a ys.length ys.length,.int .i64 k] h = some (.int .i64 (k + 6 * (ys.length : Int)),h')∧KB NoB h h':=by
 obtain ⟨h',e,kk⟩:=heldInsS_loop (base:=base) hk0 hkn hm ys.length 0 h (by omega) hs hb
 rw [show k + 6 * ((0 : Nat) : Int) = k from by omega,show ((0 : Nat) : Int) = 0 from rfl] at e
 exact ⟨h',Am.r75 (bs e (ifF (show ¬ (2 : Nat) = 1 by decide) (ifT rfl (bI rfl rfl)))),kk⟩
def mcAs (f : Nat) : List Ac→Int
 | []=>0
 | A :: r=>2 + mcA f A + mcAs f r
theorem mcA_nn (f : Nat) (A : Ac) : 0≤mcA f A:=by unfold mcA mcL; omega
theorem mcAs_nn (f : Nat) : ∀ l,0≤mcAs f l
 | []=>Int.le_refl _
 | A :: r=>by have:=mcA_nn f A; have:=mcAs_nn f r; rw [mcAs]; omega
theorem mcAs_le (f : Nat) : ∀ l : List Ac,mcAs f l≤3 * ((l.length + sumL (acnt f) l : Nat) : Int)
 | []=>by simp [mcAs,sumL]
 | A :: r=>by
  have:=mcAs_le f r
  have e1 : mcA f A = 3 * ((A.regs.length + sumL (tcnt f) A.regs : Nat) : Int) + 3 * ((A.box.length + sumL (tcnt f) A.box : Nat) : Int) + (A.links.length : Int):=rfl
  have e2 : acnt f A = A.regs.length + sumL (tcnt f) A.regs + (A.box.length + sumL (tcnt f) A.box) + A.links.length:=rfl
  rw [mcAs]
  simp only [List.length_cons,sumL]
  omega
inductive IsMAs : List Ac→Int→Int→Prop
 | nil (k : Int) : IsMAs [] k k
 | cons {k k1 k2 : Int} {A : Ac} {r : List Ac} : A.pid = k→A.pc = k + 1→IsMA A (k + 2) k1→IsMAs r k1 k2→IsMAs (A :: r) k k2
theorem IsMA.le {A : Ac} {k k' : Int} (x : IsMA A k k') : k≤k':=by
 obtain ⟨k1,k2,m1,m2,_,rfl⟩:=x
 have:=m1.le
 have:=m2.le
 omega
theorem IsMAs.le {l : List Ac} {k k' : Int} (x : IsMAs l k k') : k≤k':=by
 induction x with
 | nil=>exact Int.le_refl _
 | cons _ _ m _ ih2=>have:=m.le; omega
theorem markActorS_loop {base f n : Nat} (hn : n≤maxLen) {S : Fp} {a : Option Addr} : ∀ (r done : List Ac) (h : AH) (k : Int),(∀ A∈r,A.Le)→done.length + r.length = n→RowD 5 (AcD base f) S h (done++r) a→(∀ b,S b→base≤b∧b < h.length)→0≤k→k + mcAs f r≤1000000000 →
  ∃ r' h',loopL (B72_0 base) [some (.slice a n n),some (.int .i64 k),some (.int .i64 (done.length : Int))] h = some (2,[some (.int .i64 (k + mcAs f r))],h')∧RowD 5 (AcD base f) S h' (done++r') a∧r'.length = r.length∧(∀ A∈r',A.Le)∧IsMAs r' k (k + mcAs f r)∧KB S h h':=by
 simp only [maxLen] at hn
 intro r
 induction r with
 | nil=>
  intro done h k _ hd hr hS h0 hk
  refine ⟨[],h,?_,hr,rfl,fun A hA=>by simp at hA,?_,KB.refl _ _⟩
  ·refine loop_off (by decide) ?_
   rw [B72_0_eq]
   refine ifF (by simp at hd ⊢; omega) ?_
   simp [mcAs]
  ·rw [mcAs,Int.add_zero]
   exact .nil k
 | cons A r ihr=>
  intro done h k hL hd hr hS h0 hk
  simp only [List.length_cons] at hd
  have hlt : done.length < (done++A :: r).length:=by simp
  obtain ⟨Ci,cs,fo,hP,hcl,hsub,hdis⟩:=hr.open (by decide) hlt
  rw [get_split hlt] at hP
  obtain ⟨l1,l2,l3⟩:=hL A (by simp)
  obtain ⟨a1,b1,g1,S1,S2,S3,rfl,hrow,hbox,hlk,hg,s1,s2,s3,d1,d2,d3⟩:=hP
  rw [mcAs] at hk ⊢
  have hr0:=mcAs_nn f r
  have hmA:=mcA_nn f A
  have hm1 : 0≤mcL f A.regs:=by unfold mcL; omega
  have hm2 : 0≤mcL f A.box:=by unfold mcL; omega
  have emA : mcA f A = mcL f A.regs + mcL f A.box + (A.links.length : Int):=rfl
  have hbS : ∀ b,S b→base≤b:=fun b hb=>(hS b hb).1
  obtain ⟨ad,h1,rfl,w1,fo1,k1,n1⟩:=fo.wr (AcD.kp _ _) hbS (j:=0) (new:=[.int .i64 k]) (by simp) (by simp)
  obtain ⟨ad',h2,ead,w2,fo2,k2,n2⟩:=fo1.wr (AcD.kp _ _) hbS (j:=1) (new:=[.int .i64 (k + 1)]) (by simp) (by simp)
  injection ead with ead
  subst ead
  have kA : KB (blk (some ad)) h h2:=KB.trans k1 k2 (fun _ _ h=>h) (fun _ _ h=>h)
  have ecs : setAt (setAt (acV A.pid A.pc a1 A.regs.length b1 A.box.length g1 A.links.length) 0 [.int .i64 k]) 1 [.int .i64 (k + 1)] = acV k (k + 1) a1 A.regs.length b1 A.box.length g1 A.links.length:=rfl
  rw [ecs] at fo2
  obtain ⟨ad',ead,c2⟩:=fo2.cell (j:=2) (v:=.slice a1 A.regs.length A.regs.length) rfl
  injection ead with ead
  subst ead
  have hSi : ∀ b,Ci b→base≤b∧b < h2.length:=fun b hb=>by have:=hS b (hsub b hb); have:=kA.1; omega
  obtain ⟨lr,h3,e3,hrow3,len3,m3,k3⟩:=markTermS_run (base:=base) f A.regs h2 S1 a1 (k + 1 + 1) (hrow.keep (TmD.kp _) kA fun b hb hk=>hdis b hk (s1 b hb)) l1 (fun b hb=>hSi b (s1 b hb)) (by omega) (by unfold mcL at hm1 emA; omega)
  have n3:=k3.1
  have fo3:=fo2.keep (AcD.kp _ _) k3 fun b _ hb=>s1 b hb
  obtain ⟨ad',ead,c3⟩:=fo3.cell (j:=3) (v:=.slice b1 A.box.length A.box.length) rfl
  injection ead with ead
  subst ead
  obtain ⟨lb,h4,e4,hbox4,len4,m4,k4⟩:=markTermS_run (base:=base) f A.box h3 S2 b1 (k + 1 + 1 + mcL f A.regs) ((hbox.keep (TmD.kp _) kA fun b hb hk=>hdis b hk (s2 b hb)).keep (TmD.kp _) k3 fun b hb hb'=>d1 b hb' hb) l2 (fun b hb=>by have:=hSi b (s2 b hb); omega) (by omega) (by unfold mcL at *; omega)
  have n4:=k4.1
  have fo4:=fo3.keep (AcD.kp _ _) k4 fun b _ hb=>s2 b hb
  obtain ⟨ad',ead,c4⟩:=fo4.cell (j:=4) (v:=.slice g1 A.links.length A.links.length) rfl
  injection ead with ead
  subst ead
  have hlk4 : Own base 3 h4 g1 (iv .i64 A.links):=((hlk.keep kA fun b hb hb'=>hdis b hb' (s3 b (hg b hb))).keep k3 fun b hb hb'=>d2 b hb' (hg b hb)).keep k4 fun b hb hb'=>d3 b hb' (hg b hb)
  have hk2 : ((k + 1 + 1 + mcL f A.regs + mcL f A.box).toNat : Int) = k + 1 + 1 + mcL f A.regs + mcL f A.box:=by omega
  obtain ⟨h5,e5,hlk5,k5⟩:=markIntS_run (base:=base) (k:=(k + 1 + 1 + mcL f A.regs + mcL f A.box).toNat) hlk4 l3 (by omega)
  rw [Int.natCast_add,hk2] at e5
  have n5:=k5.1
  have fo5:=fo4.keep (AcD.kp _ _) k5 fun b _ hb=>s3 b (hg b hb)
  have hmk : (marksI (k + 1 + 1 + mcL f A.regs + mcL f A.box).toNat A.links.length).length = A.links.length:=by simp [marksI]
  have hr5:=fo5.close (y:=⟨k,k + 1,lr,lb,marksI (k + 1 + 1 + mcL f A.regs + mcL f A.box).toNat A.links.length⟩) ⟨a1,b1,g1,S1,S2,S3,by simp only [len3,len4,hmk],(hrow3.keep (TmD.kp _) k4 fun b hb hb'=>d1 b hb hb').keep (TmD.kp _) k5 fun b hb hb'=>d2 b hb (hg b hb'),hbox4.keep (TmD.kp _) k5 fun b hb hb'=>d3 b hb (hg b hb'),hlk5,hg,s1,s2,s3,d1,d2,d3⟩
  rw [set_split,show done++(⟨k,k + 1,lr,lb,marksI (k + 1 + 1 + mcL f A.regs + mcL f A.box).toNat A.links.length⟩ : Ac) :: r = (done++[(⟨k,k + 1,lr,lb,marksI (k + 1 + 1 + mcL f A.regs + mcL f A.box).toNat A.links.length⟩ : Ac)])++r from by simp] at hr5
  have kB : KB S h h5:=KB.trans (KB.trans (KB.trans kA k3 (fun b _ hb=>by
    obtain ⟨vs,T,C,_,_,x3,_⟩:=fo
    exact (x3 b hb).1) (fun b _ hb=>hsub b (s1 b hb))) k4 (fun _ _ h=>h) (fun b _ hb=>hsub b (s2 b hb))) k5 (fun _ _ h=>h) (fun b _ hb=>hsub b (s3 b (hg b hb)))
  obtain ⟨r',h6,e6,row6,len6,L6,m6,k6⟩:=ihr (done++[(⟨k,k + 1,lr,lb,marksI (k + 1 + 1 + mcL f A.regs + mcL f A.box).toNat A.links.length⟩ : Ac)]) h5 (k + 2 + mcA f A) (fun B hB=>hL B (by simp [hB])) (by simp; omega) hr5 (fun b hb=>⟨(hS b hb).1,by have:=(hS b hb).2; have:=kB.1; omega⟩) (by omega) (by omega)
  have ek : k + 2 + mcA f A + mcAs f r = k + (2 + mcA f A + mcAs f r):=by omega
  rw [ek] at e6 m6
  refine ⟨⟨k,k + 1,lr,lb,marksI (k + 1 + 1 + mcL f A.regs + mcL f A.box).toNat A.links.length⟩ :: r',h6,?_,by simpa using row6,by simp [len6],fun B hB=>?_,.cons rfl rfl ⟨k + 2 + mcL f A.regs,k + 2 + mcL f A.regs + mcL f A.box,?_,?_,?_,?_⟩ m6,KB.trans kB k6 (fun _ _ h=>h) (fun _ _ h=>h)⟩
  ·refine loop_on ?_ e6
   rw [B72_0_eq]
   have hlt' : (done.length : Int) < (n : Int):=by omega
   refine ifT (decide_eq_true hlt') (ifT ⟨by omega,hlt'⟩ (bs rfl ?_))
   simp only [Int.toNat_natCast]
   refine bs w1 (ifT ⟨by omega,hlt'⟩ (bs rfl ?_))
   rw [w64i (n:=k + 1) (by omega) (by omega)]
   refine bs w2 (ifT ⟨by omega,hlt'⟩ (bs rfl (bS c2 ?_)))
   rw [w64i (n:=k + 1 + 1) (by omega) (by omega)]
   refine bs e3 (bI rfl (ifT ⟨by omega,hlt'⟩ (bs rfl (bS c3 ?_))))
   refine bs e4 (bI rfl (ifT ⟨by omega,hlt'⟩ (bs rfl (bS c4 (bs e5 (bI rfl ?_))))))
   rw [w64i (n:=(done.length : Int) + 1) (by omega) (by omega)]
   rw [show k + 1 + 1 + mcL f A.regs + mcL f A.box + (A.links.length : Int) = k + 2 + mcA f A from by omega]
   simp
  ·rcases List.mem_cons.1 hB with rfl|hB
   ·exact ⟨by simp only [len3]; exact l1,by simp only [len4]; exact l2,by simp only [hmk]; exact l3⟩
   ·exact L6 B hB
  ·rw [show k + 2 = k + 1 + 1 from by omega]; exact m3
  ·rw [show k + 2 = k + 1 + 1 from by omega]; exact m4
  ·simp only [hmk]
   rw [show k + 2 = k + 1 + 1 from by omega]
  ·simp only [hmk]; omega
theorem markActorS_run {base f : Nat} {l : List Ac} {h : AH} {S : Fp} {a : Option Addr} {k : Int} (hr : RowD 5 (AcD base f) S h l a) (hl : l.length≤maxLen) (hL : ∀ A∈l,A.Le) (hS : ∀ b,S b→base≤b∧b < h.length) (h0 : 0≤k) (hk : k + mcAs f l≤1000000000) :
  ∃ l' h',run (Et base) 72 [.slice a l.length l.length,.int .i64 k] h = some (.int .i64 (k + mcAs f l),h')∧RowD 5 (AcD base f) S h' l' a∧l'.length = l.length∧(∀ A∈l',A.Le)∧IsMAs l' k (k + mcAs f l)∧KB S h h':=by
 obtain ⟨l',h',e,row,len,L,m,kk⟩:=markActorS_loop (base:=base) hl l [] h k hL (by simp) (by simpa using hr) hS h0 hk
 exact ⟨l',h',Am.r72 (bs e (ifT rfl (bI rfl rfl))),by simpa using row,len,L,m,kk⟩
theorem heldActorS_loop {base : Nat} : ∀ {r : List Ac} {k k' : Int},IsMAs r k k'→0≤k→k'≤1000000000→∀ (f : Nat) (h : AH) (p : Nat→Prop) (L : List Ac) (i : Nat) (a : Option Addr),L.drop i = r→i≤L.length→L.length≤9223372036854775807→(∀ A∈L,A.Le)→AsR h p f L a→base≤h.length →
  ∃ h',loopL (B76_0 base) [some (.slice a L.length L.length),some (.int .i64 k),some (.int .i64 (i : Int))] h = some (2,[some (.int .i64 k')],h')∧KB NoB h h':=by
 intro r k k' hm
 induction hm with
 | nil k=>
  intro h0 hk f h p L i a hr hi hL hLe hs hb
  refine ⟨h,?_,KB.refl _ _⟩
  refine loop_off (by decide) ?_
  rw [B76_0_eq]
  have : L.length≤i:=by simpa using hr
  exact ifF (by simp; omega) rfl
 | @cons k k1 k2 A r p1 p2 m1 m2 ih2=>
  intro h0 hk f h p L i a hr hi hL hLe hs hb
  have le1:=m1.le
  have le2:=m2.le
  have hlt : i < L.length:=by
   rcases Nat.lt_or_ge i L.length with h|h
   ·exact h
   ·rw [List.drop_eq_nil_of_le h] at hr; cases hr
  rw [List.drop_eq_getElem_cons hlt] at hr
  injection hr with hr1 hr2
  obtain ⟨l1,l2,l3⟩:=hLe _ (List.getElem_mem hlt)
  simp only [maxLen] at l1 l2
  obtain ⟨ad,x1,x2,x3,rfl,hbl,g0,g1,g2,g3,g4,hmm,hlk⟩:=hs.get hlt
  obtain ⟨x1',x2',x3',ecs,hrow,hbox,_,_⟩:=hmm
  injection ecs with _ ecs
  injection ecs with _ ecs
  injection ecs with q2 ecs
  injection ecs with q3 ecs
  injection ecs with q4 _
  injection q2 with q2 _ _; injection q3 with q3 _ _; injection q4 with q4 _ _
  subst q2; subst q3; subst q4
  rw [hr1] at l1 l2 l3 g0 g1 g2 g3 g4 hrow hbox hlk
  rw [p1] at g0
  rw [p2] at g1
  obtain ⟨k1',k2',n1,n2,n3,e12⟩:=m1
  have z1:=n1.le
  have z2:=n2.le
  obtain ⟨h2,e2,kk2⟩:=heldTermS_run (base:=base) n1 (by omega) (by omega) (by omega) hrow hb
  have y2:=kk2.1
  obtain ⟨h3,e3,kk3⟩:=heldTermS_run (base:=base) n2 (by omega) (by omega) (by omega) (hbox.keep kk2 fun _ _ h=>h) (by omega)
  have y3:=kk3.1
  have k03:=kN kk2 kk3
  rw [n3] at hlk
  have e4:=heldIntS_run (base:=base) (hlk.keepN k03) l3 (by omega)
  rw [Int.natCast_add,show ((k2'.toNat : Nat) : Int) = k2' from by omega] at e4
  obtain ⟨h5,e5,kk5⟩:=ih2 (by omega) hk f h3 p L (i + 1) (some ad) hr2 (by omega) hL hLe (hs.keepN k03) (by omega)
  refine ⟨h5,loop_on ?_ e5,kN k03 kk5⟩
  rw [B76_0_eq]
  have hlt' : (i : Int) < (L.length : Int):=by omega
  refine ifT (decide_eq_true hlt') (ifT ⟨by omega,hlt'⟩ (bs rfl ?_))
  simp only [Int.toNat_natCast]
  refine bI g0 (ifF (by simp) (ifT ⟨by omega,hlt'⟩ (bs rfl (bI g1 ?_))))
  rw [w64i (n:=k + 1) (by omega) (by omega)]
  refine ifF (by simp) (ifT ⟨by omega,hlt'⟩ (bs rfl (bS g2 ?_)))
  rw [w64i (n:=k + 1 + 1) (by omega) (by omega),show k + 1 + 1 = k + 2 from by omega]
  refine bs e2 (bI rfl (ifF (by simp; omega) (ifT ⟨by omega,hlt'⟩ (bs rfl (bS (cell_keep kk2 g3) (bs e3 (bI rfl ?_)))))))
  refine ifF (by simp; omega) (ifT ⟨by omega,hlt'⟩ (bs rfl (bS (cell_keep k03 g4) (bs e4 (bI rfl ?_)))))
  refine ifF (by simp; omega) ?_
  rw [w64i (n:=(i : Int) + 1) (by omega) (by omega),← e12]
  rfl
theorem heldActorS_run {base f : Nat} {l : List Ac} {k k' : Int} (m : IsMAs l k k') (h0 : 0≤k) (hk : k'≤1000000000) {h : AH} {p : Nat→Prop} {a : Option Addr} (hl : l.length≤9223372036854775807) (hL : ∀ A∈l,A.Le) (hs : AsR h p f l a) (hb : base≤h.length) :
  ∃ h',run (Et base) 76 [.slice a l.length l.length,.int .i64 k] h = some (.int .i64 k',h')∧KB NoB h h':=by
 obtain ⟨h',e,kk⟩:=heldActorS_loop (base:=base) m h0 hk f h p l 0 a (by simp) (by omega) hl hL hs hb
 rw [show ((0 : Nat) : Int) = 0 from rfl] at e
 exact ⟨h',Am.r76 (bs e (ifF (by simp) (ifT rfl (bI rfl rfl)))),kk⟩
def mcP (f : Nat) (P : Pl) : Int:=6 * (P.code.length : Int) + mcAs f P.acs + mcT f P.out
def IsMP (P : Pl) (k k' : Int) : Prop:=(∀ j : Nat,j < P.code.length→P.code[j]? = some (markI (k + 6 * (j : Int))))∧∃ k1,IsMAs P.acs (k + 6 * (P.code.length : Int)) k1∧IsMT P.out k1 k'
theorem markPlain_run {base f : Nat} {h : AH} {S : Fp} {P : Pl} {cs : List Value} {k : Int} (hB : P.code.length≤1048576∧P.acs.length≤1048576∧P.out.length≤1048576∧∀ A∈P.acs,A.Le) (x : PlD base f S h P cs) (hS : ∀ b,S b→base≤b∧b < h.length) (hb : base≤h.length) (h0 : 0≤k) (hk : k + mcP f P≤1000000000) :
  ∃ P' h',run (Et base) 19 [.agg cs.toArray,.int .i64 k] h = some (.int .i64 (k + mcP f P),h')∧PlD base f S h' P' cs∧IsMP P' k (k + mcP f P)∧(P'.code.length≤1048576∧P'.acs.length≤1048576∧P'.out.length≤1048576∧∀ A∈P'.acs,A.Le)∧KB S h h':=by
 obtain ⟨a,b,g,S1,S2,S3,rfl,hc,hcb,ha,ho,s1,s2,s3,d1,d2,d3⟩:=x
 obtain ⟨b1,b2,b3,b4⟩:=hB
 have hm2:=mcAs_nn f P.acs
 have hm3 : 0≤mcT f P.out:=by unfold mcT; omega
 have em : mcP f P = 6 * (P.code.length : Int) + mcAs f P.acs + mcT f P.out:=rfl
 obtain ⟨o1,k1,q1⟩:=box_own (base:=base) (t:=36) (h:=h) (cs:=plV a P.code.length b P.acs.length P.next g P.out.length) hb rfl
 generalize hh1 : h++[some (⟨plV a P.code.length b P.acs.length P.next g P.out.length,36⟩ : Blk)] = h1 at o1 k1 q1
 obtain ⟨ys,h2,e2,hc2,len2,m2,k2⟩:=markInsS_run (base:=base) (k:=k) b1 (hc.keepN k1) h0 (by omega)
 have n2:=k2.1
 obtain ⟨la,h3,e3,ha3,len3,L3,m3,k3⟩:=markActorS_run (base:=base) (k:=k + 6 * (P.code.length : Int)) ((ha.keep (AcD.kp _ _) k1 fun _ _ h=>h).keep (AcD.kp _ _) k2 fun x hx hx'=>d1 x (hcb x hx') hx) (by simp only [maxLen]; omega) b4 (fun x hx=>by have:=hS x (s2 x hx); omega) (by omega) (by omega)
 have n3:=k3.1
 obtain ⟨lo,h4,e4,ho4,len4,m4,k4⟩:=markSaidS_run (base:=base) (k:=k + 6 * (P.code.length : Int) + mcAs f P.acs) (((ho.keep (SdD.kp _) k1 fun _ _ h=>h).keep (SdD.kp _) k2 fun x hx hx'=>d2 x (hcb x hx') hx).keep (SdD.kp _) k3 fun x hx hx'=>d3 x hx' hx) (by simp only [maxLen]; omega) (fun x hx=>by have:=hS x (s3 x hx); omega) (by omega) (by omega)
 have n4:=k4.1
 have nb : ∀ x,S x→x≠h.length:=fun x hx=>by have:=hS x hx; omega
 have o2:=o1.keep k2 fun x hx hx'=>by rw [blk_at0] at hx; exact nb x (s1 x (hcb x hx')) hx
 have o3:=o2.keep k3 fun x hx hx'=>by rw [blk_at0] at hx; exact nb x (s2 x hx') hx
 refine ⟨⟨ys,la,P.next,lo⟩,h4,Am.r19 (lets fun y ey=>?_),⟨a,b,g,S1,S2,S3,by simp only [len2,len3,len4],(hc2.keep k3 fun x hx hx'=>d1 x (hcb x hx) hx').keep k4 fun x hx hx'=>d2 x (hcb x hx) hx',hcb,ha3.keep (AcD.kp _ _) k4 fun x hx hx'=>d3 x hx hx',ho4,s1,s2,s3,d1,d2,d3⟩,⟨fun j hj=>m2 j (by simp only [len2] at hj; exact hj),k + 6 * (P.code.length : Int) + mcAs f P.acs,by simp only [len2]; exact m3,by rw [em,show k + (6 * (P.code.length : Int) + mcAs f P.acs + mcT f P.out) = k + 6 * (P.code.length : Int) + mcAs f P.acs + mcT f P.out from by omega]; exact m4⟩,⟨by simp only [len2]; exact b1,by simp only [len3]; exact b2,by simp only [len4]; exact b3,L3⟩,?_⟩
 ·rw [hh1] at ey
  rw [ey]
  refine bS (o1.at0 (i:=0) rfl) (bs e2 (bI rfl (bS (o2.at0 (i:=1) rfl) (bs e3 (bI rfl (bS (o3.at0 (i:=3) rfl) (bs e4 (bI rfl ?_))))))))
  rw [em,show k + (6 * (P.code.length : Int) + mcAs f P.acs + mcT f P.out) = k + 6 * (P.code.length : Int) + mcAs f P.acs + mcT f P.out from by omega]
 ·exact KB.trans (KB.trans (KB.trans (KB.mono k1 fun _ _ h=>h.elim) k2 (fun _ _ h=>h) (fun x _ hx=>s1 x (hcb x hx))) k3 (fun _ _ h=>h) (fun x _ hx=>s2 x hx)) k4 (fun _ _ h=>h) (fun x _ hx=>s3 x hx)
theorem heldPlain_run {base f : Nat} {h : AH} {p : Nat→Prop} {P : Pl} {cs : List Value} {k k' : Int} (hB : P.code.length≤1048576∧P.acs.length≤1048576∧P.out.length≤1048576∧∀ A∈P.acs,A.Le) (m : IsMP P k k') (h0 : 0≤k) (hk : k'≤1000000000) (x : PlR h p f P cs) (hb : base≤h.length) :
  ∃ h',run (Et base) 21 [.agg cs.toArray,.int .i64 k] h = some (.int .i64 k',h')∧KB NoB h h':=by
 obtain ⟨a,b,g,rfl,hc,_,ha,ho⟩:=x
 obtain ⟨b1,b2,b3,b4⟩:=hB
 obtain ⟨m1,k1',m2,m3⟩:=m
 have z2:=m2.le
 have z3:=m3.le
 obtain ⟨o1,k1,q1⟩:=box_own (base:=base) (t:=36) (h:=h) (cs:=plV a P.code.length b P.acs.length P.next g P.out.length) hb rfl
 generalize hh1 : h++[some (⟨plV a P.code.length b P.acs.length P.next g P.out.length,36⟩ : Blk)] = h1 at o1 k1 q1
 obtain ⟨h2,e2,k2⟩:=heldInsS_run (base:=base) h0 (by omega) m1 (hc.keepN k1) (by omega)
 have n2:=k2.1
 have k02:=kN k1 k2
 obtain ⟨h3,e3,k3⟩:=heldActorS_run (base:=base) m2 (by omega) (by omega) (by omega) b4 (ha.keepN k02) (by omega)
 have n3:=k3.1
 have k03:=kN k02 k3
 obtain ⟨h4,e4,k4⟩:=heldSaidS_run (base:=base) m3 (by omega) hk (by omega) (ho.keep k03 fun _ _ h=>h) (by omega)
 refine ⟨h4,Am.r21 (lets fun y ey=>?_),kN k03 k4⟩
 rw [hh1] at ey
 rw [ey]
 refine bS (o1.at0 (i:=0) rfl) (bs e2 (bI rfl (ifF (by simp; omega) (bS ((o1.keepN k2).at0 (i:=1) rfl) (bs e3 (bI rfl (ifF (by simp; omega) ?_)))))))
 exact bS (((o1.keepN k2).keepN k3).at0 (i:=3) rfl) (bs e4 (bI rfl (ifF (by simp; omega) rfl)))
def hasI (v : Int) : List Int→Bool
 | []=>false
 | x :: r=>if (x == v) = true then true else hasI v r
theorem int_get {h : AH} {a : Option Addr} {zs : List Int} (hs : Sl h a (iv .i64 zs)) {i : Nat} (hi : i < zs.length) : ∃ ad,a = some ad∧Am.cell h ad.block (ad.off + i * 1) = some (.int .i64 zs[i]):=by
 obtain ⟨ad,e,g⟩:=hs.cell (i:=i) (v:=.int .i64 zs[i]) (by simp [iv,hi])
 exact ⟨ad,e,by rw [Nat.mul_one]; exact g⟩
theorem l11Has_loop {base : Nat} {zs : List Int} {v : Int} {a : Option Addr} {h : AH} (hl : zs.length≤9223372036854775807) (hs : Sl h a (iv .i64 zs)) : ∀ (d i : Nat),i + d = zs.length →
  loopL (B143_0 base) [some (.slice a zs.length zs.length),some (.int .i64 v),some (.int .i64 (i : Int))] h = some (if hasI v (zs.drop i) = true then (1,[some (.bool true)],h) else (2,[],h)):=by
 intro d
 induction d with
 | zero=>
  intro i hi
  rw [List.drop_eq_nil_of_le (by omega),hasI,if_neg (by decide)]
  refine loop_off (by decide) ?_
  rw [B143_0_eq]
  exact ifF (by simp; omega) rfl
 | succ d ihd=>
  intro i hi
  have hlt : i < zs.length:=by omega
  obtain ⟨ad,rfl,g⟩:=int_get hs hlt
  rw [List.drop_eq_getElem_cons hlt,hasI]
  by_cases c : (zs[i] == v) = true
  ·rw [if_pos c,if_pos rfl]
   refine loop_off (by decide) ?_
   rw [B143_0_eq]
   refine ifT (decide_eq_true (by omega)) (ifT ⟨by omega,by omega⟩ (bs rfl ?_))
   simp only [Int.toNat_natCast]
   exact bI g (ifT c rfl)
  ·rw [if_neg c,← ihd (i + 1) (by omega)]
   refine loop_on ?_ rfl
   rw [B143_0_eq]
   refine ifT (decide_eq_true (by omega)) (ifT ⟨by omega,by omega⟩ (bs rfl ?_))
   simp only [Int.toNat_natCast]
   refine bI g (ifF c ?_)
   rw [w64i (n:=(i : Int) + 1) (by omega) (by omega)]
   rfl
theorem l11Has_run {base : Nat} {zs : List Int} {v : Int} {a : Option Addr} {h : AH} (hl : zs.length≤9223372036854775807) (hs : Sl h a (iv .i64 zs)) : run (Et base) 143 [.slice a zs.length zs.length,.int .i64 v] h = some (.bool (hasI v zs),h):=by
 have e:=l11Has_loop (base:=base) (v:=v) hl hs zs.length 0 (by omega)
 rw [List.drop_zero,show ((0 : Nat) : Int) = 0 from rfl] at e
 cases c : hasI v zs with
 | true=>
  rw [c,if_pos rfl] at e
  exact Am.r143 (bs e (ifT rfl (bB rfl rfl)))
 | false=>
  rw [c,if_neg (by decide)] at e
  exact Am.r143 (bs e (ifF (show ¬ (2 : Nat) = 1 by decide) (ifT rfl rfl)))
theorem hasInt_loop {base : Nat} {zs : List Int} {v : Int} {a : Option Addr} {h : AH} (hl : zs.length≤9223372036854775807) (hs : Sl h a (iv .i64 zs)) : ∀ (d i : Nat),i + d = zs.length →
  loopL (B88_0 base) [some (.int .i64 v),some (.slice a zs.length zs.length),some (.int .i64 (zs.length : Int)),some (.int .i64 (i : Int))] h = some (if hasI v (zs.drop i) = true then (1,[some (.bool true)],h) else (2,[],h)):=by
 intro d
 induction d with
 | zero=>
  intro i hi
  rw [List.drop_eq_nil_of_le (by omega),hasI,if_neg (by decide)]
  refine loop_off (by decide) ?_
  rw [B88_0_eq]
  exact ifF (by simp; omega) rfl
 | succ d ihd=>
  intro i hi
  have hlt : i < zs.length:=by omega
  obtain ⟨ad,rfl,g⟩:=int_get hs hlt
  rw [List.drop_eq_getElem_cons hlt,hasI]
  by_cases c : (zs[i] == v) = true
  ·rw [if_pos c,if_pos rfl]
   refine loop_off (by decide) ?_
   rw [B88_0_eq]
   refine ifT (decide_eq_true (by omega)) (ifT ⟨by omega,by omega⟩ (bs rfl ?_))
   simp only [Int.toNat_natCast]
   exact bI g (ifT c rfl)
  ·rw [if_neg c,← ihd (i + 1) (by omega)]
   refine loop_on ?_ rfl
   rw [B88_0_eq]
   refine ifT (decide_eq_true (by omega)) (ifT ⟨by omega,by omega⟩ (bs rfl ?_))
   simp only [Int.toNat_natCast]
   refine bI g (ifF c ?_)
   rw [w64i (n:=(i : Int) + 1) (by omega) (by omega)]
   rfl
theorem hasInt_run {base : Nat} {zs : List Int} {v : Int} {a : Option Addr} {h : AH} (hl : zs.length≤9223372036854775807) (hs : Sl h a (iv .i64 zs)) : run (Et base) 88 [.slice a zs.length zs.length,.int .i64 v] h = some (.bool (hasI v zs),h):=by
 have e:=hasInt_loop (base:=base) (v:=v) hl hs zs.length 0 (by omega)
 rw [List.drop_zero,show ((0 : Nat) : Int) = 0 from rfl] at e
 cases c : hasI v zs with
 | true=>
  rw [c,if_pos rfl] at e
  exact Am.r88 (bs e (ifT rfl (bB rfl rfl)))
 | false=>
  rw [c,if_neg (by decide)] at e
  exact Am.r88 (bs e (ifF (show ¬ (2 : Nat) = 1 by decide) (ifT rfl rfl)))
def atL (v : Int) : Nat→List Ac→Int
 | _,[]=>-1
 | i,x :: r=>if (x.pid == v) = true then (i : Int) else atL v (i + 1) r
theorem atL_lt (v : Int) : ∀ (l : List Ac) (i : Nat),atL v i l = -1∨((i : Int)≤atL v i l∧atL v i l < (i : Int) + (l.length : Int))
 | [],i=>.inl rfl
 | x :: r,i=>by
  rw [atL]
  split
  ·right; constructor
   ·omega
   ·simp; omega
  ·rcases atL_lt v r (i + 1) with h|⟨h1,h2⟩
   ·exact .inl h
   ·right; simp; omega
theorem l11At_loop {base f : Nat} {p : Nat→Prop} {l : List Ac} {a : Option Addr} {v : Int} {b : Nat} {h : AH} (hl : l.length≤9223372036854775807) (hs : AsR h p f l a) (hc : Am.cell h b 1 = some (.slice a l.length l.length)) : ∀ (d i : Nat),i + d = l.length →
  ∃ q,loopL (B118_0 base) [some (.int .i64 v),some (.pointer (at0 b)),some (.int .i64 (i : Int))] h = some (q,if q = 1 then [some (.int .i64 (atL v i (l.drop i)))] else [],h)∧(q = 1∨(q = 2∧atL v i (l.drop i) = -1)):=by
 intro d
 induction d with
 | zero=>
  intro i hi
  rw [List.drop_eq_nil_of_le (by omega),atL]
  refine ⟨2,loop_off (by decide) ?_,.inr ⟨rfl,rfl⟩⟩
  rw [B118_0_eq]
  exact bS (by simpa using hc) (ifF (by simp; omega) rfl)
 | succ d ihd=>
  intro i hi
  have hlt : i < l.length:=by omega
  obtain ⟨ad,x1,x2,x3,rfl,_,g0,g1,g2,g3,g4,hm,_⟩:=hs.get hlt
  rw [List.drop_eq_getElem_cons hlt,atL]
  have hc' : Am.cell h b (0 + 1) = some (.slice (some ad) l.length l.length):=by simpa using hc
  by_cases c : (l[i].pid == v) = true
  ·rw [if_pos c]
   refine ⟨1,loop_off (by decide) ?_,.inl rfl⟩
   rw [B118_0_eq]
   refine bS hc' (ifT (decide_eq_true (by omega)) (bS hc' (ifT ⟨by omega,by omega⟩ (bs rfl ?_))))
   simp only [Int.toNat_natCast]
   exact bI g0 (ifT c rfl)
  ·rw [if_neg c]
   obtain ⟨q,e,hq⟩:=ihd (i + 1) (by omega)
   refine ⟨q,loop_on ?_ e,hq⟩
   rw [B118_0_eq]
   refine bS hc' (ifT (decide_eq_true (by omega)) (bS hc' (ifT ⟨by omega,by omega⟩ (bs rfl ?_))))
   simp only [Int.toNat_natCast]
   refine bI g0 (ifF c ?_)
   rw [w64i (n:=(i : Int) + 1) (by omega) (by omega)]
   rfl
theorem l11At_run {base f : Nat} {p : Nat→Prop} {P : Pl} {a b g : Option Addr} {v : Int} {h : AH} (hl : P.acs.length≤9223372036854775807) (hs : AsR h p f P.acs b) (hb : base≤h.length) :
  ∃ h',run (Et base) 118 [.agg (plV a P.code.length b P.acs.length P.next g P.out.length).toArray,.int .i64 v] h = some (.int .i64 (atL v 0 P.acs),h')∧KB NoB h h':=by
 obtain ⟨o1,k1,q1⟩:=box_own (base:=base) (t:=36) (h:=h) (cs:=plV a P.code.length b P.acs.length P.next g P.out.length) hb rfl
 generalize hh1 : h++[some (⟨plV a P.code.length b P.acs.length P.next g P.out.length,36⟩ : Blk)] = h1 at o1 k1 q1
 obtain ⟨q,e,hq⟩:=l11At_loop (base:=base) (v:=v) (b:=h.length) hl (hs.keepN k1) (o1.at0 (i:=1) rfl) P.acs.length 0 (by omega)
 rw [List.drop_zero,show ((0 : Nat) : Int) = 0 from rfl] at e
 rw [List.drop_zero] at hq
 refine ⟨h1,Am.r118 (lets fun y ey=>?_),k1⟩
 rw [hh1] at ey
 subst ey
 refine bs e ?_
 rcases hq with rfl|⟨rfl,e1⟩
 ·exact ifT rfl (bI rfl rfl)
 ·rw [e1]
  exact ifF (show ¬ (2 : Nat) = 1 by decide) (ifT rfl rfl)
theorem at_loop {base f : Nat} {p : Nat→Prop} {l : List Ac} {a : Option Addr} {v : Int} (hl : l.length≤9223372036854775807) : ∀ (d i : Nat) (h : AH),i + d = l.length→AsR h p f l a→base≤h.length →
  ∃ q h',loopL (B87_0 base) [some (.int .i64 v),some (.slice a l.length l.length),some (.int .i64 (l.length : Int)),some (.int .i64 (i : Int))] h = some (q,if q = 1 then [some (.int .i64 (atL v i (l.drop i)))] else [],h')∧(q = 1∨(q = 2∧atL v i (l.drop i) = -1))∧KB NoB h h':=by
 intro d
 induction d with
 | zero=>
  intro i h hi hs hb
  rw [List.drop_eq_nil_of_le (by omega),atL]
  refine ⟨2,h,loop_off (by decide) ?_,.inr ⟨rfl,rfl⟩,KB.refl _ _⟩
  rw [B87_0_eq]
  exact ifF (by simp; omega) rfl
 | succ d ihd=>
  intro i h hi hs hb
  have hlt : i < l.length:=by omega
  obtain ⟨ad,x1,x2,x3,rfl,_,g0,g1,g2,g3,g4,hm,_⟩:=hs.get hlt
  obtain ⟨o1,k1,q1⟩:=box_own (base:=base) (t:=54) (h:=h) (cs:=acV l[i].pid l[i].pc x1 l[i].regs.length x2 l[i].box.length x3 l[i].links.length) hb rfl
  generalize hh1 : h++[some (⟨acV l[i].pid l[i].pc x1 l[i].regs.length x2 l[i].box.length x3 l[i].links.length,54⟩ : Blk)] = h1 at o1 k1 q1
  rw [List.drop_eq_getElem_cons hlt,atL]
  have head : ∀ {r : Option (Nat × Slots × AH)},(if (l[i].pid == v) = true then some (1,[some (.int .i64 (i : Int))],h1) else some (0,[some (.int .i64 v),some (.slice (some ad) l.length l.length),some (.int .i64 (l.length : Int)),some (.int .i64 (IntKind.wrap .i64 ((i : Int) + (1 : Int))))],h1)) = r→B87_0 base [some (.int .i64 v),some (.slice (some ad) l.length l.length),some (.int .i64 (l.length : Int)),some (.int .i64 (i : Int))] h = r:=by
   intro r hr
   rw [B87_0_eq]
   refine ifT (decide_eq_true (by omega)) (ifT ⟨by omega,by omega⟩ (bs rfl ?_))
   simp only [Int.toNat_natCast]
   refine bI g0 (bI g1 (bS g2 (bS g3 (bS g4 (nw hb rfl fun y ey=>?_)))))
   rw [hh1] at ey
   rw [ey]
   exact bI (o1.at0 (i:=0) rfl) hr
  by_cases c : (l[i].pid == v) = true
  ·rw [if_pos c]
   exact ⟨1,h1,loop_off (by decide) (head (ifT c rfl)),.inl rfl,k1⟩
  ·rw [if_neg c]
   obtain ⟨q,h2,e,hq,k2⟩:=ihd (i + 1) h1 (by omega) (hs.keepN k1) (by omega)
   refine ⟨q,h2,loop_on (head (ifF c ?_)) e,hq,kN k1 k2⟩
   rw [w64i (n:=(i : Int) + 1) (by omega) (by omega)]
   rfl
theorem at_run {base f b : Nat} {p : Nat→Prop} {l : List Ac} {a : Option Addr} {v : Int} {h : AH} (hl : l.length≤9223372036854775807) (hs : AsR h p f l a) (hc : Am.cell h b 1 = some (.slice a l.length l.length)) (hb : base≤h.length) :
  ∃ h',run (Et base) 87 [.pointer (at0 b),.int .i64 v] h = some (.int .i64 (atL v 0 l),h')∧KB NoB h h':=by
 obtain ⟨q,h1,e,hq,k1⟩:=at_loop (base:=base) (v:=v) hl l.length 0 h (by omega) hs hb
 rw [List.drop_zero,show ((0 : Nat) : Int) = 0 from rfl] at e
 rw [List.drop_zero] at hq
 refine ⟨h1,Am.r87 (bs rfl (bS (by simpa using hc) (bs e ?_))),k1⟩
 rcases hq with rfl|⟨rfl,e1⟩
 ·exact ifT rfl (bI rfl rfl)
 ·rw [e1]
  exact ifF (show ¬ (2 : Nat) = 1 by decide) (ifT rfl rfl)
def badSd (f : Nat) (x : Sd) : Bool:=if (!inB x.kind 1 3) = true then true else if (!inB x.pid 1 99999) = true then true else !tOk f x.t
def anyBadS (f : Nat) : List Sd→Bool
 | []=>false
 | x :: r=>badSd f x || anyBadS f r
def saidOk (f : Nat) (l : List Sd) : Bool:=!anyBadS f l && decide ((l.length : Int)≤(500 : Int))
theorem l11Said_loop {base f : Nat} {p : Nat→Prop} {l : List Sd} {a : Option Addr} (hl : l.length≤9223372036854775807) : ∀ (d i : Nat) (h : AH),i + d = l.length→SsR h p f l a→base≤h.length →
  ∃ h',loopL (B91_0 base) [some (.slice a l.length l.length),some (.int .i64 (i : Int))] h = some (if anyBadS f (l.drop i) = true then (1,[some (.bool false)],h') else (2,[some (.slice a l.length l.length)],h'))∧KB NoB h h':=by
 intro d
 induction d with
 | zero=>
  intro i h hi hs hb
  refine ⟨h,?_,KB.refl _ _⟩
  rw [List.drop_eq_nil_of_le (by omega),anyBadS,if_neg (by decide)]
  refine loop_off (by decide) ?_
  rw [B91_0_eq]
  exact ifF (by simp; omega) rfl
 | succ d ihd=>
  intro i h hi hs hb
  have hlt : i < l.length:=by omega
  obtain ⟨ad,k,n,s,a2,m,rfl,_,g0,g1,g2,g3,g4,g5,hm⟩:=hs.get hlt
  obtain ⟨h2,e2,k2⟩:=specTermOk_run (base:=base) hm hb
  have n2:=k2.1
  have eI:=l1In_run (base:=base) (h:=h) (x:=l[i].kind) (a:=1) (b:=3)
  have eI2:=l1In_run (base:=base) (h:=h) (x:=l[i].pid) (a:=1) (b:=99999)
  rw [List.drop_eq_getElem_cons hlt,anyBadS]
  have head : ∃ h3,KB NoB h h3∧base≤h3.length∧∀ {r : Option (Nat × Slots × AH)},(if badSd f l[i] = true then some (1,[some (.bool false)],h3) else some (0,[some (.slice (some ad) l.length l.length),some (.int .i64 (IntKind.wrap .i64 ((i : Int) + (1 : Int))))],h3)) = r→B91_0 base [some (.slice (some ad) l.length l.length),some (.int .i64 (i : Int))] h = r:=by
   unfold badSd
   by_cases c1 : (!inB l[i].kind 1 3) = true
   ·refine ⟨h,KB.refl _ _,hb,fun hr=>?_⟩
    rw [if_pos c1] at hr
    rw [B91_0_eq]
    refine ifT (decide_eq_true (by omega)) (bj (q:=([some (.slice (some ad) l.length l.length),some (.int .i64 (i : Int)),some (.bool true)],h)) ?_ (bS rfl (bI rfl (bB rfl hr))))
    refine ifT ⟨by omega,by omega⟩ (bs rfl ?_)
    simp only [Int.toNat_natCast]
    exact bI g0 (bs eI (bB rfl (ifT c1 rfl)))
   by_cases c2 : (!inB l[i].pid 1 99999) = true
   ·refine ⟨h,KB.refl _ _,hb,fun hr=>?_⟩
    rw [if_neg c1,if_pos c2] at hr
    rw [B91_0_eq]
    refine ifT (decide_eq_true (by omega)) (bj (q:=([some (.slice (some ad) l.length l.length),some (.int .i64 (i : Int)),some (.bool true)],h)) ?_ (bS rfl (bI rfl (bB rfl hr))))
    refine ifT ⟨by omega,by omega⟩ (bs rfl ?_)
    simp only [Int.toNat_natCast]
    exact bI g0 (bs eI (bB rfl (ifF c1 (ifT ⟨by omega,by omega⟩ (bs rfl (bI g1 (bs eI2 (bB rfl (ifT c2 rfl)))))))))
   ·refine ⟨h2,k2,by omega,fun hr=>?_⟩
    rw [if_neg c1,if_neg c2] at hr
    rw [B91_0_eq]
    refine ifT (decide_eq_true (by omega)) (bj (q:=([some (.slice (some ad) l.length l.length),some (.int .i64 (i : Int)),some (.bool (!tOk f l[i].t))],h2)) ?_ (bS rfl (bI rfl (bB rfl hr))))
    refine ifT ⟨by omega,by omega⟩ (bs rfl ?_)
    simp only [Int.toNat_natCast]
    refine bI g0 (bs eI (bB rfl (ifF c1 (ifT ⟨by omega,by omega⟩ (bs rfl (bI g1 (bs eI2 (bB rfl (ifF c2 (ifT ⟨by omega,by omega⟩ (bs rfl ?_)))))))))))
    exact bI g2 (bI g3 (bT g4 (bS g5 (bs e2 (bB rfl rfl)))))
  obtain ⟨h3,k3,n3,head⟩:=head
  cases c : badSd f l[i] with
  | true=>
   refine ⟨h3,?_,k3⟩
   rw [Bool.true_or,if_pos rfl]
   exact loop_off (by decide) (head (by rw [c]; exact ifT rfl rfl))
  | false=>
   rw [Bool.false_or]
   obtain ⟨h4,y1,y2⟩:=ihd (i + 1) h3 (by omega) (hs.keep k3 fun _ _ h=>h) n3
   refine ⟨h4,loop_on (head ?_) y1,kN k3 y2⟩
   rw [c,w64i (n:=(i : Int) + 1) (by omega) (by omega)]
   exact ifF (by decide) rfl
theorem l11Said_run {base f : Nat} {h : AH} {p : Nat→Prop} {l : List Sd} {a : Option Addr} (hl : l.length≤9223372036854775807) (hs : SsR h p f l a) (hb : base≤h.length) : ∃ h',run (Et base) 91 [.slice a l.length l.length] h = some (.bool (saidOk f l),h')∧KB NoB h h':=by
 obtain ⟨h1,e1,k1⟩:=l11Said_loop (base:=base) hl l.length 0 h (by omega) hs hb
 rw [List.drop_zero,show ((0 : Nat) : Int) = 0 from rfl] at e1
 refine ⟨h1,?_,k1⟩
 unfold saidOk
 cases c : anyBadS f l with
 | true=>
  rw [c,if_pos rfl] at e1
  exact Am.r91 (bs e1 (ifT rfl (bB rfl rfl)))
 | false=>
  rw [c,if_neg (by decide)] at e1
  exact Am.r91 (bs e1 (ifF (show ¬ (2 : Nat) = 1 by decide) (ifT rfl (bS rfl (by simp)))))
theorem outOk_loop {base f : Nat} {p : Nat→Prop} {l : List Sd} {a : Option Addr} (hl : l.length≤9223372036854775807) : ∀ (d i : Nat) (h : AH),i + d = l.length→SsR h p f l a→base≤h.length →
  ∃ h',loopL (B86_0 base) [some (.slice a l.length l.length),some (.slice a l.length l.length),some (.int .i64 (l.length : Int)),some (.int .i64 (i : Int))] h = some (if anyBadS f (l.drop i) = true then (1,[some (.bool false)],h') else (2,[some (.slice a l.length l.length)],h'))∧KB NoB h h':=by
 intro d
 induction d with
 | zero=>
  intro i h hi hs hb
  refine ⟨h,?_,KB.refl _ _⟩
  rw [List.drop_eq_nil_of_le (by omega),anyBadS,if_neg (by decide)]
  refine loop_off (by decide) ?_
  rw [B86_0_eq]
  exact ifF (by simp; omega) rfl
 | succ d ihd=>
  intro i h hi hs hb
  have hlt : i < l.length:=by omega
  obtain ⟨ad,k,n,s,a2,m,rfl,_,g0,g1,g2,g3,g4,g5,hm⟩:=hs.get hlt
  obtain ⟨o1,k1,q1⟩:=box_own (base:=base) (t:=140) (h:=h) (cs:=saidV l[i].kind l[i].pid k n s a2 m) hb rfl
  generalize hh1 : h++[some (⟨saidV l[i].kind l[i].pid k n s a2 m,140⟩ : Blk)] = h1 at o1 k1 q1
  obtain ⟨h2,e2,k2⟩:=implTermOk_run (base:=base) (h:=h1) (TmR.keep k1 (fun _ _ h=>h) _ _ _ hm) (by omega)
  have n2:=k2.1
  have eI:=in_run (base:=base) (h:=h1) (x:=l[i].kind) (a:=1) (b:=3)
  have eI2:=in_run (base:=base) (h:=h1) (x:=l[i].pid) (a:=1) (b:=99999)
  rw [List.drop_eq_getElem_cons hlt,anyBadS]
  have head : ∃ h3,KB NoB h h3∧base≤h3.length∧∀ {r : Option (Nat × Slots × AH)},(if badSd f l[i] = true then some (1,[some (.bool false)],h3) else some (0,[some (.slice (some ad) l.length l.length),some (.slice (some ad) l.length l.length),some (.int .i64 (l.length : Int)),some (.int .i64 (IntKind.wrap .i64 ((i : Int) + (1 : Int))))],h3)) = r→B86_0 base [some (.slice (some ad) l.length l.length),some (.slice (some ad) l.length l.length),some (.int .i64 (l.length : Int)),some (.int .i64 (i : Int))] h = r:=by
   have pre : ∀ (b : Bool) (hz : AH) {r : Option (Nat × Slots × AH)},(if (!inB l[i].kind 1 3) = true then some (Sum.inl ([some (.slice (some ad) l.length l.length),some (.slice (some ad) l.length l.length),some (.int .i64 (l.length : Int)),some (.int .i64 (i : Int)),some (.bool true)],h1)) else if (!inB l[i].pid 1 99999) = true then some (Sum.inl ([some (.slice (some ad) l.length l.length),some (.slice (some ad) l.length l.length),some (.int .i64 (l.length : Int)),some (.int .i64 (i : Int)),some (.bool true)],h1)) else some (Sum.inl ([some (.slice (some ad) l.length l.length),some (.slice (some ad) l.length l.length),some (.int .i64 (l.length : Int)),some (.int .i64 (i : Int)),some (.bool (!tOk f l[i].t))],h2))) = some (Sum.inl (([some (.slice (some ad) l.length l.length),some (.slice (some ad) l.length l.length),some (.int .i64 (l.length : Int)),some (.int .i64 (i : Int)),some (.bool b)],hz)) : Sum (Slots × AH) (Nat × Slots × AH)) →
     (if b = true then some (1,[some (.bool false)],hz) else some (0,[some (.slice (some ad) l.length l.length),some (.slice (some ad) l.length l.length),some (.int .i64 (l.length : Int)),some (.int .i64 (IntKind.wrap .i64 ((i : Int) + (1 : Int))))],hz)) = r→B86_0 base [some (.slice (some ad) l.length l.length),some (.slice (some ad) l.length l.length),some (.int .i64 (l.length : Int)),some (.int .i64 (i : Int))] h = r:=by
    intro b hz r hq hr
    rw [B86_0_eq]
    refine ifT (decide_eq_true (by omega)) (ifT ⟨by omega,by omega⟩ (bs rfl ?_))
    simp only [Int.toNat_natCast]
    refine bI g0 (bI g1 (bI g2 (bI g3 (bT g4 (bS g5 (nw hb rfl fun y ey=>?_))))))
    rw [hh1] at ey
    rw [ey]
    refine bj (q:=([some (.slice (some ad) l.length l.length),some (.slice (some ad) l.length l.length),some (.int .i64 (l.length : Int)),some (.int .i64 (i : Int)),some (.bool b)],hz)) ?_ (bS rfl (bS rfl (bI rfl (bI rfl (bB rfl hr)))))
    refine bI (o1.at0 (i:=0) rfl) (bs eI (bB rfl ?_))
    rw [← hq]
    by_cases c1 : (!inB l[i].kind 1 3) = true
    ·rw [if_pos c1,if_pos c1]
    rw [if_neg c1,if_neg c1]
    refine bI (o1.at0 (i:=1) rfl) (bs eI2 (bB rfl ?_))
    by_cases c2 : (!inB l[i].pid 1 99999) = true
    ·rw [if_pos c2,if_pos c2]
    rw [if_neg c2,if_neg c2]
    exact bI (o1.at0 (i:=2) rfl) (bI (o1.at0 (i:=3) rfl) (bT (o1.at0 (i:=4) rfl) (bS (o1.at0 (i:=5) rfl) (bs e2 (bB rfl rfl)))))
   unfold badSd
   by_cases c1 : (!inB l[i].kind 1 3) = true
   ·refine ⟨h1,k1,by omega,fun hr=>pre true h1 (if_pos c1) ?_⟩
    rw [if_pos c1] at hr
    exact hr
   by_cases c2 : (!inB l[i].pid 1 99999) = true
   ·refine ⟨h1,k1,by omega,fun hr=>pre true h1 (by rw [if_neg c1,if_pos c2]) ?_⟩
    rw [if_neg c1,if_pos c2] at hr
    exact hr
   ·refine ⟨h2,kN k1 k2,by omega,fun hr=>pre (!tOk f l[i].t) h2 (by rw [if_neg c1,if_neg c2]) ?_⟩
    rw [if_neg c1,if_neg c2] at hr
    exact hr
  obtain ⟨h3,k3,n3,head⟩:=head
  cases c : badSd f l[i] with
  | true=>
   refine ⟨h3,?_,k3⟩
   rw [Bool.true_or,if_pos rfl]
   exact loop_off (by decide) (head (by rw [c]; exact ifT rfl rfl))
  | false=>
   rw [Bool.false_or]
   obtain ⟨h4,y1,y2⟩:=ihd (i + 1) h3 (by omega) (hs.keep k3 fun _ _ h=>h) n3
   refine ⟨h4,loop_on (head ?_) y1,kN k3 y2⟩
   rw [c,w64i (n:=(i : Int) + 1) (by omega) (by omega)]
   exact ifF (by decide) rfl
theorem outOk_run {base f : Nat} {h : AH} {p : Nat→Prop} {l : List Sd} {a : Option Addr} (hl : l.length≤9223372036854775807) (hs : SsR h p f l a) (hb : base≤h.length) : ∃ h',run (Et base) 86 [.slice a l.length l.length] h = some (.bool (saidOk f l),h')∧KB NoB h h':=by
 obtain ⟨h1,e1,k1⟩:=outOk_loop (base:=base) hl l.length 0 h (by omega) hs hb
 rw [List.drop_zero,show ((0 : Nat) : Int) = 0 from rfl] at e1
 refine ⟨h1,?_,k1⟩
 unfold saidOk
 cases c : anyBadS f l with
 | true=>
  rw [c,if_pos rfl] at e1
  exact Am.r86 (bs e1 (ifT rfl (bB rfl rfl)))
 | false=>
  rw [c,if_neg (by decide)] at e1
  exact Am.r86 (bs e1 (ifF (show ¬ (2 : Nat) = 1 by decide) (ifT rfl (bS rfl (by simp)))))
def a0 : Ac:=⟨0,0,[],[],[]⟩
theorem aD {l : List Ac} {i : Nat} (hi : i < l.length) : l.getD i a0 = l[i]:=by simp [hi]
def badLk (acs : List Ac) (v n : Int) : Bool:=if decide (atL n 0 acs ≥ 0) = true then !hasI v (acs.getD (atL n 0 acs).toNat a0).links else false
def anyLk (acs : List Ac) (v : Int) : List Int→Bool
 | []=>false
 | n :: r=>badLk acs v n || anyLk acs v r
theorem l11Both_loop {base f pb ab : Nat} {p : Nat→Prop} {P : Pl} {a b c : Option Addr} {A : Ac} {x1 x2 g : Option Addr} (hM : PlM P) (hA : A.links.length≤9223372036854775807) : ∀ (d i : Nat) (h : AH),i + d = A.links.length→AsR h p f P.acs b→Own base 36 h (at0 pb) (plV a P.code.length b P.acs.length P.next c P.out.length)→Own base 54 h (at0 ab) (acV A.pid A.pc x1 A.regs.length x2 A.box.length g A.links.length)→Sl h g (iv .i64 A.links)→base≤h.length →
  ∃ h',loopL (B93_0 base) [some (.pointer (at0 pb)),some (.pointer (at0 ab)),some (.int .i64 (i : Int))] h = some (if anyLk P.acs A.pid (A.links.drop i) = true then (1,[some (.bool false)],h') else (2,[],h'))∧KB NoB h h':=by
 intro d
 induction d with
 | zero=>
  intro i h hi hs oP oA hl hb
  refine ⟨h,?_,KB.refl _ _⟩
  rw [List.drop_eq_nil_of_le (by omega),anyLk,if_neg (by decide)]
  refine loop_off (by decide) ?_
  rw [B93_0_eq]
  refine bS (oA.at0 (i:=4) rfl) (ifF ?_ rfl)
  simp; omega
 | succ d ihd=>
  intro i h hi hs oP oA hl hb
  have hlt : i < A.links.length:=by omega
  obtain ⟨gd,rfl,gl⟩:=int_get hl hlt
  obtain ⟨h2,e2,k2⟩:=l11At_run (base:=base) (P:=P) (a:=a) (g:=c) (v:=A.links[i]) hM.2.2.1 hs hb
  have n2:=k2.1
  rw [List.drop_eq_getElem_cons hlt,anyLk]
  have head : ∀ {r : Option (Nat × Slots × AH)},(if badLk P.acs A.pid A.links[i] = true then some (1,[some (.bool false)],h2) else some (0,[some (.pointer (at0 pb)),some (.pointer (at0 ab)),some (.int .i64 (IntKind.wrap .i64 ((i : Int) + (1 : Int))))],h2)) = r→B93_0 base [some (.pointer (at0 pb)),some (.pointer (at0 ab)),some (.int .i64 (i : Int))] h = r:=by
   intro r hr
   rw [B93_0_eq]
   refine bS (oA.at0 (i:=4) rfl) (ifT (decide_eq_true (by omega)) ?_)
   refine bS (oP.at0 (i:=0) rfl) (bS (oP.at0 (i:=1) rfl) (bI (oP.at0 (i:=2) rfl) (bS (oP.at0 (i:=3) rfl) (bS (oA.at0 (i:=4) rfl) (ifT ⟨by omega,by omega⟩ (bs rfl ?_))))))
   simp only [Int.toNat_natCast]
   refine bI gl (bs e2 (bI rfl ?_))
   refine bj (q:=([some (.pointer (at0 pb)),some (.pointer (at0 ab)),some (.int .i64 (i : Int)),some (.bool (badLk P.acs A.pid A.links[i]))],h2)) ?_ (bs rfl (bs rfl (bI rfl (bB rfl hr))))
   unfold badLk
   by_cases cc : atL A.links[i] 0 P.acs ≥ 0
   ·rw [decide_eq_true cc,if_pos rfl,if_pos rfl]
    have hlt2 : atL A.links[i] 0 P.acs < (P.acs.length : Int):=by
     rcases atL_lt A.links[i] P.acs 0 with h|⟨_,h⟩ <;> omega
    have hn : (atL A.links[i] 0 P.acs).toNat < P.acs.length:=by omega
    obtain ⟨ad,u1,u2,u3,rfl,_,y0,y1,y2,y3,y4,_,ym⟩:=(hs.keepN k2).get hn
    have eh:=l11Has_run (base:=base) (v:=A.pid) (h:=h2) (by have:=(hM.2.2.2.1 _ (List.getElem_mem hn)).2.2; omega) ym
    rw [aD hn]
    exact bS ((oP.keepN k2).at0 (i:=1) rfl) (ifT ⟨cc,hlt2⟩ (bs rfl (bS y4 (bI ((oA.keepN k2).at0 (i:=0) rfl) (bs eh (bB rfl rfl))))))
   ·rw [decide_eq_false cc,if_neg (by decide),if_neg (by decide)]
  cases cb : badLk P.acs A.pid A.links[i] with
  | true=>
   refine ⟨h2,?_,k2⟩
   rw [Bool.true_or,if_pos rfl]
   exact loop_off (by decide) (head (by rw [cb]; exact ifT rfl rfl))
  | false=>
   rw [Bool.false_or]
   obtain ⟨h4,y1,y2⟩:=ihd (i + 1) h2 (by omega) (hs.keepN k2) (oP.keepN k2) (oA.keepN k2) (hl.keepN k2) (by omega)
   refine ⟨h4,loop_on (head ?_) y1,kN k2 y2⟩
   rw [cb,w64i (n:=(i : Int) + 1) (by omega) (by omega)]
   exact ifF (by decide) rfl
theorem l11Both_run {base f : Nat} {p : Nat→Prop} {P : Pl} {a b c : Option Addr} {i : Nat} {h : AH} (hM : PlM P) (hi : i < P.acs.length) (hs : AsR h p f P.acs b) (hb : base≤h.length) :
  ∃ h',run (Et base) 93 [.agg (plV a P.code.length b P.acs.length P.next c P.out.length).toArray,.int .i64 (i : Int)] h = some (.bool (!anyLk P.acs P.acs[i].pid P.acs[i].links),h')∧KB NoB h h':=by
 obtain ⟨o1,k1,q1⟩:=box_own (base:=base) (t:=36) (h:=h) (cs:=plV a P.code.length b P.acs.length P.next c P.out.length) hb rfl
 generalize hh1 : h++[some (⟨plV a P.code.length b P.acs.length P.next c P.out.length,36⟩ : Blk)] = h1 at o1 k1 q1
 obtain ⟨ad,x1,x2,g,rfl,_,g0,g1,g2,g3,g4,hm,hl⟩:=(hs.keepN k1).get hi
 obtain ⟨o2,k2,q2⟩:=box_own (base:=base) (t:=54) (h:=h1) (cs:=acV P.acs[i].pid P.acs[i].pc x1 P.acs[i].regs.length x2 P.acs[i].box.length g P.acs[i].links.length) (by omega) rfl
 generalize hh2 : h1++[some (⟨acV P.acs[i].pid P.acs[i].pc x1 P.acs[i].regs.length x2 P.acs[i].box.length g P.acs[i].links.length,54⟩ : Blk)] = h2 at o2 k2 q2
 have k02:=kN k1 k2
 obtain ⟨h3,e3,k3⟩:=l11Both_loop (base:=base) hM (hM.2.2.2.1 _ (List.getElem_mem hi)).2.2 P.acs[i].links.length 0 h2 (by omega) (hs.keepN k02) (o1.keepN k2) o2 (hl.keepN k2) (by omega)
 rw [List.drop_zero,show ((0 : Nat) : Int) = 0 from rfl] at e3
 refine ⟨h3,Am.r93 (lets fun y ey=>?_),kN k02 k3⟩
 rw [hh1] at ey
 rw [ey]
 refine bS (o1.at0 (i:=1) rfl) (ifT ⟨by omega,by omega⟩ (bs rfl ?_))
 simp only [Int.toNat_natCast]
 refine bI g0 (bI g1 (bS g2 (bS g3 (bS g4 (nw (show base≤h1.length by omega) rfl fun y ey=>?_)))))
 rw [hh2] at ey
 rw [ey]
 refine bs e3 ?_
 cases anyLk P.acs P.acs[i].pid P.acs[i].links with
 | true=>exact ifT rfl (bB rfl rfl)
 | false=>exact ifF (show ¬ (2 : Nat) = 1 by decide) (ifT rfl rfl)
def preA (f : Nat) (P : Pl) (i : Nat) : Bool:=if (!acOk f P.code (P.acs.getD i a0)) = true then true else if decide ((P.acs.getD i a0).pid ≥ P.next) = true then true else if decide ((i : Int) > (0 : Int)) = true then decide ((P.acs.getD (i - 1) a0).pid ≥ (P.acs.getD i a0).pid) else false
def badA (f : Nat) (P : Pl) (i : Nat) : Bool:=if preA f P i = true then true else anyLk P.acs (P.acs.getD i a0).pid (P.acs.getD i a0).links
def anyA (f : Nat) (P : Pl) : Nat→Nat→Bool
 | 0,_=>false
 | d + 1,i=>badA f P i || anyA f P d (i + 1)
def plOk (f : Nat) (P : Pl) : Bool:=codeOk P.code && (inB P.next 1 90000 && (decide (¬ (P.acs.length : Int) > 20) && (saidOk f P.out && !anyA f P P.acs.length 0)))
theorem specPlainOk_loop {base f pb : Nat} {p : Nat→Prop} {P : Pl} {a b c : Option Addr} (hM : PlM P) : ∀ (d i : Nat) (h : AH),i + d = P.acs.length→AsR h p f P.acs b→Own base 36 h (at0 pb) (plV a P.code.length b P.acs.length P.next c P.out.length)→Sl h a (insR P.code)→base≤h.length →
  ∃ h',loopL (B27_0 base) [some (.pointer (at0 pb)),some (.int .i64 (i : Int))] h = some (if anyA f P d i = true then (1,[some (.bool false)],h') else (2,[],h'))∧KB NoB h h':=by
 intro d
 have l1:=hM.1
 have l3:=hM.2.2.1
 induction d with
 | zero=>
  intro i h hi hs oP hc hb
  refine ⟨h,?_,KB.refl _ _⟩
  rw [anyA,if_neg (by decide)]
  refine loop_off (by decide) ?_
  rw [B27_0_eq]
  refine bS (oP.at0 (i:=1) rfl) (ifF ?_ rfl)
  simp; omega
 | succ d ihd=>
  intro i h hi hs oP hc hb
  have hlt : i < P.acs.length:=by omega
  obtain ⟨ad,x1,x2,x3,rfl,_,g0,g1,g2,g3,g4,hm,_⟩:=hs.get hlt
  obtain ⟨o1,k1,q1⟩:=box_own (base:=base) (t:=54) (h:=h) (cs:=acV P.acs[i].pid P.acs[i].pc x1 P.acs[i].regs.length x2 P.acs[i].box.length x3 P.acs[i].links.length) hb rfl
  generalize hh1 : h++[some (⟨acV P.acs[i].pid P.acs[i].pc x1 P.acs[i].regs.length x2 P.acs[i].box.length x3 P.acs[i].links.length,54⟩ : Blk)] = h1 at o1 k1 q1
  obtain ⟨h2,e2,k2⟩:=specActorOk_run (base:=base) hM.2.1 l1 (hc.keepN k1) (hM.2.2.2.1 _ (List.getElem_mem hlt)) (hm.keep k1 fun _ _ h=>h) (by omega)
  have n2:=k2.1
  have k02:=kN k1 k2
  obtain ⟨h3,e3,k3⟩:=l11Both_run (base:=base) (a:=a) (c:=c) hM hlt (hs.keepN k02) (by omega)
  have n3:=k3.1
  have oP1:=oP.keepN k1
  have oP2:=oP1.keepN k2
  have o2:=o1.keepN k2
  have head : ∃ hz,KB NoB h hz∧∀ {r : Option (Nat × Slots × AH)},(if badA f P i = true then some (1,[some (.bool false)],hz) else some (0,[some (.pointer (at0 pb)),some (.int .i64 (IntKind.wrap .i64 ((i : Int) + (1 : Int))))],hz)) = r→B27_0 base [some (.pointer (at0 pb)),some (.int .i64 (i : Int))] h = r:=by
   have hB : badA f P i = if (!acOk f P.code P.acs[i]) = true then true else if decide (P.acs[i].pid ≥ P.next) = true then true else if decide ((i : Int) > (0 : Int)) = true then (if decide ((P.acs.getD (i - 1) a0).pid ≥ P.acs[i].pid) = true then true else anyLk P.acs P.acs[i].pid P.acs[i].links) else anyLk P.acs P.acs[i].pid P.acs[i].links:=by
    unfold badA preA
    rw [aD hlt]
    cases acOk f P.code P.acs[i] <;> cases decide (P.acs[i].pid ≥ P.next) <;> cases decide ((i : Int) > (0 : Int)) <;> cases decide ((P.acs.getD (i - 1) a0).pid ≥ P.acs[i].pid) <;> rfl
   rw [hB]
   by_cases c1 : (!acOk f P.code P.acs[i]) = true
   ·refine ⟨h2,k02,fun hr=>?_⟩
    rw [if_pos c1] at hr
    rw [B27_0_eq]
    refine bS (oP.at0 (i:=1) rfl) (ifT (decide_eq_true (by omega)) (bS (oP.at0 (i:=1) rfl) (ifT ⟨by omega,by omega⟩ (bs rfl ?_))))
    simp only [Int.toNat_natCast]
    refine bI g0 (bI g1 (bS g2 (bS g3 (bS g4 (nw hb rfl fun y ey=>?_)))))
    rw [hh1] at ey
    rw [ey]
    refine bj (q:=([some (.pointer (at0 pb)),some (.int .i64 (i : Int)),some (.bool true)],h2)) ?_ (bs rfl (bI rfl (bB rfl hr)))
    refine bS (oP1.at0 (i:=0) rfl) (bI (o1.at0 (i:=0) rfl) (bI (o1.at0 (i:=1) rfl) (bS (o1.at0 (i:=2) rfl) (bS (o1.at0 (i:=3) rfl) (bS (o1.at0 (i:=4) rfl) (bs e2 (bB rfl ?_)))))))
    exact ifT c1 rfl
   by_cases c2 : decide (P.acs[i].pid ≥ P.next) = true
   ·refine ⟨h2,k02,fun hr=>?_⟩
    rw [if_neg c1,if_pos c2] at hr
    rw [B27_0_eq]
    refine bS (oP.at0 (i:=1) rfl) (ifT (decide_eq_true (by omega)) (bS (oP.at0 (i:=1) rfl) (ifT ⟨by omega,by omega⟩ (bs rfl ?_))))
    simp only [Int.toNat_natCast]
    refine bI g0 (bI g1 (bS g2 (bS g3 (bS g4 (nw hb rfl fun y ey=>?_)))))
    rw [hh1] at ey
    rw [ey]
    refine bj (q:=([some (.pointer (at0 pb)),some (.int .i64 (i : Int)),some (.bool true)],h2)) ?_ (bs rfl (bI rfl (bB rfl hr)))
    refine bS (oP1.at0 (i:=0) rfl) (bI (o1.at0 (i:=0) rfl) (bI (o1.at0 (i:=1) rfl) (bS (o1.at0 (i:=2) rfl) (bS (o1.at0 (i:=3) rfl) (bS (o1.at0 (i:=4) rfl) (bs e2 (bB rfl ?_)))))))
    exact ifF c1 (bI (o2.at0 (i:=0) rfl) (bI (oP2.at0 (i:=2) rfl) (ifT c2 rfl)))
   by_cases c3 : (i : Int) > 0
   ·have hw : IntKind.wrap .i64 ((i : Int) - (1 : Int)) = ((i - 1 : Nat) : Int):=by rw [w64i (by omega) (by omega)]; omega
    have hp1 : i - 1 < P.acs.length:=by omega
    obtain ⟨ad2,u1,u2,u3,ee,_,y0,_,_,_,_,_,_⟩:=(hs.keepN k02).get hp1
    injection ee with ee
    subst ee
    rw [aD hp1,decide_eq_true c3]
    by_cases c4 : decide (P.acs[i - 1].pid ≥ P.acs[i].pid) = true
    ·refine ⟨h2,k02,fun hr=>?_⟩
     rw [if_neg c1,if_neg c2,if_pos rfl,if_pos c4] at hr
     rw [B27_0_eq]
     refine bS (oP.at0 (i:=1) rfl) (ifT (decide_eq_true (by omega)) (bS (oP.at0 (i:=1) rfl) (ifT ⟨by omega,by omega⟩ (bs rfl ?_))))
     simp only [Int.toNat_natCast]
     refine bI g0 (bI g1 (bS g2 (bS g3 (bS g4 (nw hb rfl fun y ey=>?_)))))
     rw [hh1] at ey
     rw [ey]
     refine bj (q:=([some (.pointer (at0 pb)),some (.int .i64 (i : Int)),some (.bool true)],h2)) ?_ (bs rfl (bI rfl (bB rfl hr)))
     refine bS (oP1.at0 (i:=0) rfl) (bI (o1.at0 (i:=0) rfl) (bI (o1.at0 (i:=1) rfl) (bS (o1.at0 (i:=2) rfl) (bS (o1.at0 (i:=3) rfl) (bS (o1.at0 (i:=4) rfl) (bs e2 (bB rfl ?_)))))))
     refine ifF c1 (bI (o2.at0 (i:=0) rfl) (bI (oP2.at0 (i:=2) rfl) (ifF c2 ?_)))
     rw [hw]
     refine ifT (decide_eq_true c3) (bS (oP2.at0 (i:=1) rfl) (ifT ⟨by omega,by omega⟩ (bs rfl ?_)))
     simp only [Int.toNat_natCast]
     exact bI y0 (bI (o2.at0 (i:=0) rfl) (ifT c4 rfl))
    ·refine ⟨h3,kN k02 k3,fun hr=>?_⟩
     rw [if_neg c1,if_neg c2,if_pos rfl,if_neg c4] at hr
     rw [B27_0_eq]
     refine bS (oP.at0 (i:=1) rfl) (ifT (decide_eq_true (by omega)) (bS (oP.at0 (i:=1) rfl) (ifT ⟨by omega,by omega⟩ (bs rfl ?_))))
     simp only [Int.toNat_natCast]
     refine bI g0 (bI g1 (bS g2 (bS g3 (bS g4 (nw hb rfl fun y ey=>?_)))))
     rw [hh1] at ey
     rw [ey]
     refine bj (q:=([some (.pointer (at0 pb)),some (.int .i64 (i : Int)),some (.bool (anyLk P.acs P.acs[i].pid P.acs[i].links))],h3)) ?_ (bs rfl (bI rfl (bB rfl hr)))
     refine bS (oP1.at0 (i:=0) rfl) (bI (o1.at0 (i:=0) rfl) (bI (o1.at0 (i:=1) rfl) (bS (o1.at0 (i:=2) rfl) (bS (o1.at0 (i:=3) rfl) (bS (o1.at0 (i:=4) rfl) (bs e2 (bB rfl ?_)))))))
     refine ifF c1 (bI (o2.at0 (i:=0) rfl) (bI (oP2.at0 (i:=2) rfl) (ifF c2 ?_)))
     rw [hw]
     refine ifT (decide_eq_true c3) (bS (oP2.at0 (i:=1) rfl) (ifT ⟨by omega,by omega⟩ (bs rfl ?_)))
     simp only [Int.toNat_natCast]
     refine bI y0 (bI (o2.at0 (i:=0) rfl) (ifF c4 ?_))
     refine bS (oP2.at0 (i:=0) rfl) (bS (oP2.at0 (i:=1) rfl) (bI (oP2.at0 (i:=2) rfl) (bS (oP2.at0 (i:=3) rfl) (bs e3 (bB rfl ?_)))))
     rw [Bool.not_not]
   ·refine ⟨h3,kN k02 k3,fun hr=>?_⟩
    rw [decide_eq_false c3] at hr
    rw [if_neg c1,if_neg c2,if_neg (show ¬ (false = true) by decide)] at hr
    rw [B27_0_eq]
    refine bS (oP.at0 (i:=1) rfl) (ifT (decide_eq_true (by omega)) (bS (oP.at0 (i:=1) rfl) (ifT ⟨by omega,by omega⟩ (bs rfl ?_))))
    simp only [Int.toNat_natCast]
    refine bI g0 (bI g1 (bS g2 (bS g3 (bS g4 (nw hb rfl fun y ey=>?_)))))
    rw [hh1] at ey
    rw [ey]
    refine bj (q:=([some (.pointer (at0 pb)),some (.int .i64 (i : Int)),some (.bool (anyLk P.acs P.acs[i].pid P.acs[i].links))],h3)) ?_ (bs rfl (bI rfl (bB rfl hr)))
    refine bS (oP1.at0 (i:=0) rfl) (bI (o1.at0 (i:=0) rfl) (bI (o1.at0 (i:=1) rfl) (bS (o1.at0 (i:=2) rfl) (bS (o1.at0 (i:=3) rfl) (bS (o1.at0 (i:=4) rfl) (bs e2 (bB rfl ?_)))))))
    refine ifF c1 (bI (o2.at0 (i:=0) rfl) (bI (oP2.at0 (i:=2) rfl) (ifF c2 (ifF (by simpa using c3) ?_))))
    refine bS (oP2.at0 (i:=0) rfl) (bS (oP2.at0 (i:=1) rfl) (bI (oP2.at0 (i:=2) rfl) (bS (oP2.at0 (i:=3) rfl) (bs e3 (bB rfl ?_)))))
    rw [Bool.not_not]
  obtain ⟨hz,kz,head⟩:=head
  have nz:=kz.1
  rw [anyA]
  cases cb : badA f P i with
  | true=>
   refine ⟨hz,?_,kz⟩
   rw [Bool.true_or,if_pos rfl]
   exact loop_off (by decide) (head (by rw [cb]; exact ifT rfl rfl))
  | false=>
   rw [Bool.false_or]
   obtain ⟨h4,y1,y2⟩:=ihd (i + 1) hz (by omega) (hs.keepN kz) (oP.keepN kz) (hc.keepN kz) (by omega)
   refine ⟨h4,loop_on (head ?_) y1,kN kz y2⟩
   rw [cb,w64i (n:=(i : Int) + 1) (by omega) (by omega)]
   exact ifF (by decide) rfl
theorem specPlainOk_run {base f : Nat} {h : AH} {p : Nat→Prop} {P : Pl} {cs : List Value} (hM : PlM P) (x : PlR h p f P cs) (hb : base≤h.length) :
  ∃ h',run (Et base) 27 [.agg cs.toArray] h = some (.bool (plOk f P),h')∧KB NoB h h':=by
 obtain ⟨a,b,c,rfl,hc,_,hs,ho⟩:=x
 obtain ⟨o1,k1,q1⟩:=box_own (base:=base) (t:=36) (h:=h) (cs:=plV a P.code.length b P.acs.length P.next c P.out.length) hb rfl
 generalize hh1 : h++[some (⟨plV a P.code.length b P.acs.length P.next c P.out.length,36⟩ : Blk)] = h1 at o1 k1 q1
 obtain ⟨h2,e2,k2⟩:=specCodeOk_run (base:=base) hM.2.1 hM.1 (hc.keepN k1) (by omega)
 have n2:=k2.1
 have k02:=kN k1 k2
 have o2:=o1.keepN k2
 have eI:=l1In_run (base:=base) (h:=h2) (x:=P.next) (a:=1) (b:=90000)
 obtain ⟨h3,e3,k3⟩:=l11Said_run (base:=base) hM.2.2.2.2 (ho.keep k02 fun _ _ h=>h) (by omega)
 have n3:=k3.1
 have k03:=kN k02 k3
 obtain ⟨h4,e4,k4⟩:=specPlainOk_loop (base:=base) (pb:=h.length) hM P.acs.length 0 h3 (by omega) (hs.keepN k03) (o2.keepN k3) (hc.keepN k03) (by omega)
 rw [show ((0 : Nat) : Int) = 0 from rfl] at e4
 unfold plOk
 have fin : ∀ (q : Bool) (hz : AH) {r : Value × AH},(hq : (if (!codeOk P.code) = true then some (Sum.inl (([some (.pointer (at0 h.length)),some (.bool true)],h2))) else if (!inB P.next 1 90000) = true then some (Sum.inl (([some (.pointer (at0 h.length)),some (.bool true)],h2))) else if decide ((P.acs.length : Int) > 20) = true then some (Sum.inl (([some (.pointer (at0 h.length)),some (.bool true)],h2))) else some (Sum.inl (([some (.pointer (at0 h.length)),some (.bool (!saidOk f P.out))],h3)))) = some (Sum.inl (([some (.pointer (at0 h.length)),some (.bool q)],hz)) : Sum (Slots × AH) (Value × AH))) →
   (if q = true then some ((.bool false),hz) else (loopL (B27_0 base) [some (.pointer (at0 h.length)),some (.int .i64 (0 : Int))] hz).bind fun q15=>(if q15.1 = 1 then ((sget q15.2.1 0).bind getB).bind fun b16=>some ((.bool b16),q15.2.2) else (if q15.1 = 2 then some ((.bool true),q15.2.2) else none))) = some r→run (Et base) 27 [.agg (plV a P.code.length b P.acs.length P.next c P.out.length).toArray] h = some r:=by
  intro q hz r hq hr
  refine Am.r27 (lets fun y ey=>?_)
  rw [hh1] at ey
  rw [ey]
  refine bj (q:=([some (.pointer (at0 h.length)),some (.bool q)],hz)) ?_ (bs rfl (bB rfl hr))
  rw [← hq]
  refine bS (o1.at0 (i:=0) rfl) (bs e2 (bB rfl ?_))
  by_cases c1 : (!codeOk P.code) = true
  ·rw [if_pos c1,if_pos c1]
  rw [if_neg c1,if_neg c1]
  refine bI (o2.at0 (i:=2) rfl) (bs eI (bB rfl ?_))
  by_cases c2 : (!inB P.next 1 90000) = true
  ·rw [if_pos c2,if_pos c2]
  rw [if_neg c2,if_neg c2]
  refine bS (o2.at0 (i:=1) rfl) ?_
  by_cases c3 : decide ((P.acs.length : Int) > 20) = true
  ·rw [if_pos c3,if_pos c3]
  rw [if_neg c3,if_neg c3]
  exact bS (o2.at0 (i:=3) rfl) (bs e3 (bB rfl rfl))
 by_cases c1 : codeOk P.code = true
 ·rw [c1,Bool.true_and]
  by_cases c2 : inB P.next 1 90000 = true
  ·rw [c2,Bool.true_and]
   by_cases c3 : (P.acs.length : Int) > 20
   ·refine ⟨h2,fin true h2 (by rw [c1,c2]; simp [c3]) ?_,k02⟩
    simp [c3]
   ·rw [decide_eq_true c3,Bool.true_and]
    by_cases c4 : saidOk f P.out = true
    ·rw [c4,Bool.true_and]
     refine ⟨h4,fin false h3 (by rw [c1,c2,c4]; simp [c3]) (ifF (by decide) (bs e4 ?_)),kN k03 k4⟩
     cases anyA f P P.acs.length 0 with
     | true=>exact ifT rfl (bB rfl rfl)
     | false=>exact ifF (show ¬ (2 : Nat) = 1 by decide) (ifT rfl rfl)
    ·refine ⟨h3,fin true h3 (by rw [c1,c2]; simp [c3,c4]) ?_,k03⟩
     simp [c4]
  ·refine ⟨h2,fin true h2 (by rw [c1]; simp [c2]) ?_,k02⟩
   simp [c2]
 ·refine ⟨h2,fin true h2 (by simp [c1]) ?_,k02⟩
  simp [c1]
set_option maxRecDepth 100000 in
theorem rd_saids {h : AH} {f : Nat} {v : Value} (x : Rd Try.prog h f 24 [v]) : ∃ g a l,v = .slice a (List.length l) (List.length l)∧l.length≤maxLen∧SsR h (· < h.length) g l a:=by
 have cS : Try.prog.cellsOf 137 = 6:=by kernel_rfl
 have cT : Try.prog.cellsOf 29 = 4:=by kernel_rfl
 have c3 : Try.prog.cellsOf 3 = 1:=by kernel_rfl
 match f,x with
 | 0,x=>exact x.elim
 | f + 1,x=>
  simp only [Rd,Try.underlying24] at x
  obtain ⟨a,n,vs,e,h2,h3,h4,h5⟩:=x
  injection e with e _
  subst e
  rw [cS] at h4 h5
  have each : ∀ i,i < n→∃ x : Sd,∃ cs,(vs.drop (i * 6)).take 6 = .int .i64 x.kind :: .int .i64 x.pid :: cs∧TmR h (· < h.length) f x.t cs:=by
   intro i hi
   have y:=h5 i hi
   match f,y with
   | 0,y=>exact y.elim
   | f + 1,y=>
    simp only [Rd,Try.underlying137] at y
    obtain ⟨hl,hf⟩:=y
    generalize hcs : (vs.drop (i * 6)).take 6 = cs at hl hf
    rw [cS] at hl
    match cs,hl with
    | [v0,v1,v2,v3,v4,v5],_=>
     simp only [List.forall_mem_cons,c3,cT,List.drop_zero,List.drop_succ_cons,List.take_succ_cons,List.take_zero] at hf
     obtain ⟨f0,f1,f2,_⟩:=hf
     obtain ⟨n0,e0,_⟩:=f0.int Try.underlying3
     obtain ⟨n1,e1,_⟩:=f1.int Try.underlying3
     injection e0 with e0 _
     injection e1 with e1 _
     subst e0; subst e1
     obtain ⟨t,ht⟩:=rd_term f _ f2
     exact ⟨⟨n0,n1,t⟩,_,rfl,TmR.up _ _ _ ht⟩
  let g : Nat→Sd:=fun i=>if hi : i < n then (each i hi).choose else ⟨0,0,.mk 0 0 ⟨#[]⟩ []⟩
  have hg : ∀ i,i < n→∃ cs,(vs.drop (i * 6)).take 6 = .int .i64 (g i).kind :: .int .i64 (g i).pid :: cs∧TmR h (· < h.length) f (g i).t cs:=by
   intro i hi
   simp only [g,hi,dite_true]
   exact (each i hi).choose_spec
  refine ⟨f,a,(List.range n).map g,by simp,by simpa using h2,vs,h3,sl_below h3,by simpa using h4,fun i t hi=>?_⟩
  have hlt : i < n:=by have:=(List.getElem?_eq_some_iff.1 hi).1; simpa using this
  simp [hlt] at hi
  subst hi
  exact hg i hlt
theorem implBoth_loop {base f pb ab i : Nat} {p : Nat→Prop} {P : Pl} {a b c bb : Option Addr} {A : Ac} {x1 x2 g : Option Addr} {n : Nat} {v : Int} (hM : PlM P) (hA : A.links.length≤9223372036854775807) : ∀ (d j : Nat) (h : AH),j + d = A.links.length→AsR h p f P.acs b→Own base 36 h (at0 pb) (plV a P.code.length b P.acs.length P.next c P.out.length)→Own base 54 h (at0 ab) (acV A.pid A.pc x1 A.regs.length x2 A.box.length g A.links.length)→Sl h g (iv .i64 A.links)→base≤h.length →
  ∃ h',loopL (B26_1 base) [some (.pointer (at0 pb)),some (.pointer (at0 ab)),some (.slice bb n n),some (.int .i64 v),some (.int .i64 (i : Int)),some (.slice g A.links.length A.links.length),some (.int .i64 (A.links.length : Int)),some (.int .i64 (j : Int))] h = some (if anyLk P.acs A.pid (A.links.drop j) = true then (1,[some (.bool false)],h') else (4,[some (.pointer (at0 pb)),some (.slice bb n n),some (.int .i64 v),some (.int .i64 (i : Int))],h'))∧KB NoB h h':=by
 intro d
 induction d with
 | zero=>
  intro j h hi hs oP oA hl hb
  refine ⟨h,?_,KB.refl _ _⟩
  rw [List.drop_eq_nil_of_le (by omega),anyLk,if_neg (by decide)]
  refine loop_off (by decide) ?_
  rw [B26_1_eq]
  refine ifF ?_ rfl
  simp; omega
 | succ d ihd=>
  intro j h hi hs oP oA hl hb
  have hlt : j < A.links.length:=by omega
  obtain ⟨gd,rfl,gl⟩:=int_get hl hlt
  obtain ⟨h2,e2,k2⟩:=at_run (base:=base) (v:=A.links[j]) hM.2.2.1 hs (oP.at0 (i:=1) rfl) hb
  have n2:=k2.1
  rw [List.drop_eq_getElem_cons hlt,anyLk]
  have head : ∀ {r : Option (Nat × Slots × AH)},(if badLk P.acs A.pid A.links[j] = true then some (1,[some (.bool false)],h2) else some (0,[some (.pointer (at0 pb)),some (.pointer (at0 ab)),some (.slice bb n n),some (.int .i64 v),some (.int .i64 (i : Int)),some (.slice (some gd) A.links.length A.links.length),some (.int .i64 (A.links.length : Int)),some (.int .i64 (IntKind.wrap .i64 ((j : Int) + (1 : Int))))],h2)) = r→B26_1 base [some (.pointer (at0 pb)),some (.pointer (at0 ab)),some (.slice bb n n),some (.int .i64 v),some (.int .i64 (i : Int)),some (.slice (some gd) A.links.length A.links.length),some (.int .i64 (A.links.length : Int)),some (.int .i64 (j : Int))] h = r:=by
   intro r hr
   rw [B26_1_eq]
   refine ifT (decide_eq_true (by omega)) (ifT ⟨by omega,by omega⟩ (bs rfl ?_))
   simp only [Int.toNat_natCast]
   refine bI gl (bs e2 (bI rfl ?_))
   refine bj (q:=([some (.pointer (at0 pb)),some (.pointer (at0 ab)),some (.slice bb n n),some (.int .i64 v),some (.int .i64 (i : Int)),some (.slice (some gd) A.links.length A.links.length),some (.int .i64 (A.links.length : Int)),some (.int .i64 (j : Int)),some (.bool (badLk P.acs A.pid A.links[j]))],h2)) ?_ (bs rfl (bs rfl (bS rfl (bI rfl (bI rfl (bS rfl (bI rfl (bI rfl (bB rfl hr)))))))))
   unfold badLk
   by_cases cc : atL A.links[j] 0 P.acs ≥ 0
   ·rw [decide_eq_true cc,if_pos rfl,if_pos rfl]
    have hlt2 : atL A.links[j] 0 P.acs < (P.acs.length : Int):=by
     rcases atL_lt A.links[j] P.acs 0 with h|⟨_,h⟩ <;> omega
    have hn : (atL A.links[j] 0 P.acs).toNat < P.acs.length:=by omega
    obtain ⟨ad,u1,u2,u3,rfl,_,y0,y1,y2,y3,y4,_,ym⟩:=(hs.keepN k2).get hn
    have eh:=hasInt_run (base:=base) (v:=A.pid) (h:=h2) (by have:=(hM.2.2.2.1 _ (List.getElem_mem hn)).2.2; omega) ym
    rw [aD hn]
    exact bS ((oP.keepN k2).at0 (i:=1) rfl) (ifT ⟨cc,hlt2⟩ (bs rfl (bS y4 (bI ((oA.keepN k2).at0 (i:=0) rfl) (bs eh (bB rfl rfl))))))
   ·rw [decide_eq_false cc,if_neg (by decide),if_neg (by decide)]
  cases cb : badLk P.acs A.pid A.links[j] with
  | true=>
   refine ⟨h2,?_,k2⟩
   rw [Bool.true_or,if_pos rfl]
   exact loop_off (by decide) (head (by rw [cb]; exact ifT rfl rfl))
  | false=>
   rw [Bool.false_or]
   obtain ⟨h4,y1,y2⟩:=ihd (j + 1) h2 (by omega) (hs.keepN k2) (oP.keepN k2) (oA.keepN k2) (hl.keepN k2) (by omega)
   refine ⟨h4,loop_on (head ?_) y1,kN k2 y2⟩
   rw [cb,w64i (n:=(j : Int) + 1) (by omega) (by omega)]
   exact ifF (by decide) rfl
theorem implPlainOk_loop {base f pb : Nat} {p : Nat→Prop} {P : Pl} {a b c : Option Addr} (hM : PlM P) : ∀ (d i : Nat) (h : AH),i + d = P.acs.length→AsR h p f P.acs b→Own base 36 h (at0 pb) (plV a P.code.length b P.acs.length P.next c P.out.length)→Sl h a (insR P.code)→base≤h.length →
  ∃ h',loopL (B26_0 base) [some (.pointer (at0 pb)),some (.slice b P.acs.length P.acs.length),some (.int .i64 (P.acs.length : Int)),some (.int .i64 (i : Int))] h = some (if anyA f P d i = true then (1,[some (.bool false)],h') else (2,[],h'))∧KB NoB h h':=by
 intro d
 have l1:=hM.1
 have l3:=hM.2.2.1
 induction d with
 | zero=>
  intro i h hi hs oP hc hb
  refine ⟨h,?_,KB.refl _ _⟩
  rw [anyA,if_neg (by decide)]
  refine loop_off (by decide) ?_
  rw [B26_0_eq]
  refine ifF ?_ rfl
  simp; omega
 | succ d ihd=>
  intro i h hi hs oP hc hb
  have hlt : i < P.acs.length:=by omega
  obtain ⟨ad,x1,x2,x3,rfl,_,g0,g1,g2,g3,g4,hm,hl⟩:=hs.get hlt
  obtain ⟨o1,k1,q1⟩:=box_own (base:=base) (t:=54) (h:=h) (cs:=acV P.acs[i].pid P.acs[i].pc x1 P.acs[i].regs.length x2 P.acs[i].box.length x3 P.acs[i].links.length) hb rfl
  generalize hh1 : h++[some (⟨acV P.acs[i].pid P.acs[i].pc x1 P.acs[i].regs.length x2 P.acs[i].box.length x3 P.acs[i].links.length,54⟩ : Blk)] = h1 at o1 k1 q1
  obtain ⟨h2,e2,k2⟩:=implActorOk_run (base:=base) hM.2.1 l1 (hc.keepN k1) (hM.2.2.2.1 _ (List.getElem_mem hlt)) (hm.keep k1 fun _ _ h=>h) (by omega)
  have n2:=k2.1
  have k02:=kN k1 k2
  have oP1:=oP.keepN k1
  have oP2:=oP1.keepN k2
  have o2:=o1.keepN k2
  obtain ⟨h3,e3,k3⟩:=implBoth_loop (base:=base) (i:=i) (bb:=some ad) (n:=P.acs.length) (v:=(P.acs.length : Int)) hM (hM.2.2.2.1 _ (List.getElem_mem hlt)).2.2 P.acs[i].links.length 0 h2 (by omega) (hs.keepN k02) oP2 o2 (hl.keepN k02) (by omega)
  rw [List.drop_zero,show ((0 : Nat) : Int) = 0 from rfl] at e3
  have n3:=k3.1
  have mid : ∀ {r : Option (Nat × Slots × AH)},(if preA f P i = true then some (1,[some (.bool false)],h2) else
    (loopL (B26_1 base) [some (.pointer (at0 pb)),some (.pointer (at0 h.length)),some (.slice (some ad) P.acs.length P.acs.length),some (.int .i64 (P.acs.length : Int)),some (.int .i64 (i : Int)),some (.slice x3 P.acs[i].links.length P.acs[i].links.length),some (.int .i64 (P.acs[i].links.length : Int)),some (.int .i64 (0 : Int))] h2).bind fun q31=>
    (if q31.1 = 1 then ((sget q31.2.1 0).bind getB).bind fun b32=>some (1,[some (.bool b32)],q31.2.2)
    else (if q31.1 = 4 then ((sget q31.2.1 0).bind getA).bind fun d33=>((sget (q31.2.1.tail) 0).bind getS).bind fun l34=>((sget (q31.2.1.tail.tail) 0).bind (getI .i64)).bind fun n35=>((sget (q31.2.1.tail.tail.tail) 0).bind (getI .i64)).bind fun n36=>some (0,[some (.pointer (some d33)),some (.slice l34.1 l34.2 l34.2),some (.int .i64 n35),some (.int .i64 (IntKind.wrap .i64 (n36 + (1 : Int))))],q31.2.2) else none))) = r →
    B26_0 base [some (.pointer (at0 pb)),some (.slice (some ad) P.acs.length P.acs.length),some (.int .i64 (P.acs.length : Int)),some (.int .i64 (i : Int))] h = r:=by
   intro r hr
   rw [B26_0_eq]
   refine ifT (decide_eq_true (by omega)) (ifT ⟨by omega,by omega⟩ (bs rfl ?_))
   simp only [Int.toNat_natCast]
   refine bI g0 (bI g1 (bS g2 (bS g3 (bS g4 (nw hb rfl fun y ey=>?_)))))
   rw [hh1] at ey
   rw [ey]
   refine bj (q:=([some (.pointer (at0 pb)),some (.pointer (at0 h.length)),some (.slice (some ad) P.acs.length P.acs.length),some (.int .i64 (P.acs.length : Int)),some (.int .i64 (i : Int)),some (.bool (preA f P i))],h2)) ?_ (bs rfl (bs rfl (bS rfl (bI rfl (bI rfl (bB rfl ?_))))))
   ·refine bS (oP1.at0 (i:=0) rfl) (bI (o1.at0 (i:=0) rfl) (bI (o1.at0 (i:=1) rfl) (bS (o1.at0 (i:=2) rfl) (bS (o1.at0 (i:=3) rfl) (bS (o1.at0 (i:=4) rfl) (bs e2 (bB rfl ?_)))))))
    unfold preA
    rw [aD hlt]
    by_cases c1 : (!acOk f P.code P.acs[i]) = true
    ·rw [if_pos c1,if_pos c1]
    rw [if_neg c1,if_neg c1]
    refine bI (o2.at0 (i:=0) rfl) (bI (oP2.at0 (i:=2) rfl) ?_)
    by_cases c2 : decide (P.acs[i].pid ≥ P.next) = true
    ·rw [if_pos c2,if_pos c2]
    rw [if_neg c2,if_neg c2]
    by_cases c3 : (i : Int) > 0
    ·have hw : IntKind.wrap .i64 ((i : Int) - (1 : Int)) = ((i - 1 : Nat) : Int):=by rw [w64i (by omega) (by omega)]; omega
     have hp1 : i - 1 < P.acs.length:=by omega
     obtain ⟨ad2,u1,u2,u3,ee,_,y0,_,_,_,_,_,_⟩:=(hs.keepN k02).get hp1
     injection ee with ee
     subst ee
     rw [aD hp1,decide_eq_true c3,hw,if_pos rfl,if_pos rfl]
     refine bS (oP2.at0 (i:=1) rfl) (ifT ⟨by omega,by omega⟩ (bs rfl ?_))
     simp only [Int.toNat_natCast]
     exact bI y0 (bI (o2.at0 (i:=0) rfl) rfl)
    ·rw [decide_eq_false c3,if_neg (by decide),if_neg (by decide)]
   ·try dsimp only
    by_cases cp : preA f P i = true
    ·rw [if_pos cp] at hr ⊢
     exact hr
    ·rw [if_neg cp] at hr ⊢
     exact bS (o2.at0 (i:=4) rfl) hr
  rw [anyA]
  unfold badA
  rw [aD hlt]
  by_cases cp : preA f P i = true
  ·refine ⟨h2,?_,k02⟩
   rw [if_pos cp,Bool.true_or,if_pos rfl]
   exact loop_off (by decide) (mid (ifT cp rfl))
  rw [if_neg cp]
  cases cb : anyLk P.acs P.acs[i].pid P.acs[i].links with
  | true=>
   rw [cb,if_pos rfl] at e3
   refine ⟨h3,?_,kN k02 k3⟩
   rw [Bool.true_or,if_pos rfl]
   exact loop_off (by decide) (mid (ifF cp (bs e3 (ifT rfl (bB rfl rfl)))))
  | false=>
   rw [cb,if_neg (by decide)] at e3
   rw [Bool.false_or]
   have k03:=kN k02 k3
   obtain ⟨h4,y1,y2⟩:=ihd (i + 1) h3 (by omega) (hs.keepN k03) (oP.keepN k03) (hc.keepN k03) (by omega)
   refine ⟨h4,loop_on (mid (ifF cp (bs e3 (ifF (show ¬ (4 : Nat) = 1 by decide) (ifT rfl (bs rfl (bS rfl (bI rfl (bI rfl ?_))))))))) y1,kN k03 y2⟩
   rw [w64i (n:=(i : Int) + 1) (by omega) (by omega)]
   rfl
theorem implPlainOk_run {base f : Nat} {h : AH} {p : Nat→Prop} {P : Pl} {cs : List Value} (hM : PlM P) (x : PlR h p f P cs) (hb : base≤h.length) :
  ∃ h',run (Et base) 26 [.agg cs.toArray] h = some (.bool (plOk f P),h')∧KB NoB h h':=by
 obtain ⟨a,b,c,rfl,hc,_,hs,ho⟩:=x
 obtain ⟨o1,k1,q1⟩:=box_own (base:=base) (t:=36) (h:=h) (cs:=plV a P.code.length b P.acs.length P.next c P.out.length) hb rfl
 generalize hh1 : h++[some (⟨plV a P.code.length b P.acs.length P.next c P.out.length,36⟩ : Blk)] = h1 at o1 k1 q1
 obtain ⟨h2,e2,k2⟩:=implCodeOk_run (base:=base) hM.2.1 hM.1 (hc.keepN k1) (by omega)
 have n2:=k2.1
 have k02:=kN k1 k2
 have o2:=o1.keepN k2
 have eI:=in_run (base:=base) (h:=h2) (x:=P.next) (a:=1) (b:=90000)
 obtain ⟨h3,e3,k3⟩:=outOk_run (base:=base) hM.2.2.2.2 (ho.keep k02 fun _ _ h=>h) (by omega)
 have n3:=k3.1
 have k03:=kN k02 k3
 have o3:=o2.keepN k3
 obtain ⟨h4,e4,k4⟩:=implPlainOk_loop (base:=base) (pb:=h.length) hM P.acs.length 0 h3 (by omega) (hs.keepN k03) o3 (hc.keepN k03) (by omega)
 rw [show ((0 : Nat) : Int) = 0 from rfl] at e4
 unfold plOk
 have fin : ∀ (q : Bool) (hz : AH) {r : Value × AH},(hq : (if (!codeOk P.code) = true then some (Sum.inl (([some (.pointer (at0 h.length)),some (.bool true)],h2))) else if decide ((P.acs.length : Int) > 20) = true then some (Sum.inl (([some (.pointer (at0 h.length)),some (.bool true)],h2))) else if (!inB P.next 1 90000) = true then some (Sum.inl (([some (.pointer (at0 h.length)),some (.bool true)],h2))) else some (Sum.inl (([some (.pointer (at0 h.length)),some (.bool (!saidOk f P.out))],h3)))) = some (Sum.inl (([some (.pointer (at0 h.length)),some (.bool q)],hz)) : Sum (Slots × AH) (Value × AH))) →
   (if q = true then some ((.bool false),hz) else ((cell hz h.length 1).bind getS).bind fun l15=>(loopL (B26_0 base) [some (.pointer (at0 h.length)),some (.slice l15.1 l15.2 l15.2),some (.int .i64 ((l15.2 : Nat) : Int)),some (.int .i64 (0 : Int))] hz).bind fun q15=>(if q15.1 = 1 then ((sget q15.2.1 0).bind getB).bind fun b16=>some ((.bool b16),q15.2.2) else (if q15.1 = 2 then some ((.bool true),q15.2.2) else none))) = some r→run (Et base) 26 [.agg (plV a P.code.length b P.acs.length P.next c P.out.length).toArray] h = some r:=by
  intro q hz r hq hr
  refine Am.r26 (lets fun y ey=>?_)
  rw [hh1] at ey
  rw [ey]
  refine bj (q:=([some (.pointer (at0 h.length)),some (.bool q)],hz)) ?_ (bs rfl (bB rfl hr))
  rw [← hq]
  refine bS (o1.at0 (i:=0) rfl) (bs e2 (bB rfl ?_))
  by_cases c1 : (!codeOk P.code) = true
  ·rw [if_pos c1,if_pos c1]
  rw [if_neg c1,if_neg c1]
  refine bS (o2.at0 (i:=1) rfl) ?_
  by_cases c3 : decide ((P.acs.length : Int) > 20) = true
  ·rw [if_pos c3,if_pos c3]
  rw [if_neg c3,if_neg c3]
  refine bI (o2.at0 (i:=2) rfl) (bs eI (bB rfl ?_))
  by_cases c2 : (!inB P.next 1 90000) = true
  ·rw [if_pos c2,if_pos c2]
  rw [if_neg c2,if_neg c2]
  exact bS (o2.at0 (i:=3) rfl) (bs e3 (bB rfl rfl))
 by_cases c1 : codeOk P.code = true
 ·rw [c1,Bool.true_and]
  by_cases c3 : (P.acs.length : Int) > 20
  ·refine ⟨h2,fin true h2 (by rw [c1]; simp [c3]) ?_,k02⟩
   simp [c3]
  by_cases c2 : inB P.next 1 90000 = true
  ·rw [c2,Bool.true_and,decide_eq_true c3,Bool.true_and]
   by_cases c4 : saidOk f P.out = true
   ·rw [c4,Bool.true_and]
    refine ⟨h4,fin false h3 (by rw [c1,c2,c4]; simp [c3]) (ifF (by decide) (bS (o3.at0 (i:=1) rfl) (bs e4 ?_))),kN k03 k4⟩
    cases anyA f P P.acs.length 0 with
    | true=>exact ifT rfl (bB rfl rfl)
    | false=>exact ifF (show ¬ (2 : Nat) = 1 by decide) (ifT rfl rfl)
   ·refine ⟨h3,fin true h3 (by rw [c1,c2]; simp [c3,c4]) ?_,k03⟩
    simp [c4]
  ·refine ⟨h2,fin true h2 (by rw [c1]; simp [c2,c3]) ?_,k02⟩
   simp [c2]
 ·refine ⟨h2,fin true h2 (by simp [c1]) ?_,k02⟩
  simp [c1]
theorem AcR.le {h : AH} {p : Nat→Prop} {f f' : Nat} (hf : f≤f') {A : Ac} {cs : List Value} (x : AcR h p f A cs) : AcR h p f' A cs:=by
 obtain ⟨a,b,g,e,h1,h2,h3⟩:=x
 exact ⟨a,b,g,e,h1.le hf,h2.le hf,h3⟩
theorem AsR.le {h : AH} {p : Nat→Prop} {f f' : Nat} (hf : f≤f') {l : List Ac} {a : Option Addr} (x : AsR h p f l a) : AsR h p f' l a:=by
 obtain ⟨vs,h1,h2,h3,h4⟩:=x
 exact ⟨vs,h1,h2,h3,fun i y hy=>(h4 i y hy).le hf⟩
set_option maxRecDepth 100000 in
theorem rd_actorF {h : AH} {f : Nat} {cs : List Value} (x : Rd Try.prog h f 134 cs) : ∃ A,AcR h (· < h.length) f A cs∧AcM A:=by
 have cA : Try.prog.cellsOf 134 = 5:=by kernel_rfl
 have c3 : Try.prog.cellsOf 3 = 1:=by kernel_rfl
 have cT : Try.prog.cellsOf 27 = 1:=by kernel_rfl
 have cI : Try.prog.cellsOf 52 = 1:=by kernel_rfl
 match f,x with
 | 0,x=>exact x.elim
 | f + 1,x=>
  simp only [Rd,Try.underlying134] at x
  obtain ⟨hl,hf⟩:=x
  rw [cA] at hl
  match cs,hl with
  | [v0,v1,v2,v3,v4],_=>
   simp only [List.forall_mem_cons,c3,cT,cI,List.drop_zero,List.drop_succ_cons,List.take_succ_cons,List.take_zero] at hf
   obtain ⟨f0,f1,f2,f3,f4,_⟩:=hf
   obtain ⟨n0,e0,_⟩:=f0.int Try.underlying3
   obtain ⟨n1,e1,_⟩:=f1.int Try.underlying3
   injection e0 with e0 _
   injection e1 with e1 _
   subst e0; subst e1
   obtain ⟨a,R,rfl,m2,s2⟩:=rd_terms f2
   obtain ⟨b,B,rfl,m3,s3⟩:=rd_terms f3
   obtain ⟨g,L,e4,m4,s4,_⟩:=f4.ints Try.underlying52 Try.underlying3 c3
   injection e4 with e4 _
   subst e4
   simp only [maxLen] at m2 m3 m4
   refine ⟨⟨n0,n1,R,B,L⟩,AcR.le (f:=f) (by omega) ⟨a,b,g,rfl,s2,s3,s4,?_⟩,by simp only; omega,by simp only; omega,by simp only; omega⟩
   rcases sl_below s4 with e|e
   ·exact .inl (by simpa [iv] using e)
   ·exact .inr e
set_option maxRecDepth 100000 in
theorem rd_actors {h : AH} {f : Nat} {v : Value} (x : Rd Try.prog h f 23 [v]) : ∃ a l,v = .slice a (List.length l) (List.length l)∧l.length≤maxLen∧AsR h (· < h.length) f l a∧∀ A∈l,AcM A:=by
 have cS : Try.prog.cellsOf 134 = 5:=by kernel_rfl
 match f,x with
 | 0,x=>exact x.elim
 | f + 1,x=>
  simp only [Rd,Try.underlying23] at x
  obtain ⟨a,n,vs,e,h2,h3,h4,h5⟩:=x
  injection e with e _
  subst e
  rw [cS] at h4 h5
  have each : ∀ i,i < n→∃ A : Ac,AcR h (· < h.length) f A ((vs.drop (i * 5)).take 5)∧AcM A:=fun i hi=>rd_actorF (h5 i hi)
  let g : Nat→Ac:=fun i=>if hi : i < n then (each i hi).choose else a0
  have hg : ∀ i,i < n→AcR h (· < h.length) f (g i) ((vs.drop (i * 5)).take 5)∧AcM (g i):=by
   intro i hi
   simp only [g,hi,dite_true]
   exact (each i hi).choose_spec
  refine ⟨a,(List.range n).map g,by simp,by simpa using h2,⟨vs,h3,sl_below h3,by simpa using h4,fun i t hi=>?_⟩,fun A hA=>?_⟩
  ·have hlt : i < n:=by have:=(List.getElem?_eq_some_iff.1 hi).1; simpa using this
   simp [hlt] at hi
   subst hi
   exact (hg i hlt).1.le (by omega)
  ·obtain ⟨i,hi,rfl⟩:=List.mem_map.1 hA
   exact (hg i (by simpa using hi)).2
set_option maxRecDepth 100000 in
theorem rd_plain {h : AH} {f : Nat} {cs : List Value} (x : Rd Try.prog h f 26 cs) : ∃ g P,PlR h (· < h.length) g P cs∧PlM P:=by
 have cP : Try.prog.cellsOf 26 = 4:=by kernel_rfl
 have c3 : Try.prog.cellsOf 3 = 1:=by kernel_rfl
 have cI : Try.prog.cellsOf 22 = 1:=by kernel_rfl
 have cA : Try.prog.cellsOf 23 = 1:=by kernel_rfl
 have cS : Try.prog.cellsOf 24 = 1:=by kernel_rfl
 match f,x with
 | 0,x=>exact x.elim
 | f + 1,x=>
  simp only [Rd,Try.underlying26] at x
  obtain ⟨hl,hf⟩:=x
  rw [cP] at hl
  match cs,hl with
  | [v0,v1,v2,v3],_=>
   simp only [List.forall_mem_cons,c3,cI,cA,cS,List.drop_zero,List.drop_succ_cons,List.take_succ_cons,List.take_zero] at hf
   obtain ⟨f0,f1,f2,f3,_⟩:=hf
   obtain ⟨a,code,rfl,m0,s0,z0⟩:=rd_ins f0
   obtain ⟨b,acs,rfl,m1,s1,z1⟩:=rd_actors f1
   obtain ⟨n2,e2,_⟩:=f2.int Try.underlying3
   injection e2 with e2 _
   subst e2
   obtain ⟨g,c,out,rfl,m3,s3⟩:=rd_saids f3
   simp only [maxLen] at m0 m1 m3 z0
   refine ⟨f + g,⟨code,acs,n2,out⟩,⟨a,b,c,rfl,s0,sl_below s0,s1.le (by omega),s3.le (by omega)⟩,by simp only; omega,fun x hx=>by have:=z0 x hx; omega,by simp only; omega,z1,by simp only; omega⟩
theorem markTerm_run {base f : Nat} {h : AH} {S : Fp} {t : Tm} {cs : List Value} {k : Int} (x : TmD (f + 1) S h t cs) (hS : ∀ b,S b→base≤b∧b < h.length) (hb : base≤h.length) (h0 : 0≤k) (hk : k + 3 * ((tcnt (f + 1) t : Nat) : Int)≤1000000000) :
  ∃ z h',run (Et base) 20 [.agg cs.toArray,.int .i64 k] h = some (.int .i64 z,h')∧0≤z∧KB S h h':=by
 obtain ⟨kk,n,s,l⟩:=t
 obtain ⟨h1,h2,a,rfl,r⟩:=x
 obtain ⟨o1,k1,q1⟩:=box_own (base:=base) (t:=42) (h:=h) (cs:=termV kk n s a l.length) hb rfl
 generalize hh1 : h++[some (⟨termV kk n s a l.length,42⟩ : Blk)] = h1 at o1 k1 q1
 simp only [tcnt] at hk
 obtain ⟨l',h3,e3,r3,len3,m3,k3⟩:=markTermS_run (base:=base) f l h1 S a k (r.keep (TmD.kp _) k1 fun _ _ h=>h) h2 (fun b hb=>by have:=hS b hb; omega) h0 (by omega)
 refine ⟨k + 3 * ((l.length + sumL (tcnt f) l : Nat) : Int),h3,Am.r20 (lets fun y ey=>?_),by have:=m3.le; omega,KB.trans k1 k3 (fun _ _ h=>h.elim) (fun _ _ h=>h)⟩
 rw [hh1] at ey
 subst ey
 exact bS (o1.at0 (i:=3) rfl) (bs e3 (bI rfl rfl))
theorem sumL_app {α : Type} (g : α→Nat) : ∀ (l r : List α),sumL g (l++r) = sumL g l + sumL g r
 | [],r=>by simp [sumL]
 | x :: l,r=>by simp only [List.cons_append,sumL,sumL_app g l r]; omega
theorem insR_leaf : ∀ l : List In,(insR l).all leaf = true
 | []=>rfl
 | x :: r=>by
  rw [insR,List.all_append,insR_leaf r]
  rfl
def zz (v : Int) : Nat:=if v < 0 then (-2 * v - 1).toNat else (2 * v).toNat
theorem copyIntsO_run {base : Nat} {h : AH} {a : Option Addr} {xs : List Int} (hs : Sl h a (iv .i64 xs)) (hl : xs.length≤1048576 * 4) (hb : base≤h.length) :
  ∃ a' h',run (Et base) 104 [.slice a xs.length xs.length] h = some (.slice a' xs.length xs.length,h')∧Own base 3 h' a' (iv .i64 xs)∧KB NoB h h'∧(∀ b,blk a' b→h.length≤b):=by
 have hr : rawAt h a (xs.length * 1) = some (iv .i64 xs):=by
  have:=hs.raw (iv_leaf _ _)
  simpa using this
 obtain ⟨a1,h1,g1,g2,g3,g4⟩:=Own.app (x:=(.inl ⟨rfl,rfl⟩ : Own base 3 h none [])) (bytes:=8) (n:=0) (m:=xs.length) (sz:=1) (by simp) (by simp) hr hb (by omega) (by omega) (by simp)
 simp only [Nat.zero_add,List.nil_append] at g1 g2
 refine ⟨a1,h1,Am.r104 (Am.bs g1 (Am.bS rfl rfl)),g2,g3.mono (fun i hi ⟨ad,e,_⟩=>by cases e),fun b hb'=>?_⟩
 rcases g4 with ⟨_,e,_⟩|g4
 ·rw [e] at hb'; obtain ⟨_,e,_⟩:=hb'; cases e
 ·have:=g4 b hb'; omega
theorem copyActor_run {base f : Nat} {h : AH} {p : Nat→Prop} {A : Ac} {cs : List Value} (hB : AcB f A) (x : AcR h p f A cs) (hb : base≤h.length) (hp : ∀ b,p b→b < h.length) :
  ∃ cs' h',run (Et base) 123 [.agg cs.toArray] h = some (.agg cs'.toArray,h')∧AcG base f (iS h.length h'.length) h' A cs'∧KB NoB h h':=by
 obtain ⟨a,b,g,rfl,hr,hx,hl,hlb⟩:=x
 obtain ⟨m1,m2,m3,m4,m5⟩:=hB
 suffices w : Wp (run (Et base) 123 [.agg (acV A.pid A.pc a A.regs.length b A.box.length g A.links.length).toArray] h) fun r=>∃ cs',r.1 = .agg cs'.toArray∧AcG base f (iS h.length r.2.length) r.2 A cs'∧KB NoB h r.2 by
  obtain ⟨⟨u,h'⟩,e,cs',rfl,q⟩:=w
  exact ⟨cs',h',e,q⟩
 refine W.of (fun r hx=>Am.r123 hx) ?_
 refine W.box hb fun h1 o1 k1 q1=>W.box (base:=base) (by omega) fun h2 o2 k2 q2=>W.bS ((o1.keepN k2).at0 (i:=2) rfl) ?_
 have o1:=o1.keepN k2
 have k02:=kN k1 k2
 obtain ⟨a3,h3,e3,r3,k3⟩:=copyTerms_run (base:=base) (copyTermG_run f) m1 m4 (hr.keep k02 fun _ _ h=>h) (by omega) (fun b hb=>by have:=hp b hb; omega)
 have n3:=k3.1
 have k03:=kN k02 k3
 refine W.bs e3 (W.bS rfl (W.gt (same_keep k3 (o1.at0 (i:=3) rfl)) (W.bS ((o1.keepN k3).at0 (i:=3) rfl) ?_)))
 obtain ⟨a4,h4,e4,r4,k4⟩:=copyTerms_run (base:=base) (copyTermG_run f) m2 m5 (hx.keep k03 fun _ _ h=>h) (by omega) (fun b hb=>by have:=hp b hb; omega)
 have n4:=k4.1
 have k04:=kN k03 k4
 have o4:=(o1.keepN k3).keepN k4
 refine W.bs e4 (W.bS rfl (W.gt (same_keep k4 ((o1.keepN k3).at0 (i:=4) rfl)) (W.gt (same_keep (kN k3 k4) (o1.at0 (i:=4) rfl)) (W.bS (o4.at0 (i:=4) rfl) ?_))))
 obtain ⟨a5,h5,e5,r5,k5,f5⟩:=copyIntsO_run (base:=base) (hl.keepN k04) (by omega) (by omega)
 have n5:=k5.1
 have k05:=kN k04 k5
 refine W.bs e5 (W.bS rfl (W.wr0 (o4.keepN k5) (by simp) (by simp) fun h6 o6 k6 l6=>W.wr0 o6 (by simp [setAt]) (by simp) fun h7 o7 k7 l7=>W.wr0 o7 (by simp [setAt]) (by simp) fun h8 o8 k8 l8=>?_))
 have hset : setAt (setAt (setAt (acV A.pid A.pc a A.regs.length b A.box.length g A.links.length) 2 [.slice a3 A.regs.length A.regs.length]) 3 [.slice a4 A.box.length A.box.length]) 4 [.slice a5 A.links.length A.links.length] = acV A.pid A.pc a3 A.regs.length a4 A.box.length a5 A.links.length:=rfl
 rw [hset] at o8
 have k58 : KB (· = h.length) h5 h8:=KB.trans (KB.trans k6 k7 (fun _ _ h=>h) (fun _ _ h=>h)) k8 (fun _ _ h=>h) (fun _ _ h=>h)
 refine W.bI (o8.at0 (i:=0) rfl) (W.bI (o8.at0 (i:=1) rfl) (W.bS (o8.at0 (i:=2) rfl) (W.bS (o8.at0 (i:=3) rfl) (W.bS (o8.at0 (i:=4) rfl) ?_))))
 have z8:=(((o2.keepN k3).keepN k4).keepN k5).keepB k58 fun i hi=>by rw [blk_at0] at hi; omega
 refine W.wr0 z8 (by simp) (by simp) fun h9 o9 k9 l9=>?_
 have hz : setAt (acV 0 0 none 0 none 0 none 0) 0 (acV A.pid A.pc a3 A.regs.length a4 A.box.length a5 A.links.length) = acV A.pid A.pc a3 A.regs.length a4 A.box.length a5 A.links.length:=rfl
 rw [hz] at o9
 refine W.bI (o9.at0 (i:=0) rfl) (W.bI (o9.at0 (i:=1) rfl) (W.bS (o9.at0 (i:=2) rfl) (W.bS (o9.at0 (i:=3) rfl) (W.bS (o9.at0 (i:=4) rfl) (W.ret ⟨_,rfl,?_,?_⟩)))))
 ·have n9 : h9.length = h5.length:=l9.trans (l8.trans (l7.trans l6))
  refine ⟨a3,a4,a5,iS h2.length h3.length,iS h3.length h4.length,iS h4.length h5.length,rfl,((((r3.keep (TmG.kp _ _) k4 fun _ _ h=>h).keep (TmG.kp _ _) k5 fun _ _ h=>h).keep (TmG.kp _ _) k58 fun b hb hk=>by omega).keep (TmG.kp _ _) k9 fun b hb hk=>by omega),
   (((r4.keep (TmG.kp _ _) k5 fun _ _ h=>h).keep (TmG.kp _ _) k58 fun b hb hk=>by omega).keep (TmG.kp _ _) k9 fun b hb hk=>by omega),(r5.keepB k58 fun b hb=>by have:=f5 b hb; omega).keepB k9 fun b hb=>by have:=f5 b hb; omega,fun b hb=>⟨f5 b hb,(r5.lt hb).2⟩,fun b hb=>⟨by omega,by show b < h9.length; omega⟩,fun b hb=>⟨by omega,by show b < h9.length; omega⟩,fun b hb=>⟨by omega,by show b < h9.length; omega⟩,fun b h1 h2=>by omega,fun b h1 h2=>by omega,fun b h1 h2=>by omega⟩
 ·exact kFresh (kFresh k05 k58 fun i hi=>by omega) k9 fun i hi=>by omega
theorem TmG.parts {base f : Nat} {S : Fp} {h : AH} {t : Tm} {k n : Int} {s : ByteArray} {a : Option Addr} {m : Nat} (x : TmG base (f + 1) S h t (termV k n s a m)) : ∃ l,t = .mk k n s l∧m = l.length∧s.size≤maxLen∧l.length≤maxLen∧RowO base 42 4 (TmG base f) S h l a:=by
 obtain ⟨k',n',s',l⟩:=t
 obtain ⟨h1,h2,a',ecs,r⟩:=x
 injection ecs with q0 ecs
 injection ecs with q1 ecs
 injection ecs with q2 ecs
 injection ecs with q3 _
 injection q0 with _ q0; injection q1 with _ q1; injection q2 with q2; injection q3 with q3 q4 _
 subst q0; subst q1; subst q2; subst q3
 exact ⟨l,rfl,q4,h1,h2,r⟩
section
section
variable {α : Type} {w : Nat} {P : Fp→AH→α→List Value→Prop}
theorem RowO.imp {Q : Fp→AH→α→List Value→Prop} {base t : Nat} {S : Fp} {h : AH} {l : List α} {a : Option Addr} (hPQ : ∀ S h x cs,P S h x cs→Q S h x cs) (x : RowO base t w P S h l a) : RowO base t w Q S h l a:=by
 obtain ⟨vs,T,x1,x2,x3,x4,x5⟩:=x
 exact ⟨vs,T,x1,x2,x3,x4,x5.imp hPQ⟩
end
theorem TmG.le {base : Nat} : ∀ {f f' : Nat} (hf : f≤f') {S : Fp} {h : AH} {t : Tm} {cs : List Value},TmG base f S h t cs→TmG base f' S h t cs
 | 0,_,_,_,_,_,_,x=>x.elim
 | f + 1,0,hf,_,_,_,_,_=>absurd hf (Nat.not_succ_le_zero _)
 | f + 1,f' + 1,hf,S,h,.mk k n s l,cs,x=>by
  obtain ⟨h1,h2,a,e,r⟩:=x
  exact ⟨h1,h2,a,e,r.imp fun _ _ _ _=>TmG.le (Nat.le_of_succ_le_succ hf)⟩
end
theorem l9CopyTerms_loop {base f : Nat} {p : Nat→Prop} {l : List Tm} {a : Option Addr} {lo : Nat} (hl : l.length≤1048576) (hB : ∀ t∈l,TmB f t) (hp : ∀ b,p b→b < lo) (hlo : base≤lo) : ∀ (d i : Nat) (h : AH) (ao : Option Addr) (S : Fp),i + d = l.length→TsR h p f l a→lo≤h.length→RowO base 42 4 (TmG base f) S h (l.take i) ao→(∀ b,S b→lo≤b∧b < h.length) →
  Wp (loopL (B163_0 base) [some (.slice a l.length l.length),some (.slice ao i i),some (.int .i64 (i : Int))] h) fun o=>∃ a' S',o.1 = 2∧o.2.1 = [some (.slice a' l.length l.length)]∧RowO base 42 4 (TmG base f) S' o.2.2 l a'∧(∀ b,S' b→lo≤b∧b < o.2.2.length)∧KB (fun b=>lo≤b) h o.2.2:=by
 intro d
 induction d with
 | zero=>
  intro i h ao S hi hs hlh r hS
  have hi' : i = l.length:=by omega
  subst hi'
  rw [List.take_of_length_le (Nat.le_refl _)] at r
  refine ⟨_,loop_off (by decide) (s':=[some (.slice ao l.length l.length)]) (h':=h) (e:=2) ?_,ao,S,rfl,rfl,r,hS,KB.refl _ _⟩
  rw [B163_0_eq]
  exact Am.ifF (by simp) rfl
 | succ d ihd=>
  intro i h ao S hi hs hlh r hS
  have hlt : i < l.length:=by omega
  obtain ⟨ad,k,n,s,a2,m,rfl,g0,g1,g2,g3,hm⟩:=hs.getT hlt
  obtain ⟨cs2,h2,e2,t2,k2⟩:=l1CopyG_run (base:=base) f h p _ _ hm (hB _ (List.getElem_mem hlt)) (by omega) (fun b hb=>by have:=hp b hb; omega)
  obtain ⟨k',n',s',a',m',rfl⟩:=t2.form
  have n2:=k2.1
  have elen : (l.take i).length = i:=by simp; omega
  obtain ⟨a3,h3,e3,r3,k3,n3⟩:=(r.keep (TmG.kp _ _) k2 fun _ _ h=>h).app1 (TmG.kp _ _) (bytes:=56) t2 rfl (by decide) rfl (fun b hb hs=>by have:=hS b hs; omega) (fun b hb=>hb.2) (fun b hb=>by have:=hS b hb; omega) (by omega) (by rw [elen]; omega) (by rw [elen]; omega)
  rw [elen] at e3
  rw [← take_snoc hlt] at r3
  have hbo : ∀ b,blk ao b→lo≤b:=by obtain ⟨vs,T,w1,w2,w3,_⟩:=r; exact fun b hb=>(hS b (w3 b hb).1).1
  have k03 : KB (fun b=>lo≤b) h h3:=KB.trans k2 k3 (fun _ _ h=>h.elim) (fun b _ hb=>hbo b hb)
  obtain ⟨o,eo,a4,S4,y1,y2,y3,y4,y5⟩:=ihd (i + 1) h3 a3 _ (by omega) (hs.keep k03 fun b h1 h2=>by have:=hp b h1; omega) (by omega) r3 (fun b hb=>by
   rcases hb with hb|hb|hb
   ·have:=hS b hb; omega
   ·omega
   ·omega)
  refine ⟨o,loop_on ?_ eo,a4,S4,y1,y2,y3,y4,KB.trans k03 y5 (fun _ _ h=>h) (fun _ _ h=>h)⟩
  rw [B163_0_eq]
  refine Am.ifT (decide_eq_true (by omega)) (Am.ifT ⟨by omega,by omega⟩ (Am.bs rfl ?_))
  simp only [Int.toNat_natCast]
  refine Am.bI g0 (Am.bI g1 (Am.bT g2 (Am.bS g3 (Am.bs e2 (Am.bs (v:=termV k' n' s' a' m') rfl (Am.bI rfl (Am.bI rfl (Am.bT rfl (Am.bS rfl (Am.bs rfl (Am.bs e3 (Am.bS rfl ?_))))))))))))
  rw [w64i (n:=(i : Int) + 1) (by omega) (by omega)]
  rfl
theorem l9CopyTerms_run {base f : Nat} {h : AH} {p : Nat→Prop} {l : List Tm} {a : Option Addr} (hl : l.length≤1048576) (hB : ∀ t∈l,TmB f t) (hs : TsR h p f l a) (hb : base≤h.length) (hp : ∀ b,p b→b < h.length) :
  ∃ a' h',run (Et base) 163 [.slice a l.length l.length] h = some (.slice a' l.length l.length,h')∧RowO base 42 4 (TmG base f) (iS h.length h'.length) h' l a'∧KB NoB h h':=by
 suffices w : Wp (run (Et base) 163 [.slice a l.length l.length] h) fun o=>∃ a',o.1 = .slice a' l.length l.length∧RowO base 42 4 (TmG base f) (iS h.length o.2.length) o.2 l a'∧KB NoB h o.2 by
  obtain ⟨⟨u,h'⟩,e,a',rfl,q⟩:=w
  exact ⟨a',h',e,q⟩
 refine W.of (fun r hx=>Am.r163 hx) ?_
 refine W.box hb fun h1 o1 k1 q1=>?_
 obtain ⟨o,e,a',S',y1,y2,y3,y4,y5⟩:=l9CopyTerms_loop (base:=base) hl hB hp hb l.length 0 h1 (at0 h.length) (· = h.length) (by omega) (hs.keep k1 fun _ _ h=>h) (by omega) ⟨[],fun _=>False,o1,by simp,fun b hb=>⟨blk_at0.1 hb,fun h=>h⟩,fun _ h=>h.elim,Chunks.nil⟩ (fun b hb=>by omega)
 obtain ⟨o1',o2,h2⟩:=o
 simp only at y1 y2
 subst y1; subst y2
 rw [show ((0 : Nat) : Int) = 0 from rfl] at e
 refine W.bs e (W.ifT rfl (W.bS rfl (W.ret ⟨a',rfl,y3.mono fun b hb=>y4 b hb,KB.trans k1 y5 (fun _ _ h=>h) (fun i hi hs=>by omega)⟩)))
theorem l9Copy_run {base f : Nat} {h : AH} {p : Nat→Prop} {A : Ac} {cs : List Value} (hB : AcB f A) (x : AcR h p f A cs) (hb : base≤h.length) (hp : ∀ b,p b→b < h.length) :
  ∃ cs' h',run (Et base) 115 [.agg cs.toArray] h = some (.agg cs'.toArray,h')∧AcG base f (iS h.length h'.length) h' A cs'∧KB NoB h h':=by
 obtain ⟨a,b,g,rfl,hr,hx,hl,hlb⟩:=x
 obtain ⟨m1,m2,m3,m4,m5⟩:=hB
 suffices w : Wp (run (Et base) 115 [.agg (acV A.pid A.pc a A.regs.length b A.box.length g A.links.length).toArray] h) fun r=>∃ cs',r.1 = .agg cs'.toArray∧AcG base f (iS h.length r.2.length) r.2 A cs'∧KB NoB h r.2 by
  obtain ⟨⟨u,h'⟩,e,cs',rfl,q⟩:=w
  exact ⟨cs',h',e,q⟩
 refine W.of (fun r hx=>Am.r115 hx) ?_
 refine W.box hb fun h1 o1 k1 q1=>W.box (base:=base) (by omega) fun h2 o2 k2 q2=>W.bI ((o1.keepN k2).at0 (i:=0) rfl) (W.bI ((o1.keepN k2).at0 (i:=1) rfl) (W.bS ((o1.keepN k2).at0 (i:=2) rfl) ?_))
 have o1:=o1.keepN k2
 have k02:=kN k1 k2
 obtain ⟨a3,h3,e3,r3,k3⟩:=l9CopyTerms_run (base:=base) m1 m4 (hr.keep k02 fun _ _ h=>h) (by omega) (fun b hb=>by have:=hp b hb; omega)
 have n3:=k3.1
 have k03:=kN k02 k3
 have sm : ∀ {x y : AH} {i n : Nat} (k : KB NoB x y) (hx : h.length < x.length),sameA x y (some ⟨h.length,i,none⟩) n:=fun k hx=>same_KB k hx (fun h=>h)
 refine W.bs e3 (W.bS rfl (W.gt (sm k3 (by omega)) (W.gt (sm k3 (by omega)) (W.gt (sm k3 (by omega)) (W.bS ((o1.keepN k3).at0 (i:=3) rfl) ?_)))))
 obtain ⟨a4,h4,e4,r4,k4⟩:=l9CopyTerms_run (base:=base) m2 m5 (hx.keep k03 fun _ _ h=>h) (by omega) (fun b hb=>by have:=hp b hb; omega)
 have n4:=k4.1
 have k04:=kN k03 k4
 have nn : ∀ {i : Nat},neA (some ⟨h.length,i,none⟩) h4.length:=ne_A (by omega)
 refine W.bs e4 (W.bS rfl (W.gt (sm k4 (show h.length < h3.length by omega)) (W.gt (sm k4 (show h.length < h3.length by omega)) (W.gt nn (W.gt nn (W.gt nn (W.gt nn (W.box (base:=base) (h:=h4) (by omega) fun h5 oE k5 q5'=>?_))))))))
 have k05:=kN k04 k5
 have o5:=((o1.keepN k3).keepN k4).keepN k5
 refine W.gt nn (W.gt (sm (kN k4 k5) (show h.length < h3.length by omega)) (W.gt (sm (kN (kN k3 k4) k5) (show h.length < h2.length by omega)) (W.bS (o5.at0 (i:=4) rfl) ?_)))
 have hraw : rawAt h5 g (A.links.length * 1) = some (iv .i64 A.links):=by
  have:=(hl.keepN k05).raw (iv_leaf _ _)
  simpa using this
 obtain ⟨a6,h6,e6,r6,k6,d6⟩:=Own.app (x:=oE) (bytes:=8) (n:=0) (m:=A.links.length) (sz:=1) (by simp) (by simp) hraw (by omega) (by omega) (by omega) (by simp)
 simp only [Nat.zero_add,List.nil_append] at e6 r6
 have n6:=k6.1
 have b6 : ∀ b,blk a6 b→h4.length≤b:=fun b hb=>by
  rcases d6 with ⟨_,e,_⟩|d6
  ·rw [e,blk_at0] at hb; omega
  ·have:=d6 b hb; omega
 have k6' : KB (· = h4.length) h5 h6:=k6.mono fun i _ hi=>blk_at0.1 hi
 have o6:=o5.keepB k6' fun i hi=>by rw [blk_at0] at hi; omega
 have z6:=(((o2.keepN k3).keepN k4).keepN k5).keepB k6' fun i hi=>by rw [blk_at0] at hi; omega
 have hne : ¬ (h.length = h4.length):=by omega
 refine W.bs e6 (W.bS rfl (W.gt (same_KB k6' (show h.length < h5.length by omega) hne) (W.gt (same_KB k6' (show h.length < h5.length by omega) hne) (W.wr0 z6 (by simp) (by simp) fun h7 o7 k7 l7=>?_))))
 have hz : setAt (acV 0 0 none 0 none 0 none 0) 0 (acV A.pid A.pc a3 A.regs.length a4 A.box.length a6 A.links.length) = acV A.pid A.pc a3 A.regs.length a4 A.box.length a6 A.links.length:=rfl
 rw [hz] at o7
 have l7 : h7.length = h6.length:=l7
 have k7 : KB (· = h1.length) h6 h7:=k7
 have k57 : KB (fun b=>b = h4.length∨b = h1.length) h5 h7:=KB.trans k6' k7 (fun _ _ h=>.inl h) (fun _ _ h=>.inr h)
 refine W.q5 o7 (W.ret ⟨_,rfl,?_,?_⟩)
 ·refine ⟨a3,a4,a6,iS h2.length h3.length,iS h3.length h4.length,iS h4.length h6.length,rfl,((r3.keep (TmG.kp _ _) k4 fun _ _ h=>h).keep (TmG.kp _ _) k5 fun _ _ h=>h).keep (TmG.kp _ _) k57 fun b hb hk=>by omega,
   (r4.keep (TmG.kp _ _) k5 fun _ _ h=>h).keep (TmG.kp _ _) k57 fun b hb hk=>by omega,r6.keepB k7 fun b hb=>by have:=b6 b hb; omega,fun b hb=>⟨b6 b hb,(r6.lt hb).2⟩,fun b hb=>⟨by omega,by show b < h7.length; omega⟩,fun b hb=>⟨by omega,by show b < h7.length; omega⟩,fun b hb=>⟨by omega,by show b < h7.length; omega⟩,fun b h1 h2=>by omega,fun b h1 h2=>by omega,fun b h1 h2=>by omega⟩
 ·exact kFresh k05 k57 fun i hi=>by omega
theorem TmG.eq {base f : Nat} {S : Fp} {h : AH} {k n k' n' : Int} {s s' : ByteArray} {l : List Tm} {a : Option Addr} {m : Nat} (x : TmG base f S h (.mk k n s l) (termV k' n' s' a m)) : k = k'∧n = n'∧s = s'∧m = l.length:=by
 cases f with
 | zero=>exact x.elim
 | succ f=>
  obtain ⟨l2,e,hm,_⟩:=TmG.parts x
  injection e with t1 t2 t3 t4
  exact ⟨t1,t2,t3,by rw [hm,t4]⟩
theorem AcG.form2 {base f : Nat} {S : Fp} {h : AH} {A : Ac} {cs : List Value} (x : AcG base f S h A cs) : ∃ a b g,cs = acV A.pid A.pc a A.regs.length b A.box.length g A.links.length:=by
 obtain ⟨a,b,g,S1,S2,S3,e,_⟩:=x
 exact ⟨a,b,g,e⟩
theorem im2 {a c : Rs} {l : List Rs} (hc : c.mu = true) (ha : a.mu = false) : ∀ r∈[a,c],r.mu = false→∃ r0∈a :: l,r0.mu = false∧r0.S = r.S:=by
 intro r hr hm
 simp only [List.mem_cons,List.not_mem_nil,or_false] at hr
 rcases hr with rfl|rfl
 ·exact ⟨_,.head _,ha,rfl⟩
 ·rw [hc] at hm; cases hm
theorem W.s6 {β : Type} {Q : β→Prop} {h : AH} {p : Nat→Prop} {g : Nat} {l : List Sd} {a : Option Addr} (hs : SsR h p g l a) {i : Nat} (hi : i < l.length) {f : Int→Int→Int→Int→ByteArray→Option Addr × Nat→Option β} (w : ∀ k n s a2 m,TmR h p g l[i].t (termV k n s a2 m)→Wp (f l[i].kind l[i].pid k n s (a2,m)) Q) :
  Wp (a.bind fun ad=>((Am.cell h ad.block (ad.off + i * 6)).bind (getI .i64)).bind fun n1=>((Am.cell h ad.block (ad.off + i * 6 + 1)).bind (getI .i64)).bind fun n2=>((Am.cell h ad.block (ad.off + i * 6 + 1 + 1)).bind (getI .i64)).bind fun n3=>((Am.cell h ad.block (ad.off + i * 6 + 1 + 1 + 1)).bind (getI .i64)).bind fun n4=>((Am.cell h ad.block (ad.off + i * 6 + 1 + 1 + 1 + 1)).bind getStr).bind fun s5=>((Am.cell h ad.block (ad.off + i * 6 + 1 + 1 + 1 + 1 + 1)).bind getS).bind fun l6=>f n1 n2 n3 n4 s5 l6) Q:=by
 obtain ⟨ad,k,n,s,a2,m,rfl,_,g0,g1,g2,g3,g4,g5,hm⟩:=hs.get hi
 exact W.bs rfl (W.bI g0 (W.bI g1 (W.bI g2 (W.bI g3 (W.bT g4 (W.bS g5 (w k n s a2 m hm)))))))
theorem W.ra {β : Type} {Q : β→Prop} {h : AH} {p : Nat→Prop} {g : Nat} {l : List Ac} {a : Option Addr} (hs : AsR h p g l a) {i : Nat} (hi : i < l.length) {f : Int→Int→Option Addr × Nat→Option Addr × Nat→Option Addr × Nat→Option β} (w : ∀ a b c,AcR h p g l[i] (acV l[i].pid l[i].pc a l[i].regs.length b l[i].box.length c l[i].links.length)→Wp (f l[i].pid l[i].pc (a,l[i].regs.length) (b,l[i].box.length) (c,l[i].links.length)) Q) :
  Wp (a.bind fun ad=>((Am.cell h ad.block (ad.off + i * 5)).bind (getI .i64)).bind fun n1=>((Am.cell h ad.block (ad.off + i * 5 + 1)).bind (getI .i64)).bind fun n2=>((Am.cell h ad.block (ad.off + i * 5 + 1 + 1)).bind getS).bind fun l3=>((Am.cell h ad.block (ad.off + i * 5 + 1 + 1 + 1)).bind getS).bind fun l4=>((Am.cell h ad.block (ad.off + i * 5 + 1 + 1 + 1 + 1)).bind getS).bind fun l5=>f n1 n2 l3 l4 l5) Q:=by
 obtain ⟨ad,a,b,c,rfl,_,g0,g1,g2,g3,g4,hm,_⟩:=hs.get hi
 exact W.bs rfl (W.bI g0 (W.bI g1 (W.bS g2 (W.bS g3 (W.bS g4 (w a b c hm))))))
abbrev rIn (p : Fp) (A : AH→Prop) : Rs:=⟨p,false,A⟩
abbrev rSs (base f : Nat) (S : Fp) (l : List Sd) (a : Option Addr) : Rs:=⟨S,true,fun y=>RowO base 140 6 (SdD f) S y l a⟩
abbrev rAs (base f : Nat) (S : Fp) (l : List Ac) (a : Option Addr) : Rs:=⟨S,true,fun y=>RowO base 54 5 (AcG base f) S y l a⟩
theorem copyOut_loop {base f : Nat} {p : Fp} {l : List Sd} {a : Option Addr} (hl : l.length≤1048576) (hB : ∀ x∈l,TmB f x.t) {V : Fp} {h0 : AH} : ∀ (n i : Nat) (h : AH) (ao : Option Addr) (S : Fp),i + n = l.length→Hs base V h0 h [] [rIn p fun y=>SsR y p f l a,rSs base f S (l.take i) ao] →
  Wp (loopL (B122_0 base) [some (.slice ao i i),some (.slice a l.length l.length),some (.int .i64 (l.length : Int)),some (.int .i64 (i : Int))] h) fun o=>∃ a' S',o.1 = 2∧o.2.1 = [some (.slice a' l.length l.length)]∧Hs base V h0 o.2.2 [] [rIn p fun y=>SsR y p f l a,rSs base f S' l a']:=by
 intro n
 induction n with
 | zero=>
  intro i h ao S hi d
  have hi' : i = l.length:=by omega
  subst hi'
  rw [List.take_of_length_le (Nat.le_refl _)] at d
  refine ⟨_,loop_off (by decide) (s':=[some (.slice ao l.length l.length)]) (h':=h) (e:=2) ?_,ao,S,rfl,rfl,d⟩
  rw [B122_0_eq]
  exact Am.ifF (by simp) rfl
 | succ n ih=>
  intro i h ao S hi d
  have hlt : i < l.length:=by omega
  suffices w : Wp (B122_0 base [some (.slice ao i i),some (.slice a l.length l.length),some (.int .i64 (l.length : Int)),some (.int .i64 (i : Int))] h) fun o=>∃ a' S',o.1 = 0∧o.2.1 = [some (.slice a' (i + 1) (i + 1)),some (.slice a l.length l.length),some (.int .i64 (l.length : Int)),some (.int .i64 ((i + 1 : Nat) : Int))]∧Hs base V h0 o.2.2 [] [rIn p fun y=>SsR y p f l a,rSs base f S' (l.take (i + 1)) a'] by
   obtain ⟨⟨o1,o2,h'⟩,e,a',S',y1,y2,d'⟩:=w
   simp only at y1 y2 d'
   subst y1; subst y2
   obtain ⟨o,eo,q⟩:=ih (i + 1) h' a' S' (by omega) d'
   exact ⟨o,loop_on e eo,q⟩
  rw [B122_0_eq]
  refine W.ifT (decide_eq_true (by omega)) (W.ifT ⟨by omega,by omega⟩ ?_)
  rw [Int.toNat_natCast]
  refine W.s6 (d.rs (i:=0) rfl) hlt fun k n s a2 m hm=>?_
  have d:=d.also (i:=0) rfl rfl _ hm (fun U y y' k hs x=>TmR.keep k hs _ _ _ x)
  ((try simp only [n1,n2,n3,n4,n5,n6] at d); (refine W.nD d fun h1 d _ kh1=>?_); (with_reducible repeat first|refine W.a1 d ?_|refine W.a5 d fun hw d lw kw=>?_))
  obtain ⟨cs,h2,e2,t2,k2⟩:=copyTermG_run (base:=base) f _ p _ _ (d.rs (i:=2) rfl) (hB _ (List.getElem_mem hlt)) d.ge (d.rlt (i:=0) rfl)
  obtain ⟨k',n',s',a',m',rfl⟩:=t2.form
  have sd : SdD f (iS _ h2.length) h2 l[i] (saidV l[i].kind l[i].pid k' n' s' a' m'):=⟨_,_,_,_,_,rfl,t2.d⟩
  have d:=d.callP (SdD.kp _) k2 sd
  refine W.bs e2 ?_
  ((try simp only [n1,n2,n3,n4,n5,n6] at d); (with_reducible repeat first|refine W.a1 d ?_|refine W.a2 ?_|refine W.a5 d fun hw d lw kw=>?_); (refine W.nD d fun h3 d _ kh3=>?_))
  have elen : (l.take i).length = i:=by simp; omega
  obtain ⟨a4,h4,S4,e4,d,_,_,_⟩:=d.app1 (i:=1) (j:=3) (bytes:=72) (SdD.kp _) rfl rfl (by decide) (.head _) rfl (by decide) rfl (by rw [elen]; omega) (by rw [elen]; omega)
  rw [elen] at e4
  refine W.bs e4 ?_
  rw [← take_snoc hlt] at d
  ((try simp only [n1,n2,n3,n4,n5,n6] at d); (with_reducible repeat refine W.a2 ?_))
  refine W.ret ⟨a4,S4,?_,?_,(d.tl.tl).takeR 2⟩
  ·rfl
  ·simp only [w64i (n:=(i : Int) + 1) (by omega) (by omega)]
   rfl
theorem copyOut_run {base f : Nat} {p : Fp} {l : List Sd} {a : Option Addr} {h : AH} (hl : l.length≤1048576) (hB : ∀ x∈l,TmB f x.t) (hs : SsR h p f l a) (hp : ∀ b,p b→b < h.length) (hb : base≤h.length) :
  ∃ a' h',run (Et base) 122 [.slice a l.length l.length] h = some (.slice a' l.length l.length,h')∧RowO base 140 6 (SdD f) (iS h.length h'.length) h' l a'∧KB NoB h h':=by
 suffices w : Wp (run (Et base) 122 [.slice a l.length l.length] h) fun o=>∃ a',o.1 = .slice a' l.length l.length∧RowO base 140 6 (SdD f) (iS h.length o.2.length) o.2 l a'∧KB NoB h o.2 by
  obtain ⟨⟨u,h'⟩,e,a',rfl,q⟩:=w
  exact ⟨a',h',e,q⟩
 have d:=(Hs.start hb).inp p _ hs (fun U y y' k hs x=>SsR.keep k hs x) hp (fun x hx=>nomatch hx) rfl
 have d:=d.call (KB.refl NoB _) (fun _=>False) (fun y=>RowO base 140 6 (SdD f) (fun _=>False) y [] none) RowO.nil (fun U y y' k hs x=>x.keep (SdD.kp _) k hs) (fun _ h=>h.elim)
 refine W.of (fun r hx=>Am.r122 hx) ?_
 refine W.wb (copyOut_loop (base:=base) hl hB l.length 0 h none _ (by omega) d) ?_
 rintro ⟨o1,o2,h2⟩ ⟨a',S',y1,y2,d⟩
 simp only at y1 y2 d
 subst y1; subst y2
 refine W.ifT rfl ?_
 ((with_reducible repeat refine W.a2 ?_))
 have rr:=d.rs (i:=1) rfl
 exact W.ret ⟨a',rfl,RowO.mono rr fun b hb=>⟨(d.rfr (i:=1) rfl rfl b hb).resolve_left fun h=>h,d.rlt (i:=1) rfl b hb⟩,d.kb⟩
theorem copyAcs_loop {base f rb ob : Nat} {p : Fp} {l : List Ac} {a : Option Addr} {a0 g : Option Addr} {n0 q : Nat} {v : Int} (hl : l.length≤1048576) (hB : ∀ A∈l,AcB f A) {V : Fp} {h0 : AH} : ∀ (n i : Nat) (h : AH) (ao : Option Addr) (S : Fp),i + n = l.length→Hs base V h0 h [(ob,36,plV a0 n0 ao i v g q)] [rIn p fun y=>AsR y p f l a,rAs base f S (l.take i) ao] →
  Wp (loopL (B64_0 base) [some (.pointer (at0 rb)),some (.pointer (at0 ob)),some (.slice a l.length l.length),some (.int .i64 (l.length : Int)),some (.int .i64 (i : Int))] h) fun o=>∃ a' S',o.1 = 2∧o.2.1 = [some (.pointer (at0 rb)),some (.pointer (at0 ob))]∧Hs base V h0 o.2.2 [(ob,36,plV a0 n0 a' l.length v g q)] [rIn p fun y=>AsR y p f l a,rAs base f S' l a']:=by
 intro n
 induction n with
 | zero=>
  intro i h ao S hi d
  have hi' : i = l.length:=by omega
  subst hi'
  rw [List.take_of_length_le (Nat.le_refl _)] at d
  refine ⟨_,loop_off (by decide) (s':=[some (.pointer (at0 rb)),some (.pointer (at0 ob))]) (h':=h) (e:=2) ?_,ao,S,rfl,rfl,d⟩
  rw [B64_0_eq]
  exact Am.ifF (by simp) rfl
 | succ n ih=>
  intro i h ao S hi d
  have hlt : i < l.length:=by omega
  suffices w : Wp (B64_0 base [some (.pointer (at0 rb)),some (.pointer (at0 ob)),some (.slice a l.length l.length),some (.int .i64 (l.length : Int)),some (.int .i64 (i : Int))] h) fun o=>∃ a' S',o.1 = 0∧o.2.1 = [some (.pointer (at0 rb)),some (.pointer (at0 ob)),some (.slice a l.length l.length),some (.int .i64 (l.length : Int)),some (.int .i64 ((i + 1 : Nat) : Int))]∧Hs base V h0 o.2.2 [(ob,36,plV a0 n0 a' (i + 1) v g q)] [rIn p fun y=>AsR y p f l a,rAs base f S' (l.take (i + 1)) a'] by
   obtain ⟨⟨o1,o2,h'⟩,e,a',S',y1,y2,d'⟩:=w
   simp only at y1 y2 d'
   subst y1; subst y2
   obtain ⟨o,eo,q⟩:=ih (i + 1) h' a' S' (by omega) d'
   exact ⟨o,loop_on e eo,q⟩
  rw [B64_0_eq]
  refine W.ifT (decide_eq_true (by omega)) (W.ifT ⟨by omega,by omega⟩ ?_)
  rw [Int.toNat_natCast]
  refine W.ra (d.rs (i:=0) rfl) hlt fun a1 b1 c1 hm=>?_
  have d:=d.also (i:=0) rfl rfl _ hm (fun U y y' k hs x=>AcR.keep k hs x)
  ((try simp only [n1,n2,n3,n4,n5,n6] at d); (refine W.nD d fun h1 d _ kh1=>?_); (with_reducible repeat first|refine W.a1 d ?_|refine W.a5 d fun hw d lw kw=>?_))
  obtain ⟨cs,h2,e2,t2,k2⟩:=copyActor_run (base:=base) (hB _ (List.getElem_mem hlt)) (d.rs (i:=2) rfl) d.ge (d.rlt (i:=0) rfl)
  obtain ⟨a2,b2,c2,rfl⟩:=t2.form2
  have d:=d.callP (AcG.kp _ _) k2 t2
  refine W.bs e2 ?_
  ((try simp only [n1,n2,n3,n4,n5,n6] at d); (with_reducible repeat first|refine W.a2 ?_|refine W.a6 d ?_|refine W.a7 ?_); (refine W.nD d fun h3 d _ kh3=>?_))
  have elen : (l.take i).length = i:=by simp; omega
  obtain ⟨a4,h4,S4,e4,d,_,_,_⟩:=d.app1 (i:=1) (j:=3) (bytes:=88) (AcG.kp _ _) rfl rfl (by decide) (.head _) rfl (by decide) rfl (by rw [elen]; omega) (by rw [elen]; omega)
  rw [elen] at e4
  refine W.bs e4 ?_
  rw [← take_snoc hlt] at d
  ((try simp only [n1,n2,n3,n4,n5,n6] at d); (with_reducible repeat first|refine W.a2 ?_|refine W.a5 d fun hw d lw kw=>?_))
  refine W.ret ⟨a4,S4,rfl,?_,(d.tl.tl).takeR 2⟩
  simp only [w64i (n:=(i : Int) + 1) (by omega) (by omega)]
  rfl
theorem PlG.of {base f : Nat} {h0 h : AH} {D : Ds} {R : List Rs} {P : Pl} {a b g : Option Addr} {S1 S2 S3 : Fp} (d : Hs base NoB h0 h D R) {i j k : Nat} (hij : i≠j) (hik : i≠k) (hjk : j≠k) (e1 : R[i]? = some ⟨S1,true,fun y=>Own base 143 y a (insR P.code)⟩) (hS1 : ∀ x,blk a x→S1 x) (e2 : R[j]? = some (rAs base f S2 P.acs b)) (e3 : R[k]? = some (rSs base f S3 P.out g)) : PlG base f (iS h0.length h.length) h P (plV a P.code.length b P.acs.length P.next g P.out.length):=by
 have dj : ∀ {i j : Nat} {r s : Rs},i≠j→R[i]? = some r→R[j]? = some s→r.mu = true→∀ b,r.S b→¬ s.S b:=by
  intro i j r s hij hr hs m
  obtain ⟨hi,rfl⟩:=List.getElem?_eq_some_iff.1 hr
  obtain ⟨hj,rfl⟩:=List.getElem?_eq_some_iff.1 hs
  rcases Nat.lt_or_gt_of_ne hij with hlt|hgt
  ·exact List.pairwise_iff_getElem.1 d.dj i j hi hj hlt (by rw [m]; rfl)
  ·exact (List.pairwise_iff_getElem.1 d.dj j i hj hi hgt).symm (by rw [m]; rfl)
 exact ⟨a,b,g,S1,S2,S3,rfl,d.rs e1,hS1,d.rs e2,d.rs e3,fun x hx=>⟨(d.rfr e1 rfl x hx).resolve_left fun h=>h,d.rlt e1 x hx⟩,fun x hx=>⟨(d.rfr e2 rfl x hx).resolve_left fun h=>h,d.rlt e2 x hx⟩,fun x hx=>⟨(d.rfr e3 rfl x hx).resolve_left fun h=>h,d.rlt e3 x hx⟩,dj hij e1 e2 rfl,dj hik e1 e3 rfl,dj hjk e2 e3 rfl⟩
theorem Hs.insCopy {base : Nat} {V : Fp} {h0 h : AH} {D : Ds} {R : List Rs} (d : Hs base V h0 h D R) {l : List In} {a : Option Addr} (hs : Sl h a (insR l)) (hl : l.length≤1048576) :
  ∃ a' h' S',Am.app base h 143 6 56 none 0 (rawAt h a (l.length * 6)) l.length = some (.slice a' l.length l.length,h')∧Hs base V h0 h' D (R++[⟨S',true,fun y=>Own base 143 y a' (insR l)⟩])∧(∀ x,blk a' x→S' x)∧KB NoB h h':=by
 have hr : rawAt h a (l.length * 6) = some (insR l):=by
  have:=hs.raw (insR_leaf _)
  rw [insR_len] at this
  exact this
 obtain ⟨a1,h1,g1,g2,g3,g4⟩:=Own.app (x:=(.inl ⟨rfl,rfl⟩ : Own base 143 h none [])) (bytes:=56) (n:=0) (m:=l.length) (sz:=6) (by simp) (by decide) hr d.ge (by omega) (by omega) (insR_len _)
 simp only [Nat.zero_add,List.nil_append] at g1 g2
 have k : KB NoB h h1:=g3.mono fun i hi ⟨ad,e,_⟩=>by cases e
 refine ⟨a1,h1,blk a1,g1,d.call k (blk a1) _ g2 (fun U y y' ky hs x=>x.keep ky hs) (fun b hb=>⟨?_,(g2.lt hb).2⟩),fun _ h=>h,k⟩
 rcases g4 with ⟨_,e,_⟩|g4
 ·rw [e] at hb; obtain ⟨_,e,_⟩:=hb; cases e
 ·have:=g4 b hb; omega
theorem copyPlain_run {base f : Nat} {p : Fp} {P : Pl} {cs : List Value} {h : AH} (hB : PlB f P) (x : PlR h p f P cs) (hp : ∀ b,p b→b < h.length) (hb : base≤h.length) :
  ∃ cs' h',run (Et base) 64 [.agg cs.toArray] h = some (.agg cs'.toArray,h')∧PlG base f (iS h.length h'.length) h' P cs'∧KB NoB h h':=by
 obtain ⟨a,b,g,rfl,hc,hcb,ha,ho⟩:=x
 obtain ⟨b1,b2,b3,b4,b5,b6⟩:=hB
 suffices w : Wp (run (Et base) 64 [.agg (plV a P.code.length b P.acs.length P.next g P.out.length).toArray] h) fun o=>∃ cs',o.1 = .agg cs'.toArray∧PlG base f (iS h.length o.2.length) o.2 P cs'∧KB NoB h o.2 by
  obtain ⟨⟨u,h'⟩,e,cs',rfl,q⟩:=w
  exact ⟨cs',h',e,q⟩
 have d:=((Hs.start hb).inp p _ ha (fun U y y' k hs x=>AsR.keep k hs x) hp (fun x hx=>nomatch hx) rfl).inp p _ ho (fun U y y' k hs x=>SsR.keep k hs x) hp (fun x hx=>nomatch hx) rfl
 refine W.of (fun r hx=>Am.r64 hx) ?_
 ((try simp only [n1,n2,n3,n4,n5,n6] at d); (refine W.nD d fun h1 d _ kh1=>?_); (refine W.nD d fun h2 d _ kh2=>?_); (with_reducible repeat refine W.a1 d ?_))
 obtain ⟨a3,h3,S3,e3,d,hS3,k3⟩:=d.insCopy (hc.keep d.kb fun _ _ h=>h) b1
 refine W.bs e3 ?_
 ((try simp only [n1,n2,n3,n4,n5,n6] at d); (with_reducible repeat first|refine W.a1 d ?_|refine W.a2 ?_|refine W.a6 d ?_))
 obtain ⟨a4,h4,e4,r4,k4⟩:=copyOut_run (base:=base) b5 b6 (d.rs (i:=1) rfl) (d.rlt (i:=1) rfl) d.ge
 have d:=d.callO (SdD.kp _) k4 r4
 refine W.bs e4 ?_
 ((try simp only [n1,n2,n3,n4,n5,n6] at d); (with_reducible repeat first|refine W.a2 ?_|refine W.a6 d ?_|refine W.a7 ?_); (refine W.nD d fun h5 d _ kh5=>?_); (with_reducible repeat first|refine W.a1 d ?_|refine W.a5 d fun hw d lw kw=>?_))
 have d:=d.call (KB.refl NoB _) (fun _=>False) (fun y=>RowO base 54 5 (AcG base f) (fun _=>False) y [] none) RowO.nil (fun U y y' k hs x=>x.keep (AcG.kp _ _) k hs) (fun _ h=>h.elim)
 have d:=(d.frontR (Del.at (i:=4) rfl)).frontR (Del.at (i:=1) rfl)
 simp only [n1,n2,n5,n6] at d
 have d1:=Hs.part (D1:=[_]) (R1:=[_,_]) d
 refine W.wb (copyAcs_loop (base:=base) b3 b4 P.acs.length 0 _ none _ (by omega) d1) ?_
 rintro ⟨o1,o2,h6⟩ ⟨a6,S6,y1,y2,d6⟩
 simp only at y1 y2 d6
 subst y1; subst y2
 have d:=Hs.back (D1:=[_]) (R1:=[_,_]) d d6 (im2 rfl rfl)
 refine W.ifT rfl ?_
 ((try simp only [n1,n2,n3,n4,n5,n6] at d); (with_reducible repeat first|refine W.a1 d ?_|refine W.a2 ?_|refine W.a5 d fun hw d lw kw=>?_))
 exact W.ret ⟨_,rfl,PlG.of d (i:=3) (j:=1) (k:=4) (by decide) (by decide) (by decide) rfl hS3 rfl rfl,d.kb⟩
theorem Hs.appD {base t sz bytes nb n m : Nat} {V : Fp} {h0 h : AH} {D : Ds} {R : List Rs} {olds new : List Value} {src : Option (List Value)} (d : Hs base V h0 h ((nb,t,olds) :: D) R) (hn : olds.length = n * sz) (hsz : 0 < sz) (hs : src = some new) (h1 : (n + m) * bytes≤140737488355328) (h2 : n + m≤9223372036854775807) (hm : new.length = m * sz) :
  ∃ a' h' S',Am.app base h t sz bytes (at0 nb) n src m = some (.slice a' (n + m) (n + m),h')∧Hs base V h0 h' D (R++[⟨S',true,fun y=>Own base t y a' (olds++new)⟩])∧(∀ x,blk a' x→S' x)∧KB (· = nb) h h'∧(∀ x,S' x→x = nb∨h.length≤x):=by
 have d':=d.unbox .here
 obtain ⟨a',h',e,o,k,q⟩:=Own.app (x:=d.ol (.head _)) (bytes:=bytes) (m:=m) hn hsz hs d.ge h1 h2 hm
 have k : KB (· = nb) h h':=k.mono fun i _ hi=>blk_at0.1 hi
 have n0:=d.kb.1
 have d2:=d'.upd (r:=⟨(· = nb),true,fun y=>Own base t y (at0 nb) olds⟩) (r':=⟨blk a',true,fun y=>Own base t y a' (olds++new)⟩) (R':=R++[⟨blk a',true,fun y=>Own base t y a' (olds++new)⟩]) (by
  clear d d' k q
  induction R with
  | nil=>exact .here
  | cons x R ih=>exact .there ih) rfl rfl k (fun b hb=>.inl hb) o (fun U y y' ky hs x=>x.keep ky hs) (fun b hb=>by
   rcases q with ⟨_,e,_⟩|q
   ·have hb : blk a' b:=hb
    rw [e,blk_at0] at hb
    exact .inl hb
   ·have e:=q b hb
    have:=(o.lt hb).2
    exact .inr ⟨by omega,this⟩)
 refine ⟨a',h',_,e,d2,fun _ h=>h,k,fun b hb=>?_⟩
 have hb : blk a' b:=hb
 rcases q with ⟨_,e,_⟩|q
 ·rw [e,blk_at0] at hb; exact .inl hb
 ·have:=q b hb; exact .inr (by omega)
theorem l11CopyA_loop {base f rb ob pb : Nat} {p : Fp} {l : List Ac} {a : Option Addr} {a0 g a1 g1 : Option Addr} {n0 q n1' q1 : Nat} {v v1 : Int} (hl : l.length≤1048576) (hB : ∀ A∈l,AcB f A) {V : Fp} {h0 : AH} : ∀ (n i : Nat) (h : AH) (ao : Option Addr) (S : Fp),i + n = l.length→Hs base V h0 h [(ob,36,plV a0 n0 ao i v g q),(pb,36,plV a1 n1' a l.length v1 g1 q1)] [rIn p fun y=>AsR y p f l a,rAs base f S (l.take i) ao] →
  Wp (loopL (B57_0 base) [some (.pointer (at0 pb)),some (.pointer (at0 rb)),some (.pointer (at0 ob)),some (.int .i64 (i : Int))] h) fun o=>∃ a' S',o.1 = 2∧o.2.1 = [some (.pointer (at0 pb)),some (.pointer (at0 rb)),some (.pointer (at0 ob))]∧Hs base V h0 o.2.2 [(ob,36,plV a0 n0 a' l.length v g q),(pb,36,plV a1 n1' a l.length v1 g1 q1)] [rIn p fun y=>AsR y p f l a,rAs base f S' l a']:=by
 intro n
 induction n with
 | zero=>
  intro i h ao S hi d
  have hi' : i = l.length:=by omega
  subst hi'
  rw [List.take_of_length_le (Nat.le_refl _)] at d
  suffices w : Wp (B57_0 base [some (.pointer (at0 pb)),some (.pointer (at0 rb)),some (.pointer (at0 ob)),some (.int .i64 (l.length : Int))] h) fun o=>o = (2,[some (.pointer (at0 pb)),some (.pointer (at0 rb)),some (.pointer (at0 ob))],h) by
   obtain ⟨o,e,rfl⟩:=w
   exact ⟨_,loop_off (by decide) e,ao,S,rfl,rfl,d⟩
  rw [B57_0_eq]
  ((with_reducible repeat refine W.a1 d ?_))
  exact W.ifF (by simp) (W.ret rfl)
 | succ n ih=>
  intro i h ao S hi d
  have hlt : i < l.length:=by omega
  suffices w : Wp (B57_0 base [some (.pointer (at0 pb)),some (.pointer (at0 rb)),some (.pointer (at0 ob)),some (.int .i64 (i : Int))] h) fun o=>∃ a' S',o.1 = 0∧o.2.1 = [some (.pointer (at0 pb)),some (.pointer (at0 rb)),some (.pointer (at0 ob)),some (.int .i64 ((i + 1 : Nat) : Int))]∧Hs base V h0 o.2.2 [(ob,36,plV a0 n0 a' (i + 1) v g q),(pb,36,plV a1 n1' a l.length v1 g1 q1)] [rIn p fun y=>AsR y p f l a,rAs base f S' (l.take (i + 1)) a'] by
   obtain ⟨⟨o1,o2,h'⟩,e,a',S',y1,y2,d'⟩:=w
   simp only at y1 y2 d'
   subst y1; subst y2
   obtain ⟨o,eo,q⟩:=ih (i + 1) h' a' S' (by omega) d'
   exact ⟨o,loop_on e eo,q⟩
  rw [B57_0_eq]
  ((with_reducible repeat refine W.a1 d ?_))
  refine W.ifT (decide_eq_true (by show (i : Int) < (l.length : Int); omega)) ?_
  ((with_reducible repeat first|refine W.a1 d ?_|refine W.a8 ?_))
  rw [Int.toNat_natCast]
  refine W.ra (d.rs (i:=0) rfl) hlt fun a1 b1 c1 hm=>?_
  have d:=d.also (i:=0) rfl rfl _ hm (fun U y y' k hs x=>AcR.keep k hs x)
  ((try simp only [n1,n2,n3,n4,n5,n6] at d))
  obtain ⟨cs,h2,e2,t2,k2⟩:=l9Copy_run (base:=base) (hB _ (List.getElem_mem hlt)) (d.rs (i:=2) rfl) d.ge (d.rlt (i:=0) rfl)
  obtain ⟨a2,b2,c2,rfl⟩:=t2.form2
  have d:=d.callP (AcG.kp _ _) k2 t2
  refine W.bs e2 ?_
  ((try simp only [n1,n2,n3,n4,n5,n6] at d); (with_reducible repeat first|refine W.a2 ?_|refine W.a6 d ?_|refine W.a7 ?_); (refine W.nD d fun h3 d _ kh3=>?_))
  have elen : (l.take i).length = i:=by simp; omega
  obtain ⟨a4,h4,S4,e4,d,_,_,_⟩:=d.app1 (i:=1) (j:=3) (bytes:=88) (AcG.kp _ _) rfl rfl (by decide) (.head _) rfl (by decide) rfl (by rw [elen]; omega) (by rw [elen]; omega)
  rw [elen] at e4
  refine W.bs e4 ?_
  rw [← take_snoc hlt] at d
  ((try simp only [n1,n2,n3,n4,n5,n6] at d); (with_reducible repeat first|refine W.a2 ?_|refine W.a5 d fun hw d lw kw=>?_))
  refine W.ret ⟨a4,S4,rfl,?_,(d.tl).takeR 2⟩
  simp only [w64i (n:=(i : Int) + 1) (by omega) (by omega)]
  rfl
theorem l11CopyO_loop {base f rb ob pb : Nat} {p : Fp} {l : List Sd} {a : Option Addr} {a0 g a1 g1 : Option Addr} {n0 q n1' q1 : Nat} {v v1 : Int} (hl : l.length≤1048576) (hB : ∀ x∈l,TmB f x.t) {V : Fp} {h0 : AH} : ∀ (n i : Nat) (h : AH) (ao : Option Addr) (S : Fp),i + n = l.length→Hs base V h0 h [(ob,36,plV a0 n0 g q v ao i),(pb,36,plV a1 n1' g1 q1 v1 a l.length)] [rIn p fun y=>SsR y p f l a,rSs base f S (l.take i) ao] →
  Wp (loopL (B57_1 base) [some (.pointer (at0 pb)),some (.pointer (at0 rb)),some (.pointer (at0 ob)),some (.int .i64 (i : Int))] h) fun o=>∃ a' S',o.1 = 4∧o.2.1 = [some (.pointer (at0 rb)),some (.pointer (at0 ob))]∧Hs base V h0 o.2.2 [(ob,36,plV a0 n0 g q v a' l.length),(pb,36,plV a1 n1' g1 q1 v1 a l.length)] [rIn p fun y=>SsR y p f l a,rSs base f S' l a']:=by
 intro n
 induction n with
 | zero=>
  intro i h ao S hi d
  have hi' : i = l.length:=by omega
  subst hi'
  rw [List.take_of_length_le (Nat.le_refl _)] at d
  suffices w : Wp (B57_1 base [some (.pointer (at0 pb)),some (.pointer (at0 rb)),some (.pointer (at0 ob)),some (.int .i64 (l.length : Int))] h) fun o=>o = (4,[some (.pointer (at0 rb)),some (.pointer (at0 ob))],h) by
   obtain ⟨o,e,rfl⟩:=w
   exact ⟨_,loop_off (by decide) e,ao,S,rfl,rfl,d⟩
  rw [B57_1_eq]
  ((with_reducible repeat refine W.a1 d ?_))
  exact W.ifF (by simp) (W.ret rfl)
 | succ n ih=>
  intro i h ao S hi d
  have hlt : i < l.length:=by omega
  suffices w : Wp (B57_1 base [some (.pointer (at0 pb)),some (.pointer (at0 rb)),some (.pointer (at0 ob)),some (.int .i64 (i : Int))] h) fun o=>∃ a' S',o.1 = 0∧o.2.1 = [some (.pointer (at0 pb)),some (.pointer (at0 rb)),some (.pointer (at0 ob)),some (.int .i64 ((i + 1 : Nat) : Int))]∧Hs base V h0 o.2.2 [(ob,36,plV a0 n0 g q v a' (i + 1)),(pb,36,plV a1 n1' g1 q1 v1 a l.length)] [rIn p fun y=>SsR y p f l a,rSs base f S' (l.take (i + 1)) a'] by
   obtain ⟨⟨o1,o2,h'⟩,e,a',S',y1,y2,d'⟩:=w
   simp only at y1 y2 d'
   subst y1; subst y2
   obtain ⟨o,eo,q⟩:=ih (i + 1) h' a' S' (by omega) d'
   exact ⟨o,loop_on e eo,q⟩
  rw [B57_1_eq]
  ((with_reducible repeat refine W.a1 d ?_))
  refine W.ifT (decide_eq_true (by show (i : Int) < (l.length : Int); omega)) ?_
  ((with_reducible repeat first|refine W.a1 d ?_|refine W.a8 ?_))
  rw [Int.toNat_natCast]
  refine W.s6 (d.rs (i:=0) rfl) hlt fun k n s a2 m hm=>?_
  have d:=d.also (i:=0) rfl rfl _ hm (fun U y y' k hs x=>TmR.keep k hs _ _ _ x)
  ((try simp only [n1,n2,n3,n4,n5,n6] at d); (refine W.nD d fun h1 d _ kh1=>?_); (with_reducible repeat first|refine W.a1 d ?_|refine W.a5 d fun hw d lw kw=>?_))
  obtain ⟨cs,h2,e2,t2,k2⟩:=l1CopyG_run (base:=base) f _ p _ _ (d.rs (i:=2) rfl) (hB _ (List.getElem_mem hlt)) d.ge (d.rlt (i:=0) rfl)
  obtain ⟨k',n',s',a',m',rfl⟩:=t2.form
  have sd : SdD f (iS _ h2.length) h2 l[i] (saidV l[i].kind l[i].pid k' n' s' a' m'):=⟨_,_,_,_,_,rfl,t2.d⟩
  have d:=d.callP (SdD.kp _) k2 sd
  refine W.bs e2 ?_
  ((try simp only [n1,n2,n3,n4,n5,n6] at d); (with_reducible repeat first|refine W.a1 d ?_|refine W.a2 ?_|refine W.a5 d fun hw d lw kw=>?_); (refine W.nD d fun h3 d _ kh3=>?_))
  have elen : (l.take i).length = i:=by simp; omega
  obtain ⟨a4,h4,S4,e4,d,_,_,_⟩:=d.app1 (i:=1) (j:=3) (bytes:=72) (SdD.kp _) rfl rfl (by decide) (.head _) rfl (by decide) rfl (by rw [elen]; omega) (by rw [elen]; omega)
  rw [elen] at e4
  refine W.bs e4 ?_
  rw [← take_snoc hlt] at d
  ((try simp only [n1,n2,n3,n4,n5,n6] at d); (with_reducible repeat first|refine W.a2 ?_|refine W.a5 d fun hw d lw kw=>?_))
  refine W.ret ⟨a4,S4,rfl,?_,(d.tl.tl).takeR 2⟩
  simp only [w64i (n:=(i : Int) + 1) (by omega) (by omega)]
  rfl
theorem l11Copy_run {base f : Nat} {p : Fp} {P : Pl} {cs : List Value} {h : AH} (hB : PlB f P) (x : PlR h p f P cs) (hp : ∀ b,p b→b < h.length) (hb : base≤h.length) :
  ∃ cs' h',run (Et base) 57 [.agg cs.toArray] h = some (.agg cs'.toArray,h')∧PlG base f (iS h.length h'.length) h' P cs'∧KB NoB h h':=by
 obtain ⟨a,b,g,rfl,hc,hcb,ha,ho⟩:=x
 obtain ⟨b1,b2,b3,b4,b5,b6⟩:=hB
 suffices w : Wp (run (Et base) 57 [.agg (plV a P.code.length b P.acs.length P.next g P.out.length).toArray] h) fun o=>∃ cs',o.1 = .agg cs'.toArray∧PlG base f (iS h.length o.2.length) o.2 P cs'∧KB NoB h o.2 by
  obtain ⟨⟨u,h'⟩,e,cs',rfl,q⟩:=w
  exact ⟨cs',h',e,q⟩
 have d:=((Hs.start hb).inp p _ ha (fun U y y' k hs x=>AsR.keep k hs x) hp (fun x hx=>nomatch hx) rfl).inp p _ ho (fun U y y' k hs x=>SsR.keep k hs x) hp (fun x hx=>nomatch hx) rfl
 refine W.of (fun r hx=>Am.r57 hx) ?_
 ((try simp only [n1,n2,n3,n4,n5,n6] at d); (refine W.nD d fun h1 d _ kh1=>?_); (refine W.nD d fun h2 d _ kh2=>?_); (refine W.nD d fun h3 d _ kh3=>?_); (with_reducible repeat first|refine W.a1 d ?_|refine W.a7 ?_))
 have hraw : rawAt h3 a (P.code.length * 6) = some (insR P.code):=by
  have:=(hc.keep d.kb fun _ _ h=>h).raw (insR_leaf _)
  rw [insR_len] at this
  exact this
 obtain ⟨a3,h4,S3,e3,d,hS3,k3,_⟩:=Hs.appD (n:=0) (m:=P.code.length) (bytes:=56) d (by rfl) (by decide) hraw (by omega) (by omega) (insR_len _)
 simp only [Nat.zero_add,List.nil_append] at e3 d
 refine W.bs e3 ?_
 ((try simp only [n1,n2,n3,n4,n5,n6] at d); (with_reducible repeat first|refine W.a1 d ?_|refine W.a2 ?_|refine W.a6 d ?_|refine W.a7 ?_); (refine W.nD d fun h5 d _ kh5=>?_); (with_reducible repeat refine W.a5 d fun hw d lw kw=>?_))
 have d:=d.call (KB.refl NoB _) (fun _=>False) (fun y=>RowO base 54 5 (AcG base f) (fun _=>False) y [] none) RowO.nil (fun U y y' k hs x=>x.keep (AcG.kp _ _) k hs) (fun _ h=>h.elim)
 have d:=d.call (KB.refl NoB _) (fun _=>False) (fun y=>RowO base 140 6 (SdD f) (fun _=>False) y [] none) RowO.nil (fun U y y' k hs x=>x.keep (SdD.kp _) k hs) (fun _ h=>h.elim)
 have d:=(((d.front (.there (.there .here))).front (.there .here)).frontR (Del.at (i:=3) rfl)).frontR (Del.at (i:=1) rfl)
 simp only [n1,n2,n5,n6] at d
 have d1:=Hs.part (D1:=[_,_]) (R1:=[_,_]) d
 refine W.wb (l11CopyA_loop (base:=base) b3 b4 P.acs.length 0 _ none _ (by omega) d1) ?_
 rintro ⟨o1,o2,h6⟩ ⟨a6,S6,y1,y2,d6⟩
 simp only at y1 y2 d6
 subst y1; subst y2
 have d:=Hs.back (D1:=[_,_]) (R1:=[_,_]) d d6 (im2 rfl rfl)
 refine W.ifT rfl ?_
 ((try simp only [n1,n2,n3,n4,n5,n6] at d); (with_reducible repeat refine W.a2 ?_))
 have d:=(d.frontR (Del.at (i:=4) rfl)).frontR (Del.at (i:=3) rfl)
 simp only [n1,n2,n5,n6] at d
 have d1:=Hs.part (D1:=[_,_]) (R1:=[_,_]) d
 refine W.wb (l11CopyO_loop (base:=base) b5 b6 P.out.length 0 _ none _ (by omega) d1) ?_
 rintro ⟨o1,o2,h7⟩ ⟨a7,S7,y1,y2,d7⟩
 simp only at y1 y2 d7
 subst y1; subst y2
 have d:=Hs.back (D1:=[_,_]) (R1:=[_,_]) d d7 (im2 rfl rfl)
 refine W.ifT rfl ?_
 ((try simp only [n1,n2,n3,n4,n5,n6] at d); (with_reducible repeat first|refine W.a1 d ?_|refine W.a2 ?_|refine W.a5 d fun hw d lw kw=>?_))
 exact W.ret ⟨_,rfl,PlG.of d (i:=4) (j:=3) (k:=1) (by decide) (by decide) (by decide) rfl hS3 rfl rfl,d.kb⟩
section
namespace Hs
variable {base : Nat} {W : Fp} {h0 h : AH} {D : Ds} {R : List Rs}
end Hs
end
def toldB (pid : Int) (acs : List Ac) : Bool:=if decide (atL pid 0 acs < 0) = true then true else decide (((acs.getD (atL pid 0 acs).toNat a0).box.length : Int) ≥ (30 : Int))
def toldL (pid : Int) (t : Tm) (acs : List Ac) : List Ac:=if toldB pid acs = true then acs else acs.set (atL pid 0 acs).toNat { (acs.getD (atL pid 0 acs).toNat a0) with box:=(acs.getD (atL pid 0 acs).toNat a0).box++[t] }
theorem l11Told_run {base F f pb : Nat} {p : Fp} {P : Pl} {a b g : Option Addr} {S : Fp} {pid : Int} {t : Tm} {tcs : List Value} {V : Fp} {h0 h : AH} (hn : P.acs.length≤1048576) (hbx : ∀ A∈P.acs,A.box.length≤1048576) (hB : TmB f t) (hf : f≤F) (d : Hs base V h0 h [(pb,36,plV a P.code.length b P.acs.length P.next g P.out.length)] [rIn p fun y=>TmR y p f t tcs,rAs base F S P.acs b]) :
  Wp (run (Et base) 59 [.pointer (at0 pb),.int .i64 pid,.agg tcs.toArray] h) fun r=>r.1 = .bool (!toldB pid P.acs)∧∃ S',Hs base V h0 r.2 [(pb,36,plV a P.code.length b P.acs.length P.next g P.out.length)] [rIn p fun y=>TmR y p f t tcs,rAs base F S' (toldL pid t P.acs) b]:=by
 obtain ⟨k0,m0,s0,ta,tl,rfl⟩:=TmR.form (d.rs (i:=0) rfl)
 refine W.of (fun r hx=>Am.r59 hx) ?_
 ((refine W.nD d fun h1 d _ kh1=>?_); (with_reducible repeat first|refine W.a1 d ?_|refine W.bo ?_))
 obtain ⟨h2,e2,k2⟩:=l11At_run (base:=base) (P:=P) (v:=pid) (a:=a) (g:=g) (by omega) (RowO.asR (d.rs (i:=1) rfl)) d.ge
 have d:=d.kN k2
 refine W.bs e2 ?_
 ((with_reducible repeat refine W.a2 ?_))
 have hlt:=atL_lt pid P.acs 0
 apply W.jb (toldB pid P.acs) d
 ·unfold toldB
  refine W.ite (fun c=>?_) (fun c=>?_)
  ·rw [if_pos c]
   exact W.lb rfl rfl (KB.refl _ _)
  ·rw [if_neg c]
   have c' : ¬ atL pid 0 P.acs < 0:=by simpa using c
   have hi : (atL pid 0 P.acs).toNat < P.acs.length:=by omega
   ((with_reducible repeat first|refine W.a1 d ?_|refine W.bo ?_|refine W.a8 ?_))
   obtain ⟨ad,x1,x2,x3,rfl,hbl,g0,g1,g2,g3,g4,hmm,hlk⟩:=AsR.get (RowO.asR (d.rs (i:=1) rfl)) hi
   refine W.bs rfl (W.bS g3 ?_)
   rw [aD hi]
   exact W.lb rfl rfl (KB.refl _ _)
 intro h3 d n3
 ((with_reducible repeat refine W.a2 ?_))
 refine W.ite (fun c=>?_) (fun c=>?_)
 ·rw [c]
  refine W.ret ⟨rfl,S,?_⟩
  unfold toldL
  rw [if_pos c]
  exact d.tl
 ·have c2:=c
  unfold toldB at c2
  have c' : ¬ atL pid 0 P.acs < 0:=fun h=>c2 (by rw [if_pos (decide_eq_true h)])
  have hi : (atL pid 0 P.acs).toNat < P.acs.length:=by omega
  have hS3 : ∀ b,S b→b < h3.length:=d.rlt (i:=1) rfl
  ((with_reducible repeat first|refine W.a1 d ?_|refine W.bo ?_|refine W.a7 ?_); (refine W.nD d fun h4 d _ kh4=>?_); (with_reducible repeat first|refine W.a1 d ?_|refine W.bo ?_|refine W.a7 ?_|refine W.a8 ?_))
  have row : RowO base 54 5 (AcG base F) S h4 P.acs b:=d.rs (i:=1) rfl
  obtain ⟨C,csA,ad,hA,hcl,rfl,cells,hCS,hSb,hCb,mod⟩:=row.mod (AcG.kp _ _) (by decide) hi (d.rlt (i:=1) rfl)
  have hA0:=hA
  obtain ⟨ra,rb,rc,S1,S2,S3,rfl,q1,q2,q3,qg,t1,t2,t3,d12,d13,d23⟩:=hA
  refine W.bs rfl (W.gt (ne_A (n:=h3.length) (by have:=hS3 _ hSb; omega)) (W.bS (cells 3 _ rfl) ?_))
  have hbl:=hbx _ (List.getElem_mem hi)
  obtain ⟨vs,T2,er,ev,_,hT2,_,ch2⟩:=RowO.raws (w:=4) (fun S h x cs y=>by obtain ⟨_,_,_,_,_,rfl⟩:=TmG.form y; rfl) (by decide) q2
  obtain ⟨a5,h5,S5,e5,d,hS5,k5,l5⟩:=Hs.appD (n:=0) (m:=P.acs[(atL pid 0 P.acs).toNat].box.length) (bytes:=56) d (by rfl) (by decide) er (by omega) (by omega) ev
  simp only [Nat.zero_add,List.nil_append] at e5 d
  refine W.bs e5 ?_
  ((try simp only [n1,n2,n3,n4,n5,n6] at d); (with_reducible repeat first|refine W.a1 d ?_|refine W.a2 ?_|refine W.a6 d ?_|refine W.a7 ?_))
  obtain ⟨cs6,h6,e6,t6,k6⟩:=l1CopyG_run (base:=base) f _ p _ _ (d.rs (i:=0) rfl) hB d.ge (d.rlt (i:=0) rfl)
  obtain ⟨x1,x2,x3,x4,x5,rfl⟩:=t6.form
  have d:=d.callP (TmG.kp _ _) k6 t6
  refine W.bs e6 ?_
  ((try simp only [n1,n2,n3,n4,n5,n6] at d); (with_reducible repeat first|refine W.a2 ?_|refine W.a6 d ?_|refine W.a7 ?_); (refine W.nD d fun h7 d _ kh7=>?_))
  obtain ⟨a8,h8,e8,d,q8,k8,n8⟩:=d.app1O (w:=4) (i:=2) (n:=P.acs[(atL pid 0 P.acs).toNat].box.length) (bytes:=56) rfl hS5 (.head _) rfl (by decide) ev rfl (by omega) (by omega)
  refine W.bs e8 ?_
  ((try simp only [n1,n2,n3,n4,n5,n6] at d); (with_reducible repeat first|refine W.a2 ?_|refine W.bo ?_|refine W.a6 d ?_|refine W.a8 ?_))
  have n4 : h3.length < h4.length:=by omega
  have n6:=k6.1
  have n5:=k5.1
  have k48 : KB (fun b=>h3.length≤b) h4 h8:=KB.trans (KB.trans (KB.trans k5 k6 (T:=fun b=>h3.length≤b) (fun i _ hi=>by omega) (fun _ _ h=>h.elim)) kh7 (fun _ _ h=>h) (fun _ _ h=>h.elim)) k8 (fun _ _ h=>h) (fun i hi hs=>by have:=l5 i hs; omega)
  have old : ∀ b,S b→¬ h3.length≤b:=fun b hb=>by have:=hS3 b hb; omega
  have o8 : Own base 42 h8 a8 _:=d.rs (i:=2) rfl
  have t8 : TmG base f (iS h5.length h6.length) h8 t _:=d.rs (i:=3) rfl
  have n5h : h4.length≤h5.length:=n5
  have ch8 : Chunks 4 (TmG base F) (fun b=>T2 b∨iS h5.length h6.length b) h8 (P.acs[(atL pid 0 P.acs).toNat].box++[t]) (vs++termV x1 x2 x3 x4 x5):=
   (ch2.keep (TmG.kp _ _) k48 fun b hb=>old b (hCS b (t2 b (hT2 b hb)))).snoc (t8.le hf) (fun b hb hb'=>by have:=hS3 b (hCS b (t2 b (hT2 b hb'))); omega) (fun b hb=>.inl hb) (fun b hb=>.inr hb) (fun q hq=>chunk_app_other (by have:=mul_le' (w:=4) hq; omega)) (chunk_app_self rfl ev)
  have hlt8 : ∀ b,blk a8 b→h7.length≤b:=fun b hb=>by have:=q8 b hb; omega
  have row8 : RowO base 42 4 (TmG base F) (fun b=>S2 b∨blk a8 b∨iS h5.length h6.length b) h8 (P.acs[(atL pid 0 P.acs).toNat].box++[t]) a8:=
   ⟨_,_,o8,by simp [ev]; omega,fun b hb=>⟨.inr (.inl hb),fun hh=>by
    have:=hlt8 b hb
    rcases hh with hh|hh
    ·have:=hS3 b (hCS b (t2 b (hT2 b hh))); omega
    ·omega⟩,fun b hb=>hb.elim (fun h=>.inl (hT2 b h)) (fun h=>.inr (.inr h)),ch8⟩
  have hP : ∀ h2,KB (· = ad.block) h8 h2→AcG base F (fun b=>C b∨blk a8 b∨iS h5.length h6.length b) h2 { P.acs[(atL pid 0 P.acs).toNat] with box:=P.acs[(atL pid 0 P.acs).toNat].box++[t] } (setAt (acV P.acs[(atL pid 0 P.acs).toNat].pid P.acs[(atL pid 0 P.acs).toNat].pc ra P.acs[(atL pid 0 P.acs).toNat].regs.length rb P.acs[(atL pid 0 P.acs).toNat].box.length rc P.acs[(atL pid 0 P.acs).toNat].links.length) 3 [vL a8 (P.acs[(atL pid 0 P.acs).toNat].box.length + 1)]):=by
   intro h2 k2
   have kk : KB (fun b=>h3.length≤b∨b = ad.block) h4 h2:=KB.trans k48 k2 (fun _ _ h=>.inl h) (fun _ _ h=>.inr h)
   have oldC : ∀ b,C b→¬ (h3.length≤b∨b = ad.block):=fun b hb hh=>by
    rcases hh with hh|hh
    ·exact old b (hCS b hb) hh
    ·exact hCb (hh ▸ hb)
   refine ⟨ra,a8,rc,S1,fun b=>S2 b∨blk a8 b∨iS h5.length h6.length b,S3,by simp [setAt],q1.keep (TmG.kp _ _) kk fun b hb=>oldC b (t1 b hb),row8.keep (TmG.kp _ _) k2 fun b hb hk=>?_,q3.keep kk fun b hb=>oldC b (t3 b (qg b hb)),qg,fun b hb=>.inl (t1 b hb),fun b hb=>hb.elim (fun h=>.inl (t2 b h)) .inr,fun b hb=>.inl (t3 b hb),fun b h1 h2=>?_,d13,fun b h1 h2=>?_⟩
   ·have h3b:=hS3 _ hSb
    rcases hb with hb|hb|hb
    ·exact hCb (hk ▸ t2 b hb)
    ·have:=hlt8 b hb; omega
    ·omega
   ·have h3b:=hS3 _ (hCS _ (t1 b h1))
    rcases h2 with h2|h2|h2
    ·exact d12 b h1 h2
    ·have:=hlt8 b h2; omega
    ·omega
   ·have h3b:=hS3 _ (hCS _ (t3 b h2))
    rcases h1 with h1|h1|h1
    ·exact d23 b h1 h2
    ·have:=hlt8 b h1; omega
    ·omega
  obtain ⟨h9,e9,r9,k9,l9⟩:=mod (fun b=>h3.length≤b) (fun b=>C b∨blk a8 b∨iS h5.length h6.length b) h8 _ [vL a8 (P.acs[(atL pid 0 P.acs).toNat].box.length + 1)] 3 { P.acs[(atL pid 0 P.acs).toNat] with box:=P.acs[(atL pid 0 P.acs).toNat].box++[t] } k48 (fun b hb hs=>absurd hb (old b hs)) (by simp) (by simp) rfl hP (fun b hb hs=>by
   rcases hb with hb|hb|hb
   ·exact hb
   ·have:=hlt8 b hb; have:=hS3 b hs; omega
   ·have:=hS3 b hs; omega)
  refine W.bs e9 (W.ret ⟨?_,?_⟩)
  ·have : toldB pid P.acs = false:=by simpa using c
   rw [this]; rfl
  ·have d:=d.join (r':=⟨fun b=>blk a8 b∨iS h5.length h6.length b,true,fun _=>True⟩) (Upd.at (i:=3) rfl) (Upd.at (i:=2) rfl) rfl rfl rfl (KB.refl NoB _) (fun _ h=>h.elim) trivial (fun _ _ _ _ _ h=>h) (fun b hb=>hb.elim .inl fun h=>.inr (.inl h))
   have d:=d.joinO (AcG.kp _ _) (Upd.at (i:=2) rfl) (Upd.at (i:=1) rfl) rfl rfl k9 r9 (fun b hb=>.inl (by rw [hb]; exact hSb)) (fun b hb=>by
    rcases hb with hb|hb|hb
    ·exact .inl hb
    ·exact .inl (hCS b hb)
    ·exact .inr (.inl hb))
   unfold toldL
   rw [if_neg c,aD hi]
   exact ⟨_,(d.tl.tl).takeR 2⟩
def okA (k n : Int) (s : ByteArray) (m : Nat) : Bool:=isA k n s m (⟨#[111,107]⟩ : ByteArray)
def addB (t : Tm) (A : Ac) : Ac:=⟨A.pid,A.pc,A.regs,A.box++[t],A.links⟩
theorem AcG.addBox {base F : Nat} {C : Fp} {h : AH} {A : Ac} {cs : List Value} (x : AcG base F C h A cs) : ∃ b vs,cs[3]? = some (.slice b A.box.length A.box.length)∧rawAt h b (A.box.length * 4) = some vs∧vs.length = A.box.length * 4∧Own base 42 h b vs∧(∀ i,blk b i→C i) ∧
  ∀ (U S' : Fp) (h2 : AH) (a' : Option Addr) (t : Tm) (ct : List Value),KB U h h2→(∀ i,U i→C i→blk b i)→Own base 42 h2 a' (vs++ct)→TmG base F S' h2 t ct→ct.length = 4→(∀ i,blk a' i→¬ C i∧¬ S' i)→(∀ i,S' i→¬ C i)→AcG base F (fun i=>C i∨blk a' i∨S' i) h2 (addB t A) (setAt cs 3 [.slice a' (A.box.length + 1) (A.box.length + 1)]):=by
 obtain ⟨ra,rb,rc,S1,S2,S3,rfl,q1,q2,q3,qg,t1,t2,t3,d12,d13,d23⟩:=x
 have q2':=q2
 obtain ⟨vs,T,o,hl,hb,hT,ch⟩:=q2'
 have hvl:=ch.leaf (fun S h x cs y=>by obtain ⟨k,n,s,a,m,rfl⟩:=TmG.form y; rfl) (by decide) hl
 refine ⟨rb,vs,rfl,by rw [← hl]; exact o.sl.raw hvl,hl,o,fun i hi=>t2 i (hb i hi).1,?_⟩
 intro U S' h2 a' t ct k hU o2 ht hct ha' hS'
 have kU : ∀ i,C i→¬ blk rb i→¬ U i:=fun i hi hn hu=>hn (hU i hu hi)
 have q1':=q1.keep (TmG.kp _ _) k fun i hi hu=>by
  have hbb:=hU i hu (t1 i hi)
  exact d12 i hi (hb i hbb).1
 have q3' : Own base 3 h2 rc (iv .i64 A.links):=q3.keep k fun i hi hu=>by
  have hbb:=hU i hu (t3 i (qg i hi))
  exact d23 i (hb i hbb).1 (qg i hi)
 have ch2 : Chunks 4 (TmG base F) T h2 A.box vs:=ch.keep (TmG.kp _ _) k fun i hi hu=>(hb i (hU i hu (t2 i (hT i hi)))).2 hi
 have ch3 : Chunks 4 (TmG base F) (fun i=>T i∨S' i) h2 (A.box++[t]) (vs++ct):=by
  refine ch2.snoc ht (fun i hi hti=>hS' i hi (t2 i (hT i hti))) (fun i hi=>.inl hi) (fun i hi=>.inr hi) (fun i hi=>?_) ?_
  ·unfold chunk
   rw [List.drop_append_of_le_length (by omega),List.take_append_of_le_length (by rw [List.length_drop]; omega)]
  ·unfold chunk
   rw [List.drop_append_of_le_length (by omega),List.drop_of_length_le (by omega),List.nil_append]
   exact List.take_of_length_le (by omega)
 refine ⟨ra,a',rc,S1,fun i=>(T i∨S' i)∨blk a' i,S3,?_,q1',⟨vs++ct,fun i=>T i∨S' i,o2,?_,fun i hi=>⟨.inr hi,fun hh=>?_⟩,fun i hi=>.inl hi,ch3⟩,q3',qg,fun i hi=>.inl (t1 i hi),fun i hi=>?_,fun i hi=>.inl (t3 i hi),fun i h1 h2=>?_,fun i h1 h2=>d13 i h1 h2,fun i h1 h2=>?_⟩
 ·simp [addB,acV,setAt]
 ·simp [addB,hl,hct]; omega
 ·rcases hh with hh|hh
  ·exact (ha' i hi).1 (t2 i (hT i hh))
  ·exact (ha' i hi).2 hh
 ·rcases hi with (hi|hi)|hi
  ·exact .inl (t2 i (hT i hi))
  ·exact .inr (.inr hi)
  ·exact .inr (.inl hi)
 ·rcases h2 with (hi|hi)|hi
  ·exact d12 i h1 (hT i hi)
  ·exact hS' i hi (t1 i h1)
  ·exact (ha' i hi).1 (t1 i h1)
 ·rcases h1 with (hi|hi)|hi
  ·exact d23 i (hT i hi) h2
  ·exact hS' i hi (t3 i h2)
  ·exact (ha' i hi).1 (t3 i h2)
theorem W.toss {β : Type} {Q : β→Prop} {x y : Option β} (w : Wp y fun v=>Q v∧x = some v) : Wp (gate (x = y) x) Q:=by
 obtain ⟨v,e,q,ex⟩:=w
 exact W.gt (by rw [e,ex]) ⟨v,ex,q⟩
theorem Hs.kill {base b t : Nat} {V : Fp} {h0 h : AH} {D : Ds} {R : List Rs} {cs : List Value} (d : Hs base V h0 h ((b,t,cs) :: D) R) : Hs base V h0 (h.set b none) D R:=by
 have k : KB (· = b) h (h.set b none):=⟨by simp,fun i hi hn=>by simp [hget,List.getElem?_set,show ¬ b = i from fun e=>hn e.symm]⟩
 have hb:=d.own _ (.head _)
 have nd:=d.nd
 rw [List.map_cons,List.nodup_cons] at nd
 refine ⟨by rw [List.length_set]; exact d.ge,?_,fun x hx=>?_,nd.2,fun r hr=>?_,d.dj⟩
 ·refine ⟨by rw [List.length_set]; exact d.kb.1,fun i hi hn=>?_⟩
  have hne : i≠b:=fun e=>by
   subst e
   rcases hb.2 with hW|hl
   ·exact hn hW
   ·exact absurd hi (Nat.not_lt.2 hl)
  rw [k.2 i (Nat.lt_of_lt_of_le hi d.kb.1) hne]
  exact d.kb.2 i hi hn
 ·obtain ⟨x1,x2⟩:=d.own x (.tail _ hx)
  refine ⟨x1.keep k fun i hi e=>?_,x2⟩
  rw [blk_at0] at hi
  exact nd.1 (List.mem_map.2 ⟨x,hx,hi.symm.trans e⟩)
 ·obtain ⟨q1,q2,q3,q4,q5⟩:=d.res r hr
  exact ⟨q2 (· = b) h _ k (fun i hi e=>q5 _ (.head _) (e ▸ hi)) q1,q2,fun i hi=>by rw [List.length_set]; exact q3 i hi,q4,fun x hx=>q5 x (.tail _ hx)⟩
theorem app_swap {base t bytes n : Nat} {h6 h1 : AH} {a : Option Addr} {c1 c2 : List Value} {v : Value} (ha : ∀ ad,a = some ad→ad.block < h6.length) (e : Am.app base (h6++[some ⟨c1,t⟩]) t 4 bytes a n (some c1) 1 = some (v,h1)) :
  ∃ L olds,h1 = L++[some ⟨c1,t⟩,some ⟨olds++c1,t⟩]∧L.length = h6.length∧v = .slice (some ⟨h6.length + 1,0,none⟩) (n + 1) (n + 1)∧olds.length = n * 4∧Am.app base (h6++[some ⟨c2,t⟩]) t 4 bytes a n (some c2) 1 = some (v,L++[some ⟨c2,t⟩,some ⟨olds++c2,t⟩]):=by
 unfold Am.app at e ⊢
 rw [if_neg (by decide),Option.bind_some] at e
 rw [if_neg (by decide),Option.bind_some]
 unfold grow at e ⊢
 split at e
 ·rename_i c
  rw [if_pos c]
  cases a with
  | none=>
   simp only at e ⊢
   split at e
   ·rename_i hn
    subst hn
    injection e with e
    injection e with e1 e2
    refine ⟨h6,[],by rw [← e2]; simp,rfl,by rw [← e1]; simp,rfl,?_⟩
    rw [if_pos rfl,← e1]
    simp
   ·cases e
  | some ad=>
   have hlt:=ha ad rfl
   simp only at e ⊢
   have g1 : ∀ c : List Value,hget (h6++[some ⟨c,t⟩]) ad.block = hget h6 ad.block:=fun c=>by simp [hget,List.getElem?_append_left hlt]
   have g2 : ∀ c : List Value,(h6++[some (⟨c,t⟩ : Blk)]).set ad.block none = h6.set ad.block none++[some ⟨c,t⟩]:=fun c=>by rw [List.set_append_left _ _ hlt]
   rw [g1,g2] at e
   rw [g1,g2]
   cases hk : hget h6 ad.block with
   | none=>rw [hk] at e; cases e
   | some k=>
    rw [hk,Option.bind_some] at e
    rw [Option.bind_some]
    split at e
    ·rename_i c2'
     rw [if_pos c2']
     injection e with e
     injection e with e1 e2
     refine ⟨h6.set ad.block none,(k.cs.drop ad.off).take (n * 4),by rw [← e2]; simp,by simp,by rw [← e1]; simp,?_,?_⟩
     ·rw [List.length_take,List.length_drop]
      have:=c2'.2.2
      omega
     ·rw [← e1]
      simp
    ·cases e
 ·cases e
theorem wr_swap {base b o : Nat} {vs : List Value} {L h : AH} {x y x' y' : Option Blk} (e : wr base (L++[x,y]) b o vs = some h) (hb : b < L.length) : ∃ L',h = L'++[x,y]∧L'.length = L.length∧wr base (L++[x',y']) b o vs = some (L'++[x',y']):=by
 unfold wr at e ⊢
 split at e
 ·rename_i c
  rw [if_pos c]
  have g : ∀ l : List (Option Blk),hget (L++l) b = hget L b:=fun l=>by simp [hget,List.getElem?_append_left hb]
  rw [g] at e
  rw [g]
  cases hk : hget L b with
  | none=>rw [hk] at e; cases e
  | some k=>
   rw [hk,Option.bind_some] at e
   rw [Option.bind_some]
   split at e
   ·rename_i c2
    rw [if_pos c2]
    injection e with e
    refine ⟨L.set b (some ⟨setAt k.cs o vs,k.ty⟩),?_,by simp,?_⟩
    ·rw [← e,List.set_append_left _ _ hb]
    ·rw [List.set_append_left _ _ hb]
   ·cases e
 ·cases e
end Go.Proofs.Ytkdenmdijdmnjaa.Am
