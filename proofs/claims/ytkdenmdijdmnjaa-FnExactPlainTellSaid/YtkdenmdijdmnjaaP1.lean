/- What the functions of this law compute, lemma by lemma, up to the law.
Conditions: none. -/
import Derived.Test.YtkdenmdijdmnjaaMd
import Derived.Test.YtkdenmdijdmnjaaEq1
import Derived.Test.YtkdenmdijdmnjaaEq2
import Derived.Test.YtkdenmdijdmnjaaEq3
import Derived.IntWalk
import Derived.Laws.BitsLemmas
set_option linter.unusedSimpArgs false
set_option linter.unusedVariables false
namespace Go.Proofs.Ytkdenmdijdmnjaa.Am
open Go Go.RowKit

theorem w64i {n : Int} (h0 : -9223372036854775808≤n) (h1 : n≤9223372036854775807) : IntKind.i64.wrap n = n:=IntWalk.i64_in n ⟨h0,h1⟩
theorem lets {α β : Type} {x : α} {f : α→Option β} {r : Option β} (h : ∀ y,y = x→f y = r) : (some x).bind f = r:=h x rfl
abbrev at0 (b : Nat) : Option Addr:=some ⟨b,0,none⟩
theorem blk_at0 {b x : Nat} : blk (at0 b) x↔x = b:=⟨fun ⟨ad,e,h⟩=>by injection e with e; subst e; exact h.symm,fun e=>⟨_,rfl,e.symm⟩⟩
theorem box_own {base t : Nat} {h h1 : AH} {cs : List Value} (hb : base≤h.length) (e : h1 = h++[some ⟨cs,t⟩]) : Own base t h1 (at0 h.length) cs∧KB NoB h h1∧h1.length = h.length + 1:=by
 subst e
 exact ⟨Own.new base t h cs hb,KB.push _ _ _,by simp⟩
theorem Own.at0 {base t : Nat} {h : AH} {b : Nat} {vs : List Value} (x : Own base t h (at0 b) vs) {i : Nat} {v : Value} (hi : vs[i]? = some v) : Am.cell h b i = some v:=by
 obtain ⟨ad,e,hc⟩:=x.sl.cell hi
 injection e with e
 subst e
 simpa using hc
theorem Own.wr0 {base t : Nat} {h : AH} {b : Nat} {vs : List Value} (x : Own base t h (Am.at0 b) vs) {i : Nat} {new : List Value} (hi : i + new.length≤vs.length) (h0 : 0 < new.length) :
  ∃ h',Am.wr base h b i new = some h'∧Own base t h' (Am.at0 b) (setAt vs i new)∧KB (· = b) h h'∧h'.length = h.length:=by
 obtain ⟨ad,h',e,h1,h2,h3,h4⟩:=x.wr hi h0
 injection e with e
 subst e
 refine ⟨h',by simpa using h1,h2,h3.mono fun i _ hb=>blk_at0.1 hb,h4⟩
theorem Own.keepN {base t : Nat} {h h' : AH} {a : Option Addr} {vs : List Value} (x : Own base t h a vs) (k : KB NoB h h') : Own base t h' a vs:=x.keep k fun _ _ h=>h.elim
theorem Sl.keepN {h h' : AH} {a : Option Addr} {vs : List Value} (x : Sl h a vs) (k : KB NoB h h') : Sl h' a vs:=x.keep k fun _ _ h=>h.elim
theorem Own.keepB {base t b : Nat} {h h' : AH} {a : Option Addr} {vs : List Value} (x : Own base t h a vs) (k : KB (· = b) h h') (hb : ∀ i,blk a i→i≠b) : Own base t h' a vs:=x.keep k fun i h1 h2=>hb i h1 h2
theorem Sl.keepB {b : Nat} {h0 h h' : AH} {a : Option Addr} {vs : List Value} (x : Sl h a vs) (k : KB (· = b) h h') (hb : vs = []∨∀ i,blk a i→i≠b) : Sl h' a vs:=by
 rcases hb with e|hb
 ·exact .inl e
 ·exact x.keep k fun i h1 h2=>hb i h1 h2
theorem sl_below {h : AH} {a : Option Addr} {vs : List Value} (x : Sl h a vs) : vs = []∨∀ i,blk a i→i < h.length:=by
 by_cases e : vs = []
 ·exact .inl e
 ·exact .inr fun i hi=>by
   rcases x with h|⟨ad,k,h1,h2,_⟩
   ·exact absurd h e
   ·obtain ⟨ad',e1,e2⟩:=hi
    rw [h1] at e1
    injection e1 with e1
    subst e1; subst e2
    exact hget_lt h2
theorem gate_pos {R : Type} {p : Prop} {x : Option R} (h : p) : gate p x = x:=by unfold gate; rw [if_pos h]
theorem bs {α β : Type} {x : Option α} {v : α} (h : x = some v) {f : α→Option β} {r : Option β} (hf : f v = r) : x.bind f = r:=by rw [h]; exact hf
theorem ifF {β : Type} {c : Prop} [Decidable c] {a b r : Option β} (h : ¬ c) (hb : b = r) : (if c then a else b) = r:=by rw [if_neg h]; exact hb
theorem ifT {β : Type} {c : Prop} [Decidable c] {a b r : Option β} (h : c) (ha : a = r) : (if c then a else b) = r:=by rw [if_pos h]; exact ha
theorem jn {T β : Type} {q : T} {k : T→Option β} {r : Option β} (h : k q = r) : joinK (Sum.inl q : Sum T β) k = r:=h
theorem bI {β : Type} {k : IntKind} {n : Int} {x : Option Value} (h : x = some (.int k n)) {f : Int→Option β} {r : Option β} (hf : f n = r) : (x.bind (getI k)).bind f = r:=by subst h; simpa [getI] using hf
theorem bS {β : Type} {a : Option Addr} {n c : Nat} {x : Option Value} (h : x = some (.slice a n c)) {f : Option Addr × Nat→Option β} {r : Option β} (hf : f (a,n) = r) : (x.bind getS).bind f = r:=by subst h; exact hf
theorem bT {β : Type} {s : ByteArray} {x : Option Value} (h : x = some (.string s)) {f : ByteArray→Option β} {r : Option β} (hf : f s = r) : (x.bind getStr).bind f = r:=by subst h; exact hf
theorem bB {β : Type} {b : Bool} {x : Option Value} (h : x = some (.bool b)) {f : Bool→Option β} {r : Option β} (hf : f b = r) : (x.bind getB).bind f = r:=by subst h; exact hf
theorem nw {base t : Nat} {h : AH} {zs cs : List Value} {β : Type} {f : AH→Option β} {z : Option β} (hb : base≤h.length) (hl : cs.length = zs.length) (hf : ∀ y,y = h++[some ⟨cs,t⟩]→f y = z) :
  ((some (h++[some ⟨zs,t⟩])).bind fun x=>(Am.wr base x h.length 0 cs).bind f) = z:=by
 have : Am.wr base (h++[some ⟨zs,t⟩]) h.length 0 cs = some (h++[some ⟨cs,t⟩]):=by
  unfold Am.wr
  rw [if_pos hb,hget_append_new]
  simp only [Option.bind_some]
  rw [if_pos (by simp; omega)]
  have e : setAt zs 0 cs = cs:=by unfold setAt; simp [hl]
  rw [e]
  congr 1
  simp [List.set_append]
 simp only [Option.bind_some]
 rw [this]
 exact hf _ rfl
theorem bj {T β : Type} {x : Option (Sum T β)} {k : T→Option β} {r : Option β} (q : T) (h : x = some (.inl q)) (hf : k q = r) : (x.bind fun j=>joinK j k) = r:=by rw [h]; exact hf
theorem loop_on {b : Body} {s s' : Slots} {h h' : AH} {r : Option (Nat × Slots × AH)} (hb : b s h = some (0,s',h')) (hr : loopL b s' h' = r) : loopL b s h = r:=by
 rw [loopL_eq,hb]
 exact hr
theorem loop_off {b : Body} {s s' : Slots} {h h' : AH} {e : Nat} (he : e≠0) (hb : b s h = some (e,s',h')) : loopL b s h = some (e,s',h'):=by
 rw [loopL_eq,hb]
 simp only [Option.bind_some]
 rw [if_neg he]
theorem raw_new {h : AH} {cs : List Value} {t : Nat} (hl : cs.all leaf = true) (hn : cs≠[]) : rawAt (h++[some ⟨cs,t⟩]) (some ⟨h.length,0,none⟩) cs.length = some cs:=by
 have hp : cs.length≠0:=fun e=>hn (List.eq_nil_of_length_eq_zero e)
 unfold rawAt
 rw [if_neg hp]
 simp only [Option.bind_some,hget_append_new]
 rw [if_pos ⟨by simp,by simpa using hl⟩]
 simp
theorem kN {a b c : AH} (x : KB NoB a b) (y : KB NoB b c) : KB NoB a c:=KB.trans x y (fun _ _ h=>h) (fun _ _ h=>h)
theorem kNB {S : Nat→Prop} {a b c : AH} (x : KB NoB a b) (y : KB S b c) : KB S a c:=KB.trans x y (fun _ _ h=>h.elim) (fun _ _ h=>h)
theorem kFresh {S : Nat→Prop} {a b c : AH} (x : KB NoB a b) (y : KB S b c) (hS : ∀ i,S i→a.length≤i) : KB NoB a c:=KB.trans x y (fun _ _ h=>h) (fun i hi hs=>by have:=hS i hs; omega)
theorem app1 {base t bytes : Nat} {h : AH} {a : Option Addr} {olds cs : List Value} {n sz : Nat} (x : Own base t h a olds) (hn : olds.length = n * sz) (hc : cs.length = sz) (hsz : 0 < sz) (hlf : cs.all leaf = true) (hb : base≤h.length) (h1 : (n + 1) * bytes≤140737488355328) (h2 : n + 1≤9223372036854775807) :
  ∃ a' h',Am.app base (h++[some ⟨cs,t⟩]) t sz bytes a n (rawAt (h++[some ⟨cs,t⟩]) (some ⟨h.length,0,none⟩) (1 * sz)) 1 = some (.slice a' (n + 1) (n + 1),h')∧Own base t h' a' (olds++cs)∧KB (blk a) h h'∧(∀ b,blk a' b→b = h.length + 1)∧h.length + 1≤h'.length:=by
 have hr : rawAt (h++[some ⟨cs,t⟩]) (some ⟨h.length,0,none⟩) (1 * sz) = some cs:=by
  rw [Nat.one_mul,← hc]
  exact raw_new hlf (by intro e; rw [e] at hc; simp at hc; omega)
 obtain ⟨a',h',e,o,k,d⟩:=Own.app (x.keepN (KB.push NoB h (some ⟨cs,t⟩))) (n:=n) (m:=1) (sz:=sz) (bytes:=bytes) hn hsz hr (by simp; omega) h1 h2 (by omega)
 refine ⟨a',h',e,o,kNB (KB.push NoB _ _) k,?_,by have:=k.1; simp at this; omega⟩
 rcases d with ⟨h0,_⟩|d
 ·exact absurd h0 (by decide)
 ·intro b hb'
  have:=d b hb'
  simpa using this
theorem cell_keep {h h' : AH} (kk : KB NoB h h') {b i : Nat} {v : Value} (g : Am.cell h b i = some v) : Am.cell h' b i = some v:=by
 have hbl : b < h.length:=by
  have:=g
  unfold Am.cell at this
  cases hg : hget h b with
  | none=>rw [hg] at this; cases this
  | some b=>exact hget_lt hg
 rw [← g]
 unfold Am.cell
 rw [kk.2 b hbl (fun h=>h)]
theorem same_keep {h h' : AH} (kk : KB NoB h h') {b i n : Nat} {v : Value} (g : Am.cell h b i = some v) : sameA h h' (some ⟨b,i,none⟩) n:=by
 intro x hx
 injection hx with hx
 subst hx
 have hbl : b < h.length:=by
  have:=g
  unfold Am.cell at this
  cases hg : hget h b with
  | none=>rw [hg] at this; cases this
  | some b=>exact hget_lt hg
 have e:=kk.2 b hbl (fun h=>h)
 exact ⟨fun j _=>by unfold Am.cell; rw [e],by rw [e]⟩
theorem sl_lt {h : AH} {a : Option Addr} {vs : List Value} (x : Sl h a vs) (hne : vs≠[]) {b : Nat} (hb : blk a b) : b < h.length:=by
 rcases x with e|⟨ad,k,h1,h2,_⟩
 ·exact absurd e hne
 ·obtain ⟨ad',e1,e2⟩:=hb
  rw [h1] at e1
  injection e1 with e1
  subst e1; subst e2
  exact hget_lt h2
section
def Wp {β : Type} (o : Option β) (Q : β→Prop) : Prop:=∃ r,o = some r∧Q r
namespace W
variable {α β γ : Type} {Q : β→Prop}
theorem of {F R : Option β} (h : ∀ r,F = some r→R = some r) (w : Wp F Q) : Wp R Q:=by
 obtain ⟨r,e,q⟩:=w
 exact ⟨r,h r e,q⟩
theorem ret {v : β} (q : Q v) : Wp (some v) Q:=⟨v,rfl,q⟩
theorem bs {x : Option α} {v : α} (h : x = some v) {f : α→Option β} (w : Wp (f v) Q) : Wp (x.bind f) Q:=by rw [h]; exact w
theorem wb {x : Option α} {P : α→Prop} (h : Wp x P) {f : α→Option β} (w : ∀ v,P v→Wp (f v) Q) : Wp (x.bind f) Q:=by
 obtain ⟨v,e,p⟩:=h
 rw [e]
 exact w v p
theorem bI {k : IntKind} {n : Int} {x : Option Value} (h : x = some (.int k n)) {f : Int→Option β} (w : Wp (f n) Q) : Wp ((x.bind (getI k)).bind f) Q:=by subst h; simpa [getI] using w
theorem bS {a : Option Addr} {n c : Nat} {x : Option Value} (h : x = some (.slice a n c)) {f : Option Addr × Nat→Option β} (w : Wp (f (a,n)) Q) : Wp ((x.bind getS).bind f) Q:=by subst h; exact w
theorem bT {s : ByteArray} {x : Option Value} (h : x = some (.string s)) {f : ByteArray→Option β} (w : Wp (f s) Q) : Wp ((x.bind getStr).bind f) Q:=by subst h; exact w
theorem ifT {c : Prop} [Decidable c] {a b : Option β} (h : c) (w : Wp a Q) : Wp (if c then a else b) Q:=by rw [if_pos h]; exact w
theorem ifF {c : Prop} [Decidable c] {a b : Option β} (h : ¬ c) (w : Wp b Q) : Wp (if c then a else b) Q:=by rw [if_neg h]; exact w
theorem ite {c : Prop} [Decidable c] {a b : Option β} (h1 : c→Wp a Q) (h2 : ¬ c→Wp b Q) : Wp (if c then a else b) Q:=by
 by_cases h : c
 ·rw [if_pos h]; exact h1 h
 ·rw [if_neg h]; exact h2 h
theorem gt {p : Prop} {x : Option β} (h : p) (w : Wp x Q) : Wp (gate p x) Q:=by rw [gate_pos h]; exact w
theorem joinP (P : γ→Prop) {x : Option (Sum γ β)} {k : γ→Option β} (w : Wp x (Sum.elim P Q)) (h : ∀ q,P q→Wp (k q) Q) : Wp (x.bind fun j=>joinK j k) Q:=by
 obtain ⟨r,e,q⟩:=w
 rw [e]
 cases r with
 | inl r=>exact h r q
 | inr r=>exact ⟨r,rfl,q⟩
theorem inl {P : γ→Prop} {v : γ} (q : P v) : Wp (some (Sum.inl v : Sum γ β)) (Sum.elim P Q):=⟨_,rfl,q⟩
theorem box {base t : Nat} {h : AH} {cs : List Value} {f : AH→Option β} (hb : base≤h.length) (w : ∀ h1,Own base t h1 (at0 h.length) cs→KB NoB h h1→h1.length = h.length + 1→Wp (f h1) Q) : Wp ((some (h++[some ⟨cs,t⟩])).bind f) Q:=by
 obtain ⟨o1,k1,q1⟩:=box_own (base:=base) (t:=t) (h:=h) (cs:=cs) hb rfl
 exact w _ o1 k1 q1
theorem wr0 {base t b i : Nat} {h : AH} {vs new : List Value} {f : AH→Option β} (o : Own base t h (at0 b) vs) (hi : i + new.length≤vs.length) (h0 : 0 < new.length) (w : ∀ h1,Own base t h1 (at0 b) (setAt vs i new)→KB (· = b) h h1→h1.length = h.length→Wp (f h1) Q) : Wp ((Am.wr base h b i new).bind f) Q:=by
 obtain ⟨h1,e,o1,k1,l1⟩:=o.wr0 hi h0
 rw [e]
 exact w h1 o1 k1 l1
end W
end
inductive Tm where
 | mk (k n : Int) (s : ByteArray) (l : List Tm)
def TmR (h : AH) (p : Nat→Prop) : Nat→Tm→List Value→Prop
 | 0,_,_=>False
 | f + 1,.mk k n s l,cs=>s.size≤maxLen∧l.length≤maxLen∧∃ a vs,cs = [.int .i64 k,.int .i64 n,.string s,.slice a l.length l.length]∧Sl h a vs∧(vs = []∨∀ b,blk a b→p b)∧vs.length = l.length * 4 ∧
   ∀ i t,l[i]? = some t→TmR h p f t ((vs.drop (i * 4)).take 4)
def TsR (h : AH) (p : Nat→Prop) (f : Nat) (l : List Tm) (a : Option Addr) : Prop:=
 ∃ vs,Sl h a vs∧(vs = []∨∀ b,blk a b→p b)∧vs.length = l.length * 4∧∀ i t,l[i]? = some t→TmR h p f t ((vs.drop (i * 4)).take 4)
theorem TmR.keep {h h' : AH} {p S : Nat→Prop} (k : KB S h h') (hp : ∀ b,p b→¬ S b) : ∀ (f : Nat) (t : Tm) (cs : List Value),TmR h p f t cs→TmR h' p f t cs
 | 0,_,_,x=>x
 | f + 1,.mk kk n s l,cs,x=>by
  obtain ⟨h1,h2,a,vs,h3,h4,h5,h6,h7⟩:=x
  refine ⟨h1,h2,a,vs,h3,?_,h5,h6,fun i t hi=>TmR.keep k hp f t _ (h7 i t hi)⟩
  rcases h5 with e|h5
  ·exact .inl e
  ·exact h4.keep k fun b hb hs=>hp b (h5 b hb) hs
theorem TsR.keep {h h' : AH} {p S : Nat→Prop} (k : KB S h h') (hp : ∀ b,p b→¬ S b) {f : Nat} {l : List Tm} {a : Option Addr} (x : TsR h p f l a) : TsR h' p f l a:=by
 obtain ⟨vs,h4,h5,h6,h7⟩:=x
 refine ⟨vs,?_,h5,h6,fun i t hi=>TmR.keep k hp f t _ (h7 i t hi)⟩
 rcases h5 with e|h5
 ·exact .inl e
 ·exact h4.keep k fun b hb hs=>hp b (h5 b hb) hs
theorem TmR.mono {h : AH} {p q : Nat→Prop} (hpq : ∀ b,p b→q b) : ∀ (f : Nat) (t : Tm) (cs : List Value),TmR h p f t cs→TmR h q f t cs
 | 0,_,_,x=>x
 | f + 1,.mk kk n s l,cs,x=>by
  obtain ⟨h1,h2,a,vs,h3,h4,h5,h6,h7⟩:=x
  exact ⟨h1,h2,a,vs,h3,h4,h5.imp id fun h b hb=>hpq b (h b hb),h6,fun i t hi=>TmR.mono hpq f t _ (h7 i t hi)⟩
theorem TmR.parts {h : AH} {p : Nat→Prop} {f : Nat} {k n : Int} {s : ByteArray} {l : List Tm} {cs : List Value} (x : TmR h p (f + 1) (.mk k n s l) cs) :
  ∃ a,cs = [.int .i64 k,.int .i64 n,.string s,.slice a l.length l.length]∧TsR h p f l a∧s.size≤maxLen∧l.length≤maxLen:=by
 obtain ⟨h1,h2,a,vs,h3,h4,h5,h6,h7⟩:=x
 exact ⟨a,h3,⟨vs,h4,h5,h6,h7⟩,h1,h2⟩
theorem TmR.of {h : AH} {p : Nat→Prop} {f : Nat} {k n : Int} {s : ByteArray} {l : List Tm} {a : Option Addr} (x : TsR h p f l a) (h1 : s.size≤maxLen) (h2 : l.length≤maxLen) :
  TmR h p (f + 1) (.mk k n s l) [.int .i64 k,.int .i64 n,.string s,.slice a l.length l.length]:=by
 obtain ⟨vs,h4,h5,h6,h7⟩:=x
 exact ⟨h1,h2,a,vs,rfl,h4,h5,h6,h7⟩
theorem TsR.get {h : AH} {p : Nat→Prop} {f : Nat} {l : List Tm} {a : Option Addr} (x : TsR h p f l a) {i : Nat} (hi : i < l.length) :
  ∃ ad c0 c1 c2 c3,a = some ad∧Am.cell h ad.block (ad.off + i * 4) = some c0∧Am.cell h ad.block (ad.off + i * 4 + 1) = some c1∧Am.cell h ad.block (ad.off + i * 4 + 1 + 1) = some c2∧Am.cell h ad.block (ad.off + i * 4 + 1 + 1 + 1) = some c3∧TmR h p f l[i] [c0,c1,c2,c3]:=by
 obtain ⟨vs,h4,h5,h6,h7⟩:=x
 have hlt : i * 4 + 3 < vs.length:=by omega
 have hm:=h7 i l[i] (List.getElem?_eq_getElem hi)
 obtain ⟨ad,e0,g0⟩:=h4.cell (i:=i * 4) (List.getElem?_eq_getElem (by omega))
 obtain ⟨ad1,e1,g1⟩:=h4.cell (i:=i * 4 + 1) (List.getElem?_eq_getElem (by omega))
 obtain ⟨ad2,e2,g2⟩:=h4.cell (i:=i * 4 + 2) (List.getElem?_eq_getElem (by omega))
 obtain ⟨ad3,e3,g3⟩:=h4.cell (i:=i * 4 + 3) (List.getElem?_eq_getElem (by omega))
 subst e0
 injection e1 with e1
 injection e2 with e2
 injection e3 with e3
 subst e1; subst e2; subst e3
 have e4 : (vs.drop (i * 4)).take 4 = [vs[i * 4],vs[i * 4 + 1],vs[i * 4 + 2],vs[i * 4 + 3]]:=by
  apply List.ext_getElem?
  intro j
  match j with
  | 0=>rw [List.getElem?_take_of_lt (by decide),List.getElem?_drop]; exact List.getElem?_eq_getElem (by omega)
  | 1=>rw [List.getElem?_take_of_lt (by decide),List.getElem?_drop]; exact List.getElem?_eq_getElem (by omega)
  | 2=>rw [List.getElem?_take_of_lt (by decide),List.getElem?_drop]; exact List.getElem?_eq_getElem (by omega)
  | 3=>rw [List.getElem?_take_of_lt (by decide),List.getElem?_drop]; exact List.getElem?_eq_getElem (by omega)
  | j + 4=>rw [List.getElem?_eq_none (by simp; omega),List.getElem?_eq_none (by simp)]
 rw [e4] at hm
 exact ⟨ad,_,_,_,_,rfl,g0,by rw [Nat.add_assoc]; exact g1,by rw [Nat.add_assoc,Nat.add_assoc]; exact g2,by rw [Nat.add_assoc,Nat.add_assoc,Nat.add_assoc]; exact g3,hm⟩
def sumL {α : Type} (g : α→Nat) : List α→Nat
 | []=>0
 | t :: r=>g t + sumL g r
def tcnt : Nat→Tm→Nat
 | 0,_=>0
 | f + 1,.mk _ _ _ l=>l.length + sumL (tcnt f) l
theorem sumL_drop {α : Type} (g : α→Nat) {l : List α} {i : Nat} (hi : i < l.length) : sumL g (l.drop i) = g l[i] + sumL g (l.drop (i + 1)):=by rw [List.drop_eq_getElem_cons hi]; rfl
def TmB : Nat→Tm→Prop
 | 0,_=>False
 | f + 1,.mk _ _ s l=>s.size≤1048576∧l.length≤1048576∧∀ t∈l,TmB f t
abbrev termV (k n : Int) (s : ByteArray) (a : Option Addr) (m : Nat) : List Value:=[.int .i64 k,.int .i64 n,.string s,.slice a m m]
def SzT (base f : Nat) : Prop:=∀ (h : AH) (p : Nat→Prop) (t : Tm) (cs : List Value) (left : Int),TmR h p f t cs→base≤h.length→(∀ b,p b→b < h.length)→0≤left→left≤1048576 →
 ∃ z h',run (Et base) 12 [.agg cs.toArray,.int .i64 left] h = some (.int .i64 z,h')∧KB NoB h h'∧z≤left∧-1≤z∧(¬ z < 0→TmB f t∧z + (tcnt f t : Int)≤left)
theorem szTermS_loop {base f : Nat} (ih : SzT base f) {p : Nat→Prop} {l : List Tm} {a : Option Addr} (hl : l.length≤1048576) : ∀ (d i : Nat) (h : AH) (left : Int),i + d = l.length→TsR h p f l a→base≤h.length→(∀ b,p b→b < h.length)→0≤left→left≤1048576 →
  ∃ e z h',loopL (B56_0 base) [some (.slice a l.length l.length),some (.int .i64 left),some (.int .i64 (i : Int))] h = some (e,[some (.int .i64 z)],h')∧(e = 1∨e = 2)∧KB NoB h h'∧z≤left∧-1≤z∧(¬ z < 0→(∀ j t,i≤j→l[j]? = some t→TmB f t)∧z + (sumL (tcnt f) (l.drop i) : Int)≤left):=by
 intro d
 induction d with
 | zero=>
  intro i h left hi hs hb hp h0 h1
  refine ⟨2,left,h,?_,.inr rfl,KB.refl _ _,Int.le_refl _,by omega,fun _=>⟨fun j t hj hjt=>?_,by rw [show l.drop i = [] from List.drop_eq_nil_of_le (by omega)]; simp [sumL]⟩⟩
  ·rw [loopL_eq,B56_0_eq]
   have : ¬ ((i : Int) < (l.length : Int)):=by omega
   simp [this]
  ·have:=(List.getElem?_eq_some_iff.1 hjt).1; omega
 | succ d ihd=>
  intro i h left hi hs hb hp h0 h1
  have hlt : i < l.length:=by omega
  obtain ⟨ad,c0,c1,c2,c3,rfl,g0,g1,g2,g3,hm⟩:=hs.get hlt
  obtain ⟨z,h',e1,k1,z1,z2,z3⟩:=ih h p l[i] _ left hm hb hp h0 h1
  cases f with
  | zero=>exact hm.elim
  | succ f=>
   generalize ht : l[i] = tt at hm z3
   obtain ⟨k,n,s,ll⟩:=tt
   obtain ⟨a2,ecs,_,_,_⟩:=hm.parts
   injection ecs with q0 ecs
   injection ecs with q1 ecs
   injection ecs with q2 ecs
   injection ecs with q3 _
   subst q0; subst q1; subst q2; subst q3
   have step : ∀ r,(if (decide (z < (0 : Int))) = true then
     some (1,[some (Value.int .i64 (-1 : Int))],h')
    else
     some (0,[some (.slice (some ad) l.length l.length),some (.int .i64 z),some (.int .i64 (IntKind.wrap .i64 ((i : Int) + (1 : Int))))],h')) = some r →
     B56_0 base [some (.slice (some ad) l.length l.length),some (.int .i64 left),some (.int .i64 (i : Int))] h = some r:=by
    intro r hr
    rw [B56_0_eq]
    refine ifT (decide_eq_true (by omega)) (ifT ⟨by omega,by omega⟩ (bs rfl ?_))
    simp only [Int.toNat_natCast]
    refine bI g0 (bI g1 (bT g2 (bS g3 ?_)))
    exact bs e1 (bs rfl hr)
   by_cases hz : z < 0
   ·refine ⟨1,-1,h',?_,.inl rfl,k1,by omega,by omega,fun h=>absurd (by decide) h⟩
    rw [loopL_eq,step _ (ifT (decide_eq_true hz) rfl)]
    simp
   ·obtain ⟨e,zz,h'',m1,m2,m3,m4,m5,m6⟩:=ihd (i + 1) h' z (by omega) (hs.keep k1 fun _ _ h=>h) (by have:=k1.1; omega) (fun b hbp=>by have:=hp b hbp; have:=k1.1; omega) (by omega) (by omega)
    refine ⟨e,zz,h'',?_,m2,KB.trans k1 m3 (fun _ _ h=>h) (fun _ _ h=>h),by omega,m5,fun hzz=>⟨fun j t hj hjt=>?_,by rw [sumL_drop _ hlt,ht]; have:=(m6 hzz).2; have:=(z3 hz).2; omega⟩⟩
    ·rw [loopL_eq,step _ (ifF (by simpa using hz) rfl)]
     simp only [Option.bind_some,if_true]
     rw [w64i (by omega) (by omega),show ((i : Int) + 1) = ((i + 1 : Nat) : Int) from by omega]
     exact m1
    ·by_cases hji : j = i
     ·subst hji
      rw [List.getElem?_eq_getElem hlt] at hjt
      injection hjt with hjt
      rw [← hjt,ht]
      exact (z3 hz).1
     ·exact (m6 hzz).1 j t (by omega) hjt
theorem szTerm_run {base : Nat} : ∀ f,SzT base f
 | 0=>fun h p t cs left x=>x.elim
 | f + 1=>fun h p t cs left x hb hp h0 h1=>by
  obtain ⟨k,n,s,l⟩:=t
  obtain ⟨a,rfl,hts,hs,hl⟩:=x.parts
  simp only [maxLen] at hs hl
  obtain ⟨o1,k1,q1⟩:=box_own (base:=base) (t:=29) (h:=h) (cs:=termV k n s a l.length) hb rfl
  generalize hh1 : h++[some (⟨termV k n s a l.length,29⟩ : Blk)] = h1' at o1 k1 q1
  have start : ∀ r,(if (decide ((IntKind.wrap .i64 (left - (s.size : Int))) < (0 : Int))) = true then
    some (Value.int .i64 (-1 : Int),h1')
   else
    (run (Et base) 56 [.slice a l.length l.length,.int .i64 (IntKind.wrap .i64 (left - (s.size : Int)))] h1').bind fun r4=>
    ((some r4.1).bind (getI .i64)).bind fun n5=>
    (if (decide (n5 < (0 : Int))) = true then
    some (.int .i64 (-1 : Int),r4.2)
    else
    some (.int .i64 n5,r4.2))) = some r→run (Et base) 12 [.agg (termV k n s a l.length).toArray,.int .i64 left] h = some r:=by
   intro r hr
   refine Am.r12 (lets fun h1'' eh=>?_)
   rw [hh1] at eh
   subst eh
   refine bT (o1.at0 (i:=2) rfl) ?_
   by_cases hc : (decide ((IntKind.wrap .i64 (left - (s.size : Int))) < (0 : Int))) = true
   ·rw [if_pos hc] at hr ⊢; exact hr
   ·rw [if_neg hc] at hr ⊢
    exact bS (o1.at0 (i:=3) rfl) hr
  rw [w64i (by omega) (by omega)] at start
  by_cases c1 : left - (s.size : Int) < 0
  ·exact ⟨-1,h1',start _ (ifT (decide_eq_true c1) rfl),k1,by omega,by omega,fun h=>absurd (by decide) h⟩
  ·-- the row
   have hts1:=hts.keep k1 fun _ _ h=>h
   by_cases c2 : left - (s.size : Int) - (l.length : Int) < 0
   ·refine ⟨-1,h1',start _ (ifF (by simpa using c1) (bs (v:=(.int .i64 (-1),h1')) (Am.r56 ?_) (bs (v:=(-1 : Int)) rfl (ifT (by decide) rfl)))),k1,by omega,by omega,fun h=>absurd (by decide) h⟩
    rw [w64i (by omega) (by omega)]
    exact ifT (decide_eq_true c2) rfl
   ·obtain ⟨e,z,h2,m1,m2,m3,m4,m5,m6⟩:=szTermS_loop (base:=base) (f:=f) (szTerm_run f) (by omega) l.length 0 h1' (left - s.size - l.length) (by omega) hts1 (by omega) (fun b hbp=>by have:=hp b hbp; omega) (by omega) (by omega)
    have hS : run (Et base) 56 [.slice a l.length l.length,.int .i64 (left - (s.size : Int))] h1' = some (.int .i64 z,h2):=by
     refine Am.r56 ?_
     rw [w64i (by omega) (by omega)]
     refine ifF (by simpa using c2) (bs m1 ?_)
     rcases m2 with rfl|rfl
     ·exact ifT rfl (bs rfl rfl)
     ·exact ifF (by simp) (ifT rfl (bs rfl rfl))
    have kk : KB NoB h h2:=KB.trans k1 m3 (fun _ _ h=>h) (fun _ _ h=>h)
    by_cases hz : z < 0
    ·exact ⟨-1,h2,start _ (ifF (by simpa using c1) (bs hS (bs rfl (ifT (decide_eq_true hz) rfl)))),kk,by omega,by omega,fun h=>absurd (by decide) h⟩
    ·refine ⟨z,h2,start _ (ifF (by simpa using c1) (bs hS (bs rfl (ifF (by simpa using hz) rfl)))),kk,by omega,m5,fun _=>⟨⟨by omega,by omega,fun t ht=>?_⟩,by have:=(m6 hz).2; simp only [List.drop_zero] at this; simp only [tcnt]; omega⟩⟩
     obtain ⟨j,hj,rfl⟩:=List.mem_iff_getElem.1 ht
     exact (m6 hz).1 j _ (by omega) (List.getElem?_eq_getElem hj)
theorem TmR.form {h : AH} {p : Nat→Prop} {f : Nat} {t : Tm} {cs : List Value} (x : TmR h p f t cs) : ∃ k n s a m,cs = termV k n s a m:=by
 cases f with
 | zero=>exact x.elim
 | succ f=>
  obtain ⟨k,n,s,l⟩:=t
  obtain ⟨a,e,_⟩:=x.parts
  exact ⟨k,n,s,a,_,e⟩
theorem TmR.le {h : AH} {p : Nat→Prop} : ∀ {f f' : Nat} (hf : f≤f') {t : Tm} {cs : List Value},TmR h p f t cs→TmR h p f' t cs
 | 0,_,_,_,_,x=>x.elim
 | f + 1,0,hf,_,_,_=>absurd hf (Nat.not_succ_le_zero _)
 | f + 1,f' + 1,hf,.mk k n s l,cs,x=>by
  obtain ⟨h1,h2,a,vs,h3,h4,h5,h6,h7⟩:=x
  exact ⟨h1,h2,a,vs,h3,h4,h5,h6,fun i t hi=>(h7 i t hi).le (Nat.le_of_succ_le_succ hf)⟩
theorem TsR.le {h : AH} {p : Nat→Prop} {f f' : Nat} (hf : f≤f') {l : List Tm} {a : Option Addr} (x : TsR h p f l a) : TsR h p f' l a:=by
 obtain ⟨vs,h1,h2,h3,h4⟩:=x
 exact ⟨vs,h1,h2,h3,fun i y hy=>(h4 i y hy).le hf⟩
section
abbrev Fp:=Nat→Prop
abbrev iS (lo hi : Nat) : Fp:=fun b=>lo≤b∧b < hi
abbrev chunk (w i : Nat) (vs : List Value) : List Value:=(vs.drop (i * w)).take w
def Kp {α : Type} (P : Fp→AH→α→List Value→Prop) : Prop:=∀ (S U : Fp) (h h' : AH) (x : α) (cs : List Value),KB U h h'→(∀ b,S b→¬ U b)→P S h x cs→P S h' x cs
def Mo {α : Type} (P : Fp→AH→α→List Value→Prop) : Prop:=∀ (S S' : Fp) (h : AH) (x : α) (cs : List Value),(∀ b,S b→S' b)→P S h x cs→P S' h x cs
section
variable {α : Type} {w : Nat} {P : Fp→AH→α→List Value→Prop}
def Chunks (w : Nat) (P : Fp→AH→α→List Value→Prop) (S : Fp) (h : AH) (l : List α) (vs : List Value) : Prop:=
 ∃ C : Nat→Fp,(∀ i b,C i b→S b)∧(∀ i j b,i≠j→C i b→¬ C j b)∧∀ i x,l[i]? = some x→P (C i) h x (chunk w i vs)
def RowD (w : Nat) (P : Fp→AH→α→List Value→Prop) (S : Fp) (h : AH) (l : List α) (a : Option Addr) : Prop:=
 ∃ (vs : List Value) (T : Fp),Sl h a vs∧vs.length = l.length * w∧(vs = []∨∀ b,blk a b→S b∧¬ T b)∧(∀ b,T b→S b)∧Chunks w P T h l vs
theorem Chunks.keep (kp : Kp P) {S U : Fp} {h h' : AH} {l : List α} {vs : List Value} (k : KB U h h') (hs : ∀ b,S b→¬ U b) (x : Chunks w P S h l vs) : Chunks w P S h' l vs:=by
 obtain ⟨C,c1,c2,c3⟩:=x
 exact ⟨C,c1,c2,fun i y hy=>kp _ _ _ _ _ _ k (fun b hb=>hs b (c1 i b hb)) (c3 i y hy)⟩
theorem Chunks.nil {S : Fp} {h : AH} {vs : List Value} : Chunks w P S h ([] : List α) vs:=⟨fun _ _=>False,fun _ _ h=>h.elim,fun _ _ _ _ h=>h.elim,fun i x h=>by simp at h⟩
theorem Chunks.snoc {S S' T : Fp} {h : AH} {l : List α} {vs vs' cs : List Value} {x : α} (c : Chunks w P S h l vs) (hx : P T h x cs) (hT : ∀ b,T b→¬ S b) (h1 : ∀ b,S b→S' b) (h2 : ∀ b,T b→S' b)
  (hv : ∀ i,i < l.length→chunk w i vs' = chunk w i vs) (hc : chunk w l.length vs' = cs) : Chunks w P S' h (l++[x]) vs':=by
 obtain ⟨C,c1,c2,c3⟩:=c
 refine ⟨fun i b=>if i = l.length then T b else (i < l.length∧C i b),fun i b hb=>?_,fun i j b hij hi hj=>?_,fun i y hy=>?_⟩
 ·simp only at hb
  split at hb
  ·exact h2 b hb
  ·exact h1 b (c1 i b hb.2)
 ·simp only at hi hj
  split at hi
  ·rename_i e
   split at hj
   ·rename_i e2; exact hij (e.trans e2.symm)
   ·exact hT b hi (c1 j b hj.2)
  ·split at hj
   ·exact hT b hj (c1 i b hi.2)
   ·exact c2 i j b hij hi.2 hj.2
 ·have hlt : i < l.length + 1:=by have:=(List.getElem?_eq_some_iff.1 hy).1; simpa using this
  by_cases e : i = l.length
  ·subst e
   simp at hy
   subst hy
   have ee : (fun b=>if l.length = l.length then T b else (l.length < l.length∧C l.length b)) = T:=by funext b; simp
   show P (fun b=>if l.length = l.length then T b else (l.length < l.length∧C l.length b)) h x (chunk w l.length vs')
   rw [ee,hc]
   exact hx
  ·have hi : i < l.length:=by omega
   have ee : (fun b=>if i = l.length then T b else (i < l.length∧C i b)) = C i:=by funext b; simp [e,hi]
   show P (fun b=>if i = l.length then T b else (i < l.length∧C i b)) h y (chunk w i vs')
   rw [ee,hv i hi]
   rw [List.getElem?_append_left hi] at hy
   exact c3 i y hy
theorem RowD.keep (kp : Kp P) {S U : Fp} {h h' : AH} {l : List α} {a : Option Addr} (x : RowD w P S h l a) (k : KB U h h') (hs : ∀ b,S b→¬ U b) : RowD w P S h' l a:=by
 obtain ⟨vs,T,x1,x2,x3,x4,x5⟩:=x
 refine ⟨vs,T,?_,x2,x3,x4,x5.keep kp k fun b hb=>hs b (x4 b hb)⟩
 rcases x3 with e|x3
 ·exact .inl e
 ·exact x1.keep k fun b hb=>hs b (x3 b hb).1
theorem RowD.mono {S S' : Fp} {h : AH} {l : List α} {a : Option Addr} (x : RowD w P S h l a) (hs : ∀ b,S b→S' b) : RowD w P S' h l a:=by
 obtain ⟨vs,T,x1,x2,x3,x4,x5⟩:=x
 exact ⟨vs,T,x1,x2,x3.imp id fun g b hb=>⟨hs b (g b hb).1,(g b hb).2⟩,fun b hb=>hs b (x4 b hb),x5⟩
def RowO (base t w : Nat) (P : Fp→AH→α→List Value→Prop) (S : Fp) (h : AH) (l : List α) (a : Option Addr) : Prop:=
 ∃ (vs : List Value) (T : Fp),Own base t h a vs∧vs.length = l.length * w∧(∀ b,blk a b→S b∧¬ T b)∧(∀ b,T b→S b)∧Chunks w P T h l vs
theorem RowO.d {base t : Nat} {S : Fp} {h : AH} {l : List α} {a : Option Addr} (x : RowO base t w P S h l a) : RowD w P S h l a:=by
 obtain ⟨vs,T,x1,x2,x3,x4,x5⟩:=x
 exact ⟨vs,T,x1.sl,x2,.inr x3,x4,x5⟩
theorem RowO.keep (kp : Kp P) {base t : Nat} {S U : Fp} {h h' : AH} {l : List α} {a : Option Addr} (x : RowO base t w P S h l a) (k : KB U h h') (hs : ∀ b,S b→¬ U b) : RowO base t w P S h' l a:=by
 obtain ⟨vs,T,x1,x2,x3,x4,x5⟩:=x
 exact ⟨vs,T,x1.keep k fun b hb=>hs b (x3 b hb).1,x2,x3,x4,x5.keep kp k fun b hb=>hs b (x4 b hb)⟩
theorem RowO.mono {base t : Nat} {S S' : Fp} {h : AH} {l : List α} {a : Option Addr} (x : RowO base t w P S h l a) (hs : ∀ b,S b→S' b) : RowO base t w P S' h l a:=by
 obtain ⟨vs,T,x1,x2,x3,x4,x5⟩:=x
 exact ⟨vs,T,x1,x2,fun b hb=>⟨hs b (x3 b hb).1,(x3 b hb).2⟩,fun b hb=>hs b (x4 b hb),x5⟩
theorem RowO.nil {base t : Nat} {S : Fp} {h : AH} : RowO base t w P S h ([] : List α) none:=⟨[],fun _=>False,.inl ⟨rfl,rfl⟩,by simp,fun b hb=>(by obtain ⟨_,e,_⟩:=hb; cases e),fun _ h=>h.elim,Chunks.nil⟩
theorem Chunks.imp {Q : Fp→AH→α→List Value→Prop} {S : Fp} {h : AH} {l : List α} {vs : List Value} (hPQ : ∀ S h x cs,P S h x cs→Q S h x cs) (x : Chunks w P S h l vs) : Chunks w Q S h l vs:=by
 obtain ⟨C,c1,c2,c3⟩:=x
 exact ⟨C,c1,c2,fun i y hy=>hPQ _ _ _ _ (c3 i y hy)⟩
theorem RowD.imp {Q : Fp→AH→α→List Value→Prop} {S : Fp} {h : AH} {l : List α} {a : Option Addr} (hPQ : ∀ S h x cs,P S h x cs→Q S h x cs) (x : RowD w P S h l a) : RowD w Q S h l a:=by
 obtain ⟨vs,T,x1,x2,x3,x4,x5⟩:=x
 exact ⟨vs,T,x1,x2,x3,x4,x5.imp hPQ⟩
theorem Sl.wr {base : Nat} {h : AH} {a : Option Addr} {vs : List Value} (x : Sl h a vs) (hb : ∀ b,blk a b→base≤b) {i : Nat} {new : List Value} (hi : i + new.length≤vs.length) (h0 : 0 < new.length) :
  ∃ ad h',a = some ad∧Am.wr base h ad.block (ad.off + i) new = some h'∧Sl h' a (setAt vs i new)∧KB (blk a) h h'∧h'.length = h.length:=by
 rcases x with h|⟨ad,kk,h1,h2,h3,h4⟩
 ·subst h; simp only [List.length_nil] at hi; omega
 ·have hbb:=hb ad.block ⟨ad,h1,rfl⟩
  refine ⟨ad,h.set ad.block (some ⟨setAt kk.cs (ad.off + i) new,kk.ty⟩),h1,?_,?_,KB.set _ ⟨ad,h1,rfl⟩,by simp⟩
  ·unfold Am.wr
   rw [if_pos hbb,h2]
   simp only [Option.bind_some]
   rw [if_pos (by omega)]
  ·have hl : (setAt vs i new).length = vs.length:=by simp [setAt]; omega
   refine .inr ⟨ad,⟨setAt kk.cs (ad.off + i) new,kk.ty⟩,h1,hget_set_self (hget_lt h2),?_,fun j v hj=>?_⟩
   ·rw [hl]; simp [setAt]; omega
   ·simp only
    rw [setAt_get hi] at hj
    rw [setAt_get (by omega)]
    split at hj
    ·rename_i hin
     rw [if_pos (by omega),show ad.off + j - (ad.off + i) = j - i from by omega]
     exact hj
    ·rename_i hout
     rw [if_neg (by omega)]
     exact h4 j v hj
def Foc (w : Nat) (P : Fp→AH→α→List Value→Prop) (S : Fp) (h : AH) (l : List α) (a : Option Addr) (i : Nat) (Ci : Fp) (cs : List Value) : Prop:=
 ∃ (vs : List Value) (T : Fp) (C : Nat→Fp),Sl h a vs∧vs.length = l.length * w∧(∀ b,blk a b→S b∧¬ T b)∧(∀ b,T b→S b)∧(∀ q b,C q b→T b)∧(∀ q j b,q≠j→C q b→¬ C j b) ∧
  (∀ q x,q≠i→l[q]? = some x→P (C q) h x (chunk w q vs))∧i < l.length∧chunk w i vs = cs∧C i = Ci
theorem mul_le' {i n w : Nat} (h : i < n) : i * w + w≤n * w:=by
 have:=Nat.mul_le_mul_right w (Nat.succ_le_of_lt h)
 rw [Nat.succ_mul] at this
 exact this
theorem chunk_len {w i n : Nat} {vs : List Value} (hl : vs.length = n * w) (hi : i < n) : (chunk w i vs).length = w:=by
 have:=mul_le' (w:=w) hi
 simp [chunk]
 omega
theorem RowD.open (hw : 0 < w) {S : Fp} {h : AH} {l : List α} {a : Option Addr} (x : RowD w P S h l a) {i : Nat} (hi : i < l.length) :
  ∃ Ci cs,Foc w P S h l a i Ci cs∧P Ci h l[i] cs∧cs.length = w∧(∀ b,Ci b→S b)∧(∀ b,blk a b→¬ Ci b):=by
 obtain ⟨vs,T,x1,x2,x3,x4,C,c1,c2,c3⟩:=x
 have hne : vs≠[]:=by
  intro e
  subst e
  have:=mul_le' (w:=w) hi
  simp at x2
  omega
 have x3':=x3.resolve_left hne
 exact ⟨C i,chunk w i vs,⟨vs,T,C,x1,x2,x3',x4,c1,c2,fun q y _ hy=>c3 q y hy,hi,rfl,rfl⟩,c3 i _ (List.getElem?_eq_getElem hi),chunk_len x2 hi,fun b hb=>x4 b (c1 i b hb),fun b hb hc=>(x3' b hb).2 (c1 i b hc)⟩
theorem Foc.close {S : Fp} {h : AH} {l : List α} {a : Option Addr} {i : Nat} {Ci : Fp} {cs : List Value} (x : Foc w P S h l a i Ci cs) {y : α} (hy : P Ci h y cs) : RowD w P S h (l.set i y) a:=by
 obtain ⟨vs,T,C,x1,x2,x3,x4,c1,c2,c3,hi,e1,e2⟩:=x
 refine ⟨vs,T,x1,by simpa using x2,.inr x3,x4,C,c1,c2,fun q z hz=>?_⟩
 by_cases e : q = i
 ·subst e
  rw [List.getElem?_set_self hi] at hz
  injection hz with hz
  subst hz
  rw [e1,e2]
  exact hy
 ·rw [List.getElem?_set_ne (by omega)] at hz
  exact c3 q z e hz
theorem Foc.keep (kp : Kp P) {S U : Fp} {h h' : AH} {l : List α} {a : Option Addr} {i : Nat} {Ci : Fp} {cs : List Value} (x : Foc w P S h l a i Ci cs) (k : KB U h h') (hs : ∀ b,S b→U b→Ci b) : Foc w P S h' l a i Ci cs:=by
 obtain ⟨vs,T,C,x1,x2,x3,x4,c1,c2,c3,hi,e1,e2⟩:=x
 subst e2
 refine ⟨vs,T,C,x1.keep k fun b hb hu=>(x3 b hb).2 (c1 i b (hs b (x3 b hb).1 hu)),x2,x3,x4,c1,c2,fun q y hq hy=>kp _ _ _ _ _ _ k (fun b hb hu=>c2 q i b hq hb (hs b (x4 b (c1 q b hb)) hu)) (c3 q y hq hy),hi,e1,rfl⟩
theorem Foc.wr (kp : Kp P) {base : Nat} {S : Fp} {h : AH} {l : List α} {a : Option Addr} {i : Nat} {Ci : Fp} {cs : List Value} (x : Foc w P S h l a i Ci cs) (hb : ∀ b,S b→base≤b) {j : Nat} {new : List Value} (hj : j + new.length≤w) (h0 : 0 < new.length) :
  ∃ ad h',a = some ad∧Am.wr base h ad.block (ad.off + i * w + j) new = some h'∧Foc w P S h' l a i Ci (setAt cs j new)∧KB (blk a) h h'∧h'.length = h.length:=by
 obtain ⟨vs,T,C,x1,x2,x3,x4,c1,c2,c3,hi,e1,e2⟩:=x
 subst e2
 have hle:=mul_le' (w:=w) hi
 obtain ⟨ad,h',w1,w2,w3,w4,w5⟩:=x1.wr (base:=base) (fun b hbb=>hb b (x3 b hbb).1) (i:=i * w + j) (new:=new) (by omega) h0
 refine ⟨ad,h',w1,by rw [Nat.add_assoc]; exact w2,⟨setAt vs (i * w + j) new,T,C,w3,?_,x3,x4,c1,c2,fun q y hq hy=>?_,hi,?_,rfl⟩,w4,w5⟩
 ·simp [setAt]; omega
 ·have e : chunk w q (setAt vs (i * w + j) new) = chunk w q vs:=by
   apply List.ext_getElem?
   intro t
   by_cases ht : t < w
   ·rw [chunk,chunk,List.getElem?_take_of_lt ht,List.getElem?_take_of_lt ht,List.getElem?_drop,List.getElem?_drop,setAt_get (by omega),if_neg]
    intro hh
    rcases Nat.lt_or_gt_of_ne hq with hlt|hgt
    ·have:=mul_le' (w:=w) hlt; omega
    ·have:=mul_le' (w:=w) hgt; omega
   ·rw [List.getElem?_eq_none (by simp [chunk]; omega),List.getElem?_eq_none (by simp [chunk]; omega)]
  rw [e]
  exact kp _ _ _ _ _ _ w4 (fun b hbb hk=>(x3 b hk).2 (c1 q b hbb)) (c3 q y hq hy)
 ·rw [← e1]
  apply List.ext_getElem?
  intro t
  have hcl : (chunk w i vs).length = w:=chunk_len x2 hi
  by_cases ht : t < w
  ·rw [chunk,List.getElem?_take_of_lt ht,List.getElem?_drop,setAt_get (by omega),setAt_get (by omega)]
   by_cases hin : j≤t∧t < j + new.length
   ·rw [if_pos (by omega),if_pos (by omega),show i * w + t - (i * w + j) = t - j from by omega]
   ·rw [if_neg (by omega),if_neg (by omega),chunk,List.getElem?_take_of_lt ht,List.getElem?_drop]
  ·rw [List.getElem?_eq_none (by simp [chunk]; omega),List.getElem?_eq_none (by simp [setAt]; omega)]
theorem Foc.cell {S : Fp} {h : AH} {l : List α} {a : Option Addr} {i : Nat} {Ci : Fp} {cs : List Value} (x : Foc w P S h l a i Ci cs) {j : Nat} {v : Value} (hv : cs[j]? = some v) : ∃ ad,a = some ad∧Am.cell h ad.block (ad.off + i * w + j) = some v:=by
 obtain ⟨vs,T,C,x1,x2,x3,x4,c1,c2,c3,hi,e1,e2⟩:=x
 have hjw : j < w:=by
  have h1:=(List.getElem?_eq_some_iff.1 hv).1
  rw [← e1,chunk_len x2 hi] at h1
  exact h1
 rw [← e1,chunk,List.getElem?_take_of_lt hjw,List.getElem?_drop] at hv
 obtain ⟨ad,g1,g2⟩:=x1.cell hv
 exact ⟨ad,g1,by rw [Nat.add_assoc]; exact g2⟩
end
theorem chunk_setAt_self {w i : Nat} {vs cs : List Value} (hc : cs.length = w) (hi : i * w + w≤vs.length) : chunk w i (setAt vs (i * w) cs) = cs:=by
 apply List.ext_getElem?
 intro j
 by_cases hj : j < w
 ·rw [chunk,List.getElem?_take_of_lt hj,List.getElem?_drop,setAt_get (by omega),if_pos (by omega),show i * w + j - i * w = j from by omega]
 ·rw [List.getElem?_eq_none (by simp [chunk]; omega),List.getElem?_eq_none (by omega)]
theorem chunk_setAt_other {w i j : Nat} {vs cs : List Value} (hc : cs.length = w) (hi : i * w + w≤vs.length) (hne : j≠i) : chunk w j (setAt vs (i * w) cs) = chunk w j vs:=by
 apply List.ext_getElem?
 intro k
 by_cases hk : k < w
 ·rw [chunk,chunk,List.getElem?_take_of_lt hk,List.getElem?_take_of_lt hk,List.getElem?_drop,List.getElem?_drop,setAt_get (by omega),if_neg]
  intro hh
  rcases Nat.lt_or_gt_of_ne hne with hlt|hgt
  ·have:=mul_le' (w:=w) hlt; omega
  ·have:=mul_le' (w:=w) hgt; omega
 ·rw [List.getElem?_eq_none (by simp [chunk]; omega),List.getElem?_eq_none (by simp [chunk]; omega)]
theorem chunk_app_other {w i : Nat} {vs cs : List Value} (hi : i * w + w≤vs.length) : chunk w i (vs++cs) = chunk w i vs:=by
 apply List.ext_getElem?
 intro k
 by_cases hk : k < w
 ·rw [chunk,chunk,List.getElem?_take_of_lt hk,List.getElem?_take_of_lt hk,List.getElem?_drop,List.getElem?_drop,List.getElem?_append_left (by omega)]
 ·rw [List.getElem?_eq_none (by simp [chunk]; omega),List.getElem?_eq_none (by simp [chunk]; omega)]
theorem chunk_app_self {w i : Nat} {vs cs : List Value} (hc : cs.length = w) (hi : vs.length = i * w) : chunk w i (vs++cs) = cs:=by
 rw [chunk,← hi,List.drop_left,← hc,List.take_length]
theorem take_snoc {α : Type} {l : List α} {i : Nat} (hi : i < l.length) : l.take (i + 1) = l.take i++[l[i]]:=by simp
def TmD : Nat→Fp→AH→Tm→List Value→Prop
 | 0,_,_,_,_=>False
 | f + 1,S,h,.mk k n s l,cs=>s.size≤maxLen∧l.length≤maxLen∧∃ a,cs = termV k n s a l.length∧RowD 4 (TmD f) S h l a
theorem TmD.kp : ∀ f,Kp (TmD f)
 | 0=>fun S U h h' x cs k hs y=>y.elim
 | f + 1=>fun S U h h' x cs k hs y=>by
  obtain ⟨kk,n,s,l⟩:=x
  obtain ⟨h1,h2,a,e,r⟩:=y
  exact ⟨h1,h2,a,e,r.keep (TmD.kp f) k hs⟩
theorem TmD.mo : ∀ f,Mo (TmD f)
 | 0=>fun S S' h x cs hs y=>y.elim
 | f + 1=>fun S S' h x cs hs y=>by
  obtain ⟨kk,n,s,l⟩:=x
  obtain ⟨h1,h2,a,e,r⟩:=y
  exact ⟨h1,h2,a,e,r.mono hs⟩
theorem RowD.tsR' {f : Nat} (ih : ∀ S h t cs,TmD f S h t cs→TmR h S f t cs) {S : Fp} {h : AH} {l : List Tm} {a : Option Addr} (x : RowD 4 (TmD f) S h l a) : TsR h S f l a:=by
 obtain ⟨vs,T,x1,x2,x3,x4,C,c1,c2,c3⟩:=x
 exact ⟨vs,x1,x3.imp id fun g b hb=>(g b hb).1,x2,fun i t hi=>(ih _ _ _ _ (c3 i t hi)).mono (fun b hb=>x4 b (c1 i b hb)) _ _ _⟩
theorem TmD.tmR : ∀ f S h t cs,TmD f S h t cs→TmR h S f t cs
 | 0,S,h,t,cs,x=>x.elim
 | f + 1,S,h,.mk k n s l,cs,x=>by
  obtain ⟨h1,h2,a,e,r⟩:=x
  subst e
  exact TmR.of (RowD.tsR' (TmD.tmR f) r) h1 h2
theorem RowD.tsR {f : Nat} {S : Fp} {h : AH} {l : List Tm} {a : Option Addr} (x : RowD 4 (TmD f) S h l a) : TsR h S f l a:=x.tsR' (TmD.tmR f)
def TmG (base : Nat) : Nat→Fp→AH→Tm→List Value→Prop
 | 0,_,_,_,_=>False
 | f + 1,S,h,.mk k n s l,cs=>s.size≤maxLen∧l.length≤maxLen∧∃ a,cs = termV k n s a l.length∧RowO base 42 4 (TmG base f) S h l a
theorem TmG.kp (base : Nat) : ∀ f,Kp (TmG base f)
 | 0=>fun S U h h' x cs k hs y=>y.elim
 | f + 1=>fun S U h h' x cs k hs y=>by
  obtain ⟨kk,n,s,l⟩:=x
  obtain ⟨h1,h2,a,e,r⟩:=y
  exact ⟨h1,h2,a,e,r.keep (TmG.kp base f) k hs⟩
theorem TmG.d {base : Nat} : ∀ {f : Nat} {S : Fp} {h : AH} {t : Tm} {cs : List Value},TmG base f S h t cs→TmD f S h t cs
 | 0,_,_,_,_,x=>x.elim
 | f + 1,S,h,.mk k n s l,cs,x=>by
  obtain ⟨h1,h2,a,e,r⟩:=x
  exact ⟨h1,h2,a,e,r.d.imp fun _ _ _ _=>TmG.d⟩
theorem RowO.dT {base f : Nat} {S : Fp} {h : AH} {l : List Tm} {a : Option Addr} {t : Nat} (x : RowO base t 4 (TmG base f) S h l a) : RowD 4 (TmD f) S h l a:=x.d.imp fun _ _ _ _=>TmG.d
theorem TmG.tmR {base f : Nat} {S : Fp} {h : AH} {t : Tm} {cs : List Value} (x : TmG base f S h t cs) : TmR h S f t cs:=TmD.tmR _ _ _ _ _ x.d
theorem TmG.form {base f : Nat} {S : Fp} {h : AH} {t : Tm} {cs : List Value} (x : TmG base f S h t cs) : ∃ k n s a m,cs = termV k n s a m:=by
 cases f with
 | zero=>exact x.elim
 | succ f=>obtain ⟨k,n,s,l⟩:=t; obtain ⟨_,_,a,e,_⟩:=x; exact ⟨k,n,s,a,_,e⟩
end
def ToTG (base f : Nat) : Prop:=∀ (h : AH) (p : Nat→Prop) (t : Tm) (cs : List Value),TmR h p f t cs→TmB f t→base≤h.length→(∀ b,p b→b < h.length) →
 ∃ cs' h',run (Et base) 15 [.agg cs.toArray] h = some (.agg cs'.toArray,h')∧TmG base f (iS h.length h'.length) h' t cs'∧KB NoB h h'
theorem toTermSD_loop {base f : Nat} (ih : ToTG base f) {p : Nat→Prop} {l : List Tm} {a : Option Addr} {ob : Nat} (hl : l.length≤1048576) (hB : ∀ t∈l,TmB f t) (hp : ∀ b,p b→b < ob) : ∀ (d i : Nat) (h : AH) (vs : List Value),i + d = l.length→TsR h p f l a→ob < h.length→base≤h.length→Own base 42 h (at0 ob) vs→vs.length = l.length * 4 →
  Chunks 4 (TmG base f) (iS (ob + 1) h.length) h (l.take i) vs →
  ∃ h' vs',loopL (B63_0 base) [some (.slice a l.length l.length),some (.slice (at0 ob) l.length l.length),some (.int .i64 (i : Int))] h = some (2,[some (.slice (at0 ob) l.length l.length)],h')∧Own base 42 h' (at0 ob) vs'∧vs'.length = l.length * 4 ∧
   Chunks 4 (TmG base f) (iS (ob + 1) h'.length) h' l vs'∧KB (· = ob) h h':=by
 intro d
 induction d with
 | zero=>
  intro i h vs hi hs ho hb ow hv hd
  rw [List.take_of_length_le (by omega)] at hd
  refine ⟨h,vs,?_,ow,hv,hd,KB.refl _ _⟩
  rw [loopL_eq,B63_0_eq]
  have : ¬ ((i : Int) < (l.length : Int)):=by omega
  simp [this]
 | succ d ihd=>
  intro i h vs hi hs ho hb ow hv hd
  have hlt : i < l.length:=by omega
  obtain ⟨ad,c0,c1,c2,c3,rfl,g0,g1,g2,g3,hm⟩:=hs.get hlt
  obtain ⟨cs',h1,e1,m1,k1⟩:=ih h p l[i] _ hm (hB _ (List.getElem_mem hlt)) hb (fun b hbp=>by have:=hp b hbp; omega)
  have n1:=k1.1
  cases f with
  | zero=>exact hm.elim
  | succ f=>
   have hm1:=m1
   generalize ht : l[i] = tt at hm hm1
   obtain ⟨k,n,s,ll⟩:=tt
   obtain ⟨a2,ecs,_,_,_⟩:=hm.parts
   injection ecs with q0 ecs
   injection ecs with q1 ecs
   injection ecs with q2 ecs
   injection ecs with q3 _
   subst q0; subst q1; subst q2; subst q3
   obtain ⟨_,_,a3,ecs',_⟩:=hm1
   have hc4 : cs'.length = 4:=by rw [ecs']; rfl
   obtain ⟨h2,w1,w2,w3,w4⟩:=(ow.keepN k1).wr0 (i:=i * 4) (new:=cs') (by omega) (by omega)
   have kall : KB (· = ob) h h2:=KB.trans k1 w3 (fun _ _ h=>h.elim) (fun _ _ h=>h)
   have m2:=TmG.kp _ _ _ _ _ _ _ _ w3 (fun b (hb' : iS h.length h1.length b) e=>by omega) m1
   have ch:=(hd.keep (TmG.kp _ _) kall fun b hb' e=>by omega).snoc (vs':=setAt vs (i * 4) cs') (S':=iS (ob + 1) h2.length) m2 (fun b hb' hc=>by omega) (fun b hb'=>by constructor <;> omega) (fun b hb'=>by constructor <;> omega) (fun q hq=>chunk_setAt_other hc4 (by omega) (by simp at hq; omega)) (by
    rw [List.length_take,Nat.min_eq_left (by omega)]
    exact chunk_setAt_self hc4 (by omega))
   rw [← take_snoc hlt] at ch
   obtain ⟨h3,vs3,y1,y2,y3,y4,y5⟩:=ihd (i + 1) h2 (setAt vs (i * 4) cs') (by omega) (hs.keep kall fun b h1 h2=>by have:=hp b h1; omega) (by omega) (by omega) w2 (by simp [setAt]; omega) ch
   refine ⟨h3,vs3,?_,y2,y3,y4,KB.trans kall y5 (fun _ _ h=>h) (fun _ _ h=>h)⟩
   have step : B63_0 base [some (.slice (some ad) l.length l.length),some (.slice (at0 ob) l.length l.length),some (.int .i64 (i : Int))] h = some (0,[some (.slice (some ad) l.length l.length),some (.slice (at0 ob) l.length l.length),some (.int .i64 (IntKind.wrap .i64 ((i : Int) + (1 : Int))))],h2):=by
    rw [B63_0_eq]
    refine ifT (decide_eq_true (by omega)) (ifT ⟨by omega,by omega⟩ (bs rfl ?_))
    simp only [Int.toNat_natCast]
    refine bI g0 (bI g1 (bT g2 (bS g3 ?_)))
    refine bs e1 ?_
    subst ecs'
    refine bs (v:=termV k n s a3 ll.length) rfl (bI rfl (bI rfl (bT rfl (bS rfl ?_))))
    refine ifT ⟨by omega,by omega⟩ (bs rfl ?_)
    have w1' : Am.wr base h1 ob (0 + i * 4) (termV k n s a3 ll.length) = some h2:=by rw [Nat.zero_add]; exact w1
    exact bs w1' rfl
   rw [loopL_eq,step]
   simp only [Option.bind_some,if_true]
   rw [w64i (by omega) (by omega),show ((i : Int) + 1) = ((i + 1 : Nat) : Int) from by omega]
   exact y1
theorem rep_len4 (z0 z1 z2 z3 : Value) : ∀ n,(rep [z0,z1,z2,z3] n).length = n * 4
 | 0=>rfl
 | n + 1=>by simp only [rep,List.length_append,rep_len4 z0 z1 z2 z3 n]; simp; omega
theorem toTermSD_run {base f : Nat} (ih : ToTG base f) {h : AH} {p : Nat→Prop} {l : List Tm} {a : Option Addr} (hl : l.length≤1048576) (hB : ∀ t∈l,TmB f t) (hs : TsR h p f l a) (hb : base≤h.length) (hp : ∀ b,p b→b < h.length) :
  ∃ a' h',run (Et base) 63 [.slice a l.length l.length] h = some (.slice a' l.length l.length,h')∧RowO base 42 4 (TmG base f) (iS h.length h'.length) h' l a'∧KB NoB h h':=by
 obtain ⟨o1,k1,q1⟩:=box_own (base:=base) (t:=42) (h:=h) (cs:=rep [(.int .i64 0),(.int .i64 0),(.string ⟨#[]⟩),(.slice none 0 0)] l.length) hb rfl
 generalize hh1 : h++[some (⟨rep [(.int .i64 0),(.int .i64 0),(.string ⟨#[]⟩),(.slice none 0 0)] l.length,42⟩ : Blk)] = h1 at o1 k1 q1
 obtain ⟨h2,vs2,e2,o2,v2,m2,k2⟩:=toTermSD_loop (base:=base) ih (p:=p) (ob:=h.length) hl hB hp l.length 0 h1 _ (by omega) (hs.keep k1 fun _ _ h=>h) (by omega) (by omega) o1 (rep_len4 ..) Chunks.nil
 have n2:=k2.1
 refine ⟨at0 h.length,h2,Am.r63 ?_,⟨vs2,iS (h.length + 1) h2.length,o2,v2,fun b hb'=>by rw [blk_at0] at hb'; subst hb'; exact ⟨by constructor <;> omega,by omega⟩,fun b hb'=>by constructor <;> omega,m2⟩,KB.trans k1 k2 (fun _ _ h=>h) (fun i hi h=>by omega)⟩
 refine ifT ⟨rfl,by omega,by omega,by omega⟩ (lets fun h1' eh=>?_)
 simp only [Int.toNat_natCast] at eh ⊢
 rw [hh1] at eh
 subst eh
 have e2':=e2
 rw [show ((0 : Nat) : Int) = 0 from rfl] at e2'
 exact bs e2' (ifT rfl (bS rfl rfl))
theorem toTermG_run {base : Nat} : ∀ f,ToTG base f
 | 0=>fun h p t cs x=>x.elim
 | f + 1=>fun h p t cs x hB hb hp=>by
  obtain ⟨k,n,s,l⟩:=t
  obtain ⟨a,rfl,hts,hs,hl⟩:=x.parts
  obtain ⟨b1,b2,b3⟩:=hB
  obtain ⟨o1,k1,q1⟩:=box_own (base:=base) (t:=29) (h:=h) (cs:=termV k n s a l.length) hb rfl
  generalize hh1 : h++[some (⟨termV k n s a l.length,29⟩ : Blk)] = h1 at o1 k1 q1
  obtain ⟨o2,k2,q2⟩:=box_own (base:=base) (t:=42) (h:=h1) (cs:=termV 0 0 ⟨#[]⟩ none 0) (by omega) rfl
  generalize hh2 : h1++[some (⟨termV 0 0 ⟨#[]⟩ none 0,42⟩ : Blk)] = h2 at o2 k2 q2
  obtain ⟨o3,k3,q3⟩:=box_own (base:=base) (t:=42) (h:=h2) (cs:=termV 0 0 ⟨#[]⟩ none 0) (by omega) rfl
  generalize hh3 : h2++[some (⟨termV 0 0 ⟨#[]⟩ none 0,42⟩ : Blk)] = h3 at o3 k3 q3
  have k03 : KB NoB h h3:=KB.trans (KB.trans k1 k2 (fun _ _ h=>h) (fun _ _ h=>h)) k3 (fun _ _ h=>h) (fun _ _ h=>h)
  have a3:=(o1.keepN k2).keepN k3
  have z3:=o2.keepN k3
  obtain ⟨h5,e5,o5,k5,l5⟩:=o3.wr0 (i:=0) (new:=[.int .i64 k]) (by simp) (by simp)
  have a5:=a3.keepB k5 fun i hi=>by rw [blk_at0] at hi; omega
  have z5:=z3.keepB k5 fun i hi=>by rw [blk_at0] at hi; omega
  obtain ⟨h7,e7,o7,k7,l7⟩:=o5.wr0 (i:=1) (new:=[.int .i64 n]) (by simp [setAt]) (by simp)
  have a7:=a5.keepB k7 fun i hi=>by rw [blk_at0] at hi; omega
  have z7:=z5.keepB k7 fun i hi=>by rw [blk_at0] at hi; omega
  obtain ⟨h9,e9,o9,k9,l9⟩:=o7.wr0 (i:=2) (new:=[.string s]) (by simp [setAt]) (by simp)
  have a9:=a7.keepB k9 fun i hi=>by rw [blk_at0] at hi; omega
  have z9:=z7.keepB k9 fun i hi=>by rw [blk_at0] at hi; omega
  have s9 : TsR h9 p f l a:=(((hts.keep k03 fun _ _ h=>h).keep k5 fun b h1 h2=>by have:=hp b h1; omega).keep k7 fun b h1 h2=>by have:=hp b h1; omega).keep k9 fun b h1 h2=>by have:=hp b h1; omega
  obtain ⟨a',h11,e11,t11,k11⟩:=toTermSD_run (base:=base) (toTermG_run f) b2 b3 s9 (by omega) (fun b hbp=>by have:=hp b hbp; omega)
  have n11:=k11.1
  obtain ⟨h13,e13,o13,k13,l13⟩:=(o9.keepN k11).wr0 (i:=3) (new:=[.slice a' l.length l.length]) (by simp [setAt]) (by simp)
  have z13:=(z9.keepN k11).keepB k13 fun i hi=>by rw [blk_at0] at hi; omega
  have t13:=t11.keep (TmG.kp _ _) k13 fun b h1 h2=>by omega
  have hout : setAt (setAt (setAt (setAt (termV 0 0 ⟨#[]⟩ none 0) 0 [.int .i64 k]) 1 [.int .i64 n]) 2 [.string s]) 3 [.slice a' l.length l.length] = termV k n s a' l.length:=rfl
  rw [hout] at o13
  obtain ⟨h18,e18,z18,k18,l18⟩:=z13.wr0 (i:=0) (new:=termV k n s a' l.length) (by simp) (by simp)
  have hz : setAt (termV 0 0 ⟨#[]⟩ none 0) 0 (termV k n s a' l.length) = termV k n s a' l.length:=rfl
  rw [hz] at z18
  have t18:=t13.keep (TmG.kp _ _) k18 fun b h1 h2=>by omega
  have c1 : ∀ {S : Nat→Prop} {x y : AH},KB NoB h x→KB S x y→(∀ i,S i→h.length≤i)→KB NoB h y:=fun u v hS=>KB.trans u v (fun _ _ h=>h) (fun i hi hs=>by have:=hS i hs; omega)
  have kAll : KB NoB h h18:=by
   refine c1 (c1 (c1 (c1 (c1 (c1 k03 k5 ?_) k7 ?_) k9 ?_) k11 ?_) k13 ?_) k18 ?_ <;> (intro i hi; first|exact hi.elim|omega)
  refine ⟨termV k n s a' l.length,h18,Am.r15 (lets fun h1' eh=>?_),⟨hs,hl,a',rfl,t18.mono fun b hb'=>by constructor <;> omega⟩,kAll⟩
  rw [hh1] at eh
  subst eh
  refine lets fun h2' eh=>?_
  rw [hh2] at eh
  subst eh
  refine lets fun h3' eh=>?_
  rw [hh3] at eh
  subst eh
  refine bI (a3.at0 (i:=0) rfl) (bs e5 (bI (a5.at0 (i:=1) rfl) (bs e7 (bT (a7.at0 (i:=2) rfl) (bs e9 (bS (a9.at0 (i:=3) rfl) (bs e11 (bS rfl (bs e13 ?_)))))))))
  refine bI (o13.at0 (i:=0) rfl) (bI (o13.at0 (i:=1) rfl) (bT (o13.at0 (i:=2) rfl) (bS (o13.at0 (i:=3) rfl) (bs e18 ?_))))
  exact bI (z18.at0 (i:=0) rfl) (bI (z18.at0 (i:=1) rfl) (bT (z18.at0 (i:=2) rfl) (bS (z18.at0 (i:=3) rfl) rfl)))
def ToTD (base f : Nat) : Prop:=∀ (h : AH) (p : Nat→Prop) (t : Tm) (cs : List Value),TmR h p f t cs→TmB f t→base≤h.length→(∀ b,p b→b < h.length) →
 ∃ cs' h',run (Et base) 15 [.agg cs.toArray] h = some (.agg cs'.toArray,h')∧TmD f (iS h.length h'.length) h' t cs'∧KB NoB h h'
theorem toTermD_run {base : Nat} (f : Nat) : ToTD base f:=fun h p t cs x hB hb hp=>by
 obtain ⟨cs',h',e,m,k⟩:=toTermG_run f h p t cs x hB hb hp
 exact ⟨cs',h',e,m.d,k⟩
def EqT (base f : Nat) : Prop:=∀ (f2 : Nat) (h : AH) (p p2 : Nat→Prop) (t : Tm) (cs cs2 : List Value),TmR h p f t cs→TmR h p2 f2 t cs2→base≤h.length →
 ∃ h',run (Et base) 18 [.agg cs.toArray,.agg cs2.toArray] h = some (.bool true,h')∧KB NoB h h'
theorem eqTermS_loop {base f f2 : Nat} (ih : EqT base f) {p p2 : Nat→Prop} {l : List Tm} {a a2 : Option Addr} (hl : l.length≤9223372036854775807) : ∀ (d i : Nat) (h : AH),i + d = l.length→TsR h p f l a→TsR h p2 f2 l a2→base≤h.length →
  ∃ h',loopL (B70_0 base) [some (.slice a l.length l.length),some (.slice a2 l.length l.length),some (.int .i64 (i : Int))] h = some (2,[],h')∧KB NoB h h':=by
 intro d
 induction d with
 | zero=>
  intro i h hi hs hs2 hb
  refine ⟨h,?_,KB.refl _ _⟩
  rw [loopL_eq,B70_0_eq]
  have : ¬ ((i : Int) < (l.length : Int)):=by omega
  simp [this]
 | succ d ihd=>
  intro i h hi hs hs2 hb
  have hlt : i < l.length:=by omega
  obtain ⟨ad,c0,c1,c2,c3,rfl,g0,g1,g2,g3,hm⟩:=hs.get hlt
  obtain ⟨ad2,d0,d1,d2,d3,rfl,y0,y1,y2,y3,hm2⟩:=hs2.get hlt
  obtain ⟨h1,e1,k1⟩:=ih f2 h p p2 l[i] _ _ hm hm2 hb
  cases f with
  | zero=>exact hm.elim
  | succ f=>
   cases f2 with
   | zero=>exact hm2.elim
   | succ f2=>
    generalize ht : l[i] = tt at hm hm2
    obtain ⟨k,n,s,ll⟩:=tt
    obtain ⟨a3,ecs,_,_,_⟩:=hm.parts
    injection ecs with q0 ecs
    injection ecs with q1 ecs
    injection ecs with q2 ecs
    injection ecs with q3 _
    subst q0; subst q1; subst q2; subst q3
    obtain ⟨a4,ecs,_,_,_⟩:=hm2.parts
    injection ecs with q0 ecs
    injection ecs with q1 ecs
    injection ecs with q2 ecs
    injection ecs with q3 _
    subst q0; subst q1; subst q2; subst q3
    obtain ⟨h2,m1,m2⟩:=ihd (i + 1) h1 (by omega) (hs.keep k1 fun _ _ h=>h) (hs2.keep k1 fun _ _ h=>h) (by have:=k1.1; omega)
    refine ⟨h2,?_,KB.trans k1 m2 (fun _ _ h=>h) (fun _ _ h=>h)⟩
    have step : B70_0 base [some (.slice (some ad) l.length l.length),some (.slice (some ad2) l.length l.length),some (.int .i64 (i : Int))] h = some (0,[some (.slice (some ad) l.length l.length),some (.slice (some ad2) l.length l.length),some (.int .i64 (IntKind.wrap .i64 ((i : Int) + (1 : Int))))],h1):=by
     rw [B70_0_eq]
     refine ifT (decide_eq_true (by omega)) (ifT ⟨by omega,by omega⟩ (bs rfl ?_))
     simp only [Int.toNat_natCast]
     refine bI g0 (bI g1 (bT g2 (bS g3 (ifT ⟨by omega,by omega⟩ (bs rfl ?_)))))
     refine bI y0 (bI y1 (bT y2 (bS y3 ?_)))
     exact bs e1 (bB rfl (ifF (by decide) rfl))
    rw [loopL_eq,step]
    simp only [Option.bind_some,if_true]
    rw [w64i (by omega) (by omega),show ((i : Int) + 1) = ((i + 1 : Nat) : Int) from by omega]
    exact m1
theorem eqTermS_run {base f f2 : Nat} (ih : EqT base f) {h : AH} {p p2 : Nat→Prop} {l : List Tm} {a a2 : Option Addr} (hl : l.length≤9223372036854775807) (hs : TsR h p f l a) (hs2 : TsR h p2 f2 l a2) (hb : base≤h.length) :
  ∃ h',run (Et base) 70 [.slice a l.length l.length,.slice a2 l.length l.length] h = some (.bool true,h')∧KB NoB h h':=by
 obtain ⟨h',e,k⟩:=eqTermS_loop (base:=base) ih hl l.length 0 h (by omega) hs hs2 hb
 refine ⟨h',Am.r70 (ifF (by simp) ?_),k⟩
 rw [show ((0 : Nat) : Int) = 0 from rfl] at e
 exact bs e (ifF (by simp) (ifT rfl rfl))
theorem eqTerm_run {base : Nat} : ∀ f,EqT base f
 | 0=>fun f2 h p p2 t cs cs2 x=>x.elim
 | f + 1=>fun f2 h p p2 t cs cs2 x x2 hb=>by
  cases f2 with
  | zero=>exact x2.elim
  | succ f2=>
   obtain ⟨k,n,s,l⟩:=t
   obtain ⟨a,rfl,hts,hs,hl⟩:=x.parts
   obtain ⟨a2,rfl,hts2,_,_⟩:=x2.parts
   simp only [maxLen] at hl
   obtain ⟨o1,k1,q1⟩:=box_own (base:=base) (t:=42) (h:=h) (cs:=termV k n s a l.length) hb rfl
   generalize hh1 : h++[some (⟨termV k n s a l.length,42⟩ : Blk)] = h1 at o1 k1 q1
   obtain ⟨o2,k2,q2⟩:=box_own (base:=base) (t:=42) (h:=h1) (cs:=termV k n s a2 l.length) (by omega) rfl
   generalize hh2 : h1++[some (⟨termV k n s a2 l.length,42⟩ : Blk)] = h2 at o2 k2 q2
   have o1':=o1.keepN k2
   have k02 : KB NoB h h2:=KB.trans k1 k2 (fun _ _ h=>h) (fun _ _ h=>h)
   obtain ⟨h3,e3,k3⟩:=eqTermS_run (base:=base) (eqTerm_run f) (by omega) (hts.keep k02 fun _ _ h=>h) (hts2.keep k02 fun _ _ h=>h) (by omega)
   refine ⟨h3,Am.r18 (lets fun h1' eh=>?_),KB.trans k02 k3 (fun _ _ h=>h) (fun _ _ h=>h)⟩
   rw [hh1] at eh
   subst eh
   refine lets fun h2' eh=>?_
   rw [hh2] at eh
   subst eh
   refine bI (o1'.at0 (i:=0) rfl) (bI (o2.at0 (i:=0) rfl) (ifF (by simp) ?_))
   refine bI (o1'.at0 (i:=1) rfl) (bI (o2.at0 (i:=1) rfl) (ifF (by simp) ?_))
   refine bT (o1'.at0 (i:=2) rfl) (bT (o2.at0 (i:=2) rfl) (ifF (by simp) ?_))
   refine bS (o1'.at0 (i:=3) rfl) (bS (o2.at0 (i:=3) rfl) ?_)
   exact bs e3 (bB rfl (ifF (by decide) rfl))
def mtL : Nat→Int→ByteArray→ByteArray
 | 0,_,o=>o
 | d + 1,k,o=>if k > 0 then mtL d (Int.tdiv k 10) (bstr [IntKind.wrap .u8 (IntKind.wrap .i64 (48 + Int.tmod k 10))]++o) else o
def mt (k : Int) : ByteArray:=if k≤0 then ⟨#[109,48]⟩ else ⟨#[109]⟩++mtL 63 k ⟨#[]⟩
theorem bstr1 (n : Int) : (bstr [n]).size = 1:=rfl
theorem mtL_size : ∀ (d : Nat) (k : Int) (o : ByteArray),(mtL d k o).size≤o.size + d
 | 0,k,o=>by simp [mtL]
 | d + 1,k,o=>by
  rw [mtL]
  split
  ·have:=mtL_size d (Int.tdiv k 10) (bstr [IntKind.wrap .u8 (IntKind.wrap .i64 (48 + Int.tmod k 10))]++o)
   rw [ByteArray.size_append,bstr1] at this
   omega
  ·omega
theorem mt_size (k : Int) : (mt k).size≤64:=by
 unfold mt
 split
 ·decide
 ·have:=mtL_size 63 k ⟨#[]⟩
  rw [ByteArray.size_append]
  have h1 : (⟨#[109]⟩ : ByteArray).size = 1:=rfl
  have h2 : (⟨#[]⟩ : ByteArray).size = 0:=rfl
  omega
theorem markText_loop {base : Nat} : ∀ (d : Nat) (k : Int) (o : ByteArray) (h : AH),k≤9223372036854775807→k < 2 ^ d→o.size + d≤1000 →
  ∃ k' h',loopL (B100_0 base) [some (.int .i64 k),some (.string o)] h = some (2,[some (.string (mtL d k o))],h')∧KB NoB h h'∧k' = h':=by
 intro d
 induction d with
 | zero=>
  intro k o h hk hd ho
  refine ⟨_,h,?_,KB.refl _ _,rfl⟩
  refine loop_off (by decide) ?_
  rw [B100_0_eq]
  exact ifF (by simp; omega) rfl
 | succ d ih=>
  intro k o h hk hd ho
  rw [mtL]
  by_cases c : k > 0
  ·rw [if_pos c]
   have hq : Int.tdiv k 10 = k / 10:=by rw [Int.tdiv_eq_ediv_of_nonneg (by omega)]
   have h2 : k / 10 < 2 ^ d:=by
    rw [Int.pow_succ] at hd
    omega
   obtain ⟨_,h',e,kk,_⟩:=ih (Int.tdiv k 10) (bstr [IntKind.wrap .u8 (IntKind.wrap .i64 (48 + Int.tmod k 10))]++o) (h++[some ⟨[.int .u8 (IntKind.wrap .u8 (IntKind.wrap .i64 (48 + Int.tmod k 10)))],5⟩]) (by omega) (by rw [hq]; exact h2) (by rw [ByteArray.size_append,bstr1]; omega)
   refine ⟨_,h',?_,KB.trans (KB.push NoB _ _) kk (fun _ _ h=>h) (fun _ _ h=>h),rfl⟩
   refine loop_on ?_ e
   rw [B100_0_eq]
   refine ifT (decide_eq_true c) (lets fun y ey=>?_)
   subst ey
   refine bs (v:=[IntKind.wrap .u8 (IntKind.wrap .i64 (48 + Int.tmod k 10))]) ?_ ?_
   ·have:=raw_new (h:=h) (t:=5) (cs:=[.int .u8 (IntKind.wrap .u8 (IntKind.wrap .i64 (48 + Int.tmod k 10)))]) rfl (by simp)
    exact bs this rfl
   ·refine ifT (by rw [bstr1]; omega) ?_
    rw [w64i (n:=Int.tdiv k 10) (by omega) (by omega)]
  ·rw [if_neg c]
   refine ⟨_,h,?_,KB.refl _ _,rfl⟩
   refine loop_off (by decide) ?_
   rw [B100_0_eq]
   exact ifF (by simp; omega) rfl
theorem markText_run {base : Nat} {h : AH} {k : Int} (hk : k≤9223372036854775807) : ∃ h',run (Et base) 100 [.int .i64 k] h = some (.string (mt k),h')∧KB NoB h h':=by
 unfold mt
 by_cases c : k≤0
 ·rw [if_pos c]
  exact ⟨h,Am.r100 (ifT (decide_eq_true c) rfl),KB.refl _ _⟩
 ·rw [if_neg c]
  obtain ⟨_,h',e,kk,_⟩:=markText_loop (base:=base) 63 k ⟨#[]⟩ h hk (by omega) (by decide)
  refine ⟨h',Am.r100 (ifF (by simpa using c) (bs e (ifT rfl (bT rfl (ifT ?_ rfl))))),kk⟩
  have:=mtL_size 63 k ⟨#[]⟩
  have h1 : (⟨#[109]⟩ : ByteArray).size = 1:=rfl
  have h2 : (⟨#[]⟩ : ByteArray).size = 0:=rfl
  omega
inductive IsM : List Tm→Int→Int→Prop
 | nil (k : Int) : IsM [] k k
 | cons {k k1 k2 : Int} {l r : List Tm} : IsM l (k + 3) k1→IsM r k1 k2→IsM (.mk k (k + 1) (mt (k + 2)) l :: r) k k2
theorem IsM.le {l : List Tm} {k k' : Int} (x : IsM l k k') : k≤k':=by
 induction x with
 | nil=>exact Int.le_refl _
 | cons _ _ ih1 ih2=>omega
def MarkS (base f : Nat) : Prop:=∀ (l : List Tm) (h : AH) (S : Fp) (a : Option Addr) (k : Int),RowD 4 (TmD f) S h l a→l.length≤maxLen→(∀ b,S b→base≤b∧b < h.length)→0≤k→k + 3 * ((l.length + sumL (tcnt f) l : Nat) : Int)≤1000000000 →
 ∃ l' h',run (Et base) 74 [.slice a l.length l.length,.int .i64 k] h = some (.int .i64 (k + 3 * ((l.length + sumL (tcnt f) l : Nat) : Int)),h')∧RowD 4 (TmD f) S h' l' a∧l'.length = l.length∧IsM l' k (k + 3 * ((l.length + sumL (tcnt f) l : Nat) : Int))∧KB S h h'
theorem set_split {α : Type} {l r : List α} {x y : α} : (l++x :: r).set l.length y = l++y :: r:=by simp
theorem get_split {α : Type} {l r : List α} {x : α} (hi : l.length < (l++x :: r).length) : (l++x :: r)[l.length] = x:=by simp
theorem markTermS_loop {base f : Nat} (ih : ∀ f',f = f' + 1→MarkS base f') {n : Nat} (hn : n≤maxLen) {S : Fp} {a : Option Addr} : ∀ (r done : List Tm) (h : AH) (k : Int),done.length + r.length = n→RowD 4 (TmD f) S h (done++r) a→(∀ b,S b→base≤b∧b < h.length)→0≤k→k + 3 * ((r.length + sumL (tcnt f) r : Nat) : Int)≤1000000000 →
  ∃ r' h',loopL (B74_0 base) [some (.slice a n n),some (.int .i64 k),some (.int .i64 (done.length : Int))] h = some (2,[some (.int .i64 (k + 3 * ((r.length + sumL (tcnt f) r : Nat) : Int)))],h')∧RowD 4 (TmD f) S h' (done++r') a∧r'.length = r.length∧IsM r' k (k + 3 * ((r.length + sumL (tcnt f) r : Nat) : Int))∧KB S h h':=by
 simp only [maxLen] at hn
 intro r
 induction r with
 | nil=>
  intro done h k hd hr hS h0 hk
  refine ⟨[],h,?_,hr,rfl,?_,KB.refl _ _⟩
  ·refine loop_off (by decide) ?_
   rw [B74_0_eq]
   refine ifF (by simp at hd ⊢; omega) ?_
   simp [sumL]
  ·simp only [sumL,List.length_nil]
   have : k + 3 * ((0 + 0 : Nat) : Int) = k:=by omega
   rw [this]
   exact .nil k
 | cons t r ihr=>
  intro done h k hd hr hS h0 hk
  simp only [List.length_cons] at hd
  have hlt : done.length < (done++t :: r).length:=by simp
  obtain ⟨Ci,cs,fo,hP,hcl,hsub,hdis⟩:=hr.open (by decide) hlt
  rw [get_split hlt] at hP
  cases f with
  | zero=>exact hP.elim
  | succ f=>
   obtain ⟨kk,nn,ss,l⟩:=t
   obtain ⟨hs1,hl1,a2,ecs,hrow⟩:=hP
   subst ecs
   have hcnt : ((r.length + 1 + sumL (tcnt (f + 1)) (.mk kk nn ss l :: r) : Nat) : Int) = 1 + ((l.length + sumL (tcnt f) l : Nat) : Int) + ((r.length + sumL (tcnt (f + 1)) r : Nat) : Int):=by
    simp only [sumL,tcnt]; omega
   simp only [List.length_cons] at hk ⊢
   rw [hcnt] at hk ⊢
   have hbS : ∀ b,S b→base≤b:=fun b hb=>(hS b hb).1
   obtain ⟨ad,h1,rfl,w1,fo1,k1,n1⟩:=fo.wr (TmD.kp _) hbS (j:=0) (new:=[.int .i64 k]) (by simp) (by simp)
   obtain ⟨ad',h2,ead,w2,fo2,k2,n2⟩:=fo1.wr (TmD.kp _) hbS (j:=1) (new:=[.int .i64 (k + 1)]) (by simp) (by simp)
   injection ead with ead
   subst ead
   obtain ⟨h3,e3,k3⟩:=markText_run (base:=base) (h:=h2) (k:=k + 1 + 1) (by omega)
   have n3:=k3.1
   have fo3:=fo2.keep (TmD.kp _) k3 fun _ _ h=>h.elim
   obtain ⟨ad',h4,ead,w4,fo4,k4,n4⟩:=fo3.wr (TmD.kp _) hbS (j:=2) (new:=[.string (mt (k + 1 + 1))]) (by simp) (by simp)
   injection ead with ead
   subst ead
   have ecs : setAt (setAt (setAt (termV kk nn ss a2 l.length) 0 [.int .i64 k]) 1 [.int .i64 (k + 1)]) 2 [.string (mt (k + 1 + 1))] = termV k (k + 1) (mt (k + 1 + 1)) a2 l.length:=rfl
   rw [ecs] at fo4
   obtain ⟨ad',ead,g4⟩:=fo4.cell (j:=3) (v:=.slice a2 l.length l.length) rfl
   injection ead with ead
   subst ead
   have kA : KB (blk (some ad)) h h4:=KB.trans (KB.trans (KB.trans k1 k2 (fun _ _ h=>h) (fun _ _ h=>h)) k3 (fun _ _ h=>h) (fun _ _ h=>h.elim)) k4 (fun _ _ h=>h) (fun _ _ h=>h)
   have hrow4 : RowD 4 (TmD f) Ci h4 l a2:=hrow.keep (TmD.kp _) kA fun b hb hk=>hdis b hk hb
   obtain ⟨l',h5,e5,row5,len5,m5,k5⟩:=ih f rfl l h4 Ci a2 (k + 1 + 1 + 1) hrow4 hl1 (fun b hb=>⟨(hS b (hsub b hb)).1,by have:=(hS b (hsub b hb)).2; have:=kA.1; omega⟩) (by omega) (by omega)
   have fo5:=fo4.keep (TmD.kp _) k5 fun b _ hb=>hb
   have hr5:=fo5.close (y:=.mk k (k + 1) (mt (k + 1 + 1)) l') ⟨by have:=mt_size (k + 1 + 1); simp only [maxLen]; omega,by rw [len5]; exact hl1,a2,by rw [len5],row5⟩
   rw [set_split,show done++Tm.mk k (k + 1) (mt (k + 1 + 1)) l' :: r = (done++[Tm.mk k (k + 1) (mt (k + 1 + 1)) l'])++r from by simp] at hr5
   have kB : KB S h h5:=KB.trans kA k5 (fun b _ hb=>by
    obtain ⟨vs,T,C,_,_,x3,_⟩:=fo
    exact (x3 b hb).1) (fun b _ hb=>hsub b hb)
   obtain ⟨r',h6,e6,row6,len6,m6,k6⟩:=ihr (done++[.mk k (k + 1) (mt (k + 1 + 1)) l']) h5 (k + 1 + 1 + 1 + 3 * ((l.length + sumL (tcnt f) l : Nat) : Int)) (by simp; omega) hr5 (fun b hb=>⟨(hS b hb).1,by have:=(hS b hb).2; have:=kB.1; omega⟩) (by omega) (by omega)
   have ek : k + 1 + 1 + 1 + 3 * ((l.length + sumL (tcnt f) l : Nat) : Int) + 3 * ((r.length + sumL (tcnt (f + 1)) r : Nat) : Int) = k + 3 * (1 + ((l.length + sumL (tcnt f) l : Nat) : Int) + ((r.length + sumL (tcnt (f + 1)) r : Nat) : Int)):=by omega
   rw [ek] at e6 m6
   refine ⟨.mk k (k + 1) (mt (k + 1 + 1)) l' :: r',h6,?_,by simpa using row6,by simp [len6],?_,KB.trans kB k6 (fun _ _ h=>h) (fun _ _ h=>h)⟩
   ·refine loop_on ?_ e6
    rw [B74_0_eq]
    have hlt' : (done.length : Int) < (n : Int):=by omega
    refine ifT (decide_eq_true hlt') (ifT ⟨by omega,hlt'⟩ (bs rfl ?_))
    simp only [Int.toNat_natCast]
    refine bs w1 (ifT ⟨by omega,hlt'⟩ (bs rfl ?_))
    rw [w64i (n:=k + 1) (by omega) (by omega)]
    refine bs w2 ?_
    rw [w64i (n:=k + 1 + 1) (by omega) (by omega)]
    refine bs e3 (bT rfl (ifT ⟨by omega,hlt'⟩ (bs rfl (bs w4 (ifT ⟨by omega,hlt'⟩ (bs rfl (bS g4 ?_)))))))
    rw [w64i (n:=k + 1 + 1 + 1) (by omega) (by omega)]
    refine bs e5 (bI rfl ?_)
    rw [w64i (n:=(done.length : Int) + 1) (by omega) (by omega)]
    simp
   ·have e1 : k + 1 + 1 = k + 2:=by omega
    rw [e1] at m5 ⊢
    rw [show k + 2 + 1 = k + 3 from by omega] at m5
    rw [show k + 1 + 1 + 1 = k + 3 from by omega] at m6
    exact .cons m5 m6
theorem markTermS_run {base : Nat} : ∀ f,MarkS base f
 | 0=>fun l h S a k hr hl hS h0 hk=>by
  obtain ⟨l',h',e,row,len,m,kk⟩:=markTermS_loop (base:=base) (f:=0) (fun f' e=>by omega) (n:=l.length) hl l [] h k (by simp) (by simpa using hr) hS h0 hk
  exact ⟨l',h',Am.r74 (bs e (ifT rfl (bI rfl rfl))),by simpa using row,len,m,kk⟩
 | f + 1=>fun l h S a k hr hl hS h0 hk=>by
  obtain ⟨l',h',e,row,len,m,kk⟩:=markTermS_loop (base:=base) (f:=f + 1) (fun f' e=>by injection e with e; subst e; exact markTermS_run f) (n:=l.length) hl l [] h k (by simp) (by simpa using hr) hS h0 hk
  exact ⟨l',h',Am.r74 (bs e (ifT rfl (bI rfl rfl))),by simpa using row,len,m,kk⟩
theorem heldTermS_loop {base : Nat} : ∀ {r : List Tm} {k k' : Int},IsM r k k'→0≤k→k'≤1000000000→∀ (f : Nat) (h : AH) (p : Nat→Prop) (L : List Tm) (i : Nat) (a : Option Addr),L.drop i = r→i≤L.length→L.length≤9223372036854775807→TsR h p f L a→base≤h.length →
  ∃ h',loopL (B129_0 base) [some (.slice a L.length L.length),some (.int .i64 k),some (.int .i64 (i : Int))] h = some (2,[some (.int .i64 k')],h')∧KB NoB h h':=by
 intro r k k' hm
 induction hm with
 | nil k=>
  intro h0 hk f h p L i a hr hi hL hs hb
  refine ⟨h,?_,KB.refl _ _⟩
  refine loop_off (by decide) ?_
  rw [B129_0_eq]
  have : L.length≤i:=by simpa using hr
  exact ifF (by simp; omega) rfl
 | @cons k k1 k2 l r m1 m2 ih1 ih2=>
  intro h0 hk f h p L i a hr hi hL hs hb
  have le1:=m1.le
  have le2:=m2.le
  have hlt : i < L.length:=by
   rcases Nat.lt_or_ge i L.length with h|h
   ·exact h
   ·rw [List.drop_eq_nil_of_le h] at hr; cases hr
  rw [List.drop_eq_getElem_cons hlt] at hr
  injection hr with hr1 hr2
  obtain ⟨ad,c0,c1,c2,c3,rfl,g0,g1,g2,g3,hmm⟩:=hs.get hlt
  rw [hr1] at hmm
  cases f with
  | zero=>exact hmm.elim
  | succ f=>
   obtain ⟨a2,ecs,hts,_,hl2⟩:=hmm.parts
   simp only [maxLen] at hl2
   injection ecs with q0 ecs
   injection ecs with q1 ecs
   injection ecs with q2 ecs
   injection ecs with q3 _
   subst q0; subst q1; subst q2; subst q3
   obtain ⟨h1,e1,kk1⟩:=markText_run (base:=base) (h:=h) (k:=k + 1 + 1) (by omega)
   have n1:=kk1.1
   obtain ⟨h2,e2,kk2⟩:=ih1 (by omega) (by omega) f h1 p l 0 a2 (by simp) (by omega) (by omega) (hts.keep kk1 fun _ _ h=>h) (by omega)
   have kk02 : KB NoB h h2:=KB.trans kk1 kk2 (fun _ _ h=>h) (fun _ _ h=>h)
   have n2:=kk02.1
   obtain ⟨h3,e3,kk3⟩:=ih2 (by omega) hk (f + 1) h2 p L (i + 1) (some ad) hr2 (by omega) hL (hs.keep kk02 fun _ _ h=>h) (by omega)
   refine ⟨h3,?_,KB.trans kk02 kk3 (fun _ _ h=>h) (fun _ _ h=>h)⟩
   refine loop_on ?_ e3
   rw [B129_0_eq]
   have hlt' : (i : Int) < (L.length : Int):=by omega
   refine ifT (decide_eq_true hlt') (ifT ⟨by omega,hlt'⟩ (bs rfl ?_))
   simp only [Int.toNat_natCast]
   refine bI g0 (ifF (by simp) (ifT ⟨by omega,hlt'⟩ (bs rfl (bI g1 ?_))))
   rw [w64i (n:=k + 1) (by omega) (by omega)]
   refine ifF (by simp) (ifT ⟨by omega,hlt'⟩ (bs rfl (bT g2 ?_)))
   rw [w64i (n:=k + 1 + 1) (by omega) (by omega)]
   refine bs e1 (bT rfl ?_)
   have hbl : ad.block < h.length:=by
    have:=g2
    unfold Am.cell at this
    cases hg : hget h ad.block with
    | none=>rw [hg] at this; cases this
    | some b=>exact hget_lt hg
   rw [gate_pos (by
    intro x hx
    injection hx with hx
    subst hx
    have e:=kk1.2 ad.block hbl (fun h=>h)
    exact ⟨fun j _=>by unfold Am.cell; rw [e],by rw [e]⟩)]
   refine ifF (by rw [show k + 1 + 1 = k + 2 from by omega]; simp) (ifT ⟨by omega,hlt'⟩ (bs rfl ?_))
   have g3' : Am.cell h1 ad.block (ad.off + i * 4 + 3) = some (.slice a2 l.length l.length):=by
    rw [← g3,show ad.off + i * 4 + 1 + 1 + 1 = ad.off + i * 4 + 3 from by omega]
    unfold Am.cell
    rw [kk1.2 ad.block hbl (fun h=>h)]
   refine bS g3' ?_
   rw [w64i (n:=k + 1 + 1 + 1) (by omega) (by omega),show k + 1 + 1 + 1 = k + 3 from by omega]
   rw [show ((0 : Nat) : Int) = 0 from rfl] at e2
   refine bs (v:=(.int .i64 k1,h2)) (Am.r129 (bs e2 (ifF (by simp) (ifT rfl (bI rfl rfl))))) (bI rfl ?_)
   refine ifF (by simp; omega) ?_
   rw [w64i (n:=(i : Int) + 1) (by omega) (by omega)]
   simp
theorem heldTermS_run {base f : Nat} {l : List Tm} {k k' : Int} (m : IsM l k k') (h0 : 0≤k) (hk : k'≤1000000000) {h : AH} {p : Nat→Prop} {a : Option Addr} (hl : l.length≤9223372036854775807) (hs : TsR h p f l a) (hb : base≤h.length) :
  ∃ h',run (Et base) 129 [.slice a l.length l.length,.int .i64 k] h = some (.int .i64 k',h')∧KB NoB h h':=by
 obtain ⟨h',e,kk⟩:=heldTermS_loop (base:=base) m h0 hk f h p l 0 a (by simp) (by omega) hl hs hb
 rw [show ((0 : Nat) : Int) = 0 from rfl] at e
 exact ⟨h',Am.r129 (bs e (ifF (by simp) (ifT rfl (bI rfl rfl)))),kk⟩
theorem toIntS_loop {base : Nat} {a0 : Option Addr} {zs : List Int} (hn : zs.length≤140737488355328) {a : Option Addr} : ∀ (d i : Nat) (h : AH),i + d = zs.length→Sl h a0 (iv .i64 zs)→(∀ b,blk a0 b→¬ blk a b)→∀ rest : List Int,rest.length = d→Own base 3 h a (iv .i64 (zs.take i++rest)) →
  ∃ h',loopL (B33_0 base) [some (.slice a0 zs.length zs.length),some (.slice a zs.length zs.length),some (.int .i64 (i : Int))] h = some (2,[some (.slice a zs.length zs.length)],h')∧Own base 3 h' a (iv .i64 zs)∧KB (blk a) h h':=by
 intro d
 induction d with
 | zero=>
  intro i h hi hs hb rest hr ho
  have e : zs.take i++rest = zs:=by
   rw [List.eq_nil_of_length_eq_zero hr,List.append_nil,List.take_of_length_le (by omega)]
  rw [e] at ho
  refine ⟨h,?_,ho,KB.refl _ _⟩
  rw [loopL_eq,B33_0_eq]
  have : ¬ ((i : Int) < (zs.length : Int)):=by omega
  simp [this]
 | succ d ih=>
  intro i h hi hs hb rest hr ho
  have hlt : i < zs.length:=by omega
  obtain ⟨ad,h1,h2⟩:=hs.int hlt
  match rest,hr with
  | z :: rest,hr=>
   obtain ⟨ad2,h',g1,g2,g3,g4,g5⟩:=ho.wr (i:=i) (new:=[.int .i64 zs[i]]) (by simp; omega) (by simp)
   have e : setAt (iv .i64 (zs.take i++z :: rest)) i [.int .i64 zs[i]] = iv .i64 (zs.take (i + 1)++rest):=by
    have ht : (zs.take i).length = i:=by simp; omega
    have e1 : (iv .i64 (zs.take i)).length = i:=by simp; omega
    rw [← iv_append]
    simp only [setAt,List.length_singleton]
    have e2 : (iv .i64 (zs.take i)++iv .i64 (z :: rest)).take i = iv .i64 (zs.take i):=by
     rw [List.take_append_of_le_length (by omega),List.take_of_length_le (by omega)]
    have e3 : (iv .i64 (zs.take i)++iv .i64 (z :: rest)).drop (i + 1) = iv .i64 rest:=by
     rw [List.drop_append,e1]
     have : i + 1 - i = 1:=by omega
     rw [this]
     simp [iv]
     omega
    rw [e2,e3,List.take_succ_eq_append_getElem hlt]
    simp only [iv,List.map_append,List.map_cons,List.map_nil]
   rw [e] at g3
   obtain ⟨h'',k1,k2,k3⟩:=ih (i + 1) h' (by omega) (hs.keep g4 hb) hb rest (by simpa using hr) g3
   refine ⟨h'',?_,k2,KB.trans g4 k3 (fun _ _ h=>h) (fun _ _ h=>h)⟩
   rw [loopL_eq,B33_0_eq]
   have c1 : ((i : Int) < (zs.length : Int)):=by omega
   subst h1; subst g1
   rw [w64i (by omega) (by omega)]
   have hc : (((i : Int) + 1 : Int)) = ((i + 1 : Nat) : Int):=by omega
   simp only [c1,decide_true,if_true,Option.bind_some,Int.toNat_natCast,Nat.mul_one,h2,g2,hc]
   rw [if_pos ⟨by omega,trivial⟩,if_pos ⟨by omega,trivial⟩]
   simp only [Option.bind_some,if_true]
   exact k1
theorem toIntS_run {base : Nat} {h : AH} {a0 : Option Addr} {zs : List Int} (hs : Sl h a0 (iv .i64 zs)) (hn : zs.length≤1048576) (hb : base≤h.length) :
  ∃ a h',run (Et base) 33 [.slice a0 zs.length zs.length] h = some (.slice a zs.length zs.length,h')∧Own base 3 h' a (iv .i64 zs)∧KB NoB h h'∧∀ b,blk a b→h.length≤b:=by
 have hrep : ∀ n,rep [Value.int .i64 0] n = iv .i64 (List.replicate n 0):=by
  intro n
  induction n with
  | zero=>rfl
  | succ n ih=>simp only [rep,ih]; rfl
 have hown:=Own.new base 3 h (rep [Value.int .i64 0] zs.length) hb
 rw [hrep] at hown
 have hk : KB NoB h (h++[some ⟨rep [Value.int .i64 0] zs.length,3⟩]):=KB.push _ _ _
 have hsep : ∀ b,blk a0 b→zs = []∨¬ blk (some (⟨h.length,0,none⟩ : Addr)) b:=by
  intro b hb'
  rcases hs with e|⟨ad,k,h1,h2,_⟩
  ·left
   have:=congrArg List.length e
   simp at this
   exact this
  ·right
   rw [blk_new]
   obtain ⟨ad',e1,e2⟩:=hb'
   rw [h1] at e1
   injection e1 with e1
   subst e1; subst e2
   have:=hget_lt h2
   omega
 have main : ∃ h',loopL (B33_0 base) [some (.slice a0 zs.length zs.length),some (.slice (some ⟨h.length,0,none⟩) zs.length zs.length),some (.int .i64 ((0 : Nat) : Int))] (h++[some ⟨rep [Value.int .i64 0] zs.length,3⟩]) = some (2,[some (.slice (some ⟨h.length,0,none⟩) zs.length zs.length)],h')∧Own base 3 h' (some ⟨h.length,0,none⟩) (iv .i64 zs)∧KB (blk (some (⟨h.length,0,none⟩ : Addr))) (h++[some ⟨rep [Value.int .i64 0] zs.length,3⟩]) h':=by
  by_cases hz : zs = []
  ·subst hz
   refine ⟨_,?_,by simpa [hrep] using hown,KB.refl _ _⟩
   rw [loopL_eq,B33_0_eq]
   simp
  ·exact toIntS_loop (by omega) zs.length 0 _ (by omega) (hs.keep hk fun _ _ h=>h.elim) (fun b hb'=>(hsep b hb').resolve_left hz) (List.replicate zs.length 0) (by simp) (by simpa [hrep] using hown)
 obtain ⟨h',m1,m2,m3⟩:=main
 refine ⟨some ⟨h.length,0,none⟩,h',Am.r33 ?_,m2,KB.trans hk m3 (fun _ _ h=>h) (fun i hi h=>by rw [blk_new] at h; omega),fun b hb'=>by rw [blk_new] at hb'; omega⟩
 rw [if_pos ⟨rfl,by omega,by omega,by omega⟩]
 simp only [Int.toNat_natCast,Option.bind_some]
 rw [show ((0 : Nat) : Int) = 0 from rfl] at m1
 rw [m1]
 simp [sget,getS]
theorem eqIntS_loop {base : Nat} {h : AH} {a b : Option Addr} {xs ys : List Int} (hx : Sl h a (iv .i64 xs)) (hy : Sl h b (iv .i64 ys)) (hl : xs.length = ys.length) (hn : xs.length≤140737488355328) : ∀ (d i : Nat),i + d = xs.length→xs.take i = ys.take i →
  loopL (B37_0 base) [some (.slice a xs.length xs.length),some (.slice b ys.length ys.length),some (.int .i64 (i : Int))] h = if xs = ys then some (2,[],h) else some (1,[some (.bool false)],h):=by
 intro d
 induction d with
 | zero=>
  intro i hi he
  rw [List.take_of_length_le (by omega),List.take_of_length_le (by omega)] at he
  rw [if_pos he,loopL_eq,B37_0_eq]
  have : ¬ ((i : Int) < (xs.length : Int)):=by omega
  simp [this]
 | succ d ih=>
  intro i hi he
  have hlt : i < xs.length:=by omega
  have hlt2 : i < ys.length:=by omega
  obtain ⟨ad,h1,h2⟩:=hx.int hlt
  obtain ⟨ad2,h3,h4⟩:=hy.int hlt2
  rw [loopL_eq,B37_0_eq]
  have c1 : ((i : Int) < (xs.length : Int)):=by omega
  have c2 : ((i : Int) < (ys.length : Int)):=by omega
  subst h1; subst h3
  rw [w64i (by omega) (by omega)]
  have hc : (((i : Int) + 1 : Int)) = ((i + 1 : Nat) : Int):=by omega
  simp only [c1,c2,decide_true,if_true,Option.bind_some,Int.toNat_natCast,Nat.mul_one,h2,h4,hc]
  rw [if_pos ⟨by omega,trivial⟩,if_pos ⟨by omega,trivial⟩]
  by_cases hq : xs[i] = ys[i]
  ·have : (xs[i] != ys[i]) = false:=by simp [hq]
   rw [this]
   simp only [Bool.false_eq_true,if_false,Option.bind_some,if_true]
   exact ih (i + 1) (by omega) (by rw [List.take_succ_eq_append_getElem hlt,List.take_succ_eq_append_getElem hlt2,he,hq])
  ·have hne : ¬ xs = ys:=fun e=>hq (by subst e; rfl)
   have : (xs[i] != ys[i]) = true:=by simp [hq]
   rw [this,if_neg hne]
   simp
theorem eqIntS_run {base : Nat} {h : AH} {a b : Option Addr} {xs ys : List Int} (hx : Sl h a (iv .i64 xs)) (hy : Sl h b (iv .i64 ys)) (hn : xs.length≤140737488355328) :
  run (Et base) 37 [.slice a xs.length xs.length,.slice b ys.length ys.length] h = some (.bool (decide (xs = ys)),h):=by
 refine Am.r37 ?_
 by_cases hl : xs.length = ys.length
 ·have : (((xs.length : Nat) : Int) != ((ys.length : Nat) : Int)) = false:=by simp [hl]
  rw [this]
  simp only [Bool.false_eq_true,if_false]
  have hm:=eqIntS_loop (base:=base) hx hy hl hn xs.length 0 (by omega) (by simp)
  rw [show ((0 : Nat) : Int) = 0 from rfl] at hm
  rw [hm]
  by_cases he : xs = ys
  ·simp [he]
  ·simp [he,sget,getB]
 ·have : (((xs.length : Nat) : Int) != ((ys.length : Nat) : Int)) = true:=by simp; omega
  rw [this]
  have hne : ¬ xs = ys:=fun e=>hl (by rw [e])
  simp [hne]
def marksI (k n : Nat) : List Int:=(List.range n).map fun i=>((k + i : Nat) : Int)
@[simp] theorem marksI_length (k n : Nat) : (marksI k n).length = n:=by simp [marksI]
theorem marksI_get {k n i : Nat} (h : i < n) : (marksI k n)[i]'(by simpa using h) = ((k + i : Nat) : Int):=by simp [marksI]
theorem markIntS_loop {base : Nat} {a : Option Addr} {n k : Nat} (hn : n≤140737488355328) (hk : k≤140737488355328) : ∀ (d i : Nat) (h : AH),i + d = n→∀ rest : List Int,rest.length = d→Own base 3 h a (iv .i64 (marksI k i++rest)) →
  ∃ h',loopL (B42_0 base) [some (.slice a n n),some (.int .i64 ((k + i : Nat) : Int)),some (.int .i64 (i : Int))] h = some (2,[some (.int .i64 ((k + n : Nat) : Int))],h')∧Own base 3 h' a (iv .i64 (marksI k n))∧KB (blk a) h h':=by
 intro d
 induction d with
 | zero=>
  intro i h hi rest hr ho
  have e : i = n:=by omega
  subst e
  rw [List.eq_nil_of_length_eq_zero hr,List.append_nil] at ho
  refine ⟨h,?_,ho,KB.refl _ _⟩
  rw [loopL_eq,B42_0_eq]
  simp
 | succ d ih=>
  intro i h hi rest hr ho
  match rest,hr with
  | z :: rest,hr=>
   obtain ⟨ad2,h',g1,g2,g3,g4,g5⟩:=ho.wr (i:=i) (new:=[.int .i64 (((k + i : Nat) : Int))]) (by simp) (by simp)
   have e : setAt (iv .i64 (marksI k i++z :: rest)) i [.int .i64 (((k + i : Nat) : Int))] = iv .i64 (marksI k (i + 1)++rest):=by
    have e1 : (iv .i64 (marksI k i)).length = i:=by simp
    rw [← iv_append]
    simp only [setAt,List.length_singleton]
    have e2 : (iv .i64 (marksI k i)++iv .i64 (z :: rest)).take i = iv .i64 (marksI k i):=by
     rw [List.take_append_of_le_length (by omega),List.take_of_length_le (by omega)]
    have e3 : (iv .i64 (marksI k i)++iv .i64 (z :: rest)).drop (i + 1) = iv .i64 rest:=by
     rw [List.drop_append,e1]
     have : i + 1 - i = 1:=by omega
     rw [this]
     simp [iv]
    rw [e2,e3]
    simp [iv,marksI,List.range_succ]
   rw [e] at g3
   obtain ⟨h'',k1,k2,k3⟩:=ih (i + 1) h' (by omega) rest (by simpa using hr) g3
   refine ⟨h'',?_,k2,KB.trans g4 k3 (fun _ _ h=>h) (fun _ _ h=>h)⟩
   rw [loopL_eq,B42_0_eq]
   have c1 : ((i : Int) < (n : Int)):=by omega
   subst g1
   rw [w64i (n:=((k + i : Nat) : Int) + 1) (by omega) (by omega),w64i (n:=(i : Int) + 1) (by omega) (by omega)]
   have hc : (((i : Int) + 1 : Int)) = ((i + 1 : Nat) : Int):=by omega
   have hc2 : ((k + i : Nat) : Int) + 1 = ((k + (i + 1) : Nat) : Int):=by omega
   rw [hc,hc2]
   simp only [c1,decide_true,if_true,Option.bind_some,Int.toNat_natCast,Nat.mul_one,g2]
   rw [if_pos ⟨by omega,trivial⟩]
   simp only [Option.bind_some,if_true]
   exact k1
theorem markIntS_run {base : Nat} {h : AH} {a : Option Addr} {xs : List Int} {k : Nat} (ho : Own base 3 h a (iv .i64 xs)) (hn : xs.length≤140737488355328) (hk : k≤140737488355328) :
  ∃ h',run (Et base) 42 [.slice a xs.length xs.length,.int .i64 (k : Int)] h = some (.int .i64 ((k + xs.length : Nat) : Int),h')∧Own base 3 h' a (iv .i64 (marksI k xs.length))∧KB (blk a) h h':=by
 obtain ⟨h',m1,m2,m3⟩:=markIntS_loop (base:=base) (a:=a) (k:=k) hn hk xs.length 0 h (by omega) xs rfl (by simpa [marksI] using ho)
 refine ⟨h',Am.r42 ?_,m2,m3⟩
 have e : ((k + 0 : Nat) : Int) = (k : Int):=by omega
 rw [e] at m1
 rw [show ((0 : Nat) : Int) = 0 from rfl] at m1
 rw [m1]
 simp [sget,getI]
theorem heldIntS_loop {base : Nat} {h : AH} {a : Option Addr} {k : Nat} {xs : List Int} (hx : Sl h a (iv .i64 xs)) (he : xs = marksI k xs.length) (hn : xs.length≤140737488355328) (hk : k≤140737488355328) : ∀ (d i : Nat),i + d = xs.length →
  loopL (B44_0 base) [some (.slice a xs.length xs.length),some (.int .i64 ((k + i : Nat) : Int)),some (.int .i64 (i : Int))] h = some (2,[some (.int .i64 ((k + xs.length : Nat) : Int))],h):=by
 intro d
 induction d with
 | zero=>
  intro i hi
  have e : i = xs.length:=by omega
  rw [loopL_eq,B44_0_eq]
  subst e
  simp
 | succ d ih=>
  intro i hi
  have hlt : i < xs.length:=by omega
  obtain ⟨ad,h1,h2⟩:=hx.int hlt
  rw [loopL_eq,B44_0_eq]
  have c1 : ((i : Int) < (xs.length : Int)):=by omega
  subst h1
  rw [w64i (n:=((k + i : Nat) : Int) + 1) (by omega) (by omega),w64i (n:=(i : Int) + 1) (by omega) (by omega)]
  have hc : (((i : Int) + 1 : Int)) = ((i + 1 : Nat) : Int):=by omega
  have hc2 : ((k + i : Nat) : Int) + 1 = ((k + (i + 1) : Nat) : Int):=by omega
  have hv : xs[i] = ((k + i : Nat) : Int):=by
   have:=marksI_get (k:=k) (n:=xs.length) hlt
   rw [← this]
   congr 1
  rw [hc,hc2]
  simp only [c1,decide_true,if_true,Option.bind_some,Int.toNat_natCast,Nat.mul_one,h2]
  rw [if_pos ⟨by omega,trivial⟩,hv]
  simp only [bne_self_eq_false,Bool.false_eq_true,if_false,Option.bind_some,if_true]
  exact ih (i + 1) (by omega)
theorem heldIntS_run {base : Nat} {h : AH} {a : Option Addr} {k n : Nat} (hx : Sl h a (iv .i64 (marksI k n))) (hn : n≤140737488355328) (hk : k≤140737488355328) :
  run (Et base) 44 [.slice a n n,.int .i64 (k : Int)] h = some (.int .i64 ((k + n : Nat) : Int),h):=by
 refine Am.r44 ?_
 have m1:=heldIntS_loop (base:=base) (k:=k) hx (by simp) (by simpa using hn) hk n 0 (by simp)
 have e : ((k + 0 : Nat) : Int) = (k : Int):=by omega
 rw [e] at m1
 simp only [marksI_length] at m1
 rw [show ((0 : Nat) : Int) = 0 from rfl] at m1
 rw [m1]
 simp [sget,getI]
structure Ac where
 pid : Int
 pc : Int
 regs : List Tm
 box : List Tm
 links : List Int
abbrev acV (p c : Int) (a : Option Addr) (n : Nat) (b : Option Addr) (m : Nat) (g : Option Addr) (q : Nat) : List Value:=[.int .i64 p,.int .i64 c,.slice a n n,.slice b m m,.slice g q q]
def Ac.Le (A : Ac) : Prop:=A.regs.length≤maxLen∧A.box.length≤maxLen∧A.links.length≤140737488355328
def AcR (h : AH) (p : Nat→Prop) (f : Nat) (A : Ac) (cs : List Value) : Prop:=
 ∃ a b g,cs = acV A.pid A.pc a A.regs.length b A.box.length g A.links.length∧TsR h p f A.regs a∧TsR h p f A.box b∧Sl h g (iv .i64 A.links)∧(A.links = []∨∀ x,blk g x→p x)
def AcD (base f : Nat) (S : Fp) (h : AH) (A : Ac) (cs : List Value) : Prop:=
 ∃ (a b g : Option Addr) (S1 S2 S3 : Fp),cs = acV A.pid A.pc a A.regs.length b A.box.length g A.links.length∧RowD 4 (TmD f) S1 h A.regs a∧RowD 4 (TmD f) S2 h A.box b∧Own base 3 h g (iv .i64 A.links)∧(∀ x,blk g x→S3 x) ∧
  (∀ x,S1 x→S x)∧(∀ x,S2 x→S x)∧(∀ x,S3 x→S x)∧(∀ x,S1 x→¬ S2 x)∧(∀ x,S1 x→¬ S3 x)∧(∀ x,S2 x→¬ S3 x)
def AcG (base f : Nat) (S : Fp) (h : AH) (A : Ac) (cs : List Value) : Prop:=
 ∃ (a b g : Option Addr) (S1 S2 S3 : Fp),cs = acV A.pid A.pc a A.regs.length b A.box.length g A.links.length∧RowO base 42 4 (TmG base f) S1 h A.regs a∧RowO base 42 4 (TmG base f) S2 h A.box b∧Own base 3 h g (iv .i64 A.links)∧(∀ x,blk g x→S3 x) ∧
  (∀ x,S1 x→S x)∧(∀ x,S2 x→S x)∧(∀ x,S3 x→S x)∧(∀ x,S1 x→¬ S2 x)∧(∀ x,S1 x→¬ S3 x)∧(∀ x,S2 x→¬ S3 x)
theorem AcG.acD {base f : Nat} {S : Fp} {h : AH} {A : Ac} {cs : List Value} (x : AcG base f S h A cs) : AcD base f S h A cs:=by
 obtain ⟨a,b,g,S1,S2,S3,e,h1,h2,h3⟩:=x
 exact ⟨a,b,g,S1,S2,S3,e,h1.dT,h2.dT,h3⟩
theorem AcG.kp (base f : Nat) : Kp (AcG base f):=fun S U h h' A cs k hs x=>by
 obtain ⟨a,b,g,S1,S2,S3,e,h1,h2,h3,h4,s1,s2,s3,d1,d2,d3⟩:=x
 exact ⟨a,b,g,S1,S2,S3,e,h1.keep (TmG.kp _ _) k fun b hb=>hs b (s1 b hb),h2.keep (TmG.kp _ _) k fun b hb=>hs b (s2 b hb),h3.keep k fun b hb=>hs b (s3 b (h4 b hb)),h4,s1,s2,s3,d1,d2,d3⟩
theorem AcR.keep {h h' : AH} {p S : Nat→Prop} (k : KB S h h') (hp : ∀ b,p b→¬ S b) {f : Nat} {A : Ac} {cs : List Value} (x : AcR h p f A cs) : AcR h' p f A cs:=by
 obtain ⟨a,b,g,e,h1,h2,h3,h4⟩:=x
 refine ⟨a,b,g,e,h1.keep k hp,h2.keep k hp,?_,h4⟩
 rcases h4 with e|h4
 ·exact .inl (by rw [e]; rfl)
 ·exact h3.keep k fun b hb hs=>hp b (h4 b hb) hs
theorem AcD.kp (base f : Nat) : Kp (AcD base f):=fun S U h h' A cs k hs x=>by
 obtain ⟨a,b,g,S1,S2,S3,e,h1,h2,h3,h4,s1,s2,s3,d1,d2,d3⟩:=x
 exact ⟨a,b,g,S1,S2,S3,e,h1.keep (TmD.kp _) k fun b hb=>hs b (s1 b hb),h2.keep (TmD.kp _) k fun b hb=>hs b (s2 b hb),h3.keep k fun b hb=>hs b (s3 b (h4 b hb)),h4,s1,s2,s3,d1,d2,d3⟩
theorem TsR.mono {h : AH} {p q : Nat→Prop} (hpq : ∀ b,p b→q b) {f : Nat} {l : List Tm} {a : Option Addr} (x : TsR h p f l a) : TsR h q f l a:=by
 obtain ⟨vs,h1,h2,h3,h4⟩:=x
 exact ⟨vs,h1,h2.imp id fun g b hb=>hpq b (g b hb),h3,fun i t hi=>TmR.mono hpq f t _ (h4 i t hi)⟩
theorem AcD.acR {base f : Nat} {S : Fp} {h : AH} {A : Ac} {cs : List Value} (x : AcD base f S h A cs) : AcR h S f A cs:=by
 obtain ⟨a,b,g,S1,S2,S3,e,h1,h2,h3,h4,s1,s2,s3,d1,d2,d3⟩:=x
 exact ⟨a,b,g,e,h1.tsR.mono s1,h2.tsR.mono s2,h3.sl,.inr fun x hx=>s3 x (h4 x hx)⟩
theorem AcD.form {base f : Nat} {S : Fp} {h : AH} {A : Ac} {cs : List Value} (x : AcD base f S h A cs) : ∃ p c a n b m g q,cs = acV p c a n b m g q:=by
 obtain ⟨a,b,g,S1,S2,S3,e,_⟩:=x
 exact ⟨_,_,_,_,_,_,_,_,e⟩
theorem AcG.form {base f : Nat} {S : Fp} {h : AH} {A : Ac} {cs : List Value} (x : AcG base f S h A cs) : ∃ p c a n b m g q,cs = acV p c a n b m g q:=x.acD.form
theorem eqActor_run {base f f2 : Nat} {h : AH} {p p2 : Nat→Prop} {A : Ac} {cs cs2 : List Value} (hA : A.Le) (x : AcR h p f A cs) (x2 : AcR h p2 f2 A cs2) (hb : base≤h.length) :
  ∃ h',run (Et base) 127 [.agg cs.toArray,.agg cs2.toArray] h = some (.bool true,h')∧KB NoB h h':=by
 obtain ⟨a,b,g,rfl,hr,hx,hl,_⟩:=x
 obtain ⟨a2,b2,g2,rfl,hr2,hx2,hl2,_⟩:=x2
 obtain ⟨l1,l2,l3⟩:=hA
 simp only [maxLen] at l1 l2
 obtain ⟨o1,k1,q1⟩:=box_own (base:=base) (t:=54) (h:=h) (cs:=acV A.pid A.pc a A.regs.length b A.box.length g A.links.length) hb rfl
 generalize hh1 : h++[some (⟨acV A.pid A.pc a A.regs.length b A.box.length g A.links.length,54⟩ : Blk)] = h1 at o1 k1 q1
 obtain ⟨o2,k2,q2⟩:=box_own (base:=base) (t:=54) (h:=h1) (cs:=acV A.pid A.pc a2 A.regs.length b2 A.box.length g2 A.links.length) (by omega) rfl
 generalize hh2 : h1++[some (⟨acV A.pid A.pc a2 A.regs.length b2 A.box.length g2 A.links.length,54⟩ : Blk)] = h2 at o2 k2 q2
 have k02:=kN k1 k2
 have o1:=o1.keepN k2
 obtain ⟨h3,e3,k3⟩:=eqTermS_run (base:=base) (eqTerm_run f) (by omega) (hr.keep k02 fun _ _ h=>h) (hr2.keep k02 fun _ _ h=>h) (by omega)
 have k03:=kN k02 k3
 have n3:=k3.1
 obtain ⟨h4,e4,k4⟩:=eqTermS_run (base:=base) (eqTerm_run f) (by omega) (hx.keep k03 fun _ _ h=>h) (hx2.keep k03 fun _ _ h=>h) (by omega)
 have k04:=kN k03 k4
 have e5:=eqIntS_run (base:=base) (h:=h4) (hl.keepN k04) (hl2.keepN k04) l3
 rw [decide_eq_true rfl] at e5
 refine ⟨h4,Am.r127 (lets fun y ey=>?_),k04⟩
 rw [hh1] at ey
 subst ey
 refine lets fun y ey=>?_
 rw [hh2] at ey
 subst ey
 refine bI (o1.at0 (i:=0) rfl) (bI (o2.at0 (i:=0) rfl) (ifF (by simp) (bI (o1.at0 (i:=1) rfl) (bI (o2.at0 (i:=1) rfl) (ifF (by simp) ?_)))))
 refine bS (o1.at0 (i:=2) rfl) (bS (o2.at0 (i:=2) rfl) (bs e3 (bB rfl (ifF (by decide) ?_))))
 refine bS ((o1.keepN k3).at0 (i:=3) rfl) (bS ((o2.keepN k3).at0 (i:=3) rfl) (bs e4 (bB rfl (ifF (by decide) ?_))))
 exact bS (((o1.keepN k3).keepN k4).at0 (i:=4) rfl) (bS (((o2.keepN k3).keepN k4).at0 (i:=4) rfl) (bs e5 (bB rfl (ifF (by decide) rfl))))
def mcL (f : Nat) (l : List Tm) : Int:=3 * ((l.length + sumL (tcnt f) l : Nat) : Int)
def mcA (f : Nat) (A : Ac) : Int:=mcL f A.regs + mcL f A.box + (A.links.length : Int)
def IsMA (A : Ac) (k k' : Int) : Prop:=∃ k1 k2 : Int,IsM A.regs k k1∧IsM A.box k1 k2∧A.links = marksI k2.toNat A.links.length∧k' = k2 + (A.links.length : Int)
theorem W.q5 {base t n : Nat} {h : AH} {p c : Int} {a b g : Option Addr} {x y z : Nat} (o : Own base t h (at0 n) (acV p c a x b y g z)) {β : Type} {Q : β→Prop} {f : Int→Int→Option Addr × Nat→Option Addr × Nat→Option Addr × Nat→Option β} (w : Wp (f p c (a,x) (b,y) (g,z)) Q) :
  Wp (((Am.cell h n 0).bind (getI .i64)).bind fun n1=>((Am.cell h n 1).bind (getI .i64)).bind fun n2=>((Am.cell h n 2).bind getS).bind fun l3=>((Am.cell h n 3).bind getS).bind fun l4=>((Am.cell h n 4).bind getS).bind fun l5=>f n1 n2 l3 l4 l5) Q:=
 W.bI (o.at0 (i:=0) rfl) (W.bI (o.at0 (i:=1) rfl) (W.bS (o.at0 (i:=2) rfl) (W.bS (o.at0 (i:=3) rfl) (W.bS (o.at0 (i:=4) rfl) w))))
theorem same_KB {S : Nat→Prop} {h h' : AH} (k : KB S h h') {b i n : Nat} (hb : b < h.length) (hS : ¬ S b) : sameA h h' (some ⟨b,i,none⟩) n:=by
 intro ad e
 injection e with e
 subst e
 have hg:=k.2 b hb hS
 exact ⟨fun j _=>by unfold Am.cell; simp only [hg],by simp only [hg]⟩
theorem ne_A {b o n : Nat} (h : b≠n) : neA (some ⟨b,o,none⟩) n:=fun ad e=>by
 injection e with e
 subst e
 exact h
def inB (x a b : Int) : Bool:=decide (x ≥ a) && decide (x≤b)
theorem in_run {base : Nat} {h : AH} {x a b : Int} : run (Et base) 83 [.int .i64 x,.int .i64 a,.int .i64 b] h = some (.bool (inB x a b),h):=by
 refine Am.r83 ?_
 unfold inB
 by_cases c : x ≥ a
 ·exact ifT (decide_eq_true c) (by simp [c])
 ·exact ifF (by simpa using c) (by simp [c])
theorem l1In_run {base : Nat} {h : AH} {x a b : Int} : run (Et base) 90 [.int .i64 x,.int .i64 a,.int .i64 b] h = some (.bool (inB x a b),h):=by
 refine Am.r90 ?_
 unfold inB
 by_cases c : x ≥ a
 ·exact ifT (decide_eq_true c) (by simp [c])
 ·exact ifF (by simpa using c) (by simp [c])
theorem isSmall_run {base : Nat} {h : AH} {x : Int} : run (Et base) 194 [.int .u8 x] h = some (.bool (inB x 97 122),h):=by
 refine Am.r194 ?_
 unfold inB
 by_cases c : x ≥ 97
 ·exact ifT (decide_eq_true c) (by simp [c])
 ·exact ifF (by simpa using c) (by simp [c])
theorem isDigit_run {base : Nat} {h : AH} {x : Int} : run (Et base) 195 [.int .u8 x] h = some (.bool (inB x 48 57),h):=by
 refine Am.r195 ?_
 unfold inB
 by_cases c : x ≥ 48
 ·exact ifT (decide_eq_true c) (by simp [c])
 ·exact ifF (by simpa using c) (by simp [c])
def byt (s : ByteArray) (i : Nat) : Int:=((s.data.toList.getD i 0).toNat : Int)
def badAt (s : ByteArray) (i : Nat) : Bool:=!inB (byt s i) 97 122 && (((i : Int) == 0) || !inB (byt s i) 48 57)
def anyBad (s : ByteArray) : Nat→Nat→Bool
 | 0,_=>false
 | d + 1,i=>badAt s i || anyBad s d (i + 1)
def atomOk (s : ByteArray) : Bool:=!anyBad s s.size 0 && inB (s.size : Int) 1 12
theorem implAtom_loop {base : Nat} {h : AH} {s : ByteArray} (hs : s.size≤9223372036854775807) : ∀ (d i : Nat),i + d = s.size →
  loopL (B158_0 base) [some (.string s),some (.int .i64 (i : Int))] h = if anyBad s d i = true then some (1,[some (.bool false)],h) else some (2,[some (.string s)],h):=by
 intro d
 induction d with
 | zero=>
  intro i hi
  rw [loopL_eq,B158_0_eq]
  have : ¬ ((i : Int) < (s.size : Int)):=by omega
  simp [this,anyBad]
 | succ d ih=>
  intro i hi
  have step : B158_0 base [some (.string s),some (.int .i64 (i : Int))] h = if badAt s i = true then some (1,[some (.bool false)],h) else some (0,[some (.string s),some (.int .i64 ((i + 1 : Nat) : Int))],h):=by
   rw [B158_0_eq]
   refine ifT (decide_eq_true (by omega)) ?_
   refine bs (v:=.inl ([some (.string s),some (.int .i64 (i : Int)),some (.bool (badAt s i))],h)) ?_ ?_
   ·refine ifT ⟨by omega,by omega⟩ ?_
    simp only [Int.toNat_natCast]
    refine bs isSmall_run (bB rfl ?_)
    unfold badAt byt
    cases inB (((s.data.toList.getD i 0).toNat : Nat) : Int) 97 122 with
    | true=>exact ifF (by decide) (by simp)
    | false=>
     refine ifT rfl ?_
     by_cases c : ((i : Int) == (0 : Int)) = true
     ·exact ifT c (by simp [c])
     ·have c' : ((i : Int) == (0 : Int)) = false:=by simpa using c
      refine ifF c (ifT ⟨by omega,by omega⟩ (bs isDigit_run (bB rfl ?_)))
      simp [c']
   ·refine jn (bT rfl (bI rfl (bB rfl ?_)))
    rw [w64i (by omega) (by omega),show ((i : Int) + 1) = ((i + 1 : Nat) : Int) from by omega]
  rw [loopL_eq,step]
  by_cases c : badAt s i = true
  ·simp [c,anyBad]
  ·have c' : badAt s i = false:=by simpa using c
   simp only [c',Bool.false_eq_true,if_false,Option.bind_some,if_true,anyBad,Bool.false_or]
   exact ih (i + 1) (by omega)
theorem implAtomOk_run {base : Nat} {h : AH} {s : ByteArray} (hs : s.size≤9223372036854775807) : run (Et base) 158 [.string s] h = some (.bool (atomOk s),h):=by
 have e:=implAtom_loop (base:=base) (h:=h) hs s.size 0 (by omega)
 rw [show ((0 : Nat) : Int) = 0 from rfl] at e
 refine Am.r158 ?_
 unfold atomOk
 cases hb : anyBad s s.size 0 with
 | true=>
  rw [hb] at e
  exact bs e (ifT rfl (bB rfl rfl))
 | false=>
  rw [hb] at e
  exact bs e (ifF (by simp) (ifT rfl (bT rfl (bs in_run (bB rfl (by simp))))))
theorem w64b (s : ByteArray) (i : Nat) : IntKind.wrap .i64 ((s.data.toList.getD i 0).toNat : Int) = byt s i:=by
 have:=(s.data.toList.getD i 0).toNat_lt
 rw [w64i (by omega) (by omega)]
 rfl
theorem specAtom_loop {base : Nat} {h : AH} {s : ByteArray} (hs : s.size≤9223372036854775807) : ∀ (d i : Nat),i + d = s.size →
  loopL (B183_0 base) [some (.string s),some (.int .i64 (i : Int))] h = if anyBad s d i = true then some (1,[some (.bool false)],h) else some (2,[some (.string s)],h):=by
 intro d
 induction d with
 | zero=>
  intro i hi
  rw [loopL_eq,B183_0_eq]
  have : ¬ ((i : Int) < (s.size : Int)):=by omega
  simp [this,anyBad]
 | succ d ih=>
  intro i hi
  have step : B183_0 base [some (.string s),some (.int .i64 (i : Int))] h = if badAt s i = true then some (1,[some (.bool false)],h) else some (0,[some (.string s),some (.int .i64 ((i + 1 : Nat) : Int))],h):=by
   rw [B183_0_eq]
   refine ifT (decide_eq_true (by omega)) (ifT ⟨by omega,by omega⟩ ?_)
   simp only [Int.toNat_natCast,w64b]
   refine bs l1In_run (bB rfl ?_)
   refine bs (v:=.inl ([some (.string s),some (.int .i64 (i : Int)),some (.bool (badAt s i))],h)) ?_ ?_
   ·unfold badAt
    cases inB (byt s i) 97 122 with
    | true=>exact ifF (by decide) (by simp)
    | false=>
     refine ifT rfl ?_
     by_cases c : ((i : Int) == (0 : Int)) = true
     ·exact ifT c (by simp [c])
     ·have c' : ((i : Int) == (0 : Int)) = false:=by simpa using c
      refine ifF c (ifT ⟨by omega,by omega⟩ (bs l1In_run (bB rfl ?_)))
      simp [c']
   ·refine jn (bT rfl (bI rfl (bB rfl ?_)))
    rw [w64i (by omega) (by omega),show ((i : Int) + 1) = ((i + 1 : Nat) : Int) from by omega]
  rw [loopL_eq,step]
  by_cases c : badAt s i = true
  ·simp [c,anyBad]
  ·have c' : badAt s i = false:=by simpa using c
   simp only [c',Bool.false_eq_true,if_false,Option.bind_some,if_true,anyBad,Bool.false_or]
   exact ih (i + 1) (by omega)
theorem specAtomOk_run {base : Nat} {h : AH} {s : ByteArray} (hs : s.size≤9223372036854775807) : run (Et base) 183 [.string s] h = some (.bool (atomOk s),h):=by
 have e:=specAtom_loop (base:=base) (h:=h) hs s.size 0 (by omega)
 rw [show ((0 : Nat) : Int) = 0 from rfl] at e
 refine Am.r183 ?_
 unfold atomOk
 cases hb : anyBad s s.size 0 with
 | true=>
  rw [hb] at e
  exact bs e (ifT rfl (bB rfl rfl))
 | false=>
  rw [hb] at e
  exact bs e (ifF (by simp) (ifT rfl (bT rfl (bs l1In_run (bB rfl (by simp))))))
def shB (k n : Int) (s : ByteArray) (m : Nat) : Bool:=
 if (k == (1 : Int)) = true then inB n (-1000000) 1000000 && (s.toList == (⟨#[]⟩ : ByteArray).toList) && (((m : Nat) : Int) == (0 : Int))
 else if (k == (2 : Int)) = true then (n == (0 : Int)) && atomOk s && (((m : Nat) : Int) == (0 : Int))
 else if (k == (3 : Int)) = true then inB n 0 99999 && (s.toList == (⟨#[]⟩ : ByteArray).toList) && (((m : Nat) : Int) == (0 : Int))
 else if (k == (4 : Int)) = true then (n == (0 : Int)) && (s.toList == (⟨#[]⟩ : ByteArray).toList) && decide (((m : Nat) : Int)≤(8 : Int))
 else if (k == (5 : Int)) = true then (n == (0 : Int)) && (s.toList == (⟨#[]⟩ : ByteArray).toList) && decide (((m : Nat) : Int)≤(20 : Int))
 else if (k == (6 : Int)) = true then (n == (0 : Int)) && decide ((s.size : Int)≤(40 : Int)) && (((m : Nat) : Int) == (0 : Int))
 else false
theorem an2 {β : Type} {c d : Bool} {x y : Option β} {g : Bool→Option β} (hx : c = true→x = g d) (hy : c = false→y = g false) : (if c = true then x else y) = g (c && d):=by
 cases c with
 | true=>rw [if_pos rfl]; simpa using hx rfl
 | false=>rw [if_neg (by decide)]; simpa using hy rfl
theorem sw {β : Type} {c : Prop} [Decidable c] {a b : Option β} {x y : Bool} {g : Bool→Option β} (ha : c→a = g x) (hb : ¬ c→b = g y) : (if c then a else b) = g (if c then x else y):=by
 by_cases h : c
 ·rw [if_pos h,if_pos h]; exact ha h
 ·rw [if_neg h,if_neg h]; exact hb h
theorem fieldsOk_run {base : Nat} {h : AH} {k n : Int} {s : ByteArray} {a : Option Addr} {m : Nat} (hs : s.size≤9223372036854775807) (hb : base≤h.length) :
  ∃ h',run (Et base) 166 [.agg (termV k n s a m).toArray] h = some (.bool (shB k n s m),h')∧KB NoB h h':=by
 obtain ⟨o1,k1,q1⟩:=box_own (base:=base) (t:=42) (h:=h) (cs:=termV k n s a m) hb rfl
 generalize hh1 : h++[some (⟨termV k n s a m,42⟩ : Blk)] = h1' at o1 k1 q1
 refine ⟨h1',Am.r166 (lets fun h1'' eh=>?_),k1⟩
 rw [hh1] at eh
 subst eh
 have c0:=o1.at0 (i:=0) rfl
 have c1:=o1.at0 (i:=1) rfl
 have c2:=o1.at0 (i:=2) rfl
 have c3:=o1.at0 (i:=3) rfl
 let g : Bool→Option (Value × AH):=fun b=>some (.bool b,h1'')
 change _ = g (shB k n s m)
 unfold shB
 refine bI c0 (sw (g:=g) (fun _=>?_) (fun _=>sw (g:=g) (fun _=>?_) (fun _=>sw (g:=g) (fun _=>?_) (fun _=>sw (g:=g) (fun _=>?_) (fun _=>sw (g:=g) (fun _=>?_) (fun _=>sw (g:=g) (fun _=>?_) (fun _=>rfl)))))))
 ·rw [Bool.and_assoc]
  exact bI c1 (bs in_run (bB rfl (an2 (g:=g) (fun _=>bT c2 (an2 (g:=g) (fun _=>bS c3 rfl) fun _=>rfl)) fun _=>rfl)))
 ·rw [Bool.and_assoc]
  exact bI c1 (an2 (g:=g) (fun _=>bT c2 (bs (implAtomOk_run hs) (bB rfl (an2 (g:=g) (fun _=>bS c3 rfl) fun _=>rfl)))) fun _=>rfl)
 ·rw [Bool.and_assoc]
  exact bI c1 (bs in_run (bB rfl (an2 (g:=g) (fun _=>bT c2 (an2 (g:=g) (fun _=>bS c3 rfl) fun _=>rfl)) fun _=>rfl)))
 ·rw [Bool.and_assoc]
  exact bI c1 (an2 (g:=g) (fun _=>bT c2 (an2 (g:=g) (fun _=>bS c3 rfl) fun _=>rfl)) fun _=>rfl)
 ·rw [Bool.and_assoc]
  exact bI c1 (an2 (g:=g) (fun _=>bT c2 (an2 (g:=g) (fun _=>bS c3 rfl) fun _=>rfl)) fun _=>rfl)
 ·rw [Bool.and_assoc]
  exact bI c1 (an2 (g:=g) (fun _=>bT c2 (an2 (g:=g) (fun _=>bS c3 rfl) fun _=>rfl)) fun _=>rfl)
theorem l1Shape_run {base : Nat} {h : AH} {k n : Int} {s : ByteArray} {a : Option Addr} {m : Nat} (hs : s.size≤9223372036854775807) (hb : base≤h.length) :
  ∃ h',run (Et base) 164 [.agg (termV k n s a m).toArray] h = some (.bool (shB k n s m),h')∧KB NoB h h':=by
 obtain ⟨o1,k1,q1⟩:=box_own (base:=base) (t:=42) (h:=h) (cs:=termV k n s a m) hb rfl
 generalize hh1 : h++[some (⟨termV k n s a m,42⟩ : Blk)] = h1' at o1 k1 q1
 refine ⟨h1',Am.r164 (lets fun h1'' eh=>?_),k1⟩
 rw [hh1] at eh
 subst eh
 have c0:=o1.at0 (i:=0) rfl
 have c1:=o1.at0 (i:=1) rfl
 have c2:=o1.at0 (i:=2) rfl
 have c3:=o1.at0 (i:=3) rfl
 let g : Bool→Option (Value × AH):=fun b=>some (.bool b,h1'')
 change _ = g (shB k n s m)
 unfold shB
 refine bS c3 (bI c0 (sw (g:=g) (fun _=>?_) (fun _=>sw (g:=g) (fun _=>?_) (fun _=>sw (g:=g) (fun _=>?_) (fun _=>sw (g:=g) (fun _=>?_) (fun _=>sw (g:=g) (fun _=>?_) (fun _=>sw (g:=g) (fun _=>?_) (fun _=>rfl))))))))
 ·rw [Bool.and_assoc]
  exact bI c1 (bs l1In_run (bB rfl (an2 (g:=g) (fun _=>bT c2 (an2 (g:=g) (fun _=>rfl) fun _=>rfl)) fun _=>rfl)))
 ·rw [Bool.and_comm (n == 0),Bool.and_assoc]
  exact bT c2 (bs (specAtomOk_run hs) (bB rfl (an2 (g:=g) (fun _=>bI c1 (an2 (g:=g) (fun _=>rfl) fun _=>rfl)) fun _=>rfl)))
 ·rw [Bool.and_assoc]
  exact bI c1 (bs l1In_run (bB rfl (an2 (g:=g) (fun _=>bT c2 (an2 (g:=g) (fun _=>rfl) fun _=>rfl)) fun _=>rfl)))
 ·rw [Bool.and_assoc]
  exact bI c1 (an2 (g:=g) (fun _=>bT c2 (an2 (g:=g) (fun _=>rfl) fun _=>rfl)) fun _=>rfl)
 ·rw [Bool.and_assoc]
  exact bI c1 (an2 (g:=g) (fun _=>bT c2 (an2 (g:=g) (fun _=>rfl) fun _=>rfl)) fun _=>rfl)
 ·rw [Bool.and_assoc]
  exact bI c1 (an2 (g:=g) (fun _=>bT c2 (an2 (g:=g) (fun _=>rfl) fun _=>rfl)) fun _=>rfl)
def lkS (g : Tm→Int→Int→Int) : List Tm→Int→Int→Int
 | [],_,left=>left
 | t :: r,deep,left=>if left ≥ 0 then lkS g r deep (g t deep left) else left
def lk : Nat→Tm→Int→Int→Int
 | 0,_,_,_=>-1
 | f + 1,.mk k n s l,deep,left=>if deep < 1∨left < 1∨shB k n s l.length = false then -1 else lkS (lk f) l (deep - 1) (left - 1)
theorem lkS_neg (g : Tm→Int→Int→Int) (l : List Tm) (deep left : Int) (h : left < 0) : lkS g l deep left = left:=by
 cases l with
 | nil=>rfl
 | cons t r=>rw [lkS,if_neg (by omega)]
theorem lkS_le {g : Tm→Int→Int→Int} (hg : ∀ t d x,0≤x→-1≤g t d x∧g t d x≤x) : ∀ (l : List Tm) (deep left : Int),-1≤left→-1≤lkS g l deep left∧lkS g l deep left≤left
 | [],_,left,h=>⟨h,Int.le_refl _⟩
 | t :: r,deep,left,h=>by
  rw [lkS]
  split
  ·rename_i h0
   have a:=hg t deep left h0
   have b:=lkS_le hg r deep (g t deep left) a.1
   exact ⟨b.1,by omega⟩
  ·exact ⟨h,Int.le_refl _⟩
theorem lk_le : ∀ (f : Nat) (t : Tm) (deep left : Int),0≤left→-1≤lk f t deep left∧lk f t deep left≤left
 | 0,_,_,left,h=>⟨by simp [lk],by simp only [lk]; omega⟩
 | f + 1,.mk k n s l,deep,left,h=>by
  rw [lk]
  split
  ·exact ⟨by omega,by omega⟩
  ·rename_i hn
   have:=lkS_le (g:=lk f) (fun t d x hx=>lk_le f t d x hx) l (deep - 1) (left - 1) (by omega)
   exact ⟨this.1,by omega⟩
theorem q4 {base t n : Nat} {h : AH} {k nn : Int} {s : ByteArray} {a : Option Addr} {m : Nat} (o : Own base t h (at0 n) (termV k nn s a m)) {β : Type} {f : Int→Int→ByteArray→Option Addr × Nat→Option β} {z : Option β} (hf : f k nn s (a,m) = z) :
  (((Am.cell h n 0).bind (getI .i64)).bind fun n1=>((Am.cell h n 1).bind (getI .i64)).bind fun n2=>((Am.cell h n 2).bind getStr).bind fun s3=>((Am.cell h n 3).bind getS).bind fun l4=>f n1 n2 s3 l4) = z:=
 bI (o.at0 (i:=0) rfl) (bI (o.at0 (i:=1) rfl) (bT (o.at0 (i:=2) rfl) (bS (o.at0 (i:=3) rfl) hf)))
def Look (base f : Nat) : Prop:=∀ (h : AH) (p : Nat→Prop) (t : Tm) (cs : List Value) (deep left : Int),TmR h p f t cs→base≤h.length→0≤deep→deep≤6→0≤left→left≤100 →
 ∃ h',run (Et base) 117 [.agg cs.toArray,.int .i64 deep,.int .i64 left] h = some (.int .i64 (lk f t deep left),h')∧KB NoB h h'
def Coun (base f : Nat) : Prop:=∀ (h : AH) (p : Nat→Prop) (t : Tm) (cs : List Value) (deep left : Int),TmR h p f t cs→base≤h.length→0≤deep→deep≤6→0≤left→left≤100 →
 ∃ z h',run (Et base) 124 [.agg cs.toArray,.int .i64 (7 - deep),.int .i64 (100 - left)] h = some (.tuple #[.int .i64 z,.bool (decide (lk f t deep left ≥ 0))],h')∧KB NoB h h'∧(lk f t deep left ≥ 0→z = 100 - lk f t deep left)
theorem look_loop {base f ob : Nat} (ih : Look base f) {p : Nat→Prop} {l : List Tm} {a : Option Addr} {k n : Int} {s : ByteArray} (hl : l.length≤9223372036854775807) {deep : Int} (hd0 : 1≤deep) (hd1 : deep≤6) : ∀ (d i : Nat) (h : AH) (left : Int),i + d = l.length→TsR h p f l a→Own base 42 h (at0 ob) (termV k n s a l.length)→base≤h.length→-1≤left→left≤100 →
  ∃ h',loopL (B117_0 base) [some (.int .i64 deep),some (.int .i64 left),some (.pointer (at0 ob)),some (.int .i64 (i : Int))] h = some (2,[some (.int .i64 (lkS (lk f) (l.drop i) (deep - 1) left))],h')∧KB NoB h h':=by
 intro d
 induction d with
 | zero=>
  intro i h left hi hs ow hb h0 h1
  refine ⟨h,?_,KB.refl _ _⟩
  rw [show l.drop i = [] from List.drop_eq_nil_of_le (by omega)]
  refine loop_off (by decide) ?_
  rw [B117_0_eq]
  refine bj (q:=([some (.int .i64 deep),some (.int .i64 left),some (.pointer (at0 ob)),some (.int .i64 (i : Int)),some (.bool false)],h)) (bS (ow.at0 (i:=3) rfl) (ifF (by simp; omega) rfl)) ?_
  exact bI rfl (bI rfl (bs rfl (bI rfl (bB rfl (ifF (by decide) rfl)))))
 | succ d ihd=>
  intro i h left hi hs ow hb h0 h1
  have hlt : i < l.length:=by omega
  rw [List.drop_eq_getElem_cons hlt,lkS]
  by_cases c : left ≥ 0
  ·rw [if_pos c]
   obtain ⟨ad,c0,c1,c2,c3,rfl,g0,g1,g2,g3,hm⟩:=hs.get hlt
   obtain ⟨h',e1,k1⟩:=ih h p l[i] _ (deep - 1) left hm hb (by omega) (by omega) (by omega) h1
   have le:=lk_le f l[i] (deep - 1) left c
   obtain ⟨h'',e2,k2⟩:=ihd (i + 1) h' (lk f l[i] (deep - 1) left) (by omega) (hs.keep k1 fun _ _ h=>h) (ow.keepN k1) (by have:=k1.1; omega) (by omega) (by omega)
   refine ⟨h'',?_,KB.trans k1 k2 (fun _ _ h=>h) (fun _ _ h=>h)⟩
   cases f with
   | zero=>exact hm.elim
   | succ f=>
    generalize ht : l[i] = tt at hm e1 e2 le
    obtain ⟨kk,nn,ss,ll⟩:=tt
    obtain ⟨a2,ecs,_,_,_⟩:=hm.parts
    injection ecs with q0 ecs
    injection ecs with q1 ecs
    injection ecs with q2 ecs
    injection ecs with q3 _
    subst q0; subst q1; subst q2; subst q3
    refine loop_on ?_ e2
    rw [B117_0_eq]
    refine bj (q:=([some (.int .i64 deep),some (.int .i64 left),some (.pointer (at0 ob)),some (.int .i64 (i : Int)),some (.bool true)],h)) (bS (ow.at0 (i:=3) rfl) (ifT (decide_eq_true (by simp; omega)) (by simp [c]))) ?_
    refine bI rfl (bI rfl (bs rfl (bI rfl (bB rfl (ifT rfl ?_)))))
    refine bS (ow.at0 (i:=3) rfl) (ifT ⟨by omega,by simp; omega⟩ (bs rfl ?_))
    simp only [Int.toNat_natCast]
    refine bI g0 (bI g1 (bT g2 (bS g3 ?_)))
    rw [w64i (n:=deep - 1) (by omega) (by omega)]
    refine bs e1 (bI rfl ?_)
    rw [w64i (by omega) (by omega),show ((i : Int) + 1) = ((i + 1 : Nat) : Int) from by omega]
  ·rw [if_neg c]
   refine ⟨h,?_,KB.refl _ _⟩
   refine loop_off (by decide) ?_
   rw [B117_0_eq]
   refine bj (q:=([some (.int .i64 deep),some (.int .i64 left),some (.pointer (at0 ob)),some (.int .i64 (i : Int)),some (.bool false)],h)) (bS (ow.at0 (i:=3) rfl) (ifT (decide_eq_true (by simp; omega)) (by simp [c]))) ?_
   exact bI rfl (bI rfl (bs rfl (bI rfl (bB rfl (ifF (by decide) rfl)))))
theorem look_run {base : Nat} : ∀ f,Look base f
 | 0=>fun h p t cs deep left x=>x.elim
 | f + 1=>fun h p t cs deep left x hb d0 d1 l0 l1=>by
  obtain ⟨k,n,s,l⟩:=t
  obtain ⟨a,rfl,hts,hs,hl⟩:=x.parts
  simp only [maxLen] at hs hl
  obtain ⟨o1,k1,q1⟩:=box_own (base:=base) (t:=42) (h:=h) (cs:=termV k n s a l.length) hb rfl
  generalize hh1 : h++[some (⟨termV k n s a l.length,42⟩ : Blk)] = h1' at o1 k1 q1
  obtain ⟨h2,e2,k2⟩:=l1Shape_run (base:=base) (h:=h1') (k:=k) (n:=n) (s:=s) (a:=a) (m:=l.length) (by omega) (by omega)
  have n2:=k2.1
  have k02 : KB NoB h h2:=KB.trans k1 k2 (fun _ _ h=>h) (fun _ _ h=>h)
  have o2:=o1.keepN k2
  by_cases c1 : deep < 1
  ·rw [show lk (f + 1) (.mk k n s l) deep left = -1 from by rw [lk,if_pos (.inl c1)]]
   refine ⟨h1',Am.r117 (lets fun h1'' eh=>?_),k1⟩
   rw [hh1] at eh
   subst eh
   refine bj (q:=([some (.int .i64 deep),some (.int .i64 left),some (.pointer (at0 h.length)),some (.bool true)],h1'')) (ifT (decide_eq_true c1) rfl) ?_
   exact bI rfl (bI rfl (bs rfl (bB rfl (ifT rfl rfl))))
  by_cases c2 : left < 1
  ·rw [show lk (f + 1) (.mk k n s l) deep left = -1 from by rw [lk,if_pos (.inr (.inl c2))]]
   refine ⟨h1',Am.r117 (lets fun h1'' eh=>?_),k1⟩
   rw [hh1] at eh
   subst eh
   refine bj (q:=([some (.int .i64 deep),some (.int .i64 left),some (.pointer (at0 h.length)),some (.bool true)],h1'')) (ifF (by simpa using c1) (ifT (decide_eq_true c2) rfl)) ?_
   exact bI rfl (bI rfl (bs rfl (bB rfl (ifT rfl rfl))))
  cases c3 : shB k n s l.length with
  | false=>
   rw [show lk (f + 1) (.mk k n s l) deep left = -1 from by rw [lk,if_pos (.inr (.inr c3))]]
   refine ⟨h2,Am.r117 (lets fun h1'' eh=>?_),k02⟩
   rw [hh1] at eh
   subst eh
   rw [c3] at e2
   refine bj (q:=([some (.int .i64 deep),some (.int .i64 left),some (.pointer (at0 h.length)),some (.bool true)],h2)) (ifF (by simpa using c1) (ifF (by simpa using c2) (q4 o1 (bs e2 (bB rfl rfl))))) ?_
   exact bI rfl (bI rfl (bs rfl (bB rfl (ifT rfl rfl))))
  | true=>
   rw [c3] at e2
   obtain ⟨h3,e3,k3⟩:=look_loop (base:=base) (look_run f) (p:=p) (l:=l) (a:=a) (k:=k) (n:=n) (s:=s) (by omega) (deep:=deep) (by omega) (by omega) l.length 0 h2 (left - 1) (by omega) (hts.keep k02 fun _ _ h=>h) o2 (by omega) (by omega) (by omega)
   rw [show lk (f + 1) (.mk k n s l) deep left = lkS (lk f) l (deep - 1) (left - 1) from by rw [lk,if_neg (by simp [c3]; omega)]]
   refine ⟨h3,Am.r117 (lets fun h1'' eh=>?_),KB.trans k02 k3 (fun _ _ h=>h) (fun _ _ h=>h)⟩
   rw [hh1] at eh
   subst eh
   refine bj (q:=([some (.int .i64 deep),some (.int .i64 left),some (.pointer (at0 h.length)),some (.bool false)],h2)) (ifF (by simpa using c1) (ifF (by simpa using c2) (q4 o1 (bs e2 (bB rfl rfl))))) ?_
   refine bI rfl (bI rfl (bs rfl (bB rfl (ifF (by decide) ?_))))
   rw [w64i (by omega) (by omega)]
   exact bs e3 (ifT rfl (bI rfl rfl))
theorem coun_loop {base f : Nat} (ih : Coun base f) {p : Nat→Prop} {l : List Tm} {a : Option Addr} (hl : l.length≤9223372036854775807) (hp : ∀ b,p b→True) {deep : Int} (hd0 : 1≤deep) (hd1 : deep≤6) : ∀ (d i : Nat) (h : AH) (left : Int),i + d = l.length→TsR h p f l a→base≤h.length→0≤left→left≤100 →
  ∃ z h',(loopL (B124_0 base) [some (.int .i64 (7 - deep)),some (.int .i64 (100 - left)),some (.slice a l.length l.length),some (.int .i64 (l.length : Int)),some (.int .i64 (i : Int))] h = if lkS (lk f) (l.drop i) (deep - 1) left ≥ 0 then some (2,[some (.int .i64 z)],h') else some (1,[some (.int .i64 z),some (.bool false)],h'))∧KB NoB h h'∧(lkS (lk f) (l.drop i) (deep - 1) left ≥ 0→z = 100 - lkS (lk f) (l.drop i) (deep - 1) left):=by
 intro d
 induction d with
 | zero=>
  intro i h left hi hs hb h0 h1
  refine ⟨100 - left,h,?_,KB.refl _ _,?_⟩
  ·rw [show l.drop i = [] from List.drop_eq_nil_of_le (by omega),lkS,if_pos (by omega)]
   refine loop_off (by decide) ?_
   rw [B124_0_eq]
   exact ifF (by simp; omega) rfl
  ·rw [show l.drop i = [] from List.drop_eq_nil_of_le (by omega),lkS]
   exact fun _=>rfl
 | succ d ihd=>
  intro i h left hi hs hb h0 h1
  have hlt : i < l.length:=by omega
  rw [List.drop_eq_getElem_cons hlt,lkS,if_pos (by omega)]
  obtain ⟨ad,c0,c1,c2,c3,rfl,g0,g1,g2,g3,hm⟩:=hs.get hlt
  cases f with
  | zero=>exact hm.elim
  | succ f=>
   generalize ht : l[i] = tt at hm
   obtain ⟨kk,nn,ss,ll⟩:=tt
   obtain ⟨a2,ecs,_,_,_⟩:=hm.parts
   injection ecs with q0 ecs
   injection ecs with q1 ecs
   injection ecs with q2 ecs
   injection ecs with q3 _
   subst q0; subst q1; subst q2; subst q3
   obtain ⟨o1,k1,q1⟩:=box_own (base:=base) (t:=42) (h:=h) (cs:=termV kk nn ss a2 ll.length) hb rfl
   generalize hh1 : h++[some (⟨termV kk nn ss a2 ll.length,42⟩ : Blk)] = h1' at o1 k1 q1
   obtain ⟨z,h',e1,k2,hz⟩:=ih h1' p _ _ (deep - 1) left (TmR.keep k1 (fun _ _ h=>h) _ _ _ hm) (by omega) (by omega) (by omega) (by omega) h1
   have kk2 : KB NoB h h':=KB.trans k1 k2 (fun _ _ h=>h) (fun _ _ h=>h)
   have le:=lk_le (f + 1) (.mk kk nn ss ll) (deep - 1) left h0
   by_cases c : lk (f + 1) (.mk kk nn ss ll) (deep - 1) left ≥ 0
   ·obtain ⟨z2,h'',e2,k3,hz2⟩:=ihd (i + 1) h' (lk (f + 1) (.mk kk nn ss ll) (deep - 1) left) (by omega) (hs.keep kk2 fun _ _ h=>h) (by have:=kk2.1; omega) c (by omega)
    refine ⟨z2,h'',?_,KB.trans kk2 k3 (fun _ _ h=>h) (fun _ _ h=>h),hz2⟩
    have hzz:=hz c
    refine loop_on ?_ e2
    rw [B124_0_eq]
    refine ifT (decide_eq_true (by omega)) (ifT ⟨by omega,by omega⟩ (bs rfl ?_))
    simp only [Int.toNat_natCast]
    refine bI g0 (bI g1 (bT g2 (bS g3 (nw hb rfl fun y ey=>?_))))
    rw [hh1] at ey
    subst ey
    rw [w64i (n:=7 - deep + 1) (by omega) (by omega),show (7 : Int) - deep + 1 = 7 - (deep - 1) from by omega]
    refine q4 o1 (bs e1 (bs rfl (bI rfl (bB rfl (ifF (by simp; omega) ?_)))))
    rw [w64i (by omega) (by omega),show ((i : Int) + 1) = ((i + 1 : Nat) : Int) from by omega,hzz]
   ·refine ⟨z,h',?_,kk2,fun hh=>?_⟩
    ·rw [lkS_neg _ _ _ _ (by omega),if_neg (by omega)]
     refine loop_off (by decide) ?_
     rw [B124_0_eq]
     refine ifT (decide_eq_true (by omega)) (ifT ⟨by omega,by omega⟩ (bs rfl ?_))
     simp only [Int.toNat_natCast]
     refine bI g0 (bI g1 (bT g2 (bS g3 (nw hb rfl fun y ey=>?_))))
     rw [hh1] at ey
     subst ey
     rw [w64i (n:=7 - deep + 1) (by omega) (by omega),show (7 : Int) - deep + 1 = 7 - (deep - 1) from by omega]
     exact q4 o1 (bs e1 (bs rfl (bI rfl (bB rfl (ifT (by simp; omega) rfl)))))
    ·rw [lkS_neg _ _ _ _ (by omega)] at hh
     omega
theorem coun_run {base : Nat} : ∀ f,Coun base f
 | 0=>fun h p t cs deep left x=>x.elim
 | f + 1=>fun h p t cs deep left x hb d0 d1 l0 l1=>by
  obtain ⟨k,n,s,l⟩:=t
  obtain ⟨a,rfl,hts,hs,hl⟩:=x.parts
  simp only [maxLen] at hs hl
  obtain ⟨o1,k1,q1⟩:=box_own (base:=base) (t:=42) (h:=h) (cs:=termV k n s a l.length) hb rfl
  generalize hh1 : h++[some (⟨termV k n s a l.length,42⟩ : Blk)] = h1' at o1 k1 q1
  obtain ⟨h2,e2,k2⟩:=fieldsOk_run (base:=base) (h:=h1') (k:=k) (n:=n) (s:=s) (a:=a) (m:=l.length) (by omega) (by omega)
  have n2:=k2.1
  have k02 : KB NoB h h2:=KB.trans k1 k2 (fun _ _ h=>h) (fun _ _ h=>h)
  have o2:=o1.keepN k2
  have w : IntKind.wrap .i64 (100 - left + 1) = 100 - (left - 1):=by rw [w64i (by omega) (by omega)]; omega
  by_cases c1 : deep < 1
  ·rw [show lk (f + 1) (.mk k n s l) deep left = -1 from by rw [lk,if_pos (.inl c1)]]
   refine ⟨100 - (left - 1),h1',Am.r124 (lets fun h1'' eh=>?_),k1,fun hh=>absurd hh (by decide)⟩
   rw [hh1] at eh
   subst eh
   rw [w]
   refine bj (q:=([some (.int .i64 (7 - deep)),some (.int .i64 (100 - (left - 1))),some (.pointer (at0 h.length)),some (.bool true)],h1'')) (ifT (decide_eq_true (by omega)) rfl) ?_
   exact bI rfl (bI rfl (bs rfl (bB rfl (ifT rfl rfl))))
  by_cases c2 : left < 1
  ·rw [show lk (f + 1) (.mk k n s l) deep left = -1 from by rw [lk,if_pos (.inr (.inl c2))]]
   refine ⟨100 - (left - 1),h1',Am.r124 (lets fun h1'' eh=>?_),k1,fun hh=>absurd hh (by decide)⟩
   rw [hh1] at eh
   subst eh
   rw [w]
   refine bj (q:=([some (.int .i64 (7 - deep)),some (.int .i64 (100 - (left - 1))),some (.pointer (at0 h.length)),some (.bool true)],h1'')) (ifF (by simp; omega) (ifT (decide_eq_true (by omega)) rfl)) ?_
   exact bI rfl (bI rfl (bs rfl (bB rfl (ifT rfl rfl))))
  cases c3 : shB k n s l.length with
  | false=>
   rw [c3] at e2
   rw [show lk (f + 1) (.mk k n s l) deep left = -1 from by rw [lk,if_pos (.inr (.inr c3))]]
   refine ⟨100 - (left - 1),h2,Am.r124 (lets fun h1'' eh=>?_),k02,fun hh=>absurd hh (by decide)⟩
   rw [hh1] at eh
   subst eh
   rw [w]
   refine bj (q:=([some (.int .i64 (7 - deep)),some (.int .i64 (100 - (left - 1))),some (.pointer (at0 h.length)),some (.bool true)],h2)) (ifF (by simp; omega) (ifF (by simp; omega) (q4 o1 (bs e2 (bB rfl rfl))))) ?_
   exact bI rfl (bI rfl (bs rfl (bB rfl (ifT rfl rfl))))
  | true=>
   rw [c3] at e2
   obtain ⟨z,h3,e3,k3,hz⟩:=coun_loop (base:=base) (coun_run f) (p:=p) (l:=l) (a:=a) (by omega) (fun _ _=>trivial) (deep:=deep) (by omega) (by omega) l.length 0 h2 (left - 1) (by omega) (hts.keep k02 fun _ _ h=>h) (by omega) (by omega) (by omega)
   rw [List.drop_zero] at e3 hz
   rw [show lk (f + 1) (.mk k n s l) deep left = lkS (lk f) l (deep - 1) (left - 1) from by rw [lk,if_neg (by simp [c3]; omega)]]
   refine ⟨z,h3,Am.r124 (lets fun h1'' eh=>?_),KB.trans k02 k3 (fun _ _ h=>h) (fun _ _ h=>h),hz⟩
   rw [hh1] at eh
   subst eh
   rw [w]
   refine bj (q:=([some (.int .i64 (7 - deep)),some (.int .i64 (100 - (left - 1))),some (.pointer (at0 h.length)),some (.bool false)],h2)) (ifF (by simp; omega) (ifF (by simp; omega) (q4 o1 (bs e2 (bB rfl rfl))))) ?_
   refine bI rfl (bI rfl (bs rfl (bB rfl (ifF (by decide) (bS (o2.at0 (i:=3) rfl) ?_)))))
   by_cases cc : lkS (lk f) l (deep - 1) (left - 1) ≥ 0
   ·rw [if_pos cc] at e3
    rw [decide_eq_true cc]
    exact bs e3 (ifF (by simp) (ifT rfl (bI rfl rfl)))
   ·rw [if_neg cc] at e3
    rw [decide_eq_false cc]
    exact bs e3 (ifT rfl (bI rfl (bB rfl rfl)))
def tOk (f : Nat) (t : Tm) : Bool:=decide (lk f t 6 100 ≥ 0)
theorem specTermOk_run {base f : Nat} {h : AH} {p : Nat→Prop} {k n : Int} {s : ByteArray} {a : Option Addr} {m : Nat} {t : Tm} (hm : TmR h p f t (termV k n s a m)) (hb : base≤h.length) :
  ∃ h',run (Et base) 58 [.agg (termV k n s a m).toArray] h = some (.bool (tOk f t),h')∧KB NoB h h':=by
 obtain ⟨o1,k1,q1⟩:=box_own (base:=base) (t:=42) (h:=h) (cs:=termV k n s a m) hb rfl
 generalize hh1 : h++[some (⟨termV k n s a m,42⟩ : Blk)] = h1' at o1 k1 q1
 obtain ⟨h2,e2,k2⟩:=look_run (base:=base) f h1' p t _ 6 100 (TmR.keep k1 (fun _ _ h=>h) _ _ _ hm) (by omega) (by omega) (by omega) (by omega) (by omega)
 refine ⟨h2,Am.r58 (lets fun h1'' eh=>?_),KB.trans k1 k2 (fun _ _ h=>h) (fun _ _ h=>h)⟩
 rw [hh1] at eh
 subst eh
 exact q4 o1 (bs e2 (bI rfl rfl))
theorem implTermOk_run {base f : Nat} {h : AH} {p : Nat→Prop} {k n : Int} {s : ByteArray} {a : Option Addr} {m : Nat} {t : Tm} (hm : TmR h p f t (termV k n s a m)) (hb : base≤h.length) :
  ∃ h',run (Et base) 65 [.agg (termV k n s a m).toArray] h = some (.bool (tOk f t),h')∧KB NoB h h':=by
 obtain ⟨o1,k1,q1⟩:=box_own (base:=base) (t:=42) (h:=h) (cs:=termV k n s a m) hb rfl
 generalize hh1 : h++[some (⟨termV k n s a m,42⟩ : Blk)] = h1' at o1 k1 q1
 obtain ⟨z,h2,e2,k2,_⟩:=coun_run (base:=base) f h1' p t _ 6 100 (TmR.keep k1 (fun _ _ h=>h) _ _ _ hm) (by omega) (by omega) (by omega) (by omega) (by omega)
 refine ⟨h2,Am.r65 (lets fun h1'' eh=>?_),KB.trans k1 k2 (fun _ _ h=>h) (fun _ _ h=>h)⟩
 rw [hh1] at eh
 subst eh
 exact q4 o1 (bs e2 (bs rfl (bI rfl (bB rfl rfl))))
theorem szTermS_run {base f : Nat} {h : AH} {p : Nat→Prop} {l : List Tm} {a : Option Addr} {left : Int} (hl : l.length≤9223372036854775807) (hs : TsR h p f l a) (hb : base≤h.length) (hp : ∀ b,p b→b < h.length) (h0 : 0≤left) (h1 : left≤1048576) :
  ∃ z h',run (Et base) 56 [.slice a l.length l.length,.int .i64 left] h = some (.int .i64 z,h')∧KB NoB h h'∧z≤left∧-1≤z∧(¬ z < 0→l.length≤1048576∧(∀ t∈l,TmB f t)∧z + ((l.length + sumL (tcnt f) l : Nat) : Int)≤left):=by
 by_cases hn : left - (l.length : Int) < 0
 ·refine ⟨-1,h,Am.r56 ?_,KB.refl _ _,by omega,by omega,fun h=>absurd (by decide) h⟩
  rw [w64i (by omega) (by omega)]
  exact ifT (decide_eq_true hn) rfl
 ·obtain ⟨e,z,h',y1,y2,y3,y4,y5,y6⟩:=szTermS_loop (base:=base) (f:=f) (szTerm_run f) (by omega) l.length 0 h (left - (l.length : Int)) (by omega) hs hb hp (by omega) (by omega)
  refine ⟨z,h',Am.r56 ?_,y3,by omega,by omega,fun hz=>?_⟩
  ·rw [w64i (by omega) (by omega)]
   refine ifF (by simpa using hn) (bs y1 ?_)
   rcases y2 with rfl|rfl
   ·exact ifT rfl (bI rfl rfl)
   ·exact ifF (show ¬ (2 : Nat) = 1 by decide) (ifT rfl (bI rfl rfl))
  ·obtain ⟨y7,y8⟩:=y6 hz
   rw [List.drop_zero] at y8
   exact ⟨by omega,fun t ht=>by
    obtain ⟨j,hj⟩:=List.getElem?_of_mem ht
    exact y7 j t (by omega) hj,by omega⟩
theorem szIntS_run {base : Nat} {h : AH} {a : Option Addr} {n : Nat} {left : Int} (hl : n≤9223372036854775807) (h0 : 0≤left) (h1 : left≤1048576) : ∃ z,run (Et base) 94 [.slice a n n,.int .i64 left] h = some (.int .i64 z,h)∧z≤left∧-1≤z∧(¬ z < 0→z + (n : Int)≤left):=by
 by_cases hn : left - (n : Int) < 0
 ·refine ⟨-1,Am.r94 ?_,by omega,by omega,fun h=>absurd (by decide) h⟩
  rw [w64i (by omega) (by omega)]
  exact ifT (decide_eq_true hn) rfl
 ·refine ⟨left - (n : Int),Am.r94 ?_,by omega,by omega,fun _=>by omega⟩
  rw [w64i (by omega) (by omega)]
  exact ifF (by simpa using hn) rfl
def AcB (f : Nat) (A : Ac) : Prop:=A.regs.length≤1048576∧A.box.length≤1048576∧A.links.length≤1048576∧(∀ t∈A.regs,TmB f t)∧(∀ t∈A.box,TmB f t)
def AcM (A : Ac) : Prop:=A.regs.length≤9223372036854775807∧A.box.length≤9223372036854775807∧A.links.length≤9223372036854775807
theorem szActor_run {base f : Nat} {h : AH} {p : Nat→Prop} {A : Ac} {cs : List Value} {left : Int} (hM : AcM A) (x : AcR h p f A cs) (hb : base≤h.length) (hp : ∀ b,p b→b < h.length) (h0 : 0≤left) (h1 : left≤1048576) :
  ∃ z h',run (Et base) 113 [.agg cs.toArray,.int .i64 left] h = some (.int .i64 z,h')∧KB NoB h h'∧z≤left∧-1≤z∧(¬ z < 0→AcB f A∧z + ((A.regs.length + sumL (tcnt f) A.regs : Nat) : Int) + ((A.box.length + sumL (tcnt f) A.box : Nat) : Int) + (A.links.length : Int)≤left):=by
 obtain ⟨a,b,g,rfl,hr,hx,hl,_⟩:=x
 obtain ⟨m1,m2,m3⟩:=hM
 obtain ⟨o1,k1,q1⟩:=box_own (base:=base) (t:=134) (h:=h) (cs:=acV A.pid A.pc a A.regs.length b A.box.length g A.links.length) hb rfl
 generalize hh1 : h++[some (⟨acV A.pid A.pc a A.regs.length b A.box.length g A.links.length,134⟩ : Blk)] = h1' at o1 k1 q1
 obtain ⟨z2,h2,e2,k2,y1,y2,y3⟩:=szTermS_run (base:=base) (left:=left) m1 (hr.keep k1 fun _ _ h=>h) (by omega) (fun b hb=>by have:=hp b hb; omega) h0 h1
 have n2:=k2.1
 have k02:=kN k1 k2
 have go : ∀ {r : Value × AH},((if (decide (z2 < (0 : Int))) = true then some (.int .i64 (-1 : Int),h2) else ((cell h2 (List.length h) 3).bind getS).bind fun l5=>(run (Et base) 56 [(.slice l5.1 l5.2 l5.2),(.int .i64 z2)] h2).bind fun r6=>((some r6.1).bind (getI .i64)).bind fun n7=>
   (if (decide (n7 < (0 : Int))) = true then some ((.int .i64 (-1 : Int)),r6.2) else ((cell r6.2 (List.length h) 4).bind getS).bind fun l8=>(run (Et base) 94 [(.slice l8.1 l8.2 l8.2),(.int .i64 n7)] r6.2).bind fun r9=>((some r9.1).bind (getI .i64)).bind fun n10=>(if (decide (n10 < (0 : Int))) = true then some ((.int .i64 (-1 : Int)),r9.2) else some ((.int .i64 n10),r9.2)))) = some r) →
   run (Et base) 113 [.agg (acV A.pid A.pc a A.regs.length b A.box.length g A.links.length).toArray,.int .i64 left] h = some r:=by
  intro r hr
  refine Am.r113 (lets fun y ey=>?_)
  rw [hh1] at ey
  rw [ey]
  exact bS (o1.at0 (i:=2) rfl) (bs e2 (bI rfl hr))
 by_cases c2 : z2 < 0
 ·exact ⟨-1,h2,go (ifT (decide_eq_true c2) rfl),k02,by omega,by omega,fun h=>absurd (by decide) h⟩
 obtain ⟨b1,b2,b3⟩:=y3 c2
 obtain ⟨z3,h3,e3,k3,u1,u2,u3⟩:=szTermS_run (base:=base) (left:=z2) m2 (hx.keep k02 fun _ _ h=>h) (by omega) (fun b hb=>by have:=hp b hb; omega) (by omega) (by omega)
 have n3:=k3.1
 have k03:=kN k02 k3
 by_cases c3 : z3 < 0
 ·exact ⟨-1,h3,go (ifF (by simpa using c2) (bS ((o1.keepN k2).at0 (i:=3) rfl) (bs e3 (bI rfl (ifT (decide_eq_true c3) rfl))))),k03,by omega,by omega,fun h=>absurd (by decide) h⟩
 obtain ⟨d1,d2,d3⟩:=u3 c3
 obtain ⟨z4,e4,v1,v2,v3⟩:=szIntS_run (base:=base) (h:=h3) (a:=g) (n:=A.links.length) (left:=z3) m3 (by omega) (by omega)
 by_cases c4 : z4 < 0
 ·exact ⟨-1,h3,go (ifF (by simpa using c2) (bS ((o1.keepN k2).at0 (i:=3) rfl) (bs e3 (bI rfl (ifF (by simpa using c3) (bS (((o1.keepN k2).keepN k3).at0 (i:=4) rfl) (bs e4 (bI rfl (ifT (decide_eq_true c4) rfl))))))))),k03,by omega,by omega,fun h=>absurd (by decide) h⟩
 ·have:=v3 c4
  exact ⟨z4,h3,go (ifF (by simpa using c2) (bS ((o1.keepN k2).at0 (i:=3) rfl) (bs e3 (bI rfl (ifF (by simpa using c3) (bS (((o1.keepN k2).keepN k3).at0 (i:=4) rfl) (bs e4 (bI rfl (ifF (by simpa using c4) rfl))))))))),k03,by omega,by omega,fun _=>⟨⟨b1,d1,by omega,b2,d2⟩,by omega⟩⟩
theorem toActor_run {base f : Nat} {h : AH} {p : Nat→Prop} {A : Ac} {cs : List Value} (hB : AcB f A) (x : AcR h p f A cs) (hb : base≤h.length) (hp : ∀ b,p b→b < h.length) :
  ∃ cs' h',run (Et base) 120 [.agg cs.toArray] h = some (.agg cs'.toArray,h')∧AcG base f (iS h.length h'.length) h' A cs'∧KB NoB h h':=by
 obtain ⟨a,b,g,rfl,hr,hx,hl,hlb⟩:=x
 obtain ⟨m1,m2,m3,m4,m5⟩:=hB
 obtain ⟨o1,k1,q1⟩:=box_own (base:=base) (t:=134) (h:=h) (cs:=acV A.pid A.pc a A.regs.length b A.box.length g A.links.length) hb rfl
 generalize hh1 : h++[some (⟨acV A.pid A.pc a A.regs.length b A.box.length g A.links.length,134⟩ : Blk)] = h1 at o1 k1 q1
 obtain ⟨o2,k2,q2⟩:=box_own (base:=base) (t:=54) (h:=h1) (cs:=acV 0 0 none 0 none 0 none 0) (by omega) rfl
 generalize hh2 : h1++[some (⟨acV 0 0 none 0 none 0 none 0,54⟩ : Blk)] = h2 at o2 k2 q2
 obtain ⟨o3,k3,q3⟩:=box_own (base:=base) (t:=54) (h:=h2) (cs:=acV 0 0 none 0 none 0 none 0) (by omega) rfl
 generalize hh3 : h2++[some (⟨acV 0 0 none 0 none 0 none 0,54⟩ : Blk)] = h3 at o3 k3 q3
 have p3:=(o1.keepN k2).keepN k3
 have z3:=o2.keepN k3
 have k03:=kN (kN k1 k2) k3
 have nb1 : ∀ {i},blk (at0 h.length) i→i≠h2.length:=fun hi=>by rw [blk_at0] at hi; omega
 have nb2 : ∀ {i},blk (at0 h1.length) i→i≠h2.length:=fun hi=>by rw [blk_at0] at hi; omega
 obtain ⟨h4,e4,o4,k4,l4⟩:=o3.wr0 (i:=0) (new:=[.int .i64 A.pid]) (by simp) (by simp)
 have p4:=p3.keepB k4 fun i hi=>nb1 hi
 have z4:=z3.keepB k4 fun i hi=>nb2 hi
 obtain ⟨h5,e5,o5,k5,l5⟩:=o4.wr0 (i:=1) (new:=[.int .i64 A.pc]) (by simp [setAt]) (by simp)
 have p5:=p4.keepB k5 fun i hi=>nb1 hi
 have z5:=z4.keepB k5 fun i hi=>nb2 hi
 have k05 : KB NoB h h5:=kFresh (kFresh k03 k4 fun i hi=>by omega) k5 fun i hi=>by omega
 obtain ⟨a6,h6,e6,r6,k6⟩:=toTermSD_run (base:=base) (toTermG_run f) m1 m4 (hr.keep k05 fun _ _ h=>h) (by omega) (fun b hb=>by have:=hp b hb; omega)
 have n6:=k6.1
 obtain ⟨h7,e7,o7,k7,l7⟩:=(o5.keepN k6).wr0 (i:=2) (new:=[.slice a6 A.regs.length A.regs.length]) (by simp [setAt]) (by simp)
 have p7:=(p5.keepN k6).keepB k7 fun i hi=>nb1 hi
 have z7:=(z5.keepN k6).keepB k7 fun i hi=>nb2 hi
 have r7:=r6.keep (TmG.kp _ _) k7 fun b hb hk=>by omega
 have k07 : KB NoB h h7:=kFresh (kN k05 k6) k7 fun i hi=>by omega
 obtain ⟨a8,h8,e8,r8,k8⟩:=toTermSD_run (base:=base) (toTermG_run f) m2 m5 (hx.keep k07 fun _ _ h=>h) (by omega) (fun b hb=>by have:=hp b hb; omega)
 have n8:=k8.1
 obtain ⟨h9,e9,o9,k9,l9⟩:=(o7.keepN k8).wr0 (i:=3) (new:=[.slice a8 A.box.length A.box.length]) (by simp [setAt]) (by simp)
 have p9:=(p7.keepN k8).keepB k9 fun i hi=>nb1 hi
 have z9:=(z7.keepN k8).keepB k9 fun i hi=>nb2 hi
 have r9:=(r7.keep (TmG.kp _ _) k8 fun _ _ h=>h).keep (TmG.kp _ _) k9 fun b hb hk=>by omega
 have s9:=r8.keep (TmG.kp _ _) k9 fun b hb hk=>by omega
 have k09 : KB NoB h h9:=kFresh (kN k07 k8) k9 fun i hi=>by omega
 obtain ⟨a10,h10,e10,w10,k10,f10⟩:=toIntS_run (base:=base) (hl.keepN k09) m3 (by omega)
 have n10:=k10.1
 obtain ⟨h11,e11,o11,k11,l11⟩:=(o9.keepN k10).wr0 (i:=4) (new:=[.slice a10 A.links.length A.links.length]) (by simp [setAt]) (by simp)
 have z11:=(z9.keepN k10).keepB k11 fun i hi=>nb2 hi
 have r11:=(r9.keep (TmG.kp _ _) k10 fun _ _ h=>h).keep (TmG.kp _ _) k11 fun b hb hk=>by omega
 have s11:=(s9.keep (TmG.kp _ _) k10 fun _ _ h=>h).keep (TmG.kp _ _) k11 fun b hb hk=>by omega
 have w11:=w10.keepB k11 fun b hb=>by have:=f10 b hb; omega
 have hset : setAt (setAt (setAt (setAt (setAt (acV 0 0 none 0 none 0 none 0) 0 [.int .i64 A.pid]) 1 [.int .i64 A.pc]) 2 [.slice a6 A.regs.length A.regs.length]) 3 [.slice a8 A.box.length A.box.length]) 4 [.slice a10 A.links.length A.links.length] = acV A.pid A.pc a6 A.regs.length a8 A.box.length a10 A.links.length:=rfl
 rw [hset] at o11
 obtain ⟨h12,e12,o12,k12,l12⟩:=z11.wr0 (i:=0) (new:=acV A.pid A.pc a6 A.regs.length a8 A.box.length a10 A.links.length) (by simp) (by simp)
 have hz : setAt (acV 0 0 none 0 none 0 none 0) 0 (acV A.pid A.pc a6 A.regs.length a8 A.box.length a10 A.links.length) = acV A.pid A.pc a6 A.regs.length a8 A.box.length a10 A.links.length:=rfl
 rw [hz] at o12
 have k012 : KB NoB h h12:=kFresh (kFresh (kN k09 k10) k11 fun i hi=>by omega) k12 fun i hi=>by omega
 refine ⟨acV A.pid A.pc a6 A.regs.length a8 A.box.length a10 A.links.length,h12,Am.r120 (lets fun y ey=>?_),⟨a6,a8,a10,iS h5.length h6.length,iS h7.length h8.length,iS h9.length h10.length,rfl,r11.keep (TmG.kp _ _) k12 fun b hb hk=>by omega,s11.keep (TmG.kp _ _) k12 fun b hb hk=>by omega,w11.keepB k12 fun b hb=>by have:=f10 b hb; omega,fun b hb=>⟨f10 b hb,(w10.lt hb).2⟩,fun b hb=>by constructor <;> omega,fun b hb=>by constructor <;> omega,fun b hb=>by constructor <;> omega,fun b h1 h2=>by omega,fun b h1 h2=>by omega,fun b h1 h2=>by omega⟩,k012⟩
 rw [hh1] at ey
 rw [ey]
 refine lets fun y ey=>?_
 rw [hh2] at ey
 rw [ey]
 refine lets fun y ey=>?_
 rw [hh3] at ey
 rw [ey]
 refine bI (p3.at0 (i:=0) rfl) (bs e4 (bI (p4.at0 (i:=1) rfl) (bs e5 (bS (p5.at0 (i:=2) rfl) (bs e6 (bS rfl (bs e7 ?_)))))))
 refine bS (p7.at0 (i:=3) rfl) (bs e8 (bS rfl (bs e9 (bS (p9.at0 (i:=4) rfl) (bs e10 (bS rfl (bs e11 ?_)))))))
 refine bI (o11.at0 (i:=0) rfl) (bI (o11.at0 (i:=1) rfl) (bS (o11.at0 (i:=2) rfl) (bS (o11.at0 (i:=3) rfl) (bS (o11.at0 (i:=4) rfl) (bs e12 ?_)))))
 exact bI (o12.at0 (i:=0) rfl) (bI (o12.at0 (i:=1) rfl) (bS (o12.at0 (i:=2) rfl) (bS (o12.at0 (i:=3) rfl) (bS (o12.at0 (i:=4) rfl) rfl))))
theorem AcB.M {f : Nat} {A : Ac} (x : AcB f A) : AcM A:=by
 obtain ⟨h1,h2,h3,_,_⟩:=x
 exact ⟨by omega,by omega,by omega⟩
theorem AcB.Le {f : Nat} {A : Ac} (x : AcB f A) : A.Le:=by
 obtain ⟨h1,h2,h3,_,_⟩:=x
 exact ⟨by simp only [maxLen]; omega,by simp only [maxLen]; omega,by omega⟩
structure In where
 op : Int
 a : Int
 b : Int
 c : Int
 n : Int
 s : ByteArray
abbrev inV (x : In) : List Value:=[.int .i64 x.op,.int .i64 x.a,.int .i64 x.b,.int .i64 x.c,.int .i64 x.n,.string x.s]
def insR : List In→List Value
 | []=>[]
 | x :: r=>inV x++insR r
theorem insR_len : ∀ l : List In,(insR l).length = l.length * 6
 | []=>rfl
 | x :: r=>by simp only [insR,List.length_append,insR_len r,List.length_cons,List.length_nil]; omega
theorem insR_get : ∀ {l : List In} {i j : Nat} {x : In},l[i]? = some x→j < 6→(insR l)[i * 6 + j]? = (inV x)[j]?
 | [],i,j,x,h,_=>by simp at h
 | y :: r,0,j,x,h,hj=>by
  simp at h
  subst h
  rw [insR,List.getElem?_append_left (by simp; omega)]
  simp
 | y :: r,i + 1,j,x,h,hj=>by
  rw [insR,List.getElem?_append_right (by simp; omega)]
  simp only [List.getElem?_cons_succ] at h
  rw [show (i + 1) * 6 + j - (inV y).length = i * 6 + j from by simp; omega]
  exact insR_get h hj
theorem insR_set : ∀ {l : List In} {i : Nat} {x : In},i < l.length→setAt (insR l) (i * 6) (inV x) = insR (l.set i x)
 | [],i,x,h=>by simp at h
 | y :: r,0,x,h=>by
  simp [insR,setAt]
 | y :: r,i + 1,x,h=>by
  have ih:=insR_set (l:=r) (i:=i) (x:=x) (by simpa using h)
  simp only [insR,List.set_cons_succ,← ih]
  unfold setAt
  rw [List.take_append,List.drop_append]
  have h6 : (inV y).length = 6:=rfl
  rw [List.take_of_length_le (by rw [h6]; omega),List.drop_of_length_le (by rw [h6]; omega),h6]
  rw [show (i + 1) * 6 - 6 = i * 6 from by omega,show (i + 1) * 6 + (inV x).length - 6 = i * 6 + (inV x).length from by omega]
  simp
theorem In.get {h : AH} {a : Option Addr} {l : List In} (x : Sl h a (insR l)) {i : Nat} (hi : i < l.length) :
  ∃ ad,a = some ad∧Am.cell h ad.block (ad.off + i * 6) = some (.int .i64 l[i].op)∧Am.cell h ad.block (ad.off + i * 6 + 1) = some (.int .i64 l[i].a)∧Am.cell h ad.block (ad.off + i * 6 + 1 + 1) = some (.int .i64 l[i].b)∧Am.cell h ad.block (ad.off + i * 6 + 1 + 1 + 1) = some (.int .i64 l[i].c) ∧
   Am.cell h ad.block (ad.off + i * 6 + 1 + 1 + 1 + 1) = some (.int .i64 l[i].n)∧Am.cell h ad.block (ad.off + i * 6 + 1 + 1 + 1 + 1 + 1) = some (.string l[i].s):=by
 have g:=fun (j : Nat) (v : Value) (hj : j < 6) (hv : (inV l[i])[j]? = some v)=>x.cell ((insR_get (List.getElem?_eq_getElem hi) hj).trans hv)
 obtain ⟨ad,rfl,g0⟩:=g 0 _ (by decide) rfl
 obtain ⟨ad1,e,g1⟩:=g 1 _ (by decide) rfl
 injection e with e; subst e
 obtain ⟨ad1,e,g2⟩:=g 2 _ (by decide) rfl
 injection e with e; subst e
 obtain ⟨ad1,e,g3⟩:=g 3 _ (by decide) rfl
 injection e with e; subst e
 obtain ⟨ad1,e,g4⟩:=g 4 _ (by decide) rfl
 injection e with e; subst e
 obtain ⟨ad1,e,g5⟩:=g 5 _ (by decide) rfl
 injection e with e; subst e
 exact ⟨ad,rfl,g0,by rw [Nat.add_assoc]; exact g1,by rw [Nat.add_assoc,Nat.add_assoc]; exact g2,by rw [Nat.add_assoc,Nat.add_assoc,Nat.add_assoc]; exact g3,by rw [Nat.add_assoc,Nat.add_assoc,Nat.add_assoc,Nat.add_assoc]; exact g4,by rw [Nat.add_assoc,Nat.add_assoc,Nat.add_assoc,Nat.add_assoc,Nat.add_assoc]; exact g5⟩
theorem qi {base t n : Nat} {h : AH} {x : In} (o : Own base t h (at0 n) (inV x)) {β : Type} {f : Int→Int→Int→Int→Int→ByteArray→Option β} {r : Option β} (hf : f x.op x.a x.b x.c x.n x.s = r) :
  (((Am.cell h n 0).bind (getI .i64)).bind fun n1=>((Am.cell h n 1).bind (getI .i64)).bind fun n2=>((Am.cell h n 2).bind (getI .i64)).bind fun n3=>((Am.cell h n 3).bind (getI .i64)).bind fun n4=>((Am.cell h n 4).bind (getI .i64)).bind fun n5=>((Am.cell h n 5).bind getStr).bind fun s6=>f n1 n2 n3 n4 n5 s6) = r:=
 bI (o.at0 (i:=0) rfl) (bI (o.at0 (i:=1) rfl) (bI (o.at0 (i:=2) rfl) (bI (o.at0 (i:=3) rfl) (bI (o.at0 (i:=4) rfl) (bT (o.at0 (i:=5) rfl) hf)))))
theorem szIns_run {base : Nat} {h : AH} {x : In} {left : Int} (hs : x.s.size≤9223372036854775807) (h0 : 0≤left) (h1 : left≤1048576) (hb : base≤h.length) :
  ∃ z h',run (Et base) 112 [.agg (inV x).toArray,.int .i64 left] h = some (.int .i64 z,h')∧KB NoB h h'∧z≤left∧-1≤z∧(¬ z < 0→x.s.size≤1048576):=by
 obtain ⟨o1,k1,q1⟩:=box_own (base:=base) (t:=131) (h:=h) (cs:=inV x) hb rfl
 generalize hh1 : h++[some (⟨inV x,131⟩ : Blk)] = h1' at o1 k1 q1
 by_cases hn : left - (x.s.size : Int) < 0
 ·refine ⟨-1,h1',Am.r112 (lets fun y ey=>?_),k1,by omega,by omega,fun h=>absurd (by decide) h⟩
  rw [hh1] at ey
  subst ey
  refine bT (o1.at0 (i:=5) rfl) ?_
  rw [w64i (by omega) (by omega)]
  exact ifT (decide_eq_true hn) rfl
 ·refine ⟨left - (x.s.size : Int),h1',Am.r112 (lets fun y ey=>?_),k1,by omega,by omega,fun _=>by omega⟩
  rw [hh1] at ey
  subst ey
  refine bT (o1.at0 (i:=5) rfl) ?_
  rw [w64i (by omega) (by omega)]
  exact ifF (by simpa using hn) rfl
theorem szInsS_loop {base : Nat} {l : List In} {a : Option Addr} (hL : ∀ x∈l,x.s.size≤9223372036854775807) (hl : l.length≤1048576) : ∀ (d i : Nat) (h : AH) (left : Int),i + d = l.length→Sl h a (insR l)→base≤h.length→0≤left→left≤1048576 →
  ∃ e z h',loopL (B53_0 base) [some (.slice a l.length l.length),some (.int .i64 left),some (.int .i64 (i : Int))] h = some (e,[some (.int .i64 z)],h')∧(e = 1∨e = 2)∧KB NoB h h'∧z≤left∧-1≤z∧(¬ z < 0→∀ j x,i≤j→l[j]? = some x→x.s.size≤1048576):=by
 intro d
 induction d with
 | zero=>
  intro i h left hi hs hb h0 h1
  refine ⟨2,left,h,?_,.inr rfl,KB.refl _ _,Int.le_refl _,by omega,fun _ j x hj hx=>?_⟩
  ·refine loop_off (by decide) ?_
   rw [B53_0_eq]
   exact ifF (by simp; omega) rfl
  ·have:=(List.getElem?_eq_some_iff.1 hx).1; omega
 | succ d ihd=>
  intro i h left hi hs hb h0 h1
  have hlt : i < l.length:=by omega
  obtain ⟨ad,rfl,g0,g1,g2,g3,g4,g5⟩:=In.get hs hlt
  obtain ⟨z,h',e,k,z1,z2,z3⟩:=szIns_run (base:=base) (h:=h) (x:=l[i]) (left:=left) (hL _ (List.getElem_mem hlt)) h0 h1 hb
  have head : ∀ {r : Option (Nat × Slots × AH)},(if (decide (z < (0 : Int))) = true then some (1,[some (.int .i64 (-1 : Int))],h') else some (0,[some (.slice (some ad) l.length l.length),some (.int .i64 z),some (.int .i64 (IntKind.wrap .i64 ((i : Int) + (1 : Int))))],h')) = r→B53_0 base [some (.slice (some ad) l.length l.length),some (.int .i64 left),some (.int .i64 (i : Int))] h = r:=by
   intro r hr
   rw [B53_0_eq]
   refine ifT (decide_eq_true (by omega)) (ifT ⟨by omega,by omega⟩ (bs rfl ?_))
   simp only [Int.toNat_natCast]
   exact bI g0 (bI g1 (bI g2 (bI g3 (bI g4 (bT g5 (bs e (bI rfl hr)))))))
  by_cases hn : z < 0
  ·exact ⟨1,-1,h',loop_off (by decide) (head (ifT (decide_eq_true hn) rfl)),.inl rfl,k,by omega,by omega,fun h=>absurd (by decide) h⟩
  ·have n1:=k.1
   obtain ⟨e2,z',h2,y1,y2,y3,y4,y5,y6⟩:=ihd (i + 1) h' z (by omega) (hs.keepN k) (by omega) (by omega) (by omega)
   refine ⟨e2,z',h2,loop_on (head (ifF (by simpa using hn) ?_)) y1,y2,kN k y3,by omega,by omega,fun hz j x hj hx=>?_⟩
   ·rw [w64i (n:=(i : Int) + 1) (by omega) (by omega)]; rfl
   ·by_cases c : j = i
    ·subst c
     rw [List.getElem?_eq_getElem hlt] at hx
     injection hx with hx
     subst hx
     exact z3 hn
    ·exact y6 hz j x (by omega) hx
theorem szInsS_run {base : Nat} {h : AH} {l : List In} {a : Option Addr} (hL : ∀ x∈l,x.s.size≤9223372036854775807) (hl : l.length≤9223372036854775807) (hs : Sl h a (insR l)) (hb : base≤h.length) :
  ∃ z h',run (Et base) 53 [.slice a l.length l.length,.int .i64 1048576] h = some (.int .i64 z,h')∧KB NoB h h'∧(¬ z < 0→l.length≤1048576∧(∀ x∈l,x.s.size≤1048576)∧z≤1048576):=by
 by_cases hn : (1048576 : Int) - (l.length : Int) < 0
 ·refine ⟨-1,h,Am.r53 ?_,KB.refl _ _,fun h=>absurd (by decide) h⟩
  rw [w64i (by omega) (by omega)]
  exact ifT (decide_eq_true hn) rfl
 ·obtain ⟨e,z,h',y1,y2,y3,y4,y5,y6⟩:=szInsS_loop (base:=base) hL (by omega) l.length 0 h (1048576 - (l.length : Int)) (by omega) hs hb (by omega) (by omega)
  refine ⟨z,h',Am.r53 ?_,y3,fun hz=>⟨by omega,fun x hx=>?_,by omega⟩⟩
  ·rw [w64i (by omega) (by omega)]
   refine ifF (by simpa using hn) (bs y1 ?_)
   rcases y2 with rfl|rfl
   ·exact ifT rfl (bI rfl rfl)
   ·exact ifF (show ¬ (2 : Nat) = 1 by decide) (ifT rfl (bI rfl rfl))
  ·obtain ⟨j,hj⟩:=List.getElem?_of_mem hx
   exact y6 hz j x (by omega) hj
theorem toIns_run {base : Nat} {h : AH} {x : In} (hb : base≤h.length) : ∃ h',run (Et base) 119 [.agg (inV x).toArray] h = some (.agg (inV x).toArray,h')∧KB NoB h h':=by
 obtain ⟨o1,k1,q1⟩:=box_own (base:=base) (t:=131) (h:=h) (cs:=inV x) hb rfl
 generalize hh1 : h++[some (⟨inV x,131⟩ : Blk)] = h1 at o1 k1 q1
 obtain ⟨o2,k2,q2⟩:=box_own (base:=base) (t:=143) (h:=h1) (cs:=inV ⟨0,0,0,0,0,⟨#[]⟩⟩) (by omega) rfl
 generalize hh2 : h1++[some (⟨inV ⟨0,0,0,0,0,⟨#[]⟩⟩,143⟩ : Blk)] = h2 at o2 k2 q2
 obtain ⟨o3,k3,q3⟩:=box_own (base:=base) (t:=143) (h:=h2) (cs:=inV ⟨0,0,0,0,0,⟨#[]⟩⟩) (by omega) rfl
 generalize hh3 : h2++[some (⟨inV ⟨0,0,0,0,0,⟨#[]⟩⟩,143⟩ : Blk)] = h3 at o3 k3 q3
 have o1:=(o1.keepN k2).keepN k3
 have o2:=o2.keepN k3
 have nb1 : ∀ {i},blk (at0 h.length) i→i≠h2.length:=fun hi=>by rw [blk_at0] at hi; omega
 have nb2 : ∀ {i},blk (at0 h1.length) i→i≠h2.length:=fun hi=>by rw [blk_at0] at hi; omega
 obtain ⟨h4,e4,o4,k4,l4⟩:=o3.wr0 (i:=0) (new:=[.int .i64 x.op]) (by simp) (by simp)
 have p4:=o1.keepB k4 fun i hi=>nb1 hi
 have z4:=o2.keepB k4 fun i hi=>nb2 hi
 obtain ⟨h5,e5,o5,k5,l5⟩:=o4.wr0 (i:=1) (new:=[.int .i64 x.a]) (by simp [setAt]) (by simp)
 have p5:=p4.keepB k5 fun i hi=>nb1 hi
 have z5:=z4.keepB k5 fun i hi=>nb2 hi
 obtain ⟨h6,e6,o6,k6,l6⟩:=o5.wr0 (i:=2) (new:=[.int .i64 x.b]) (by simp [setAt]) (by simp)
 have p6:=p5.keepB k6 fun i hi=>nb1 hi
 have z6:=z5.keepB k6 fun i hi=>nb2 hi
 obtain ⟨h7,e7,o7,k7,l7⟩:=o6.wr0 (i:=3) (new:=[.int .i64 x.c]) (by simp [setAt]) (by simp)
 have p7:=p6.keepB k7 fun i hi=>nb1 hi
 have z7:=z6.keepB k7 fun i hi=>nb2 hi
 obtain ⟨h8,e8,o8,k8,l8⟩:=o7.wr0 (i:=4) (new:=[.int .i64 x.n]) (by simp [setAt]) (by simp)
 have p8:=p7.keepB k8 fun i hi=>nb1 hi
 have z8:=z7.keepB k8 fun i hi=>nb2 hi
 obtain ⟨h9,e9,o9,k9,l9⟩:=o8.wr0 (i:=5) (new:=[.string x.s]) (by simp [setAt]) (by simp)
 have z9:=z8.keepB k9 fun i hi=>nb2 hi
 have hset : setAt (setAt (setAt (setAt (setAt (setAt (inV ⟨0,0,0,0,0,⟨#[]⟩⟩) 0 [.int .i64 x.op]) 1 [.int .i64 x.a]) 2 [.int .i64 x.b]) 3 [.int .i64 x.c]) 4 [.int .i64 x.n]) 5 [.string x.s] = inV x:=rfl
 rw [hset] at o9
 obtain ⟨h10,e10,o10,k10,l10⟩:=z9.wr0 (i:=0) (new:=inV x) (by simp) (by simp)
 have hz : setAt (inV ⟨0,0,0,0,0,⟨#[]⟩⟩) 0 (inV x) = inV x:=rfl
 rw [hz] at o10
 have k03:=kN (kN k1 k2) k3
 have kk : KB (· = h2.length) h3 h9:=KB.trans (KB.trans (KB.trans (KB.trans (KB.trans k4 k5 (fun _ _ h=>h) (fun _ _ h=>h)) k6 (fun _ _ h=>h) (fun _ _ h=>h)) k7 (fun _ _ h=>h) (fun _ _ h=>h)) k8 (fun _ _ h=>h) (fun _ _ h=>h)) k9 (fun _ _ h=>h) (fun _ _ h=>h)
 refine ⟨h10,Am.r119 (lets fun y ey=>?_),kFresh (kFresh k03 kk fun i hi=>by omega) k10 fun i hi=>by omega⟩
 rw [hh1] at ey
 subst ey
 refine lets fun y ey=>?_
 rw [hh2] at ey
 subst ey
 refine lets fun y ey=>?_
 rw [hh3] at ey
 subst ey
 refine bI (o1.at0 (i:=0) rfl) (bs e4 (bI (p4.at0 (i:=1) rfl) (bs e5 (bI (p5.at0 (i:=2) rfl) (bs e6 (bI (p6.at0 (i:=3) rfl) (bs e7 (bI (p7.at0 (i:=4) rfl) (bs e8 (bT (p8.at0 (i:=5) rfl) (bs e9 ?_)))))))))))
 exact qi o9 (bs e10 (qi o10 rfl))
theorem rep_ins (n : Nat) : rep (inV ⟨0,0,0,0,0,⟨#[]⟩⟩) n = insR (List.replicate n ⟨0,0,0,0,0,⟨#[]⟩⟩):=by
 induction n with
 | zero=>rfl
 | succ n ih=>simp only [rep,List.replicate_succ,insR,ih]
theorem toInsS_loop {base ob : Nat} {l : List In} {a : Option Addr} (hl : l.length≤1048576) (hbo : base≤ob) (hab : ∀ b,insR l≠[]→blk a b→b≠ob) : ∀ (d i : Nat) (h : AH) (ys : List In),i + d = l.length→Sl h a (insR l)→ob < h.length→Own base 143 h (at0 ob) (insR ys)→ys.length = l.length→(∀ j,j < i→ys[j]? = l[j]?) →
  ∃ h',loopL (B60_0 base) [some (.slice a l.length l.length),some (.slice (at0 ob) l.length l.length),some (.int .i64 (i : Int))] h = some (2,[some (.slice (at0 ob) l.length l.length)],h')∧Own base 143 h' (at0 ob) (insR l)∧KB (· = ob) h h':=by
 intro d
 induction d with
 | zero=>
  intro i h ys hi hs hlh ow hy hj
  have : ys = l:=List.ext_getElem? fun j=>by
   by_cases h : j < i
   ·exact hj j h
   ·rw [List.getElem?_eq_none (by omega),List.getElem?_eq_none (by omega)]
  subst this
  refine ⟨h,?_,ow,KB.refl _ _⟩
  refine loop_off (by decide) ?_
  rw [B60_0_eq]
  exact ifF (by simp; omega) rfl
 | succ d ihd=>
  intro i h ys hi hs hlh ow hy hj
  have hlt : i < l.length:=by omega
  obtain ⟨ad,ea,g0,g1,g2,g3,g4,g5⟩:=In.get hs hlt
  obtain ⟨h2,e2,k2⟩:=toIns_run (base:=base) (h:=h) (x:=l[i]) (by omega)
  have n2:=k2.1
  obtain ⟨h3,e3,o3,k3,l3⟩:=(ow.keepN k2).wr0 (i:=i * 6) (new:=inV l[i]) (by rw [insR_len]; simp; omega) (by simp)
  rw [insR_set (by omega)] at o3
  have hs3 : Sl h3 a (insR l):=(hs.keepN k2).keepB (h0:=h2) k3 (by
   by_cases hne : insR l = []
   ·exact .inl hne
   ·exact .inr fun b hb=>hab b hne hb)
  obtain ⟨h4,y1,y2,y3⟩:=ihd (i + 1) h3 (ys.set i l[i]) (by omega) hs3 (by omega) o3 (by simpa using hy) (fun j hj'=>by
   by_cases c : j = i
   ·subst c
    rw [List.getElem?_set_self (by omega),List.getElem?_eq_getElem hlt]
   ·rw [List.getElem?_set_ne (by omega)]; exact hj j (by omega))
  refine ⟨h4,loop_on ?_ y1,y2,KB.trans (kNB k2 k3) y3 (fun _ _ h=>h) (fun _ _ h=>h)⟩
  rw [B60_0_eq]
  subst ea
  refine ifT (decide_eq_true (by omega)) (ifT ⟨by omega,by omega⟩ (bs rfl ?_))
  simp only [Int.toNat_natCast]
  refine bI g0 (bI g1 (bI g2 (bI g3 (bI g4 (bT g5 (bs e2 (bs (v:=inV l[i]) rfl ?_)))))))
  refine bI rfl (bI rfl (bI rfl (bI rfl (bI rfl (bT rfl (ifT ⟨by omega,by omega⟩ (bs rfl ?_)))))))
  refine bs (by rw [Nat.zero_add]; exact e3) ?_
  rw [w64i (n:=(i : Int) + 1) (by omega) (by omega)]
  rfl
theorem toInsS_run {base : Nat} {h : AH} {l : List In} {a : Option Addr} (hl : l.length≤1048576) (hs : Sl h a (insR l)) (hb : base≤h.length) :
  ∃ h',run (Et base) 60 [.slice a l.length l.length] h = some (.slice (at0 h.length) l.length l.length,h')∧Own base 143 h' (at0 h.length) (insR l)∧KB NoB h h'∧h.length < h'.length:=by
 obtain ⟨o1,k1,q1⟩:=box_own (base:=base) (t:=143) (h:=h) (cs:=rep (inV ⟨0,0,0,0,0,⟨#[]⟩⟩) l.length) hb rfl
 generalize hh1 : h++[some (⟨rep (inV ⟨0,0,0,0,0,⟨#[]⟩⟩) l.length,143⟩ : Blk)] = h1 at o1 k1 q1
 rw [rep_ins] at o1
 obtain ⟨h2,y1,y2,y3⟩:=toInsS_loop (base:=base) (ob:=h.length) hl hb (fun b hne hb'=>by
  have:=sl_lt hs hne hb'; omega) l.length 0 h1 _ (by omega) (hs.keepN k1) (by omega) o1 (by simp) (fun j hj=>by omega)
 have:=y3.1
 refine ⟨h2,Am.r60 (ifT ⟨rfl,by omega,by omega,by omega⟩ ?_),y2,kFresh k1 y3 fun i hi=>by omega,by omega⟩
 simp only [Int.toNat_natCast]
 refine lets fun y ey=>?_
 rw [hh1] at ey
 subst ey
 exact bs y1 (ifT rfl (bS rfl rfl))
theorem eqIns_run {base : Nat} {h : AH} {x : In} (hb : base≤h.length) : ∃ h',run (Et base) 126 [.agg (inV x).toArray,.agg (inV x).toArray] h = some (.bool true,h')∧KB NoB h h':=by
 obtain ⟨o1,k1,q1⟩:=box_own (base:=base) (t:=143) (h:=h) (cs:=inV x) hb rfl
 generalize hh1 : h++[some (⟨inV x,143⟩ : Blk)] = h1 at o1 k1 q1
 obtain ⟨o2,k2,q2⟩:=box_own (base:=base) (t:=143) (h:=h1) (cs:=inV x) (by omega) rfl
 generalize hh2 : h1++[some (⟨inV x,143⟩ : Blk)] = h2 at o2 k2 q2
 have o1:=o1.keepN k2
 refine ⟨h2,Am.r126 (lets fun y ey=>?_),kN k1 k2⟩
 rw [hh1] at ey
 subst ey
 refine lets fun y ey=>?_
 rw [hh2] at ey
 subst ey
 refine bI (o1.at0 (i:=0) rfl) (bI (o2.at0 (i:=0) rfl) (ifF (by simp) (bI (o1.at0 (i:=1) rfl) (bI (o2.at0 (i:=1) rfl) (ifF (by simp) ?_)))))
 refine bI (o1.at0 (i:=2) rfl) (bI (o2.at0 (i:=2) rfl) (ifF (by simp) (bI (o1.at0 (i:=3) rfl) (bI (o2.at0 (i:=3) rfl) (ifF (by simp) ?_)))))
 exact bI (o1.at0 (i:=4) rfl) (bI (o2.at0 (i:=4) rfl) (ifF (by simp) (bT (o1.at0 (i:=5) rfl) (bT (o2.at0 (i:=5) rfl) (ifF (by simp) rfl)))))
theorem eqInsS_loop {base : Nat} {l : List In} {a b : Option Addr} (hl : l.length≤9223372036854775807) : ∀ (d i : Nat) (h : AH),i + d = l.length→Sl h a (insR l)→Sl h b (insR l)→base≤h.length →
  ∃ h',loopL (B67_0 base) [some (.slice a l.length l.length),some (.slice b l.length l.length),some (.int .i64 (i : Int))] h = some (2,[],h')∧KB NoB h h':=by
 intro d
 induction d with
 | zero=>
  intro i h hi hs hs2 hb
  refine ⟨h,?_,KB.refl _ _⟩
  refine loop_off (by decide) ?_
  rw [B67_0_eq]
  exact ifF (by simp; omega) rfl
 | succ d ihd=>
  intro i h hi hs hs2 hb
  have hlt : i < l.length:=by omega
  obtain ⟨ad,rfl,g0,g1,g2,g3,g4,g5⟩:=In.get hs hlt
  obtain ⟨ad2,rfl,f0,f1,f2,f3,f4,f5⟩:=In.get hs2 hlt
  obtain ⟨h2,e2,k2⟩:=eqIns_run (base:=base) (h:=h) (x:=l[i]) (by omega)
  have n2:=k2.1
  obtain ⟨h3,y1,y2⟩:=ihd (i + 1) h2 (by omega) (hs.keepN k2) (hs2.keepN k2) (by omega)
  refine ⟨h3,loop_on ?_ y1,kN k2 y2⟩
  rw [B67_0_eq]
  refine ifT (decide_eq_true (by omega)) (ifT ⟨by omega,by omega⟩ (bs rfl ?_))
  simp only [Int.toNat_natCast]
  refine bI g0 (bI g1 (bI g2 (bI g3 (bI g4 (bT g5 (ifT ⟨by omega,by omega⟩ (bs rfl ?_)))))))
  refine bI f0 (bI f1 (bI f2 (bI f3 (bI f4 (bT f5 (bs e2 (bB rfl (ifF (by decide) ?_))))))))
  rw [w64i (n:=(i : Int) + 1) (by omega) (by omega)]
  rfl
theorem eqInsS_run {base : Nat} {h : AH} {l : List In} {a b : Option Addr} (hl : l.length≤9223372036854775807) (hs : Sl h a (insR l)) (hs2 : Sl h b (insR l)) (hb : base≤h.length) :
  ∃ h',run (Et base) 67 [.slice a l.length l.length,.slice b l.length l.length] h = some (.bool true,h')∧KB NoB h h':=by
 obtain ⟨h',y1,y2⟩:=eqInsS_loop (base:=base) hl l.length 0 h (by omega) hs hs2 hb
 refine ⟨h',Am.r67 (ifF (by simp) ?_),y2⟩
 exact bs y1 (ifF (show ¬ (2 : Nat) = 1 by decide) (ifT rfl rfl))
def markI (k : Int) : In:=⟨k,k + 1,k + 1 + 1,k + 1 + 1 + 1,k + 1 + 1 + 1 + 1,mt (k + 1 + 1 + 1 + 1 + 1)⟩
theorem markInsS_loop {base n : Nat} (hn : n≤1048576) {a : Option Addr} : ∀ (d i : Nat) (h : AH) (ys : List In) (k : Int),i + d = n→ys.length = n→Own base 143 h a (insR ys)→0≤k→k + 6 * (d : Int)≤1000000000 →
  (∀ j,j < i→ys[j]? = some (markI (k - 6 * ((i : Int) - (j : Int))))) →
  ∃ ys' h',loopL (B71_0 base) [some (.slice a n n),some (.int .i64 k),some (.int .i64 (i : Int))] h = some (2,[some (.int .i64 (k + 6 * (d : Int)))],h')∧Own base 143 h' a (insR ys')∧ys'.length = n∧(∀ j,j < n→ys'[j]? = some (markI (k + 6 * (d : Int) - 6 * ((n : Int) - (j : Int)))))∧KB (blk a) h h':=by
 intro d
 induction d with
 | zero=>
  intro i h ys k hi hy ow h0 hk hm
  have : i = n:=by omega
  subst this
  refine ⟨ys,h,?_,ow,hy,fun j hj=>by rw [hm j hj]; simp,KB.refl _ _⟩
  refine loop_off (by decide) ?_
  rw [B71_0_eq]
  exact ifF (by simp) (by simp)
 | succ d ihd=>
  intro i h ys k hi hy ow h0 hk hm
  have hlt : i < ys.length:=by omega
  have hR:=insR_len ys
  obtain ⟨ad,h1,ea,e1,o1,k1,l1⟩:=ow.wr (i:=i * 6 + 0) (new:=[.int .i64 k]) (by simp; omega) (by simp)
  subst ea
  obtain ⟨ad',h2,ea,e2,o2,k2,l2⟩:=o1.wr (i:=i * 6 + 1) (new:=[.int .i64 (k + 1)]) (by simp [setAt]; omega) (by simp)
  injection ea with ea; subst ea
  obtain ⟨ad',h3,ea,e3,o3,k3,l3⟩:=o2.wr (i:=i * 6 + 2) (new:=[.int .i64 (k + 1 + 1)]) (by simp [setAt]; omega) (by simp)
  injection ea with ea; subst ea
  obtain ⟨ad',h4,ea,e4,o4,k4,l4⟩:=o3.wr (i:=i * 6 + 3) (new:=[.int .i64 (k + 1 + 1 + 1)]) (by simp [setAt]; omega) (by simp)
  injection ea with ea; subst ea
  obtain ⟨ad',h5,ea,e5,o5,k5,l5⟩:=o4.wr (i:=i * 6 + 4) (new:=[.int .i64 (k + 1 + 1 + 1 + 1)]) (by simp [setAt]; omega) (by simp)
  injection ea with ea; subst ea
  obtain ⟨h6,e6,k6⟩:=markText_run (base:=base) (h:=h5) (k:=k + 1 + 1 + 1 + 1 + 1) (by omega)
  obtain ⟨ad',h7,ea,e7,o7,k7,l7⟩:=(o5.keepN k6).wr (i:=i * 6 + 5) (new:=[.string (mt (k + 1 + 1 + 1 + 1 + 1))]) (by simp [setAt]; omega) (by simp)
  injection ea with ea; subst ea
  have hset : setAt (setAt (setAt (setAt (setAt (setAt (insR ys) (i * 6 + 0) [.int .i64 k]) (i * 6 + 1) [.int .i64 (k + 1)]) (i * 6 + 2) [.int .i64 (k + 1 + 1)]) (i * 6 + 3) [.int .i64 (k + 1 + 1 + 1)]) (i * 6 + 4) [.int .i64 (k + 1 + 1 + 1 + 1)]) (i * 6 + 5) [.string (mt (k + 1 + 1 + 1 + 1 + 1))] = insR (ys.set i (markI k)):=by
   rw [← insR_set hlt]
   apply List.ext_getElem?
   intro j
   have z1 : ∀ (vs : List Value) (o : Nat) (v : Value),o + 1≤vs.length→(setAt vs o [v])[j]? = if o = j then some v else vs[j]?:=by
    intro vs o v ho
    rw [setAt_get (by simpa using ho)]
    by_cases c : o = j
    ·subst c; simp
    ·rw [if_neg c,if_neg (by simp; omega)]
   rw [z1 _ _ _ (by simp [setAt]; omega),z1 _ _ _ (by simp [setAt]; omega),z1 _ _ _ (by simp [setAt]; omega),z1 _ _ _ (by simp [setAt]; omega),z1 _ _ _ (by simp [setAt]; omega),z1 _ _ _ (by simp; omega),setAt_get (by simp; omega)]
   by_cases hin : i * 6≤j∧j < i * 6 + (inV (markI k)).length
   ·rw [if_pos hin]
    have hj6 : j - i * 6 < 6:=by have:=hin.2; simp at this; omega
    obtain ⟨q,rfl⟩ : ∃ q,j = i * 6 + q:=⟨j - i * 6,by omega⟩
    rw [show i * 6 + q - i * 6 = q from by omega] at hj6 ⊢
    match q,hj6 with
    | 0,_=>simp [markI]
    | 1,_=>simp [markI]
    | 2,_=>simp [markI]
    | 3,_=>simp [markI]
    | 4,_=>simp [markI]
    | 5,_=>simp [markI]
   ·rw [if_neg hin,if_neg,if_neg,if_neg,if_neg,if_neg,if_neg] <;> (intro e; apply hin; simp; omega)
  rw [hset] at o7
  have kA : KB (blk (some ad)) h h7:=KB.trans (KB.trans (KB.trans (KB.trans (KB.trans (KB.trans k1 k2 (fun _ _ h=>h) (fun _ _ h=>h)) k3 (fun _ _ h=>h) (fun _ _ h=>h)) k4 (fun _ _ h=>h) (fun _ _ h=>h)) k5 (fun _ _ h=>h) (fun _ _ h=>h)) k6 (fun _ _ h=>h) (fun _ _ h=>h.elim)) k7 (fun _ _ h=>h) (fun _ _ h=>h)
  obtain ⟨ys',h8,y1,y2,y3,y4,y5⟩:=ihd (i + 1) h7 (ys.set i (markI k)) (k + 6) (by omega) (by simpa using hy) o7 (by omega) (by omega) (fun j hj=>by
   by_cases c : j = i
   ·subst c
    rw [List.getElem?_set_self hlt,show k + 6 - 6 * (((j + 1 : Nat) : Int) - (j : Int)) = k from by omega]
   ·rw [List.getElem?_set_ne (by omega),hm j (by omega),show k + 6 - 6 * (((i + 1 : Nat) : Int) - (j : Int)) = k - 6 * ((i : Int) - (j : Int)) from by omega])
  have ek : k + 6 + 6 * (d : Int) = k + 6 * ((d + 1 : Nat) : Int):=by omega
  rw [ek] at y1 y4
  refine ⟨ys',h8,loop_on ?_ y1,y2,y3,y4,KB.trans kA y5 (fun _ _ h=>h) (fun _ _ h=>h)⟩
  rw [B71_0_eq]
  refine ifT (decide_eq_true (by omega)) (ifT ⟨by omega,by omega⟩ (bs rfl ?_))
  simp only [Int.toNat_natCast]
  rw [w64i (n:=k + 1) (by omega) (by omega),w64i (n:=k + 1 + 1) (by omega) (by omega),w64i (n:=k + 1 + 1 + 1) (by omega) (by omega),w64i (n:=k + 1 + 1 + 1 + 1) (by omega) (by omega),w64i (n:=k + 1 + 1 + 1 + 1 + 1) (by omega) (by omega),w64i (n:=k + 1 + 1 + 1 + 1 + 1 + 1) (by omega) (by omega),w64i (n:=(i : Int) + 1) (by omega) (by omega)]
  refine bs (by rw [Nat.add_assoc]; exact e1) (ifT ⟨by omega,by omega⟩ (bs rfl (bs (by rw [Nat.add_assoc]; exact e2) (ifT ⟨by omega,by omega⟩ (bs rfl (bs (by rw [Nat.add_assoc]; exact e3) (ifT ⟨by omega,by omega⟩ (bs rfl (bs (by rw [Nat.add_assoc]; exact e4) (ifT ⟨by omega,by omega⟩ (bs rfl (bs (by rw [Nat.add_assoc]; exact e5) (bs e6 (bT rfl (ifT ⟨by omega,by omega⟩ (bs rfl (bs (by rw [Nat.add_assoc]; exact e7) ?_)))))))))))))))))
  show some _ = some _
  rw [show k + 1 + 1 + 1 + 1 + 1 + 1 = k + 6 from by omega]
  rfl
theorem markInsS_run {base : Nat} {h : AH} {a : Option Addr} {ys : List In} {k : Int} (hn : ys.length≤1048576) (ow : Own base 143 h a (insR ys)) (h0 : 0≤k) (hk : k + 6 * (ys.length : Int)≤1000000000) :
  ∃ ys' h',run (Et base) 71 [.slice a ys.length ys.length,.int .i64 k] h = some (.int .i64 (k + 6 * (ys.length : Int)),h')∧Own base 143 h' a (insR ys')∧ys'.length = ys.length∧(∀ j : Nat,j < ys.length→ys'[j]? = some (markI (k + 6 * (j : Int))))∧KB (blk a) h h':=by
 obtain ⟨ys',h',y1,y2,y3,y4,y5⟩:=markInsS_loop (base:=base) hn ys.length 0 h ys k (by omega) rfl ow h0 hk (fun j hj=>by omega)
 refine ⟨ys',h',Am.r71 (bs y1 (ifT rfl (bI rfl rfl))),y2,y3,fun j hj=>?_,y5⟩
 rw [y4 j hj,show k + 6 * (ys.length : Int) - 6 * ((ys.length : Int) - (j : Int)) = k + 6 * (j : Int) from by omega]
theorem itB {c : Bool} {A B : Option (Value × AH)} {x y : Bool} {h : AH} (hA : A = some (.bool x,h)) (hB : B = some (.bool y,h)) : (if c = true then A else B) = some (.bool (if c = true then x else y),h):=by
 cases c
 ·rw [if_neg (by decide),if_neg (by decide)]; exact hB
 ·rw [if_pos rfl,if_pos rfl]; exact hA
theorem itJ {β : Type} {c : Bool} {A B : Option (Sum (Slots × AH) β)} (s : Bool→Slots) {x y : Bool} {h : AH} (hA : A = some (.inl (s x,h))) (hB : B = some (.inl (s y,h))) : (if c = true then A else B) = some (.inl (s (if c = true then x else y),h)):=by
 cases c
 ·rw [if_neg (by decide),if_neg (by decide)]; exact hB
 ·rw [if_pos rfl,if_pos rfl]; exact hA
theorem orZ {β : Type} {b : Bool} {y : Option Value} {z : Int} (hy : y = some (.int .i64 z)) {T F r : Option β} (hT : (b || z == 0) = true→T = r) (hF : (b || z == 0) = false→F = r) :
  (if b = true then T else (y.bind (getI .i64)).bind fun n=>if (n == (0 : Int)) = true then T else F) = r:=by
 cases b with
 | true=>exact ifT rfl (hT rfl)
 | false=>
  refine ifF (by decide) (bI hy ?_)
  cases hz : z == 0 with
  | true=>exact ifT rfl (hT (by rw [hz]; rfl))
  | false=>exact ifF (by decide) (hF (by rw [hz]; rfl))
def shp (op : Int) : ByteArray:=
 if op = 1 then ⟨#[65,78]⟩ else if op = 2 then ⟨#[65,83]⟩ else if op = 3∨op = 7∨op = 8∨op = 13 then ⟨#[65,66]⟩ else if op = 4∨op = 6∨op = 10∨op = 11∨op = 16 then ⟨#[65,66,78]⟩
 else if op = 5∨op = 9 then ⟨#[65,66,67]⟩ else if op = 12 then ⟨#[78]⟩ else if op = 14∨op = 15∨op = 17∨op = 18∨op = 19∨op = 20 then ⟨#[65]⟩ else ⟨#[]⟩
theorem op_cases {op : Int} (h : 1≤op∧op≤20) : op = 1∨op = 2∨op = 3∨op = 4∨op = 5∨op = 6∨op = 7∨op = 8∨op = 9∨op = 10∨op = 11∨op = 12∨op = 13∨op = 14∨op = 15∨op = 16∨op = 17∨op = 18∨op = 19∨op = 20:=by omega
theorem shp_out {op : Int} (h : ¬ (1≤op∧op≤20)) : shp op = ⟨#[]⟩:=by
 unfold shp
 rw [if_neg (by omega),if_neg (by omega),if_neg (by omega),if_neg (by omega),if_neg (by omega),if_neg (by omega),if_neg (by omega)]
theorem shapeOf_run {base : Nat} {h : AH} {op : Int} : run (Et base) 211 [.int .i64 op] h = some (.string (shp op),h):=by
 by_cases c : 1≤op∧op≤20
 ·rcases op_cases c with rfl|rfl|rfl|rfl|rfl|rfl|rfl|rfl|rfl|rfl|rfl|rfl|rfl|rfl|rfl|rfl|rfl|rfl|rfl|rfl <;> exact Am.r211 rfl
 ·have ne : ∀ k : Int,1≤k→k≤20→(op == k) = false:=fun k h1 h2=>by
   rw [beq_eq_false_iff_ne]; omega
  rw [shp_out c]
  refine Am.r211 ?_
  try unfold qf211
  rw [ne 1 (by decide) (by decide),ne 2 (by decide) (by decide),ne 3 (by decide) (by decide),ne 7 (by decide) (by decide),ne 8 (by decide) (by decide),ne 13 (by decide) (by decide)]
  refine ifF (by decide) (ifF (by decide) (bj _ (ifF (by decide) (ifF (by decide) (ifF (by decide) rfl))) (bI rfl (bB rfl (ifF (by decide) ?_)))))
  rw [ne 4 (by decide) (by decide),ne 6 (by decide) (by decide),ne 10 (by decide) (by decide),ne 11 (by decide) (by decide),ne 16 (by decide) (by decide)]
  refine bj _ (ifF (by decide) (ifF (by decide) (ifF (by decide) (ifF (by decide) rfl)))) (bI rfl (bB rfl (ifF (by decide) ?_)))
  rw [ne 5 (by decide) (by decide),ne 9 (by decide) (by decide)]
  refine bj _ (ifF (by decide) rfl) (bI rfl (bB rfl (ifF (by decide) ?_)))
  rw [ne 12 (by decide) (by decide),ne 14 (by decide) (by decide),ne 15 (by decide) (by decide),ne 17 (by decide) (by decide),ne 18 (by decide) (by decide),ne 19 (by decide) (by decide),ne 20 (by decide) (by decide)]
  exact ifF (by decide) (bj _ (ifF (by decide) (ifF (by decide) (ifF (by decide) (ifF (by decide) (ifF (by decide) rfl))))) (bB rfl (ifF (by decide) rfl)))
def hasB (s : ByteArray) (c : Int) : Bool:=decide (firstIdx s (Nat.toUInt8 (Int.toNat c)) ≥ (0 : Int))
theorem has_run {base : Nat} {h : AH} {ad : Addr} {s : ByteArray} {c : Int} (g : Am.cell h ad.block ad.off = some (.string s)) : run (Et base) 212 [.int .u8 c,.pointer (some ad)] h = some (.bool (hasB s c),h):=by
 have e1 : run (Et base) 229 [.string s,.int .u8 c] h = some (.int .i64 (firstIdx s (Nat.toUInt8 (Int.toNat c))),h):=Am.r229 rfl
 have e2 : run (Et base) 213 [.string s,.int .u8 c] h = some (.int .i64 (firstIdx s (Nat.toUInt8 (Int.toNat c))),h):=Am.r213 (bs e1 (bI rfl rfl))
 exact Am.r212 (bT g (bs e2 (bI rfl rfl)))
abbrev emp (s : ByteArray) : Bool:=s.toList == (⟨#[]⟩ : ByteArray).toList
def onlyN (x : In) : Bool:=!emp (shp x.op) && ((hasB (shp x.op) 65 || x.a == 0) && ((hasB (shp x.op) 66 || x.b == 0) && ((hasB (shp x.op) 67 || x.c == 0) && ((hasB (shp x.op) 78 || x.n == 0) && (hasB (shp x.op) 83 || emp x.s)))))
theorem onlyNamed_run {base : Nat} {h : AH} {x : In} (hb : base≤h.length) : ∃ h',run (Et base) 179 [.agg (inV x).toArray] h = some (.bool (onlyN x),h')∧KB NoB h h':=by
 obtain ⟨o1,k1,q1⟩:=box_own (base:=base) (t:=143) (h:=h) (cs:=inV x) hb rfl
 generalize hh1 : h++[some (⟨inV x,143⟩ : Blk)] = h1 at o1 k1 q1
 obtain ⟨o2,k2,q2⟩:=box_own (base:=base) (t:=9) (h:=h1) (cs:=[.string (shp x.op)]) (by omega) rfl
 generalize hh2 : h1++[some (⟨[.string (shp x.op)],9⟩ : Blk)] = h2 at o2 k2 q2
 have o1:=o1.keepN k2
 refine ⟨h2,Am.r179 (lets fun y ey=>?_),kN k1 k2⟩
 rw [hh1] at ey
 rw [ey]
 refine bI ((Own.at0 (i:=0) (v:=.int .i64 x.op) (by rw [← hh1]; exact Own.new base _ h _ hb) rfl)) (bs shapeOf_run (bT rfl (nw (show base≤h1.length by omega) rfl fun y ey=>?_)))
 rw [hh2] at ey
 rw [ey]
 have hr:=fun c=>has_run (base:=base) (h:=h2) (ad:=⟨h1.length,0,none⟩) (s:=shp x.op) (c:=c) (o2.at0 (i:=0) rfl)
 refine bT (o2.at0 (i:=0) rfl) ?_
 cases c0 : emp (shp x.op) with
 | true=>
  rw [show onlyN x = false by unfold onlyN; rw [c0]; rfl]
  unfold emp at c0
  rw [c0]
  exact ifF (by decide) rfl
 | false=>
  have c0':=c0
  unfold emp at c0
  rw [c0]
  refine ifT rfl (bs (bs (hr 65) (bB rfl rfl)) (bB rfl ?_))
  refine orZ (o1.at0 (i:=1) rfl) (fun c1=>?_) (fun c1=>by unfold onlyN; rw [c0',c1]; rfl)
  refine bs (bs (hr 66) (bB rfl rfl)) (bB rfl ?_)
  refine orZ (o1.at0 (i:=2) rfl) (fun c2=>?_) (fun c2=>by unfold onlyN; rw [c0',c1,c2]; rfl)
  refine bs (bs (hr 67) (bB rfl rfl)) (bB rfl ?_)
  refine orZ (o1.at0 (i:=3) rfl) (fun c3=>?_) (fun c3=>by unfold onlyN; rw [c0',c1,c2,c3]; rfl)
  refine bs (bs (hr 78) (bB rfl rfl)) (bB rfl ?_)
  refine orZ (o1.at0 (i:=4) rfl) (fun c4=>?_) (fun c4=>by unfold onlyN; rw [c0',c1,c2,c3,c4]; rfl)
  refine bs (bs (hr 83) (bB rfl rfl)) (bB rfl ?_)
  have e : onlyN x = (hasB (shp x.op) 83 || emp x.s):=by unfold onlyN; rw [c0',c1,c2,c3,c4]; rfl
  rw [e]
  cases hasB (shp x.op) 83 with
  | true=>exact ifT rfl rfl
  | false=>exact ifF (by decide) (bT (o1.at0 (i:=5) rfl) rfl)
def tailI (x : In) (n : Int) : Bool:=
 if (x.op == (1 : Int)) = true then inB x.n (-1000000) 1000000 else if (x.op == (2 : Int)) = true then atomOk x.s else if (x.op == (4 : Int)) = true then (if inB x.n 0 8 = true then decide (IntKind.wrap .i64 (x.b + x.n)≤(8 : Int)) else false)
 else if (x.op == (6 : Int)) = true then inB x.n 0 7 else if (x.op == (11 : Int)) = true then (if inB x.b 1 6 = true then inB x.n 0 (IntKind.wrap .i64 (n - 1)) else false)
 else if (if (x.op == (10 : Int)) = true then (x.op == (10 : Int)) else (if (x.op == (12 : Int)) = true then (x.op == (12 : Int)) else (x.op == (16 : Int)))) = true then inB x.n 0 (IntKind.wrap .i64 (n - 1)) else true
def implB (x : In) (n : Int) : Bool:=inB n 1 200 && (onlyN x && (inB x.a 0 7 && (inB x.b 0 7 && (inB x.c 0 7 && tailI x n))))
theorem isReg_run {base : Nat} {h : AH} {v : Int} : run (Et base) 180 [.int .i64 v] h = some (.bool (inB v 0 7),h):=Am.r180 (bs in_run (bB rfl rfl))
theorem implInsOk_run {base : Nat} {h : AH} {x : In} {n : Int} (hs : x.s.size≤9223372036854775807) (hb : base≤h.length) : ∃ h',run (Et base) 139 [.agg (inV x).toArray,.int .i64 n] h = some (.bool (implB x n),h')∧KB NoB h h':=by
 obtain ⟨o1,k1,q1⟩:=box_own (base:=base) (t:=143) (h:=h) (cs:=inV x) hb rfl
 generalize hh1 : h++[some (⟨inV x,143⟩ : Blk)] = h1 at o1 k1 q1
 have e1:=in_run (base:=base) (h:=h1) (x:=n) (a:=1) (b:=200)
 cases c1 : inB n 1 200 with
 | false=>
  rw [c1] at e1
  rw [show implB x n = false by unfold implB; rw [c1]; rfl]
  refine ⟨h1,Am.r139 (lets fun y ey=>?_),k1⟩
  rw [hh1] at ey
  subst ey
  exact bj _ (bs e1 (bB rfl (ifT rfl rfl))) (bI rfl (bs rfl (bB rfl (ifT rfl rfl))))
 | true=>
  rw [c1] at e1
  obtain ⟨h2,e2,k2⟩:=onlyNamed_run (base:=base) (h:=h1) (x:=x) (by omega)
  have o2:=o1.keepN k2
  cases c2 : onlyN x with
  | false=>
   rw [c2] at e2
   rw [show implB x n = false by unfold implB; rw [c1,c2]; rfl]
   refine ⟨h2,Am.r139 (lets fun y ey=>?_),kN k1 k2⟩
   rw [hh1] at ey
   subst ey
   exact bj _ (bs e1 (bB rfl (ifF (by decide) (qi o1 (bs e2 (bB rfl (ifT rfl rfl))))))) (bI rfl (bs rfl (bB rfl (ifT rfl rfl))))
  | true=>
   rw [c2] at e2
   refine ⟨h2,Am.r139 (lets fun y ey=>?_),kN k1 k2⟩
   rw [hh1] at ey
   subst ey
   have ea:=isReg_run (base:=base) (h:=h2) (v:=x.a)
   have eb:=isReg_run (base:=base) (h:=h2) (v:=x.b)
   have ec:=isReg_run (base:=base) (h:=h2) (v:=x.c)
   cases c3 : inB x.a 0 7 with
   | false=>
    rw [c3] at ea
    rw [show implB x n = false by unfold implB; rw [c1,c2,c3]; rfl]
    exact bj _ (bs e1 (bB rfl (ifF (by decide) (qi o1 (bs e2 (bB rfl (ifF (by decide) (bI (o2.at0 (i:=1) rfl) (bs ea (bB rfl (ifT rfl rfl))))))))))) (bI rfl (bs rfl (bB rfl (ifT rfl rfl))))
   | true=>
    rw [c3] at ea
    cases c4 : inB x.b 0 7 with
    | false=>
     rw [c4] at eb
     rw [show implB x n = false by unfold implB; rw [c1,c2,c3,c4]; rfl]
     exact bj _ (bs e1 (bB rfl (ifF (by decide) (qi o1 (bs e2 (bB rfl (ifF (by decide) (bI (o2.at0 (i:=1) rfl) (bs ea (bB rfl (ifF (by decide) (bI (o2.at0 (i:=2) rfl) (bs eb (bB rfl (ifT rfl rfl))))))))))))))) (bI rfl (bs rfl (bB rfl (ifT rfl rfl))))
    | true=>
     rw [c4] at eb
     have ht : implB x n = (inB x.c 0 7 && tailI x n):=by unfold implB; rw [c1,c2,c3,c4]; rfl
     rw [ht]
     refine bj ([some (.int .i64 n),some (.pointer (at0 h.length)),some (.bool (!inB x.c 0 7))],h2) (bs e1 (bB rfl (ifF (by decide) (qi o1 (bs e2 (bB rfl (ifF (by decide) (bI (o2.at0 (i:=1) rfl) (bs ea (bB rfl (ifF (by decide) (bI (o2.at0 (i:=2) rfl) (bs eb (bB rfl (ifF (by decide) (bI (o2.at0 (i:=3) rfl) (bs ec (bB rfl rfl)))))))))))))))))) (bI rfl (bs rfl (bB rfl ?_)))
     cases inB x.c 0 7 with
     | false=>exact ifT rfl rfl
     | true=>
      refine ifF (by decide) (bI (o2.at0 (i:=0) rfl) ?_)
      rw [Bool.true_and]
      unfold tailI
      refine itB (bI (o2.at0 (i:=4) rfl) (bs in_run (bB rfl rfl))) (itB (bT (o2.at0 (i:=5) rfl) (bs (implAtomOk_run hs) (bB rfl rfl))) (itB (bI (o2.at0 (i:=4) rfl) (bs in_run (bB rfl (itB (bI (o2.at0 (i:=2) rfl) (bI (o2.at0 (i:=4) rfl) rfl)) rfl)))) (itB (bI (o2.at0 (i:=4) rfl) (bs in_run (bB rfl rfl))) (itB (bI (o2.at0 (i:=2) rfl) (bs in_run (bB rfl (itB (bI (o2.at0 (i:=4) rfl) (bs in_run (bB rfl rfl))) rfl)))) ?_))))
      exact bj _ (itJ (fun b=>[some (.int .i64 n),some (.pointer (at0 h.length)),some (.bool b)]) rfl (itJ (fun b=>[some (.int .i64 n),some (.pointer (at0 h.length)),some (.bool b)]) rfl rfl)) (bI rfl (bs rfl (bB rfl (itB (bI (o2.at0 (i:=4) rfl) (bs in_run (bB rfl rfl))) rfl))))
def hasF (s : ByteArray) (c : Int) : Nat→Nat→Bool
 | 0,_=>false
 | d + 1,i=>if (((s.data.toList.getD i 0).toNat : Int) == c) = true then true else hasF s c d (i + 1)
def hasL (s : ByteArray) (c : Int) : Bool:=hasF s c s.size 0
theorem l8Letter_loop {base : Nat} {h : AH} {s : ByteArray} {c : Int} (hs : s.size≤9223372036854775807) : ∀ (d i : Nat),i + d = s.size →
  loopL (B204_0 base) [some (.string s),some (.int .u8 c),some (.int .i64 (i : Int))] h = if hasF s c d i = true then some (1,[some (.bool true)],h) else some (2,[],h):=by
 intro d
 induction d with
 | zero=>
  intro i hi
  refine loop_off (by decide) ?_
  rw [B204_0_eq]
  exact ifF (by simp; omega) rfl
 | succ d ih=>
  intro i hi
  rw [hasF]
  by_cases c1 : (((s.data.toList.getD i 0).toNat : Int) == c) = true
  ·rw [if_pos c1,if_pos rfl]
   refine loop_off (by decide) ?_
   rw [B204_0_eq]
   refine ifT (decide_eq_true (by omega)) (ifT ⟨by omega,by omega⟩ ?_)
   simp only [Int.toNat_natCast]
   exact ifT c1 rfl
  ·rw [if_neg c1,← ih (i + 1) (by omega)]
   refine loop_on ?_ rfl
   rw [B204_0_eq]
   refine ifT (decide_eq_true (by omega)) (ifT ⟨by omega,by omega⟩ ?_)
   simp only [Int.toNat_natCast]
   refine ifF c1 ?_
   rw [w64i (n:=(i : Int) + 1) (by omega) (by omega)]
   rfl
theorem l8Letter_run {base : Nat} {h : AH} {s : ByteArray} {c : Int} (hs : s.size≤9223372036854775807) : run (Et base) 204 [.string s,.int .u8 c] h = some (.bool (hasL s c),h):=by
 have e:=l8Letter_loop (base:=base) (h:=h) (c:=c) hs s.size 0 (by omega)
 rw [show ((0 : Nat) : Int) = 0 from rfl] at e
 refine Am.r204 ?_
 unfold hasL
 cases hb : hasF s c s.size 0 with
 | true=>rw [hb] at e; exact bs e (ifT rfl (bB rfl rfl))
 | false=>rw [hb] at e; exact bs e (ifF (show ¬ (2 : Nat) = 1 by decide) (ifT rfl rfl))
def regB (s : ByteArray) (c r : Int) : Bool:=if (!hasL s c) = true then (r == (0 : Int)) else inB r 0 7
theorem l8Reg_run {base : Nat} {h : AH} {s : ByteArray} {c r : Int} (hs : s.size≤9223372036854775807) : run (Et base) 182 [.string s,.int .u8 c,.int .i64 r] h = some (.bool (regB s c r),h):=by
 refine Am.r182 (bs (l8Letter_run hs) (bB rfl ?_))
 unfold regB
 exact itB rfl (bs l1In_run (bB rfl rfl))
def numB (x : In) (n : Int) : Bool:=
 if (x.op == (1 : Int)) = true then inB x.n (-1000000) 1000000 else if (x.op == (4 : Int)) = true then (if inB x.n 0 8 = true then decide (IntKind.wrap .i64 (x.b + x.n)≤(8 : Int)) else false)
 else if (x.op == (6 : Int)) = true then inB x.n 0 7
 else if (if (x.op == (10 : Int)) = true then (x.op == (10 : Int)) else (if (x.op == (11 : Int)) = true then (x.op == (11 : Int)) else (if (x.op == (12 : Int)) = true then (x.op == (12 : Int)) else (x.op == (16 : Int))))) = true then (if decide (x.n ≥ (0 : Int)) = true then decide (x.n < n) else false) else (x.n == (0 : Int))
theorem l8Num_run {base : Nat} {h : AH} {x : In} {n : Int} (hb : base≤h.length) : ∃ h',run (Et base) 184 [.agg (inV x).toArray,.int .i64 n] h = some (.bool (numB x n),h')∧KB NoB h h':=by
 obtain ⟨o1,k1,q1⟩:=box_own (base:=base) (t:=143) (h:=h) (cs:=inV x) hb rfl
 generalize hh1 : h++[some (⟨inV x,143⟩ : Blk)] = h1 at o1 k1 q1
 refine ⟨h1,Am.r184 (lets fun y ey=>?_),k1⟩
 rw [hh1] at ey
 subst ey
 refine bI (o1.at0 (i:=0) rfl) ?_
 unfold numB
 refine itB (bI (o1.at0 (i:=4) rfl) (bs l1In_run (bB rfl rfl))) (itB (bI (o1.at0 (i:=4) rfl) (bs l1In_run (bB rfl (itB (bI (o1.at0 (i:=2) rfl) (bI (o1.at0 (i:=4) rfl) rfl)) rfl)))) (itB (bI (o1.at0 (i:=4) rfl) (bs l1In_run (bB rfl rfl))) ?_))
 refine bj _ (itJ (fun b=>[some (.int .i64 n),some (.pointer (at0 h.length)),some (.bool b)]) rfl (itJ (fun b=>[some (.int .i64 n),some (.pointer (at0 h.length)),some (.bool b)]) rfl (itJ (fun b=>[some (.int .i64 n),some (.pointer (at0 h.length)),some (.bool b)]) rfl rfl))) (bI rfl (bs rfl (bB rfl ?_)))
 exact itB (bI (o1.at0 (i:=4) rfl) (itB (bI (o1.at0 (i:=4) rfl) rfl) rfl)) (bI (o1.at0 (i:=4) rfl) rfl)
def usesV : List Value:=[.string ⟨#[65,78]⟩,.string ⟨#[65,83]⟩,.string ⟨#[65,66]⟩,.string ⟨#[65,66,78]⟩,.string ⟨#[65,66,67]⟩,.string ⟨#[65,66,78]⟩,.string ⟨#[65,66]⟩,.string ⟨#[65,66]⟩,.string ⟨#[65,66,67]⟩,.string ⟨#[65,66,78]⟩,.string ⟨#[65,66,78]⟩,.string ⟨#[78]⟩,.string ⟨#[65,66]⟩,.string ⟨#[65]⟩,.string ⟨#[65]⟩,.string ⟨#[65,66,78]⟩,.string ⟨#[65]⟩,.string ⟨#[65]⟩,.string ⟨#[65]⟩,.string ⟨#[65]⟩]
theorem uses_at {op : Int} (h : 1≤op∧op≤20) : usesV[Int.toNat (op - 1)]? = some (.string (shp op)):=by
 rcases op_cases h with rfl|rfl|rfl|rfl|rfl|rfl|rfl|rfl|rfl|rfl|rfl|rfl|rfl|rfl|rfl|rfl|rfl|rfl|rfl|rfl <;> rfl
def specB (x : In) (n : Int) : Bool:=
 inB n 1 200 && (inB x.op 1 20 && (regB (shp x.op) 65 x.a && (regB (shp x.op) 67 x.c && ((if (x.op == (11 : Int)) = true then inB x.b 1 6 else regB (shp x.op) 66 x.b) && ((if (x.op == (2 : Int)) = true then atomOk x.s else emp x.s) && numB x n)))))
theorem specInsOk_run {base : Nat} {h : AH} {x : In} {n : Int} (hs : x.s.size≤9223372036854775807) (hb : base≤h.length) : ∃ h',run (Et base) 140 [.agg (inV x).toArray,.int .i64 n] h = some (.bool (specB x n),h')∧KB NoB h h':=by
 obtain ⟨o1,k1,q1⟩:=box_own (base:=base) (t:=143) (h:=h) (cs:=inV x) hb rfl
 generalize hh1 : h++[some (⟨inV x,143⟩ : Blk)] = h1 at o1 k1 q1
 have e1:=l1In_run (base:=base) (h:=h1) (x:=n) (a:=1) (b:=200)
 have e2:=l1In_run (base:=base) (h:=h1) (x:=x.op) (a:=1) (b:=20)
 cases c1 : inB n 1 200 with
 | false=>
  rw [c1] at e1
  rw [show specB x n = false by unfold specB; rw [c1]; rfl]
  refine ⟨h1,Am.r140 (lets fun y ey=>?_),k1⟩
  rw [hh1] at ey
  rw [ey]
  exact bj _ (bs e1 (bB rfl (ifT rfl rfl))) (bI rfl (bs rfl (bB rfl (ifT rfl rfl))))
 | true=>
  rw [c1] at e1
  cases c2 : inB x.op 1 20 with
  | false=>
   rw [c2] at e2
   rw [show specB x n = false by unfold specB; rw [c1,c2]; rfl]
   refine ⟨h1,Am.r140 (lets fun y ey=>?_),k1⟩
   rw [hh1] at ey
   rw [ey]
   exact bj _ (bs e1 (bB rfl (ifF (by decide) (bI (o1.at0 (i:=0) rfl) (bs e2 (bB rfl rfl)))))) (bI rfl (bs rfl (bB rfl (ifT rfl rfl))))
  | true=>
   rw [c2] at e2
   have hop : 1≤x.op∧x.op≤20:=by
    unfold inB at c2
    simp at c2
    omega
   obtain ⟨o3,k3,q3⟩:=box_own (base:=base) (t:=9) (h:=h1) (cs:=usesV) (by omega) rfl
   generalize hh3 : h1++[some (⟨usesV,9⟩ : Blk)] = h3 at o3 k3 q3
   have e3 : run (Et base) 181 [] h1 = some (.slice (at0 h1.length) 20 20,h3):=Am.r181 (lets fun y ey=>by
    have : y = h3:=ey.trans hh3
    rw [this])
   have o1:=o1.keepN k3
   have k03:=kN k1 k3
   have hw : IntKind.wrap .i64 (x.op - 1) = x.op - 1:=w64i (by omega) (by omega)
   have hsz : (shp x.op).size≤9223372036854775807:=by
    rcases op_cases hop with e|e|e|e|e|e|e|e|e|e|e|e|e|e|e|e|e|e|e|e <;> rw [e] <;> decide
   have eA:=l8Reg_run (base:=base) (h:=h3) (s:=shp x.op) (c:=65) (r:=x.a) hsz
   have eC:=l8Reg_run (base:=base) (h:=h3) (s:=shp x.op) (c:=67) (r:=x.c) hsz
   have eB:=l8Reg_run (base:=base) (h:=h3) (s:=shp x.op) (c:=66) (r:=x.b) hsz
   have eK:=l1In_run (base:=base) (h:=h3) (x:=x.b) (a:=1) (b:=6)
   have eS:=specAtomOk_run (base:=base) (h:=h3) hs
   obtain ⟨h4,e4,k4⟩:=l8Num_run (base:=base) (h:=h3) (x:=x) (n:=n) (by omega)
   have g0:=o1.at0 (i:=0) rfl
   have head : ∀ {r : Value × AH} (J : Bool),((if (!regB (shp x.op) 65 x.a) = true then true else if (!regB (shp x.op) 67 x.c) = true then true else if (x.op != (11 : Int)) = true then !regB (shp x.op) 66 x.b else !inB x.b 1 6) = J) →
     (∀ (z : Bool),((if (x.op == (2 : Int)) = true then !atomOk x.s else !emp x.s) = z)→(if J = true then some (.bool false,h3) else if z = true then some (.bool false,h3) else some (.bool (numB x n),h4)) = some r)→run (Et base) 140 [.agg (inV x).toArray,.int .i64 n] h = some r:=by
    intro r J hJ hZ
    have fin:=hZ _ rfl
    refine Am.r140 (lets fun y ey=>?_)
    rw [hh1] at ey
    rw [ey]
    refine bj _ (bs e1 (bB rfl (ifF (by decide) (bI (by rw [← hh1]; exact (Own.new base _ h _ hb).at0 (i:=0) rfl) (bs e2 (bB rfl rfl)))))) (bI rfl (bs rfl (bB rfl (ifF (by decide) (bs e3 (bS rfl ?_))))))
    rw [gate_pos (same_keep k3 (by rw [← hh1]; exact (Own.new base _ h _ hb).at0 (i:=0) rfl))]
    refine bI g0 ?_
    rw [hw]
    refine ifT ⟨by omega,by omega⟩ (bs rfl ?_)
    refine bT (s:=shp x.op) (by
     have:=o3.at0 (i:=Int.toNat (x.op - 1) * 1) (by rw [Nat.mul_one]; exact uses_at hop)
     rw [Nat.zero_add]
     exact this) ?_
    refine bj (q:=([some (.int .i64 n),some (.pointer (at0 h.length)),some (.bool J)],h3)) ?_ ?_
    ·refine bI (o1.at0 (i:=1) rfl) (bs eA (bB rfl ?_))
     rw [← hJ]
     cases regB (shp x.op) 65 x.a with
     | false=>exact ifT rfl rfl
     | true=>
      refine ifF (by decide) (bI (o1.at0 (i:=3) rfl) (bs eC (bB rfl ?_)))
      cases regB (shp x.op) 67 x.c with
      | false=>exact ifT rfl rfl
      | true=>
       refine ifF (by decide) (bI g0 ?_)
       cases c5 : x.op != (11 : Int) with
       | true=>
        have c6 : (x.op == (11 : Int)) = false:=by simpa [bne] using c5
        refine ifT rfl (bI (o1.at0 (i:=2) rfl) (bs eB (bB rfl ?_)))
        cases regB (shp x.op) 66 x.b with
        | false=>exact ifT rfl rfl
        | true=>
         refine ifF (by decide) (bI g0 ?_)
         rw [c6]
         exact ifF (by decide) rfl
       | false=>
        have c6 : (x.op == (11 : Int)) = true:=by simpa [bne] using c5
        refine ifF (by decide) (bI g0 ?_)
        rw [c6]
        exact ifT rfl (bI (o1.at0 (i:=2) rfl) (bs eK (bB rfl rfl)))
    ·refine bI rfl (bs rfl (bB rfl ?_))
     cases J with
     | true=>exact ifT rfl (by simpa using fin)
     | false=>
      refine ifF (by decide) ?_
      rw [if_neg (by decide)] at fin
      refine bj (q:=([some (.int .i64 n),some (.pointer (at0 h.length)),some (.bool (if (x.op == (2 : Int)) = true then !atomOk x.s else !emp x.s))],h3)) ?_ ?_
      ·refine bI g0 ?_
       cases c5 : x.op == (2 : Int) with
       | true=>
        have c6 : (x.op != (2 : Int)) = false:=by simpa [bne] using c5
        refine ifT rfl (bT (o1.at0 (i:=5) rfl) (bs eS (bB rfl ?_)))
        cases atomOk x.s with
        | false=>exact ifT rfl rfl
        | true=>
         refine ifF (by decide) (bI g0 ?_)
         rw [c6]
         exact ifF (by decide) rfl
       | false=>
        have c6 : (x.op != (2 : Int)) = true:=by simpa [bne] using c5
        refine ifF (by decide) (bI g0 ?_)
        rw [c6]
        exact ifT rfl (bT (o1.at0 (i:=5) rfl) rfl)
      ·refine bI rfl (bs rfl (bB rfl ?_))
       revert fin
       cases (if (x.op == (2 : Int)) = true then !atomOk x.s else !emp x.s) with
       | true=>intro fin; exact ifT rfl (by simpa using fin)
       | false=>
        intro fin
        exact ifF (by decide) (qi o1 (bs e4 (bB rfl (by simpa using fin))))
   have hv : specB x n = (!(if (!regB (shp x.op) 65 x.a) = true then true else if (!regB (shp x.op) 67 x.c) = true then true else if (x.op != (11 : Int)) = true then !regB (shp x.op) 66 x.b else !inB x.b 1 6) && (!(if (x.op == (2 : Int)) = true then !atomOk x.s else !emp x.s) && numB x n)):=by
    unfold specB
    rw [c1,c2]
    cases regB (shp x.op) 65 x.a <;> cases regB (shp x.op) 67 x.c <;> cases h11 : (x.op == (11 : Int)) <;> cases h2 : (x.op == (2 : Int)) <;> simp [bne,h11,h2]
   cases hJ : (if (!regB (shp x.op) 65 x.a) = true then true else if (!regB (shp x.op) 67 x.c) = true then true else if (x.op != (11 : Int)) = true then !regB (shp x.op) 66 x.b else !inB x.b 1 6) with
   | true=>exact ⟨h3,head true hJ fun z hz=>by rw [hv,hJ]; rfl,k03⟩
   | false=>
    cases hZ : (if (x.op == (2 : Int)) = true then !atomOk x.s else !emp x.s) with
    | true=>exact ⟨h3,head false hJ fun z hz=>by rw [← hz,hv,hJ,hZ]; rfl,k03⟩
    | false=>exact ⟨h4,head false hJ fun z hz=>by rw [← hz,hv,hJ,hZ]; simp,kN k03 k4⟩
theorem has_eq {op : Int} (h : 1≤op∧op≤20) : hasB (shp op) 65 = hasL (shp op) 65∧hasB (shp op) 66 = hasL (shp op) 66∧hasB (shp op) 67 = hasL (shp op) 67∧emp (shp op) = false:=by
 rcases op_cases h with rfl|rfl|rfl|rfl|rfl|rfl|rfl|rfl|rfl|rfl|rfl|rfl|rfl|rfl|rfl|rfl|rfl|rfl|rfl|rfl <;> decide +kernel
theorem reg_eq {t : ByteArray} {c v : Int} (h : hasB t c = hasL t c) : regB t c v = ((hasB t c || v == 0) && inB v 0 7):=by
 unfold regB
 rw [h]
 cases hasL t c with
 | true=>rfl
 | false=>
  by_cases h : v = 0
  ·subst h; rfl
  ·simp [h]
theorem implB_eq (x : In) (n : Int) : implB x n = specB x n:=by
 unfold implB specB
 cases c1 : inB n 1 200 with
 | false=>rfl
 | true=>
  have hn : 1≤n∧n≤200:=by unfold inB at c1; simp at c1; omega
  have hw : IntKind.wrap .i64 (n - 1) = n - 1:=w64i (by omega) (by omega)
  rw [Bool.true_and,Bool.true_and]
  by_cases c2 : 1≤x.op∧x.op≤20
  ·have e2 : inB x.op 1 20 = true:=by unfold inB; simp; omega
   rw [e2,Bool.true_and]
   obtain ⟨op,a,b,c,m,s⟩:=x
   simp only at c2 ⊢
   obtain ⟨eA,eB,eC,eE⟩:=has_eq c2
   rw [reg_eq eA,reg_eq eB,reg_eq eC]
   unfold onlyN tailI numB
   simp only [hw,eE]
   have k16 : inB b 1 6 = true→inB b 0 7 = true:=fun h=>by unfold inB at h ⊢; simp at h ⊢; omega
   have kn : (if decide (m ≥ 0) = true then decide (m < n) else false) = inB m 0 (n - 1):=by
    unfold inB
    by_cases h : m ≥ 0
    ·by_cases h2 : m < n
     ·simp [h,h2]; omega
     ·simp [h,h2]; omega
    ·simp [h]
   rw [kn]
   clear eA eB eC eE
   generalize hX : inB a 0 7 = ia
   generalize hY : inB c 0 7 = ic
   rcases op_cases c2 with rfl|rfl|rfl|rfl|rfl|rfl|rfl|rfl|rfl|rfl|rfl|rfl|rfl|rfl|rfl|rfl|rfl|rfl|rfl|rfl
   all_goals
    first
     | rw [show hasB (shp _) 78 = true from by decide +kernel]
     | rw [show hasB (shp _) 78 = false from by decide +kernel]
    first
     | rw [show hasB (shp _) 83 = true from by decide +kernel]
     | rw [show hasB (shp _) 83 = false from by decide +kernel]
    simp only [Int.reduceBEq,if_true,Bool.false_eq_true,if_false,Bool.not_false,Bool.true_and,Bool.true_or,Bool.false_or,Bool.and_true,↓reduceIte]
    first
     | ac_rfl
     | (cases h16 : inB b 1 6 with
       | true=>rw [k16 h16]; simp only [if_true,Bool.and_true,Bool.true_and]; rw [show hasB (shp _) 66 = true from by decide +kernel]; simp only [Bool.true_or,Bool.true_and,Bool.and_true]; ac_rfl
       | false=>simp)
  ·have e2 : inB x.op 1 20 = false:=by
    unfold inB
    simp
    omega
   have e3 : onlyN x = false:=by
    unfold onlyN
    rw [shp_out c2,show emp ⟨#[]⟩ = true from by simp [emp]]
    rfl
   rw [e2,e3]
   rfl
def allIns (n : Int) : List In→Bool
 | []=>true
 | x :: r=>specB x n && allIns n r
def lastOp (l : List In) : Int:=(l.getD (l.length - 1) ⟨0,0,0,0,0,⟨#[]⟩⟩).op
def codeOk (l : List In) : Bool:=inB (l.length : Int) 1 200 && ((lastOp l == (19 : Int) || lastOp l == (12 : Int)) && allIns (l.length : Int) l)
theorem implCode_loop {base : Nat} {l : List In} {a : Option Addr} (hL : ∀ x∈l,x.s.size≤9223372036854775807) (hl : l.length≤9223372036854775807) : ∀ (d i : Nat) (h : AH),i + d = l.length→Sl h a (insR l)→base≤h.length →
  ∃ h',loopL (B82_0 base) [some (.slice a l.length l.length),some (.int .i64 (l.length : Int)),some (.slice a l.length l.length),some (.int .i64 (l.length : Int)),some (.int .i64 (i : Int))] h = some (if allIns (l.length : Int) (l.drop i) = true then (2,[some (.slice a l.length l.length),some (.int .i64 (l.length : Int))],h') else (1,[some (.bool false)],h'))∧KB NoB h h':=by
 intro d
 induction d with
 | zero=>
  intro i h hi hs hb
  refine ⟨h,?_,KB.refl _ _⟩
  rw [List.drop_eq_nil_of_le (by omega),show allIns (l.length : Int) [] = true from rfl,if_pos rfl]
  refine loop_off (by decide) ?_
  rw [B82_0_eq]
  exact ifF (by simp; omega) rfl
 | succ d ihd=>
  intro i h hi hs hb
  have hlt : i < l.length:=by omega
  obtain ⟨ad,rfl,g0,g1,g2,g3,g4,g5⟩:=In.get hs hlt
  obtain ⟨o1,k1,q1⟩:=box_own (base:=base) (t:=143) (h:=h) (cs:=inV l[i]) hb rfl
  generalize hh1 : h++[some (⟨inV l[i],143⟩ : Blk)] = h1 at o1 k1 q1
  obtain ⟨h2,e2,k2⟩:=implInsOk_run (base:=base) (h:=h1) (x:=l[i]) (n:=(l.length : Int)) (hL _ (List.getElem_mem hlt)) (by omega)
  rw [implB_eq] at e2
  have n2:=k2.1
  rw [List.drop_eq_getElem_cons hlt,allIns]
  have head : ∀ {r : Option (Nat × Slots × AH)},(if (!specB l[i] (l.length : Int)) = true then some (1,[some (.bool false)],h2) else some (0,[some (.slice (some ad) l.length l.length),some (.int .i64 (l.length : Int)),some (.slice (some ad) l.length l.length),some (.int .i64 (l.length : Int)),some (.int .i64 (IntKind.wrap .i64 ((i : Int) + (1 : Int))))],h2)) = r →
    B82_0 base [some (.slice (some ad) l.length l.length),some (.int .i64 (l.length : Int)),some (.slice (some ad) l.length l.length),some (.int .i64 (l.length : Int)),some (.int .i64 (i : Int))] h = r:=by
   intro r hr
   rw [B82_0_eq]
   refine ifT (decide_eq_true (by omega)) (ifT ⟨by omega,by omega⟩ (bs rfl ?_))
   simp only [Int.toNat_natCast]
   refine bI g0 (bI g1 (bI g2 (bI g3 (bI g4 (bT g5 (nw hb rfl fun y ey=>?_))))))
   rw [hh1] at ey
   rw [ey]
   exact qi o1 (bs e2 (bB rfl hr))
  cases c : specB l[i] (l.length : Int) with
  | false=>
   refine ⟨h2,?_,kN k1 k2⟩
   rw [Bool.false_and,if_neg (by decide)]
   exact loop_off (by decide) (head (by rw [c]; exact ifT rfl rfl))
  | true=>
   rw [Bool.true_and]
   obtain ⟨h3,y1,y2⟩:=ihd (i + 1) h2 (by omega) (hs.keepN (kN k1 k2)) (by omega)
   refine ⟨h3,loop_on (head ?_) y1,kN (kN k1 k2) y2⟩
   rw [c,w64i (n:=(i : Int) + 1) (by omega) (by omega)]
   exact ifF (by decide) rfl
theorem specCode_loop {base : Nat} {l : List In} {a : Option Addr} (hL : ∀ x∈l,x.s.size≤9223372036854775807) (hl : l.length≤9223372036854775807) : ∀ (d i : Nat) (h : AH),i + d = l.length→Sl h a (insR l)→base≤h.length →
  ∃ h',loopL (B89_0 base) [some (.slice a l.length l.length),some (.int .i64 (l.length : Int)),some (.int .i64 (i : Int))] h = some (if allIns (l.length : Int) (l.drop i) = true then (2,[],h') else (1,[some (.bool false)],h'))∧KB NoB h h':=by
 intro d
 induction d with
 | zero=>
  intro i h hi hs hb
  refine ⟨h,?_,KB.refl _ _⟩
  rw [List.drop_eq_nil_of_le (by omega),show allIns (l.length : Int) [] = true from rfl,if_pos rfl]
  refine loop_off (by decide) ?_
  rw [B89_0_eq]
  exact ifF (by simp; omega) rfl
 | succ d ihd=>
  intro i h hi hs hb
  have hlt : i < l.length:=by omega
  obtain ⟨ad,rfl,g0,g1,g2,g3,g4,g5⟩:=In.get hs hlt
  obtain ⟨h2,e2,k2⟩:=specInsOk_run (base:=base) (h:=h) (x:=l[i]) (n:=(l.length : Int)) (hL _ (List.getElem_mem hlt)) (by omega)
  have n2:=k2.1
  rw [List.drop_eq_getElem_cons hlt,allIns]
  have head : ∀ {r : Option (Nat × Slots × AH)},(if (!specB l[i] (l.length : Int)) = true then some (1,[some (.bool false)],h2) else some (0,[some (.slice (some ad) l.length l.length),some (.int .i64 (l.length : Int)),some (.int .i64 (IntKind.wrap .i64 ((i : Int) + (1 : Int))))],h2)) = r →
    B89_0 base [some (.slice (some ad) l.length l.length),some (.int .i64 (l.length : Int)),some (.int .i64 (i : Int))] h = r:=by
   intro r hr
   rw [B89_0_eq]
   refine ifT (decide_eq_true (by omega)) (ifT ⟨by omega,by omega⟩ (bs rfl ?_))
   simp only [Int.toNat_natCast]
   exact bI g0 (bI g1 (bI g2 (bI g3 (bI g4 (bT g5 (bs e2 (bB rfl hr)))))))
  cases c : specB l[i] (l.length : Int) with
  | false=>
   refine ⟨h2,?_,k2⟩
   rw [Bool.false_and,if_neg (by decide)]
   exact loop_off (by decide) (head (by rw [c]; exact ifT rfl rfl))
  | true=>
   rw [Bool.true_and]
   obtain ⟨h3,y1,y2⟩:=ihd (i + 1) h2 (by omega) (hs.keepN k2) (by omega)
   refine ⟨h3,loop_on (head ?_) y1,kN k2 y2⟩
   rw [c,w64i (n:=(i : Int) + 1) (by omega) (by omega)]
   exact ifF (by decide) rfl
theorem last_at {h : AH} {a : Option Addr} {l : List In} (hs : Sl h a (insR l)) (hl : 1≤l.length) (hl2 : l.length≤9223372036854775807) : (0≤IntKind.wrap .i64 ((l.length : Int) - 1)∧IntKind.wrap .i64 ((l.length : Int) - 1) < (l.length : Int)) ∧
  ∃ ad,a = some ad∧Am.cell h ad.block ((ad.off + Int.toNat (IntKind.wrap .i64 ((l.length : Int) - 1)) * 6) + 0) = some (.int .i64 (lastOp l)):=by
 have hw : IntKind.wrap .i64 ((l.length : Int) - 1) = ((l.length - 1 : Nat) : Int):=by rw [w64i (by omega) (by omega)]; omega
 rw [hw]
 obtain ⟨ad,e,g0,_⟩:=In.get hs (i:=l.length - 1) (by omega)
 refine ⟨⟨by omega,by omega⟩,ad,e,?_⟩
 rw [Int.toNat_natCast,Nat.add_zero,g0]
 unfold lastOp
 rw [List.getD_eq_getElem?_getD,List.getElem?_eq_getElem (by omega)]
 rfl
theorem implCodeOk_run {base : Nat} {h : AH} {l : List In} {a : Option Addr} (hL : ∀ x∈l,x.s.size≤9223372036854775807) (hl : l.length≤9223372036854775807) (hs : Sl h a (insR l)) (hb : base≤h.length) :
  ∃ h',run (Et base) 82 [.slice a l.length l.length] h = some (.bool (codeOk l),h')∧KB NoB h h':=by
 obtain ⟨h1,e1,k1⟩:=implCode_loop (base:=base) hL hl l.length 0 h (by omega) hs hb
 rw [List.drop_zero,show ((0 : Nat) : Int) = 0 from rfl] at e1
 refine ⟨h1,?_,k1⟩
 unfold codeOk
 cases c : allIns (l.length : Int) l with
 | false=>
  rw [c,if_neg (by decide)] at e1
  refine Am.r82 (bs e1 (ifT rfl (bB rfl ?_)))
  rw [Bool.and_false,Bool.and_false]
 | true=>
  rw [c,if_pos rfl] at e1
  refine Am.r82 (bs e1 (ifF (show ¬ (2 : Nat) = 1 by decide) (ifT rfl (bS rfl (bI rfl (bs in_run (bB rfl ?_)))))))
  cases c2 : inB (l.length : Int) 1 200 with
  | false=>exact ifF (by decide) rfl
  | true=>
   have hn : 1≤l.length:=by unfold inB at c2; simp at c2; omega
   obtain ⟨hin,ad,rfl,g⟩:=last_at (hs.keepN k1) hn hl
   refine ifT rfl (ifT hin (bs rfl (bI g ?_)))
   rw [Bool.and_true,Bool.true_and]
   cases c3 : lastOp l == (19 : Int) with
   | true=>exact ifT rfl rfl
   | false=>exact ifF (by decide) (ifT hin (bs rfl (bI g (by rw [Bool.false_or]))))
theorem specCodeOk_run {base : Nat} {h : AH} {l : List In} {a : Option Addr} (hL : ∀ x∈l,x.s.size≤9223372036854775807) (hl : l.length≤9223372036854775807) (hs : Sl h a (insR l)) (hb : base≤h.length) :
  ∃ h',run (Et base) 89 [.slice a l.length l.length] h = some (.bool (codeOk l),h')∧KB NoB h h':=by
 have e0:=l1In_run (base:=base) (h:=h) (x:=(l.length : Int)) (a:=1) (b:=200)
 unfold codeOk
 cases c2 : inB (l.length : Int) 1 200 with
 | false=>
  rw [c2] at e0
  exact ⟨h,Am.r89 (bj _ (bs e0 (bB rfl (ifT rfl rfl))) (bS rfl (bI rfl (bB rfl (ifT rfl rfl))))),KB.refl _ _⟩
 | true=>
  rw [c2] at e0
  have hn : 1≤l.length:=by unfold inB at c2; simp at c2; omega
  obtain ⟨hin,ad,rfl,g⟩:=last_at hs hn hl
  obtain ⟨h1,e1,k1⟩:=specCode_loop (base:=base) hL hl l.length 0 h (by omega) hs hb
  rw [List.drop_zero,show ((0 : Nat) : Int) = 0 from rfl] at e1
  have eJ : ∀ {r : Value × AH},((if (!(lastOp l == (19 : Int) || lastOp l == (12 : Int))) = true then some (.bool false,h) else (loopL (B89_0 base) [some (.slice (some ad) l.length l.length),some (.int .i64 (l.length : Int)),some (.int .i64 0)] h).bind fun q11=>(if q11.1 = 1 then ((sget q11.2.1 0).bind getB).bind fun b12=>some ((.bool b12),q11.2.2) else (if q11.1 = 2 then some ((.bool true),q11.2.2) else none))) = some r) →
    run (Et base) 89 [.slice (some ad) l.length l.length] h = some r:=by
   intro r hr
   refine Am.r89 (bj (q:=([some (.slice (some ad) l.length l.length),some (.int .i64 (l.length : Int)),some (.bool (!(lastOp l == (19 : Int) || lastOp l == (12 : Int))))],h)) (bs e0 (bB rfl (ifF (by decide) (ifT hin (bs rfl (bI g ?_)))))) (bS rfl (bI rfl (bB rfl hr))))
   cases c3 : lastOp l == (19 : Int) with
   | true=>exact ifF (by simp [bne,c3]) rfl
   | false=>exact ifT (by simp [bne,c3]) (ifT hin (bs rfl (bI g rfl)))
  cases c3 : (lastOp l == (19 : Int) || lastOp l == (12 : Int)) with
  | false=>exact ⟨h,eJ (by rw [c3]; exact ifT rfl rfl),KB.refl _ _⟩
  | true=>
   cases c : allIns (l.length : Int) l with
   | false=>
    rw [c,if_neg (by decide)] at e1
    exact ⟨h1,eJ (by rw [c3]; exact ifF (by decide) (bs e1 (ifT rfl (bB rfl rfl)))),k1⟩
   | true=>
    rw [c,if_pos rfl] at e1
    exact ⟨h1,eJ (by rw [c3]; exact ifF (by decide) (bs e1 (ifF (show ¬ (2 : Nat) = 1 by decide) (ifT rfl rfl)))),k1⟩
set_option maxRecDepth 100000 in
theorem rd_ins1 {h : AH} {f : Nat} {cs : List Value} (x : Rd Try.prog h f 131 cs) : ∃ y : In,cs = inV y∧y.s.size≤maxLen:=by
 have cT : Try.prog.cellsOf 131 = 6:=by kernel_rfl
 have c3 : Try.prog.cellsOf 3 = 1:=by kernel_rfl
 have c9 : Try.prog.cellsOf 9 = 1:=by kernel_rfl
 match f,x with
 | 0,x=>exact x.elim
 | f + 1,x=>
  simp only [Rd,Try.underlying131] at x
  obtain ⟨hl,hf⟩:=x
  rw [cT] at hl
  match cs,hl with
  | [v0,v1,v2,v3,v4,v5],_=>
   simp only [List.forall_mem_cons,c3,c9,List.drop_zero,List.drop_succ_cons,List.take_succ_cons,List.take_zero] at hf
   obtain ⟨f0,f1,f2,f3,f4,f5,_⟩:=hf
   obtain ⟨n0,e0,_⟩:=f0.int Try.underlying3
   obtain ⟨n1,e1,_⟩:=f1.int Try.underlying3
   obtain ⟨n2,e2,_⟩:=f2.int Try.underlying3
   obtain ⟨n3,e3,_⟩:=f3.int Try.underlying3
   obtain ⟨n4,e4,_⟩:=f4.int Try.underlying3
   obtain ⟨s,e5,hs⟩:=f5.str Try.underlying9
   injection e0 with e0 _
   injection e1 with e1 _
   injection e2 with e2 _
   injection e3 with e3 _
   injection e4 with e4 _
   injection e5 with e5 _
   subst e0; subst e1; subst e2; subst e3; subst e4; subst e5
   exact ⟨⟨n0,n1,n2,n3,n4,s⟩,rfl,hs⟩
set_option maxRecDepth 100000 in
theorem rd_ins {h : AH} {f : Nat} {u : Value} (x : Rd Try.prog h f 22 [u]) : ∃ a l,u = .slice a (List.length l) (List.length l)∧l.length≤maxLen∧Sl h a (insR l)∧∀ y∈l,y.s.size≤maxLen:=by
 have cT : Try.prog.cellsOf 131 = 6:=by kernel_rfl
 match f,x with
 | 0,x=>exact x.elim
 | f + 1,x=>
  simp only [Rd,Try.underlying22] at x
  obtain ⟨a,n,vs,e,h2,h3,h4,h5⟩:=x
  injection e with e _
  subst e
  rw [cT] at h4 h5
  have each : ∀ i,i < n→∃ y : In,(vs.drop (i * 6)).take 6 = inV y∧y.s.size≤maxLen:=fun i hi=>rd_ins1 (h5 i hi)
  let g : Nat→In:=fun i=>if hi : i < n then (each i hi).choose else ⟨0,0,0,0,0,⟨#[]⟩⟩
  have hg : ∀ i,i < n→(vs.drop (i * 6)).take 6 = inV (g i)∧(g i).s.size≤maxLen:=by
   intro i hi
   simp only [g,hi,dite_true]
   exact (each i hi).choose_spec
  have hv : vs = insR ((List.range n).map g):=by
   apply List.ext_getElem?
   intro q
   by_cases hq : q < n * 6
   ·have hi : q / 6 < n:=by omega
    have e1 : q = q / 6 * 6 + q % 6:=by omega
    have hm : q % 6 < 6:=Nat.mod_lt _ (by decide)
    have h1 : (insR ((List.range n).map g))[q / 6 * 6 + q % 6]? = (inV (g (q / 6)))[q % 6]?:=insR_get (by simp [hi]) hm
    rw [← e1] at h1
    rw [h1,← (hg _ hi).1,List.getElem?_take_of_lt hm,List.getElem?_drop,← e1]
   ·rw [List.getElem?_eq_none (by omega),List.getElem?_eq_none (by rw [insR_len]; simp; omega)]
  refine ⟨a,(List.range n).map g,by simp,by simpa using h2,by rw [← hv]; exact h3,fun y hy=>?_⟩
  obtain ⟨i,hi,rfl⟩:=List.mem_map.1 hy
  exact (hg i (by simpa using hi)).2
theorem TmR.up {h : AH} {p : Nat→Prop} : ∀ (f : Nat) (t : Tm) (cs : List Value),TmR h p f t cs→TmR h p (f + 1) t cs
 | 0,_,_,x=>x.elim
 | f + 1,.mk k n s l,cs,x=>by
  obtain ⟨h1,h2,a,vs,h3,h4,h5,h6,h7⟩:=x
  exact ⟨h1,h2,a,vs,h3,h4,h5,h6,fun i t hi=>TmR.up f t _ (h7 i t hi)⟩
set_option maxRecDepth 100000 in
theorem rd_term {h : AH} : ∀ (f : Nat) (cs : List Value),Rd Try.prog h f 29 cs→∃ t,TmR h (· < h.length) f t cs:=by
 have cT : Try.prog.cellsOf 29 = 4:=by kernel_rfl
 have c3 : Try.prog.cellsOf 3 = 1:=by kernel_rfl
 have c9 : Try.prog.cellsOf 9 = 1:=by kernel_rfl
 have cL : Try.prog.cellsOf 27 = 1:=by kernel_rfl
 intro f
 induction f using Nat.strongRecOn with
 | _ f ih=>
  intro cs x
  match f,ih,x with
  | 0,_,x=>exact x.elim
  | f + 1,ih,x=>
   simp only [Rd,Try.underlying29] at x
   obtain ⟨hl,hf⟩:=x
   rw [cT] at hl
   match cs,hl with
   | [v0,v1,v2,v3],_=>
    simp only [List.forall_mem_cons,c3,c9,cL,List.drop_zero,List.drop_succ_cons,List.take_succ_cons,List.take_zero] at hf
    obtain ⟨f0,f1,f2,f3,_⟩:=hf
    obtain ⟨n0,e0,_⟩:=f0.int Try.underlying3
    obtain ⟨n1,e1,_⟩:=f1.int Try.underlying3
    obtain ⟨s,e2,hs⟩:=f2.str Try.underlying9
    injection e0 with e0 _
    injection e1 with e1 _
    injection e2 with e2 _
    subst e0; subst e1; subst e2
    match f,ih,f3 with
    | 0,_,f3=>exact f3.elim
    | f + 1,ih,f3=>
     simp only [Rd,Try.underlying27] at f3
     obtain ⟨a,n,vs,e3,h2,h3,h4,h5⟩:=f3
     injection e3 with e3 _
     subst e3
     rw [cT] at h4 h5
     have each : ∀ i,i < n→∃ t,TmR h (· < h.length) f t ((vs.drop (i * 4)).take 4):=fun i hi=>ih f (by omega) _ (h5 i hi)
     let g : Nat→Tm:=fun i=>if hi : i < n then (each i hi).choose else .mk 0 0 ⟨#[]⟩ []
     have hg : ∀ i,i < n→TmR h (· < h.length) f (g i) ((vs.drop (i * 4)).take 4):=by
      intro i hi
      simp only [g,hi,dite_true]
      exact (each i hi).choose_spec
     refine ⟨.mk n0 n1 s ((List.range n).map g),hs,by simpa using h2,a,vs,by simp,h3,sl_below h3,by simpa using h4,fun i t hi=>?_⟩
     have hlt : i < n:=by have:=(List.getElem?_eq_some_iff.1 hi).1; simpa using this
     simp [hlt] at hi
     subst hi
     exact TmR.up _ _ _ (hg i hlt)
theorem TsR.getT {h : AH} {p : Nat→Prop} {f : Nat} {l : List Tm} {a : Option Addr} (x : TsR h p f l a) {i : Nat} (hi : i < l.length) :
  ∃ ad k n s a2 m,a = some ad∧Am.cell h ad.block (ad.off + i * 4) = some (.int .i64 k)∧Am.cell h ad.block (ad.off + i * 4 + 1) = some (.int .i64 n)∧Am.cell h ad.block (ad.off + i * 4 + 1 + 1) = some (.string s)∧Am.cell h ad.block (ad.off + i * 4 + 1 + 1 + 1) = some (.slice a2 m m)∧TmR h p f l[i] (termV k n s a2 m):=by
 obtain ⟨ad,c0,c1,c2,c3,e,g0,g1,g2,g3,hm⟩:=x.get hi
 obtain ⟨k,n,s,a2,m,e2⟩:=hm.form
 injection e2 with q0 e2
 injection e2 with q1 e2
 injection e2 with q2 e2
 injection e2 with q3 _
 subst q0; subst q1; subst q2; subst q3
 exact ⟨ad,k,n,s,a2,m,e,g0,g1,g2,g3,hm⟩
def tsB (f : Nat) : List Tm→Bool
 | []=>true
 | t :: r=>tOk f t && tsB f r
theorem l9Terms_loop {base f : Nat} {p : Nat→Prop} {l : List Tm} {a : Option Addr} (hl : l.length≤9223372036854775807) : ∀ (d i : Nat) (h : AH),i + d = l.length→TsR h p f l a→base≤h.length →
  ∃ h',loopL (B141_0 base) [some (.slice a l.length l.length),some (.int .i64 (i : Int))] h = some (if tsB f (l.drop i) = true then (2,[],h') else (1,[some (.bool false)],h'))∧KB NoB h h':=by
 intro d
 induction d with
 | zero=>
  intro i h hi hs hb
  refine ⟨h,?_,KB.refl _ _⟩
  rw [List.drop_eq_nil_of_le (by omega),show tsB f [] = true from rfl,if_pos rfl]
  refine loop_off (by decide) ?_
  rw [B141_0_eq]
  exact ifF (by simp; omega) rfl
 | succ d ihd=>
  intro i h hi hs hb
  have hlt : i < l.length:=by omega
  obtain ⟨ad,k,n,s,a2,m,rfl,g0,g1,g2,g3,hm⟩:=hs.getT hlt
  obtain ⟨h2,e2,k2⟩:=specTermOk_run (base:=base) hm hb
  have n2:=k2.1
  rw [List.drop_eq_getElem_cons hlt,tsB]
  have head : ∀ {r : Option (Nat × Slots × AH)},(if (!tOk f l[i]) = true then some (1,[some (.bool false)],h2) else some (0,[some (.slice (some ad) l.length l.length),some (.int .i64 (IntKind.wrap .i64 ((i : Int) + (1 : Int))))],h2)) = r→B141_0 base [some (.slice (some ad) l.length l.length),some (.int .i64 (i : Int))] h = r:=by
   intro r hr
   rw [B141_0_eq]
   refine ifT (decide_eq_true (by omega)) (ifT ⟨by omega,by omega⟩ (bs rfl ?_))
   simp only [Int.toNat_natCast]
   exact bI g0 (bI g1 (bT g2 (bS g3 (bs e2 (bB rfl hr)))))
  cases c : tOk f l[i] with
  | false=>
   refine ⟨h2,?_,k2⟩
   rw [Bool.false_and,if_neg (by decide)]
   exact loop_off (by decide) (head (by rw [c]; exact ifT rfl rfl))
  | true=>
   rw [Bool.true_and]
   obtain ⟨h3,y1,y2⟩:=ihd (i + 1) h2 (by omega) (hs.keep k2 fun _ _ h=>h) (by omega)
   refine ⟨h3,loop_on (head ?_) y1,kN k2 y2⟩
   rw [c,w64i (n:=(i : Int) + 1) (by omega) (by omega)]
   exact ifF (by decide) rfl
theorem l9Terms_run {base f : Nat} {h : AH} {p : Nat→Prop} {l : List Tm} {a : Option Addr} (hl : l.length≤9223372036854775807) (hs : TsR h p f l a) (hb : base≤h.length) : ∃ h',run (Et base) 141 [.slice a l.length l.length] h = some (.bool (tsB f l),h')∧KB NoB h h':=by
 obtain ⟨h1,e1,k1⟩:=l9Terms_loop (base:=base) hl l.length 0 h (by omega) hs hb
 rw [List.drop_zero,show ((0 : Nat) : Int) = 0 from rfl] at e1
 refine ⟨h1,?_,k1⟩
 cases c : tsB f l with
 | false=>
  rw [c,if_neg (by decide)] at e1
  exact Am.r141 (bs e1 (ifT rfl (bB rfl rfl)))
 | true=>
  rw [c,if_pos rfl] at e1
  exact Am.r141 (bs e1 (ifF (show ¬ (2 : Nat) = 1 by decide) (ifT rfl rfl)))
theorem termsOk_loop {base f : Nat} {p : Nat→Prop} {l : List Tm} {a : Option Addr} (hl : l.length≤9223372036854775807) : ∀ (d i : Nat) (h : AH),i + d = l.length→TsR h p f l a→base≤h.length →
  ∃ h',loopL (B84_0 base) [some (.slice a l.length l.length),some (.int .i64 (l.length : Int)),some (.int .i64 (i : Int))] h = some (if tsB f (l.drop i) = true then (2,[],h') else (1,[some (.bool false)],h'))∧KB NoB h h':=by
 intro d
 induction d with
 | zero=>
  intro i h hi hs hb
  refine ⟨h,?_,KB.refl _ _⟩
  rw [List.drop_eq_nil_of_le (by omega),show tsB f [] = true from rfl,if_pos rfl]
  refine loop_off (by decide) ?_
  rw [B84_0_eq]
  exact ifF (by simp; omega) rfl
 | succ d ihd=>
  intro i h hi hs hb
  have hlt : i < l.length:=by omega
  obtain ⟨ad,k,n,s,a2,m,rfl,g0,g1,g2,g3,hm⟩:=hs.getT hlt
  obtain ⟨o1,k1,q1⟩:=box_own (base:=base) (t:=42) (h:=h) (cs:=termV k n s a2 m) hb rfl
  generalize hh1 : h++[some (⟨termV k n s a2 m,42⟩ : Blk)] = h1 at o1 k1 q1
  obtain ⟨h2,e2,k2⟩:=implTermOk_run (base:=base) (h:=h1) (TmR.keep k1 (fun _ _ h=>h) _ _ _ hm) (by omega)
  have n2:=k2.1
  rw [List.drop_eq_getElem_cons hlt,tsB]
  have head : ∀ {r : Option (Nat × Slots × AH)},(if (!tOk f l[i]) = true then some (1,[some (.bool false)],h2) else some (0,[some (.slice (some ad) l.length l.length),some (.int .i64 (l.length : Int)),some (.int .i64 (IntKind.wrap .i64 ((i : Int) + (1 : Int))))],h2)) = r→B84_0 base [some (.slice (some ad) l.length l.length),some (.int .i64 (l.length : Int)),some (.int .i64 (i : Int))] h = r:=by
   intro r hr
   rw [B84_0_eq]
   refine ifT (decide_eq_true (by omega)) (ifT ⟨by omega,by omega⟩ (bs rfl ?_))
   simp only [Int.toNat_natCast]
   refine bI g0 (bI g1 (bT g2 (bS g3 (nw hb rfl fun y ey=>?_))))
   rw [hh1] at ey
   rw [ey]
   exact q4 o1 (bs e2 (bB rfl hr))
  cases c : tOk f l[i] with
  | false=>
   refine ⟨h2,?_,kN k1 k2⟩
   rw [Bool.false_and,if_neg (by decide)]
   exact loop_off (by decide) (head (by rw [c]; exact ifT rfl rfl))
  | true=>
   rw [Bool.true_and]
   obtain ⟨h3,y1,y2⟩:=ihd (i + 1) h2 (by omega) (hs.keep (kN k1 k2) fun _ _ h=>h) (by omega)
   refine ⟨h3,loop_on (head ?_) y1,kN (kN k1 k2) y2⟩
   rw [c,w64i (n:=(i : Int) + 1) (by omega) (by omega)]
   exact ifF (by decide) rfl
theorem termsOk_run {base f : Nat} {h : AH} {p : Nat→Prop} {l : List Tm} {a : Option Addr} (hl : l.length≤9223372036854775807) (hs : TsR h p f l a) (hb : base≤h.length) : ∃ h',run (Et base) 84 [.slice a l.length l.length] h = some (.bool (tsB f l),h')∧KB NoB h h':=by
 obtain ⟨h1,e1,k1⟩:=termsOk_loop (base:=base) hl l.length 0 h (by omega) hs hb
 rw [List.drop_zero,show ((0 : Nat) : Int) = 0 from rfl] at e1
 refine ⟨h1,?_,k1⟩
 cases c : tsB f l with
 | false=>
  rw [c,if_neg (by decide)] at e1
  exact Am.r84 (bs e1 (ifT rfl (bB rfl rfl)))
 | true=>
  rw [c,if_pos rfl] at e1
  exact Am.r84 (bs e1 (ifF (show ¬ (2 : Nat) = 1 by decide) (ifT rfl rfl)))
def lkBad (zs : List Int) (v : Int) (i : Nat) : Bool:=
 if (!inB (zs.getD i 0) 1 99999) = true then true else if (zs.getD i 0 == v) = true then true else if decide ((i : Int) > (0 : Int)) = true then decide (zs.getD (i - 1) 0 ≥ zs.getD i 0) else false
def lkAny (zs : List Int) (v : Int) : Nat→Nat→Bool
 | 0,_=>false
 | d + 1,i=>lkBad zs v i || lkAny zs v d (i + 1)
def lkOk (zs : List Int) (v : Int) : Bool:=!lkAny zs v zs.length 0 && decide ((zs.length : Int)≤(50 : Int))
theorem int_at {h : AH} {a : Option Addr} {zs : List Int} (hs : Sl h a (iv .i64 zs)) {i : Nat} (hi : i < zs.length) : ∃ ad,a = some ad∧Am.cell h ad.block (ad.off + i * 1) = some (.int .i64 (zs.getD i 0)):=by
 obtain ⟨ad,e,g⟩:=hs.cell (i:=i) (v:=.int .i64 (zs.getD i 0)) (by simp [iv,hi])
 exact ⟨ad,e,by rw [Nat.mul_one]; exact g⟩
theorem l9Links_loop {base : Nat} {zs : List Int} {v : Int} {a : Option Addr} {h : AH} (hl : zs.length≤9223372036854775807) (hs : Sl h a (iv .i64 zs)) : ∀ (d i : Nat),i + d = zs.length →
  loopL (B142_0 base) [some (.slice a zs.length zs.length),some (.int .i64 v),some (.int .i64 (i : Int))] h = some (if lkAny zs v d i = true then (1,[some (.bool false)],h) else (2,[some (.slice a zs.length zs.length)],h)):=by
 intro d
 induction d with
 | zero=>
  intro i hi
  rw [lkAny,if_neg (by decide)]
  refine loop_off (by decide) ?_
  rw [B142_0_eq]
  exact ifF (by simp; omega) rfl
 | succ d ihd=>
  intro i hi
  have hlt : i < zs.length:=by omega
  obtain ⟨ad,rfl,g⟩:=int_at hs hlt
  have eI:=l1In_run (base:=base) (h:=h) (x:=zs.getD i 0) (a:=1) (b:=99999)
  have head : ∀ {r : Option (Nat × Slots × AH)},(if lkBad zs v i = true then some (1,[some (.bool false)],h) else some (0,[some (.slice (some ad) zs.length zs.length),some (.int .i64 v),some (.int .i64 (IntKind.wrap .i64 ((i : Int) + (1 : Int))))],h)) = r→B142_0 base [some (.slice (some ad) zs.length zs.length),some (.int .i64 v),some (.int .i64 (i : Int))] h = r:=by
   intro r hr
   rw [B142_0_eq]
   refine ifT (decide_eq_true (by omega)) ?_
   refine bj (q:=([some (.slice (some ad) zs.length zs.length),some (.int .i64 v),some (.int .i64 (i : Int)),some (.bool (lkBad zs v i))],h)) ?_ (bS rfl (bI rfl (bI rfl (bB rfl hr))))
   refine ifT ⟨by omega,by omega⟩ (bs rfl ?_)
   simp only [Int.toNat_natCast]
   refine bI g (bs eI (bB rfl ?_))
   unfold lkBad
   refine itJ (fun b=>[some (.slice (some ad) zs.length zs.length),some (.int .i64 v),some (.int .i64 (i : Int)),some (.bool b)]) rfl ?_
   refine ifT ⟨by omega,by omega⟩ (bs rfl (bI g (itJ (fun b=>[some (.slice (some ad) zs.length zs.length),some (.int .i64 v),some (.int .i64 (i : Int)),some (.bool b)]) rfl ?_)))
   by_cases c : (i : Int) > 0
   ·have hw : IntKind.wrap .i64 ((i : Int) - (1 : Int)) = ((i - 1 : Nat) : Int):=by rw [w64i (by omega) (by omega)]; omega
    obtain ⟨ad2,e2,g2⟩:=int_at hs (i:=i - 1) (by omega)
    injection e2 with e2
    subst e2
    rw [decide_eq_true c,hw]
    refine ifT rfl (ifT ⟨by omega,by omega⟩ (bs rfl ?_))
    simp only [Int.toNat_natCast]
    exact bI g2 (ifT ⟨by omega,by omega⟩ (bs rfl (bI g rfl)))
   ·rw [decide_eq_false c]
    exact ifF (by decide) rfl
  rw [lkAny]
  cases c : lkBad zs v i with
  | true=>
   rw [Bool.true_or,if_pos rfl]
   exact loop_off (by decide) (head (by rw [c]; exact ifT rfl rfl))
  | false=>
   rw [Bool.false_or,← ihd (i + 1) (by omega)]
   refine loop_on (head ?_) rfl
   rw [c,w64i (n:=(i : Int) + 1) (by omega) (by omega)]
   exact ifF (by decide) rfl
theorem l9Links_run {base : Nat} {zs : List Int} {v : Int} {a : Option Addr} {h : AH} (hl : zs.length≤9223372036854775807) (hs : Sl h a (iv .i64 zs)) : run (Et base) 142 [.slice a zs.length zs.length,.int .i64 v] h = some (.bool (lkOk zs v),h):=by
 have e:=l9Links_loop (base:=base) (v:=v) hl hs zs.length 0 (by omega)
 rw [show ((0 : Nat) : Int) = 0 from rfl] at e
 unfold lkOk
 cases c : lkAny zs v zs.length 0 with
 | true=>
  rw [c,if_pos rfl] at e
  exact Am.r142 (bs e (ifT rfl (bB rfl rfl)))
 | false=>
  rw [c,if_neg (by decide)] at e
  exact Am.r142 (bs e (ifF (show ¬ (2 : Nat) = 1 by decide) (ifT rfl (bS rfl (by simp)))))
theorem linksOk_loop {base : Nat} {zs : List Int} {v : Int} {a : Option Addr} {h : AH} (hl : zs.length≤9223372036854775807) (hs : Sl h a (iv .i64 zs)) : ∀ (d i : Nat),i + d = zs.length →
  loopL (B85_0 base) [some (.slice a zs.length zs.length),some (.int .i64 v),some (.slice a zs.length zs.length),some (.int .i64 (zs.length : Int)),some (.int .i64 (i : Int))] h = some (if lkAny zs v d i = true then (1,[some (.bool false)],h) else (2,[some (.slice a zs.length zs.length)],h)):=by
 intro d
 induction d with
 | zero=>
  intro i hi
  rw [lkAny,if_neg (by decide)]
  refine loop_off (by decide) ?_
  rw [B85_0_eq]
  exact ifF (by simp; omega) rfl
 | succ d ihd=>
  intro i hi
  have hlt : i < zs.length:=by omega
  obtain ⟨ad,rfl,g⟩:=int_at hs hlt
  have eI:=in_run (base:=base) (h:=h) (x:=zs.getD i 0) (a:=1) (b:=99999)
  have head : ∀ {r : Option (Nat × Slots × AH)},(if lkBad zs v i = true then some (1,[some (.bool false)],h) else some (0,[some (.slice (some ad) zs.length zs.length),some (.int .i64 v),some (.slice (some ad) zs.length zs.length),some (.int .i64 (zs.length : Int)),some (.int .i64 (IntKind.wrap .i64 ((i : Int) + (1 : Int))))],h)) = r→B85_0 base [some (.slice (some ad) zs.length zs.length),some (.int .i64 v),some (.slice (some ad) zs.length zs.length),some (.int .i64 (zs.length : Int)),some (.int .i64 (i : Int))] h = r:=by
   intro r hr
   rw [B85_0_eq]
   refine ifT (decide_eq_true (by omega)) (ifT ⟨by omega,by omega⟩ (bs rfl ?_))
   simp only [Int.toNat_natCast]
   refine bI g ?_
   refine bj (q:=([some (.slice (some ad) zs.length zs.length),some (.int .i64 v),some (.slice (some ad) zs.length zs.length),some (.int .i64 (zs.length : Int)),some (.int .i64 (i : Int)),some (.bool (lkBad zs v i))],h)) ?_ (bS rfl (bI rfl (bS rfl (bI rfl (bI rfl (bB rfl hr))))))
   refine bs eI (bB rfl ?_)
   unfold lkBad
   refine itJ (fun b=>[some (.slice (some ad) zs.length zs.length),some (.int .i64 v),some (.slice (some ad) zs.length zs.length),some (.int .i64 (zs.length : Int)),some (.int .i64 (i : Int)),some (.bool b)]) rfl (itJ (fun b=>[some (.slice (some ad) zs.length zs.length),some (.int .i64 v),some (.slice (some ad) zs.length zs.length),some (.int .i64 (zs.length : Int)),some (.int .i64 (i : Int)),some (.bool b)]) rfl ?_)
   by_cases c : (i : Int) > 0
   ·have hw : IntKind.wrap .i64 ((i : Int) - (1 : Int)) = ((i - 1 : Nat) : Int):=by rw [w64i (by omega) (by omega)]; omega
    obtain ⟨ad2,e2,g2⟩:=int_at hs (i:=i - 1) (by omega)
    injection e2 with e2
    subst e2
    rw [decide_eq_true c,hw]
    refine ifT rfl (ifT ⟨by omega,by omega⟩ (bs rfl ?_))
    simp only [Int.toNat_natCast]
    exact bI g2 rfl
   ·rw [decide_eq_false c]
    exact ifF (by decide) rfl
  rw [lkAny]
  cases c : lkBad zs v i with
  | true=>
   rw [Bool.true_or,if_pos rfl]
   exact loop_off (by decide) (head (by rw [c]; exact ifT rfl rfl))
  | false=>
   rw [Bool.false_or,← ihd (i + 1) (by omega)]
   refine loop_on (head ?_) rfl
   rw [c,w64i (n:=(i : Int) + 1) (by omega) (by omega)]
   exact ifF (by decide) rfl
theorem linksOk_run {base : Nat} {zs : List Int} {v : Int} {a : Option Addr} {h : AH} (hl : zs.length≤9223372036854775807) (hs : Sl h a (iv .i64 zs)) : run (Et base) 85 [.slice a zs.length zs.length,.int .i64 v] h = some (.bool (lkOk zs v),h):=by
 have e:=linksOk_loop (base:=base) (v:=v) hl hs zs.length 0 (by omega)
 rw [show ((0 : Nat) : Int) = 0 from rfl] at e
 unfold lkOk
 cases c : lkAny zs v zs.length 0 with
 | true=>
  rw [c,if_pos rfl] at e
  exact Am.r85 (bs e (ifT rfl (bB rfl rfl)))
 | false=>
  rw [c,if_neg (by decide)] at e
  exact Am.r85 (bs e (ifF (show ¬ (2 : Nat) = 1 by decide) (ifT rfl (bS rfl (by simp)))))
def acOk (f : Nat) (l : List In) (A : Ac) : Bool:=
 codeOk l && (inB A.pid 1 99999 && (inB A.pc 0 (IntKind.wrap .i64 ((l.length : Int) - (1 : Int))) && (((A.regs.length : Int) == (8 : Int)) && (tsB f A.regs && (decide ((A.box.length : Int)≤(30 : Int)) && (tsB f A.box && lkOk A.links A.pid))))))
theorem implActorOk_run {base f : Nat} {h : AH} {p : Nat→Prop} {l : List In} {c : Option Addr} {A : Ac} {cs : List Value} (hL : ∀ x∈l,x.s.size≤9223372036854775807) (hl : l.length≤9223372036854775807) (hc : Sl h c (insR l)) (hM : AcM A) (x : AcR h p f A cs) (hb : base≤h.length) :
  ∃ h',run (Et base) 25 [.slice c l.length l.length,.agg cs.toArray] h = some (.bool (acOk f l A),h')∧KB NoB h h':=by
 obtain ⟨a,b,g,rfl,hr,hx,hk,_⟩:=x
 obtain ⟨m1,m2,m3⟩:=hM
 obtain ⟨o1,k1,q1⟩:=box_own (base:=base) (t:=54) (h:=h) (cs:=acV A.pid A.pc a A.regs.length b A.box.length g A.links.length) hb rfl
 generalize hh1 : h++[some (⟨acV A.pid A.pc a A.regs.length b A.box.length g A.links.length,54⟩ : Blk)] = h1 at o1 k1 q1
 obtain ⟨h2,e2,k2⟩:=implCodeOk_run (base:=base) hL hl (hc.keepN k1) (by omega)
 have n2:=k2.1
 have o2:=o1.keepN k2
 have k02:=kN k1 k2
 obtain ⟨h3,e3,k3⟩:=termsOk_run (base:=base) m1 (hr.keep k02 fun _ _ h=>h) (by omega)
 have n3:=k3.1
 have o3:=o2.keepN k3
 have k03:=kN k02 k3
 obtain ⟨h4,e4,k4⟩:=termsOk_run (base:=base) m2 (hx.keep k03 fun _ _ h=>h) (by omega)
 have o4:=o3.keepN k4
 have k04:=kN k03 k4
 have e5:=linksOk_run (base:=base) (v:=A.pid) m3 (hk.keepN k04)
 have e6:=in_run (base:=base) (h:=h2) (x:=A.pid) (a:=1) (b:=99999)
 have e7:=in_run (base:=base) (h:=h2) (x:=A.pc) (a:=0) (b:=IntKind.wrap .i64 ((l.length : Int) - (1 : Int)))
 have start : ∀ {r : Value × AH},_ = some r→run (Et base) 25 [.slice c l.length l.length,.agg (acV A.pid A.pc a A.regs.length b A.box.length g A.links.length).toArray] h = some r:=fun {r} hr=>Am.r25 (lets fun y ey=>(by rw [ey,hh1]; exact bs e2 (bB rfl hr)))
 unfold acOk
 cases c1 : codeOk l with
 | false=>exact ⟨h2,start (by rw [c1]; exact ifF (by decide) rfl),k02⟩
 | true=>
  cases c2 : inB A.pid 1 99999 with
  | false=>rw [c2] at e6; exact ⟨h2,start (by rw [c1]; exact ifT rfl (bI (o2.at0 (i:=0) rfl) (bs e6 (bB rfl (ifF (by decide) rfl))))),k02⟩
  | true=>
   rw [c2] at e6
   cases c3 : inB A.pc 0 (IntKind.wrap .i64 ((l.length : Int) - (1 : Int))) with
   | false=>rw [c3] at e7; exact ⟨h2,start (by rw [c1]; exact ifT rfl (bI (o2.at0 (i:=0) rfl) (bs e6 (bB rfl (ifT rfl (bI (o2.at0 (i:=1) rfl) (bs e7 (bB rfl (ifF (by decide) rfl))))))))),k02⟩
   | true=>
    rw [c3] at e7
    cases c4 : (A.regs.length : Int) == (8 : Int) with
    | false=>exact ⟨h2,start (by rw [c1]; exact ifT rfl (bI (o2.at0 (i:=0) rfl) (bs e6 (bB rfl (ifT rfl (bI (o2.at0 (i:=1) rfl) (bs e7 (bB rfl (ifT rfl (bS (o2.at0 (i:=2) rfl) (ifF (by simp [c4]) rfl))))))))))),k02⟩
    | true=>
     cases c5 : tsB f A.regs with
     | false=>rw [c5] at e3; exact ⟨h3,start (by rw [c1]; exact ifT rfl (bI (o2.at0 (i:=0) rfl) (bs e6 (bB rfl (ifT rfl (bI (o2.at0 (i:=1) rfl) (bs e7 (bB rfl (ifT rfl (bS (o2.at0 (i:=2) rfl) (ifT c4 (bS (o2.at0 (i:=2) rfl) (bs e3 (bB rfl (ifF (by decide) rfl))))))))))))))),k03⟩
     | true=>
      rw [c5] at e3
      by_cases c6 : (A.box.length : Int)≤30
      ·rw [decide_eq_true c6]
       cases c7 : tsB f A.box with
       | false=>rw [c7] at e4; exact ⟨h4,start (by rw [c1]; exact ifT rfl (bI (o2.at0 (i:=0) rfl) (bs e6 (bB rfl (ifT rfl (bI (o2.at0 (i:=1) rfl) (bs e7 (bB rfl (ifT rfl (bS (o2.at0 (i:=2) rfl) (ifT c4 (bS (o2.at0 (i:=2) rfl) (bs e3 (bB rfl (ifT rfl (bS (o3.at0 (i:=3) rfl) (ifT (decide_eq_true c6) (bS (o3.at0 (i:=3) rfl) (bs e4 (bB rfl (ifF (by decide) rfl))))))))))))))))))))),k04⟩
       | true=>rw [c7] at e4; exact ⟨h4,start (by rw [c1]; exact ifT rfl (bI (o2.at0 (i:=0) rfl) (bs e6 (bB rfl (ifT rfl (bI (o2.at0 (i:=1) rfl) (bs e7 (bB rfl (ifT rfl (bS (o2.at0 (i:=2) rfl) (ifT c4 (bS (o2.at0 (i:=2) rfl) (bs e3 (bB rfl (ifT rfl (bS (o3.at0 (i:=3) rfl) (ifT (decide_eq_true c6) (bS (o3.at0 (i:=3) rfl) (bs e4 (bB rfl (ifT rfl (bS (o4.at0 (i:=4) rfl) (bI (o4.at0 (i:=0) rfl) (bs e5 (bB rfl rfl))))))))))))))))))))))))),k04⟩
      ·rw [decide_eq_false c6]
       exact ⟨h3,start (by rw [c1]; exact ifT rfl (bI (o2.at0 (i:=0) rfl) (bs e6 (bB rfl (ifT rfl (bI (o2.at0 (i:=1) rfl) (bs e7 (bB rfl (ifT rfl (bS (o2.at0 (i:=2) rfl) (ifT c4 (bS (o2.at0 (i:=2) rfl) (bs e3 (bB rfl (ifT rfl (bS (o3.at0 (i:=3) rfl) (ifF (by simpa using c6) rfl))))))))))))))))),k03⟩
section
abbrev Ds:=List (Nat × Nat × List Value)
structure Rs where
 S : Fp
 mu : Bool
 A : AH→Prop
def Rs.Ok (r : Rs) : Prop:=∀ (U : Fp) (h h' : AH),KB U h h'→(∀ b,r.S b→¬ U b)→r.A h→r.A h'
def Rs.dj (r s : Rs) : Prop:=(r.mu || s.mu) = true→∀ b,r.S b→¬ s.S b
theorem Rs.dj.symm {r s : Rs} (x : r.dj s) : s.dj r:=fun e b h1 h2=>x (by rw [Bool.or_comm]; exact e) b h2 h1
structure Hs (base : Nat) (W : Fp) (h0 h : AH) (D : Ds) (R : List Rs) : Prop where
 ge : base≤h.length
 kb : KB W h0 h
 own : ∀ x∈D,Own base x.2.1 h (at0 x.1) x.2.2∧(W x.1∨h0.length≤x.1)
 nd : (D.map (·.1)).Nodup
 res : ∀ r∈R,r.A h∧r.Ok∧(∀ b,r.S b→b < h.length)∧(r.mu = true→∀ b,r.S b→W b∨h0.length≤b)∧∀ x∈D,¬ r.S x.1
 dj : R.Pairwise Rs.dj
inductive Upd {α : Type} : List α→α→α→List α→Prop
 | here {x y : α} {l : List α} : Upd (x :: l) x y (y :: l)
 | there {x y z : α} {l l' : List α} : Upd l x y l'→Upd (z :: l) x y (z :: l')
theorem Upd.mem {α : Type} {l l' : List α} {x y : α} (u : Upd l x y l') : x∈l:=by
 induction u with
 | here=>exact .head _
 | there _ ih=>exact .tail _ ih
theorem Upd.of {α : Type} {l l' : List α} {x y : α} (u : Upd l x y l') : ∀ z∈l',z = y∨z∈l:=by
 induction u with
 | here=>exact fun z hz=>(List.mem_cons.1 hz).imp id fun h=>.tail _ h
 | there _ ih=>
  intro z hz
  rcases List.mem_cons.1 hz with rfl|hz
  ·exact .inr (.head _)
  ·exact (ih z hz).imp id fun h=>.tail _ h
theorem Upd.fst {l l' : Ds} {x y : Nat × Nat × List Value} (u : Upd l x y l') (e : x.1 = y.1) : l'.map (·.1) = l.map (·.1):=by
 induction u with
 | here=>simp [e]
 | there _ ih=>simp [ih e]
theorem Upd.others {l l' : Ds} {x y : Nat × Nat × List Value} (u : Upd l x y l') (e : x.1 = y.1) (nd : (l.map (·.1)).Nodup) : ∀ z∈l',z = y∨(z∈l∧z.1≠x.1):=by
 induction u with
 | @here x y l=>
  intro z hz
  rcases List.mem_cons.1 hz with rfl|hz
  ·exact .inl rfl
  ·refine .inr ⟨.tail _ hz,fun h=>?_⟩
   have:=(List.nodup_cons.1 nd).1
   exact this (List.mem_map.2 ⟨z,hz,h⟩)
 | @there x y w l l' u ih=>
  have nd':=List.nodup_cons.1 nd
  intro z hz
  rcases List.mem_cons.1 hz with rfl|hz
  ·refine .inr ⟨.head _,fun h=>nd'.1 (List.mem_map.2 ⟨_,u.mem,h.symm⟩)⟩
  ·exact (ih e nd'.2 z hz).imp id fun h=>⟨.tail _ h.1,h.2⟩
theorem Upd.pair {l l' : List Rs} {x y : Rs} (u : Upd l x y l') (p : l.Pairwise Rs.dj) (hy : ∀ z∈l,z.dj x→z.dj y) : l'.Pairwise Rs.dj:=by
 induction u with
 | @here x y l=>
  rw [List.pairwise_cons] at p ⊢
  exact ⟨fun z hz=>(hy z (.tail _ hz) (p.1 z hz).symm).symm,p.2⟩
 | @there x y w l l' u ih=>
  rw [List.pairwise_cons] at p ⊢
  refine ⟨fun z hz=>?_,ih p.2 fun z hz=>hy z (.tail _ hz)⟩
  rcases u.of z hz with rfl|hz
  ·exact hy w (.head _) (p.1 _ u.mem)
  ·exact p.1 z hz
theorem Upd.at {α : Type} {l : List α} {x : α} : ∀ {i : Nat},l[i]? = some x→∀ {y : α},Upd l x y (l.set i y):=by
 induction l with
 | nil=>intro i e; simp at e
 | cons z l ih=>
  intro i e y
  cases i with
  | zero=>simp at e; subst e; exact .here
  | succ i=>exact .there (ih (by simpa using e))
inductive Del {α : Type} : List α→α→List α→Prop
 | here {x : α} {l : List α} : Del (x :: l) x l
 | there {x z : α} {l l' : List α} : Del l x l'→Del (z :: l) x (z :: l')
theorem Del.at {α : Type} {l : List α} {x : α} : ∀ {i : Nat},l[i]? = some x→Del l x (l.eraseIdx i):=by
 induction l with
 | nil=>intro i e; simp at e
 | cons z l ih=>
  intro i e
  cases i with
  | zero=>simp at e; subst e; exact .here
  | succ i=>exact .there (ih (by simpa using e))
theorem Del.mem {α : Type} {l l' : List α} {x : α} (u : Del l x l') : x∈l:=by
 induction u with
 | here=>exact .head _
 | there _ ih=>exact .tail _ ih
theorem Del.of {α : Type} {l l' : List α} {x : α} (u : Del l x l') : ∀ z∈l',z∈l:=by
 induction u with
 | here=>exact fun z hz=>.tail _ hz
 | there _ ih=>
  intro z hz
  rcases List.mem_cons.1 hz with rfl|hz
  ·exact .head _
  ·exact .tail _ (ih z hz)
theorem Del.others {l l' : Ds} {x : Nat × Nat × List Value} (u : Del l x l') (nd : (l.map (·.1)).Nodup) : (l'.map (·.1)).Nodup∧∀ z∈l',z.1≠x.1:=by
 induction u with
 | @here x l=>
  have nd:=List.nodup_cons.1 nd
  exact ⟨nd.2,fun z hz e=>nd.1 (List.mem_map.2 ⟨z,hz,e⟩)⟩
 | @there x z l l' u ih=>
  have nd:=List.nodup_cons.1 nd
  obtain ⟨h1,h2⟩:=ih nd.2
  refine ⟨List.nodup_cons.2 ⟨fun hm=>?_,h1⟩,fun y hy=>?_⟩
  ·obtain ⟨y,hy,e⟩:=List.mem_map.1 hm
   exact nd.1 (List.mem_map.2 ⟨y,u.of y hy,e⟩)
  ·rcases List.mem_cons.1 hy with rfl|hy
   ·exact fun e=>nd.1 (List.mem_map.2 ⟨_,u.mem,e.symm⟩)
   ·exact h2 y hy
theorem Upd.key {l l' : List Rs} {r r' : Rs} (u : Upd l r r' l') : l.Pairwise Rs.dj→∀ s∈l',s = r'∨(s∈l∧s.dj r):=by
 induction u with
 | @here x y l=>
  intro p s hs
  rw [List.pairwise_cons] at p
  rcases List.mem_cons.1 hs with rfl|hs
  ·exact .inl rfl
  ·exact .inr ⟨.tail _ hs,(p.1 s hs).symm⟩
 | @there x y w l l' u ih=>
  intro p s hs
  rw [List.pairwise_cons] at p
  rcases List.mem_cons.1 hs with rfl|hs
  ·exact .inr ⟨.head _,p.1 _ u.mem⟩
  ·exact (ih p.2 s hs).imp id fun h=>⟨.tail _ h.1,h.2⟩
theorem Upd.off {l l' : List Rs} {s e : Rs} (u : Upd l s e l') (he : ∀ b,¬ e.S b) (ms : s.mu = true) : l.Pairwise Rs.dj→∀ z∈l',∀ b,z.S b→¬ s.S b:=by
 induction u with
 | @here x y l=>
  intro p z hz b h1 h2
  rw [List.pairwise_cons] at p
  rcases List.mem_cons.1 hz with rfl|hz
  ·exact he b h1
  ·exact p.1 z hz (by rw [ms]; simp) b h2 h1
 | @there x y w l l' u ih=>
  intro p z hz b h1 h2
  rw [List.pairwise_cons] at p
  rcases List.mem_cons.1 hz with rfl|hz
  ·exact p.1 _ u.mem (by rw [ms]; simp) b h1 h2
  ·exact ih he ms p.2 z hz b h1 h2
theorem Upd.two {α : Type} {l l' : List α} {x y : α} (z : α) (u : Upd l x y l') : ∃ m,Upd l x z m∧Upd m z y l':=by
 induction u with
 | here=>exact ⟨_,.here,.here⟩
 | there u ih=>
  obtain ⟨m,h1,h2⟩:=ih
  exact ⟨_,.there h1,.there h2⟩
namespace Hs
variable {base : Nat} {W : Fp} {h0 h : AH} {D : Ds} {R : List Rs}
theorem start (hb : base≤h.length) : Hs base NoB h h [] []:=⟨hb,KB.refl _ _,fun x hx=>(nomatch hx),by simp,fun r hr=>(nomatch hr),.nil⟩
theorem inp (d : Hs base W h0 h D R) (S : Fp) (A : AH→Prop) (hA : A h) (ok : ∀ (U : Fp) (h h' : AH),KB U h h'→(∀ b,S b→¬ U b)→A h→A h') (lt : ∀ b,S b→b < h.length) (hD : ∀ x∈D,¬ S x.1) (hR : R.all (fun r=>!r.mu) = true) : Hs base W h0 h D (R++[⟨S,false,A⟩]):=by
 refine ⟨d.ge,d.kb,d.own,d.nd,fun r hr=>?_,?_⟩
 ·rcases List.mem_append.1 hr with hr|hr
  ·exact d.res r hr
  ·rw [List.mem_singleton] at hr
   subst hr
   exact ⟨hA,ok,lt,fun h=>(nomatch h),hD⟩
 ·rw [List.pairwise_append]
  refine ⟨d.dj,by simp,fun r hr s hs=>?_⟩
  rw [List.mem_singleton] at hs
  subst hs
  intro e
  have:=List.all_eq_true.1 hR r hr
  simp only [Bool.or_false] at e
  rw [e] at this
  cases this
theorem keep {U : Fp} {h' : AH} (d : Hs base W h0 h D R) (k : KB U h h') (h1 : ∀ b,U b→b < h.length→W b∨h0.length≤b) (h2 : ∀ x∈D,¬ U x.1) (h3 : ∀ r∈R,∀ b,r.S b→¬ U b) : Hs base W h0 h' D R:=by
 refine ⟨Nat.le_trans d.ge k.1,KB.trans d.kb k (fun _ _ h=>h) (fun i hi hu=>?_),fun x hx=>⟨(d.own x hx).1.keep k fun b hb hu=>h2 x hx ((blk_at0.1 hb) ▸ hu),(d.own x hx).2⟩,d.nd,fun r hr=>?_,d.dj⟩
 ·rcases h1 i hu (Nat.lt_of_lt_of_le hi d.kb.1) with h|h
  ·exact h
  ·exact absurd hi (by omega)
 ·obtain ⟨r1,r2,r3,r4⟩:=d.res r hr
  exact ⟨r2 U h h' k (h3 r hr) r1,r2,fun b hb=>Nat.lt_of_lt_of_le (r3 b hb) k.1,r4⟩
theorem kN {h' : AH} (d : Hs base W h0 h D R) (k : KB NoB h h') : Hs base W h0 h' D R:=d.keep k (fun _ h=>h.elim) (fun _ _ h=>h) (fun _ _ _ _ h=>h)
theorem call {h' : AH} (d : Hs base W h0 h D R) (k : KB NoB h h') (S : Fp) (A : AH→Prop) (hA : A h') (ok : ∀ (U : Fp) (h h' : AH),KB U h h'→(∀ b,S b→¬ U b)→A h→A h') (hS : ∀ b,S b→h.length≤b∧b < h'.length) : Hs base W h0 h' D (R++[⟨S,true,A⟩]):=by
 have d':=d.kN k
 refine ⟨d'.ge,d'.kb,d'.own,d'.nd,fun r hr=>?_,?_⟩
 ·rcases List.mem_append.1 hr with hr|hr
  ·exact d'.res r hr
  ·rw [List.mem_singleton] at hr
   subst hr
   refine ⟨hA,ok,fun b hb=>(hS b hb).2,fun _ b hb=>.inr ?_,fun x hx hS'=>?_⟩
   ·have:=(hS b hb).1
    have:=d.kb.1
    omega
   ·have:=((d.own x hx).1.lt (blk_at0.2 rfl)).2
    have:=(hS _ hS').1
    omega
 ·rw [List.pairwise_append]
  refine ⟨d'.dj,by simp,fun r hr s hs e b h1 h2=>?_⟩
  rw [List.mem_singleton] at hs
  subst hs
  have:=(d.res r hr).2.2.1 b h1
  have:=(hS b h2).1
  omega
theorem call2 {h' : AH} (d : Hs base W h0 h D R) (k : KB NoB h h') (S T : Fp) (A B : AH→Prop) (hA : A h') (hB : B h') (okA : ∀ (U : Fp) (h h' : AH),KB U h h'→(∀ b,S b→¬ U b)→A h→A h') (okB : ∀ (U : Fp) (h h' : AH),KB U h h'→(∀ b,T b→¬ U b)→B h→B h') (hS : ∀ b,S b→h.length≤b∧b < h'.length) (hT : ∀ b,T b→h.length≤b∧b < h'.length) (hd : ∀ b,S b→¬ T b) : Hs base W h0 h' D (R++[⟨S,true,A⟩]++[⟨T,true,B⟩]):=by
 have d1:=d.call k S A hA okA hS
 have d2:=d.call k T B hB okB hT
 refine ⟨d1.ge,d1.kb,d1.own,d1.nd,fun r hr=>?_,?_⟩
 ·rcases List.mem_append.1 hr with hr|hr
  ·exact d1.res r hr
  ·exact d2.res r (List.mem_append_right _ hr)
 ·rw [List.pairwise_append]
  refine ⟨d1.dj,by simp,fun r hr s hs=>?_⟩
  rcases List.mem_append.1 hr with hr|hr
  ·exact (List.pairwise_append.1 d2.dj).2.2 r hr s hs
  ·rw [List.mem_singleton] at hr hs
   subst hr; subst hs
   exact fun _=>hd
theorem rs (d : Hs base W h0 h D R) {i : Nat} {r : Rs} (e : R[i]? = some r) : r.A h:=(d.res r (List.mem_of_getElem? e)).1
theorem rlt (d : Hs base W h0 h D R) {i : Nat} {r : Rs} (e : R[i]? = some r) : ∀ b,r.S b→b < h.length:=(d.res r (List.mem_of_getElem? e)).2.2.1
theorem rfr (d : Hs base W h0 h D R) {i : Nat} {r : Rs} (e : R[i]? = some r) (m : r.mu = true) : ∀ b,r.S b→W b∨h0.length≤b:=(d.res r (List.mem_of_getElem? e)).2.2.2.1 m
theorem getI {b t o : Nat} {cs : List Value} {v : Value} (d : Hs base W h0 h D R) (m : (b,t,cs)∈D) (e : cs[o]? = some v) : Am.cell h b o = some v:=(d.own _ m).1.at0 e
theorem lt {b t : Nat} {cs : List Value} (d : Hs base W h0 h D R) (m : (b,t,cs)∈D) : b < h.length:=((d.own _ m).1.lt (blk_at0.2 rfl)).2
theorem ol {b t : Nat} {cs : List Value} (d : Hs base W h0 h D R) (m : (b,t,cs)∈D) : Own base t h (at0 b) cs:=(d.own _ m).1
theorem new (d : Hs base W h0 h D R) (t : Nat) (cs : List Value) : Hs base W h0 (h++[some ⟨cs,t⟩]) ((h.length,t,cs) :: D) R:=by
 obtain ⟨o1,k1,q1⟩:=box_own (base:=base) (t:=t) (h:=h) (cs:=cs) d.ge rfl
 have d':=d.kN k1
 refine ⟨d'.ge,d'.kb,fun x hx=>?_,?_,fun r hr=>?_,d'.dj⟩
 ·rcases List.mem_cons.1 hx with rfl|hx
  ·exact ⟨o1,.inr d.kb.1⟩
  ·exact d'.own x hx
 ·rw [List.map_cons,List.nodup_cons]
  refine ⟨fun hm=>?_,d'.nd⟩
  obtain ⟨x,hx,e⟩:=List.mem_map.1 hm
  have:=((d.own x hx).1.lt (blk_at0.2 rfl)).2
  simp only at e
  omega
 ·obtain ⟨r1,r2,r3,r4,r5⟩:=d'.res r hr
  refine ⟨r1,r2,r3,r4,fun x hx hS=>?_⟩
  rcases List.mem_cons.1 hx with rfl|hx
  ·have:=(d.res r hr).2.2.1 _ hS
   simp only at this
   omega
  ·exact r5 x hx hS
theorem wr {b t o : Nat} {cs new : List Value} {D' : Ds} (d : Hs base W h0 h D R) (u : Upd D (b,t,cs) (b,t,setAt cs o new) D') (hi : o + new.length≤cs.length) (hz : 0 < new.length) :
  ∃ h1,Am.wr base h b o new = some h1∧Hs base W h0 h1 D' R∧h1.length = h.length∧KB (· = b) h h1:=by
 obtain ⟨h1,e,o1,k1,l1⟩:=((d.own _ u.mem).1).wr0 hi hz
 refine ⟨h1,e,⟨by rw [l1]; exact d.ge,KB.trans d.kb k1 (fun _ _ h=>h) (fun i hi hu=>?_),fun x hx=>?_,?_,fun r hr=>?_,d.dj⟩,l1,k1⟩
 ·simp only at hu
  subst hu
  rcases (d.own _ u.mem).2 with h|h
  ·exact h
  ·simp only at h; omega
 ·rcases u.others rfl d.nd x hx with rfl|⟨hx,hne⟩
  ·exact ⟨o1,(d.own _ u.mem).2⟩
  ·exact ⟨(d.own x hx).1.keepB k1 fun i hi=>(blk_at0.1 hi) ▸ hne,(d.own x hx).2⟩
 ·rw [u.fst rfl]; exact d.nd
 ·obtain ⟨r1,r2,r3,r4,r5⟩:=d.res r hr
  refine ⟨r2 _ _ _ k1 (fun i hS hi=>?_) r1,r2,fun b hb=>by rw [l1]; exact r3 b hb,r4,fun x hx=>?_⟩
  ·simp only at hi
   subst hi
   exact r5 _ u.mem hS
  ·rcases u.others rfl d.nd x hx with rfl|⟨hx,_⟩
   ·exact fun h=>r5 _ u.mem h
   ·exact r5 x hx
theorem upd {U : Fp} {h' : AH} {r r' : Rs} {R' : List Rs} (d : Hs base W h0 h D R) (u : Upd R r r' R') (m : r.mu = true) (m' : r'.mu = true) (k : KB U h h') (hU : ∀ b,U b→r.S b∨h.length≤b) (hA : r'.A h') (ok : r'.Ok) (hS : ∀ b,r'.S b→r.S b∨(h.length≤b∧b < h'.length)) : Hs base W h0 h' D R':=by
 obtain ⟨r1,r2,r3,r4,r5⟩:=d.res r u.mem
 have hb:=d.kb.1
 have hUD : ∀ x∈D,¬ U x.1:=fun x hx hu=>by
  have:=((d.own x hx).1.lt (blk_at0.2 rfl)).2
  rcases hU _ hu with h|h
  ·exact r5 x hx h
  ·omega
 refine ⟨Nat.le_trans d.ge k.1,KB.trans d.kb k (fun _ _ h=>h) (fun i hi hu=>?_),fun x hx=>⟨(d.own x hx).1.keep k fun b hb hu=>hUD x hx ((blk_at0.1 hb) ▸ hu),(d.own x hx).2⟩,d.nd,?_,?_⟩
 ·rcases hU i hu with h|h
  ·exact (r4 m i h).resolve_right (by omega)
  ·omega
 ·intro s hs
  rcases u.key d.dj s hs with rfl|⟨hs,hd⟩
  ·refine ⟨hA,ok,fun b hb=>?_,fun _ b hb=>?_,fun x hx hS'=>?_⟩
   ·rcases hS b hb with h|h
    ·exact Nat.lt_of_lt_of_le (r3 b h) k.1
    ·exact h.2
   ·rcases hS b hb with h|h
    ·exact r4 m b h
    ·exact .inr (by omega)
   ·have:=((d.own x hx).1.lt (blk_at0.2 rfl)).2
    rcases hS _ hS' with h|h
    ·exact r5 x hx h
    ·omega
  ·obtain ⟨s1,s2,s3,s4,s5⟩:=d.res s hs
   refine ⟨s2 U h h' k (fun b hb hu=>?_) s1,s2,fun b hb=>Nat.lt_of_lt_of_le (s3 b hb) k.1,s4,s5⟩
   rcases hU b hu with h|h
   ·exact hd (by rw [m]; simp) b hb h
   ·have:=s3 b hb; omega
 ·refine u.pair d.dj fun z hz hd e b h1 h2=>?_
  rcases hS b h2 with h|h
  ·exact hd (by rw [m]; simp) b h1 h
  ·have:=(d.res z hz).2.2.1 b h1; omega
theorem re {r r' : Rs} {R' : List Rs} (d : Hs base W h0 h D R) (u : Upd R r r' R') (m : r.mu = true) (m' : r'.mu = true) (hA : r'.A h) (ok : r'.Ok) (hS : ∀ b,r'.S b→r.S b) : Hs base W h0 h D R':=
 d.upd u m m' (KB.refl NoB h) (fun _ h=>h.elim) hA ok fun b hb=>.inl (hS b hb)
theorem join {U : Fp} {h' : AH} {r s r' : Rs} {R1 R2 : List Rs} (d : Hs base W h0 h D R) (us : Upd R s ⟨fun _=>False,true,fun _=>True⟩ R1) (ur : Upd R1 r r' R2) (ms : s.mu = true) (m : r.mu = true) (m' : r'.mu = true) (k : KB U h h') (hU : ∀ b,U b→r.S b∨h.length≤b) (hA : r'.A h') (ok : r'.Ok) (hS : ∀ b,r'.S b→r.S b∨s.S b∨(h.length≤b∧b < h'.length)) : Hs base W h0 h' D R2:=by
 have dE : Hs base W h0 h D R1:=d.re us ms rfl trivial (fun _ _ _ _ _ h=>h) (fun _ h=>h.elim)
 obtain ⟨r1,r2,r3,r4,r5⟩:=dE.res r ur.mem
 obtain ⟨s1,s2,s3,s4,s5⟩:=d.res s us.mem
 have dj1:=us.off (fun _ h=>h) ms d.dj
 obtain ⟨R3,u1,u2⟩:=ur.two ⟨fun b=>r.S b∨s.S b,true,r.A⟩
 have dF : Hs base W h0 h D R3:=by
  refine ⟨dE.ge,dE.kb,dE.own,dE.nd,fun z hz=>?_,?_⟩
  ·rcases u1.of z hz with rfl|hz
   ·refine ⟨r1,fun U h h' k hk=>r2 U h h' k fun b hb=>hk b (.inl hb),fun b hb=>hb.elim (r3 b) (s3 b),fun _ b hb=>hb.elim (r4 m b) (s4 ms b),fun x hx hb=>hb.elim (r5 x hx) (s5 x hx)⟩
   ·exact dE.res z hz
  ·refine u1.pair dE.dj fun z hz hd e b h1 h2=>?_
   rcases h2 with h2|h2
   ·exact hd (by rw [m]; simp) b h1 h2
   ·exact dj1 z hz b h1 h2
 exact dF.upd u2 rfl m' k (fun b hb=>(hU b hb).imp .inl id) hA ok fun b hb=>by
  rcases hS b hb with h|h|h
  ·exact .inl (.inl h)
  ·exact .inl (.inr h)
  ·exact .inr h
theorem unbox (d : Hs base W h0 h D R) {b t : Nat} {cs : List Value} {D' : Ds} (u : Del D (b,t,cs) D') : Hs base W h0 h D' (R++[⟨(· = b),true,fun y=>Own base t y (at0 b) cs⟩]):=by
 obtain ⟨n1,n2⟩:=u.others d.nd
 refine ⟨d.ge,d.kb,fun x hx=>d.own x (u.of x hx),n1,fun r hr=>?_,?_⟩
 ·rcases List.mem_append.1 hr with hr|hr
  ·obtain ⟨r1,r2,r3,r4,r5⟩:=d.res r hr
   exact ⟨r1,r2,r3,r4,fun x hx=>r5 x (u.of x hx)⟩
  ·rw [List.mem_singleton] at hr
   subst hr
   refine ⟨(d.own _ u.mem).1,fun U y y' k hk x=>x.keep k fun i hi hu=>hk i (blk_at0.1 hi) hu,fun i hi=>?_,fun _ i hi=>?_,fun x hx hi=>n2 x hx hi⟩
   ·simp only at hi; subst hi; exact d.lt u.mem
   ·simp only at hi; subst hi; exact (d.own _ u.mem).2
 ·rw [List.pairwise_append]
  refine ⟨d.dj,by simp,fun r hr s hs e i h1 h2=>?_⟩
  rw [List.mem_singleton] at hs
  subst hs
  simp only at h2
  subst h2
  exact (d.res r hr).2.2.2.2 _ u.mem h1
theorem of_ne {l : List Rs} (p : l.Pairwise Rs.dj) {r s : Rs} (hr : r∈l) (hs : s∈l) (hne : r≠s) : r.dj s:=by
 induction l with
 | nil=>cases hr
 | cons x l ih=>
  rw [List.pairwise_cons] at p
  rcases List.mem_cons.1 hr with h1|hr
  ·rcases List.mem_cons.1 hs with h2|hs
   ·exact absurd (h1.trans h2.symm) hne
   ·exact h1 ▸ p.1 s hs
  ·rcases List.mem_cons.1 hs with h2|hs
   ·exact h2 ▸ (p.1 r hr).symm
   ·exact ih p.2 hr hs
theorem also (d : Hs base W h0 h D R) {i : Nat} {r : Rs} (e : R[i]? = some r) (m : r.mu = false) (A : AH→Prop) (hA : A h) (ok : ∀ (U : Fp) (h h' : AH),KB U h h'→(∀ b,r.S b→¬ U b)→A h→A h') : Hs base W h0 h D (R++[⟨r.S,false,A⟩]):=by
 have hm:=List.mem_of_getElem? e
 obtain ⟨r1,r2,r3,r4,r5⟩:=d.res r hm
 refine ⟨d.ge,d.kb,d.own,d.nd,fun s hs=>?_,?_⟩
 ·rcases List.mem_append.1 hs with hs|hs
  ·exact d.res s hs
  ·rw [List.mem_singleton] at hs
   subst hs
   exact ⟨hA,ok,r3,fun h=>(nomatch h),r5⟩
 ·rw [List.pairwise_append]
  refine ⟨d.dj,by simp,fun s hs t ht=>?_⟩
  rw [List.mem_singleton] at ht
  subst ht
  intro e2
  simp only [Bool.or_false] at e2
  have:=of_ne d.dj hs hm (fun e3=>by rw [e3,m] at e2; cases e2)
  exact this (by rw [e2]; rfl)
theorem callP {h' : AH} {α : Type} {P : Fp→AH→α→List Value→Prop} (d : Hs base W h0 h D R) (kp : Kp P) (k : KB NoB h h') {x : α} {cs : List Value} (hx : P (iS h.length h'.length) h' x cs) : Hs base W h0 h' D (R++[⟨iS h.length h'.length,true,fun y=>P (iS h.length h'.length) y x cs⟩]):=
 d.call k _ _ hx (fun U y y' ky hs z=>kp _ U y y' x cs ky hs z) fun b hb=>hb
theorem junk {U : Fp} {h' : AH} {i : Nat} {r : Rs} (d : Hs base W h0 h D R) (e : R[i]? = some r) (m : r.mu = true) (k : KB U h h') (hU : ∀ b,U b→r.S b∨h.length≤b) : Hs base W h0 h' D (R.set i ⟨r.S,true,fun _=>True⟩):=
 d.upd (Upd.at e) m rfl k hU trivial (fun _ _ _ _ _ h=>h) fun b hb=>.inl hb
theorem callO {h' : AH} {α : Type} {t w : Nat} {P : Fp→AH→α→List Value→Prop} {l : List α} {a : Option Addr} (d : Hs base W h0 h D R) (kp : Kp P) (k : KB NoB h h') (hx : RowO base t w P (iS h.length h'.length) h' l a) : Hs base W h0 h' D (R++[⟨iS h.length h'.length,true,fun y=>RowO base t w P (iS h.length h'.length) y l a⟩]):=
 d.call k _ _ hx (fun U y y' ky hs z=>z.keep kp ky hs) fun b hb=>hb
theorem joinO {U : Fp} {h' : AH} {r s : Rs} {R1 R2 : List Rs} {α : Type} {t w : Nat} {P : Fp→AH→α→List Value→Prop} {l : List α} {a : Option Addr} {S' : Fp} (d : Hs base W h0 h D R) (kp : Kp P) (us : Upd R s ⟨fun _=>False,true,fun _=>True⟩ R1) (ur : Upd R1 r ⟨S',true,fun y=>RowO base t w P S' y l a⟩ R2) (ms : s.mu = true) (m : r.mu = true) (k : KB U h h') (hA : RowO base t w P S' h' l a) (hU : ∀ b,U b→r.S b∨h.length≤b) (hS : ∀ b,S' b→r.S b∨s.S b∨(h.length≤b∧b < h'.length)) : Hs base W h0 h' D R2:=
 d.join us ur ms m rfl k hU hA (fun U y y' ky hs z=>z.keep kp ky hs) hS
theorem updP {U : Fp} {h' : AH} {r : Rs} {R' : List Rs} {α : Type} {P : Fp→AH→α→List Value→Prop} {x : α} {cs : List Value} {S' : Fp} (d : Hs base W h0 h D R) (kp : Kp P) (u : Upd R r ⟨S',true,fun y=>P S' y x cs⟩ R') (m : r.mu = true) (k : KB U h h') (hA : P S' h' x cs) (hU : ∀ b,U b→r.S b∨h.length≤b) (hS : ∀ b,S' b→r.S b∨(h.length≤b∧b < h'.length)) : Hs base W h0 h' D R':=
 d.upd u m rfl k hU hA (fun U y y' ky hs z=>kp _ U y y' x cs ky hs z) hS
end Hs
theorem n1 {α : Type} {l : List α} : []++l = l:=rfl
theorem n2 {α : Type} {x : α} {l m : List α} : x :: l++m = x :: (l++m):=rfl
theorem n3 {α : Type} {x y : α} {l : List α} : (x :: l).set 0 y = y :: l:=rfl
theorem n4 {α : Type} {x y : α} {l : List α} {n : Nat} : (x :: l).set (n + 1) y = x :: l.set n y:=rfl
theorem n5 {α : Type} {x : α} {l : List α} : (x :: l).eraseIdx 0 = l:=rfl
theorem n6 {α : Type} {x : α} {l : List α} {n : Nat} : (x :: l).eraseIdx (n + 1) = x :: l.eraseIdx n:=rfl
namespace W
variable {β γ : Type} {Q : β→Prop} {base : Nat} {Wr : Fp} {h0 h : AH} {D : Ds} {R : List Rs}
theorem nD (d : Hs base Wr h0 h D R) {t : Nat} {cs : List Value} {f : AH→Option β} (w : ∀ h1,Hs base Wr h0 h1 ((h.length,t,cs) :: D) R→h1.length = h.length + 1→KB NoB h h1→Wp (f h1) Q) : Wp ((some (h++[some ⟨cs,t⟩])).bind f) Q:=w _ (d.new t cs) (by simp) (KB.push _ _ _)
theorem wD (d : Hs base Wr h0 h D R) {b t o : Nat} {cs new : List Value} {D' : Ds} {f : AH→Option β} (u : Upd D (b,t,cs) (b,t,setAt cs o new) D') (hi : Nat.ble (o + new.length) cs.length = true) (hz : Nat.blt 0 new.length = true) (w : ∀ h1,Hs base Wr h0 h1 D' R→h1.length = h.length→KB (· = b) h h1→Wp (f h1) Q) : Wp ((Am.wr base h b o new).bind f) Q:=by
 obtain ⟨h1,e,d1,l1,k1⟩:=d.wr u (Nat.le_of_ble_eq_true hi) (by rw [Nat.blt_eq] at hz; exact hz)
 rw [e]
 exact w h1 d1 l1 k1
theorem gS (d : Hs base Wr h0 h D R) {b t o n : Nat} {cs cs1 : List Value} {Wr1 : Fp} {h01 h1 : AH} {D1 : Ds} {R1 : List Rs} {x : Option β} (m : (b,t,cs)∈D) (d1 : Hs base Wr1 h01 h1 D1 R1) (m1 : (b,t,cs1)∈D1) (e : (cs1.drop o).take n = (cs.drop o).take n) (hl : Nat.ble (o + n) cs.length = true) (hl1 : Nat.ble (o + n) cs1.length = true) (w : Wp x Q) : Wp (gate (sameA h1 h (some ⟨b,o,none⟩) n) x) Q:=by
 refine W.gt (fun ad ea=>?_) w
 injection ea with ea
 subst ea
 have hl:=Nat.le_of_ble_eq_true hl
 have hl1:=Nat.le_of_ble_eq_true hl1
 refine ⟨fun j hj=>?_,?_⟩
 ·have e2 : (cs1.drop o)[j]? = (cs.drop o)[j]?:=by
   have:=congrArg (·[j]?) e
   simp only [List.getElem?_take_of_lt hj] at this
   exact this
  rw [List.getElem?_drop,List.getElem?_drop] at e2
  have g1:=d1.getI m1 (o:=o + j) (List.getElem?_eq_getElem (by omega))
  have g2:=d.getI m (o:=o + j) (List.getElem?_eq_getElem (by omega))
  rw [List.getElem?_eq_getElem (by omega),List.getElem?_eq_getElem (by omega)] at e2
  injection e2 with e2
  show Am.cell h1 b (o + j) = Am.cell h b (o + j)
  rw [g1,g2,e2]
 ·have ty : ∀ {h : AH} {cs : List Value},Own base t h (at0 b) cs→(hget h b).map (·.ty) = some t:=fun o=>by
   rcases o with ⟨e,_⟩|⟨ad,k,e1,_,e2,e3,_⟩
   ·cases e
   ·injection e1 with e1
    subst e1
    rw [e2]
    simp [e3]
  show (hget h1 b).map (·.ty) = (hget h b).map (·.ty)
  rw [ty (d1.ol m1),ty (d.ol m)]
theorem gN (d : Hs base Wr h0 h D R) {b t o : Nat} {cs : List Value} {x : Option β} (m : (b,t,cs)∈D) (w : Wp x Q) : Wp (gate (neA (some ⟨b,o,none⟩) h.length) x) Q:=W.gt (ne_A (Nat.ne_of_lt (d.lt m))) w
theorem iB {i n : Int} {a b : Option β} (h1 : 0≤i) (h2 : i < n) (w : Wp a Q) : Wp (if 0≤i∧i < n then a else b) Q:=W.ifT ⟨h1,h2⟩ w
theorem rG (d : Hs base Wr h0 h D R) {α : Type} {b t o : Nat} {cs : List Value} {v : Value} {g : Value→Option α} {y : α} {f : α→Option β} (m : (b,t,cs)∈D) (e : cs[o]? = some v) (eg : g v = some y) (w : Wp (f y) Q) : Wp (((Am.cell h b o).bind g).bind f) Q:=by
 rw [d.getI m e,Option.bind_some,eg]
 exact w
theorem bE {α δ : Type} {x : Option δ} {g : δ→Option α} {y : α} {f : α→Option β} (e : x.bind g = some y) (w : Wp (f y) Q) : Wp ((x.bind g).bind f) Q:=by rw [e]; exact w
theorem bU {n : Nat} {v : Value} {l : List Value} {f : List Value→Option β} (e : getTup n v = some l) (w : Wp (f l) Q) : Wp ((getTup n v).bind f) Q:=by rw [e]; exact w
theorem bo {a : Addr} {f : Addr→Option β} (w : Wp (f a) Q) : Wp ((some a).bind f) Q:=w
theorem a1 (d : Hs base Wr h0 h D R) {α : Type} {b t o : Nat} {cs : List Value} {v : Value} {g : Value→Option α} {y : α} {f : α→Option β} (w : Wp (f y) Q) (m : (b,t,cs)∈D:=by with_unfolding_all (repeat first|exact List.Mem.head _|apply List.Mem.tail)) (e : cs[o]? = some v:=by with_unfolding_all exact rfl) (eg : g v = some y:=by with_unfolding_all exact rfl) : Wp (((Am.cell h b o).bind g).bind f) Q:=rG d m e eg w
theorem a2 {α δ : Type} {x : Option δ} {g : δ→Option α} {y : α} {f : α→Option β} (w : Wp (f y) Q) (e : x.bind g = some y:=by with_unfolding_all exact rfl) : Wp ((x.bind g).bind f) Q:=bE e w
theorem a3 {n : Nat} {v : Value} {l : List Value} {f : List Value→Option β} (w : Wp (f l) Q) (e : getTup n v = some l:=by with_unfolding_all exact rfl) : Wp ((getTup n v).bind f) Q:=bU e w
theorem a5 (d : Hs base Wr h0 h D R) {b t o : Nat} {cs new : List Value} {D' : Ds} {f : AH→Option β} (w : ∀ h1,Hs base Wr h0 h1 D' R→h1.length = h.length→KB (· = b) h h1→Wp (f h1) Q) (u : Upd D (b,t,cs) (b,t,setAt cs o new) D':=by with_unfolding_all (repeat first|exact Upd.here|apply Upd.there)) (hi : Nat.ble (o + new.length) cs.length = true:=by with_unfolding_all exact rfl) (hz : Nat.blt 0 new.length = true:=by with_unfolding_all exact rfl) : Wp ((Am.wr base h b o new).bind f) Q:=wD d u hi hz w
theorem a6 (d : Hs base Wr h0 h D R) {b t o n : Nat} {cs cs1 : List Value} {Wr1 : Fp} {h01 h1 : AH} {D1 : Ds} {R1 : List Rs} {x : Option β} (w : Wp x Q) (d1 : Hs base Wr1 h01 h1 D1 R1:=by assumption) (m : (b,t,cs)∈D:=by with_unfolding_all (repeat first|exact List.Mem.head _|apply List.Mem.tail)) (m1 : (b,t,cs1)∈D1:=by with_unfolding_all (repeat first|exact List.Mem.head _|apply List.Mem.tail)) (e : (cs1.drop o).take n = (cs.drop o).take n:=by with_unfolding_all exact rfl) (hl : Nat.ble (o + n) cs.length = true:=by with_unfolding_all exact rfl) (hl1 : Nat.ble (o + n) cs1.length = true:=by with_unfolding_all exact rfl) : Wp (gate (sameA h1 h (some ⟨b,o,none⟩) n) x) Q:=gS d m d1 m1 e hl hl1 w
theorem a7 {b t o : Nat} {cs : List Value} {x : Option β} (w : Wp x Q) (d : Hs base Wr h0 h D R:=by assumption) (m : (b,t,cs)∈D:=by with_unfolding_all (repeat first|exact List.Mem.head _|apply List.Mem.tail)) : Wp (gate (neA (some ⟨b,o,none⟩) h.length) x) Q:=gN d m w
theorem a8 {i n : Int} {a b : Option β} (w : Wp a Q) (h1 : 0≤i:=by first|omega|(dsimp only; omega)) (h2 : i < n:=by first|omega|(dsimp only; omega)) : Wp (if 0≤i∧i < n then a else b) Q:=iB h1 h2 w
theorem jb {L : Slots} (B : Bool) (d : Hs base Wr h0 h D R) {x : Option (Sum (Slots × AH) β)} {k : Slots × AH→Option β} (w : Wp x (Sum.elim (fun q=>q.1.dropLast = L∧q.1.getLast? = some (some (.bool B))∧KB NoB h q.2) Q)) (w2 : ∀ h1,Hs base Wr h0 h1 D R→h.length≤h1.length→Wp (k (L++[some (.bool B)],h1)) Q) : Wp (x.bind fun j=>joinK j k) Q:=by
 refine W.joinP _ w fun q hq=>?_
 obtain ⟨q1,q2⟩:=q
 obtain ⟨e1,e2,k2⟩:=hq
 simp only at e1 e2 k2
 have : q1 = L++[some (.bool B)]:=by
  rw [← e1]
  rw [List.getLast?_eq_some_iff] at e2
  obtain ⟨ys,rfl⟩:=e2
  simp
 rw [this]
 exact w2 q2 (d.kN k2) k2.1
theorem lb {L : Slots} {B : Bool} {q1 : Slots} {h1 h2 : AH} (e1 : q1.dropLast = L) (e2 : q1.getLast? = some (some (.bool B))) (k : KB NoB h1 h2) : Wp (some (Sum.inl (q1,h2) : Sum (Slots × AH) β)) (Sum.elim (fun q=>q.1.dropLast = L∧q.1.getLast? = some (some (.bool B))∧KB NoB h1 q.2) Q):=W.inl ⟨e1,e2,k⟩
end W
end
theorem RowO.app1 {α : Type} {w : Nat} {P : Fp→AH→α→List Value→Prop} (kp : Kp P) {base t bytes : Nat} {S C : Fp} {h : AH} {l : List α} {a : Option Addr} (x : RowO base t w P S h l a) {y : α} {cs : List Value} (hy : P C h y cs) (hc : cs.length = w) (hw : 0 < w) (hlf : cs.all leaf = true) (hC : ∀ b,C b→¬ S b) (hCb : ∀ b,C b→b < h.length) (hSb : ∀ b,S b→b < h.length) (hb : base≤h.length) (h1 : (l.length + 1) * bytes≤140737488355328) (h2 : l.length + 1≤9223372036854775807) :
  ∃ a' h',Am.app base (h++[some ⟨cs,t⟩]) t w bytes a l.length (rawAt (h++[some ⟨cs,t⟩]) (some ⟨h.length,0,none⟩) (1 * w)) 1 = some (.slice a' (l.length + 1) (l.length + 1),h')∧RowO base t w P (fun b=>S b∨C b∨(h.length≤b∧b < h'.length)) h' (l++[y]) a'∧KB (blk a) h h'∧h.length + 1≤h'.length:=by
 obtain ⟨vs,T,x1,x2,x3,x4,x5⟩:=x
 obtain ⟨a',h',e,o,k,d,n⟩:=Am.app1 (bytes:=bytes) x1 x2 hc hw hlf hb h1 h2
 refine ⟨a',h',e,⟨vs++cs,fun b=>T b∨C b,o,by simp [hc,x2,Nat.add_one_mul],fun b hb'=>?_,fun b hb'=>hb'.elim (fun hb'=>.inl (x4 b hb')) fun hb'=>.inr (.inl hb'),?_⟩,k,n⟩
 ·have e:=d b hb'
  have lt:=(o.lt hb').2
  subst e
  refine ⟨.inr (.inr ⟨by omega,lt⟩),fun hh=>?_⟩
  rcases hh with hh|hh
  ·have:=hSb _ (x4 _ hh); omega
  ·have:=hCb _ hh; omega
 ·have c:=x5.snoc (vs':=vs++cs) (S':=fun b=>T b∨C b) hy (fun b hb hb'=>hC b hb (x4 b hb')) (fun b hb=>.inl hb) (fun b hb=>.inr hb) (fun q hq=>chunk_app_other (by have:=mul_le' (w:=w) hq; omega)) (chunk_app_self hc x2)
  refine c.keep kp k fun b hb hk=>?_
  rcases hb with hb|hb
  ·exact (x3 b hk).2 hb
  ·exact hC b hb (x3 b hk).1
section
section
variable {α : Type} {w : Nat} {P : Fp→AH→α→List Value→Prop}
theorem chunk_app_right {w n i : Nat} {vs cs : List Value} (hv : vs.length = n * w) (hi : n≤i) : chunk w i (vs++cs) = chunk w (i - n) cs:=by
 have h:=Nat.mul_le_mul_right w hi
 rw [chunk,chunk,List.drop_append,List.drop_eq_nil_of_le (by omega),List.nil_append,hv,Nat.sub_mul]
theorem Chunks.app {S C : Fp} {h : AH} {l l2 : List α} {vs vs2 : List Value} (x : Chunks w P S h l vs) (y : Chunks w P C h l2 vs2) (hv : vs.length = l.length * w) (hd : ∀ b,S b→¬ C b) : Chunks w P (fun b=>S b∨C b) h (l++l2) (vs++vs2):=by
 obtain ⟨A,a1,a2,a3⟩:=x
 obtain ⟨B,b1,b2,b3⟩:=y
 refine ⟨fun i=>if i < l.length then A i else B (i - l.length),fun i b hb=>?_,fun i j b hij hi hj=>?_,fun i z hz=>?_⟩
 ·simp only at hb
  split at hb
  ·exact .inl (a1 _ b hb)
  ·exact .inr (b1 _ b hb)
 ·simp only at hi hj
  split at hi
  ·split at hj
   ·exact a2 _ _ b hij hi hj
   ·exact hd b (a1 _ b hi) (b1 _ b hj)
  ·split at hj
   ·exact hd b (a1 _ b hj) (b1 _ b hi)
   ·exact b2 _ _ b (by omega) hi hj
 ·by_cases hi : i < l.length
  ·rw [List.getElem?_append_left hi] at hz
   have hle:=mul_le' (w:=w) hi
   show P (if i < l.length then A i else B (i - l.length)) h z (chunk w i (vs++vs2))
   rw [if_pos hi,chunk_app_other (by omega)]
   exact a3 i z hz
  ·rw [List.getElem?_append_right (by omega)] at hz
   show P (if i < l.length then A i else B (i - l.length)) h z (chunk w i (vs++vs2))
   rw [if_neg hi,chunk_app_right hv (by omega)]
   exact b3 _ z hz
theorem RowO.appR (kp : Kp P) {base t bytes : Nat} {S C : Fp} {h : AH} {l l2 : List α} {a a2 : Option Addr} (x : RowO base t w P S h l a) {vs2 : List Value} (hr : rawAt h a2 (l2.length * w) = some vs2) (hv2 : vs2.length = l2.length * w) (y : Chunks w P C h l2 vs2) (hw : 0 < w) (hC : ∀ b,C b→¬ S b) (hCb : ∀ b,C b→b < h.length) (hSb : ∀ b,S b→b < h.length) (hb : base≤h.length) (h1 : (l.length + l2.length) * bytes≤140737488355328) (h2 : l.length + l2.length≤9223372036854775807) :
  ∃ a' h',Am.app base h t w bytes a l.length (rawAt h a2 (l2.length * w)) l2.length = some (.slice a' (l.length + l2.length) (l.length + l2.length),h')∧RowO base t w P (fun b=>S b∨C b∨(h.length≤b∧b < h'.length)) h' (l++l2) a'∧KB (blk a) h h':=by
 obtain ⟨vs,T,x1,x2,x3,x4,x5⟩:=x
 obtain ⟨a',h',e,o,k,d⟩:=Own.app x1 (bytes:=bytes) (m:=l2.length) x2 hw hr hb h1 h2 hv2
 have cc:=x5.app y x2 (fun b hb hc=>hC b hc (x4 b hb))
 have cc':=cc.keep kp k fun b hb hk=>by
  rcases hb with hb|hb
  ·exact (x3 b hk).2 hb
  ·exact hC b hb (x3 b hk).1
 refine ⟨a',h',e,⟨vs++vs2,fun b=>T b∨C b,o,by simp [x2,hv2,Nat.add_mul],fun b hb'=>?_,fun b hb'=>hb'.elim (fun h=>.inl (x4 b h)) (fun h=>.inr (.inl h)),cc'⟩,k⟩
 rcases d with ⟨hm,rfl,rfl⟩|d
 ·refine ⟨.inl (x3 b hb').1,fun hh=>?_⟩
  rcases hh with hh|hh
  ·exact (x3 b hb').2 hh
  ·exact hC b hh (x3 b hb').1
 ·have e1:=d b hb'
  have lt:=(o.lt hb').2
  subst e1
  refine ⟨.inr (.inr ⟨Nat.le_refl _,lt⟩),fun hh=>?_⟩
  rcases hh with hh|hh
  ·have:=hSb _ (x4 _ hh); omega
  ·have:=hCb _ hh; omega
theorem Chunks.leaf {T : Fp} {h : AH} {l : List α} {vs : List Value} (hlf : ∀ S h x cs,P S h x cs→cs.all leaf = true) (hw : 0 < w) (ch : Chunks w P T h l vs) (ev : vs.length = l.length * w) : vs.all leaf = true:=by
 obtain ⟨C,_,_,c3⟩:=ch
 rw [List.all_eq_true]
 intro v hv
 obtain ⟨q,hq,rfl⟩:=List.mem_iff_getElem.1 hv
 have hi : q / w < l.length:=Nat.div_lt_of_lt_mul (by rw [Nat.mul_comm]; omega)
 have hm:=hlf _ _ _ _ (c3 (q / w) _ (List.getElem?_eq_getElem hi))
 rw [List.all_eq_true] at hm
 have hmod : q % w < w:=Nat.mod_lt _ hw
 have hdm : q / w * w + q % w = q:=by rw [Nat.mul_comm]; exact Nat.div_add_mod q w
 refine hm _ (List.mem_iff_getElem?.2 ⟨q % w,?_⟩)
 rw [chunk,List.getElem?_take_of_lt hmod,List.getElem?_drop,hdm,List.getElem?_eq_getElem hq]
theorem RowO.raws {base t : Nat} {S : Fp} {h : AH} {l : List α} {a : Option Addr} (hlf : ∀ S h x cs,P S h x cs→cs.all leaf = true) (hw : 0 < w) (x : RowO base t w P S h l a) : ∃ vs T,rawAt h a (l.length * w) = some vs∧vs.length = l.length * w∧Sl h a vs∧(∀ b,T b→S b)∧(∀ b,blk a b→S b∧¬ T b)∧Chunks w P T h l vs:=by
 obtain ⟨vs,T,x1,x2,x3,x4,x5⟩:=x
 exact ⟨vs,T,by rw [← x2]; exact x1.sl.raw (x5.leaf hlf hw x2),x2,x1.sl,x4,x3,x5⟩
end
end
end Go.Proofs.Ytkdenmdijdmnjaa.Am
