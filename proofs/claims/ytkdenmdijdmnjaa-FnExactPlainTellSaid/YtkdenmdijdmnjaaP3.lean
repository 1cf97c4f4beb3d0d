/- What the functions of this law compute, lemma by lemma, up to the law.
Conditions: none. -/
import Derived.Test.YtkdenmdijdmnjaaP2
import Derived.IntWalk
import Derived.Laws.BitsLemmas
set_option linter.unusedSimpArgs false
set_option linter.unusedVariables false
namespace Go.Proofs.Ytkdenmdijdmnjaa.Am
open Go Go.RowKit

theorem eq_of_W {β : Type} {x : Option β} {v : β} (w : Wp x fun u => u = v) : x = some v := by
 obtain ⟨u, e, rfl⟩ := w
 exact e
theorem sameK {U : Fp} {h h' : AH} {b o n : Nat} (k : KB U h h') (hb : b < h.length) (hU : ¬ U b) : sameA h h' (some ⟨b, o, none⟩) n := fun ad e => by
 injection e with e
 subst e
 have hg := k.2 b hb hU
 exact ⟨fun j _ => by simp only [Am.cell, hg], by rw [hg]⟩
theorem set_last {L : AH} {n : Nat} (hL : L.length = n) (x y z : Option Blk) : (L ++ [x, y]).set n z = L ++ [z, y] := by
 subst hL
 rw [List.set_append_right _ _ (Nat.le_refl _), Nat.sub_self]
 rfl
theorem wr_last {base n k t : Nat} {L : AH} {x : Option Blk} {olds z ct : List Value} (hb : base ≤ n + 1) (hL : L.length = n) (ho : olds.length = k * 4) (hz : z.length = 4) (hc : ct.length = 4) : wr base (L ++ [x, some ⟨olds ++ z, t⟩]) (n + 1) (0 + k * 4) ct = some (L ++ [x, some ⟨olds ++ ct, t⟩]) := by
 subst hL
 have e1 : (L ++ [x, some (⟨olds ++ z, t⟩ : Blk)]) = (L ++ [x]) ++ [some ⟨olds ++ z, t⟩] := by simp
 have e2 : L.length + 1 = (L ++ [x]).length := by simp
 unfold wr
 rw [if_pos hb, e1, e2]
 have hg : hget ((L ++ [x]) ++ [some (⟨olds ++ z, t⟩ : Blk)]) (L ++ [x]).length = some ⟨olds ++ z, t⟩ := by simp [hget]
 rw [hg, Option.bind_some, if_pos (by simp [ho, hz, hc])]
 rw [List.set_append_right _ _ (Nat.le_refl _), Nat.sub_self]
 have es : setAt (olds ++ z) (0 + k * 4) ct = olds ++ ct := by
  unfold setAt
  rw [Nat.zero_add, ← ho, List.take_left, List.drop_eq_nil_of_le (by simp [hz, hc]), List.append_nil]
 simp only [es]
 simp
theorem implTell_run {base F f pb : Nat} {p : Fp} {P : Pl} {a b g : Option Addr} {S : Fp} {pid : Int} {t : Tm} {tcs : List Value} {V : Fp} {h0 h : AH} (hn : P.acs.length ≤ 1048576) (hbx : ∀ A ∈ P.acs, A.box.length ≤ 1048576) (hB : TmB f t) (hf : f ≤ F) (d : Hs base V h0 h [(pb, 36, plV a P.code.length b P.acs.length P.next g P.out.length)] [rIn p fun y => TmR y p f t tcs, rAs base F S P.acs b]) :
  Wp (run (Et base) 66 [.pointer (at0 pb), .int .i64 pid, .agg tcs.toArray] h) fun r => r.1 = .bool (!toldB pid P.acs) ∧ ∃ S', Hs base V h0 r.2 [(pb, 36, plV a P.code.length b P.acs.length P.next g P.out.length)] [rIn p fun y => TmR y p f t tcs, rAs base F S' (toldL pid t P.acs) b] := by
 obtain ⟨k0, m0, s0, ta, tl, rfl⟩ := TmR.form (d.rs (i := 0) rfl)
 refine W.of (fun r hx => Am.r66 hx) ?_
 ((refine W.nD d fun h1 d _ kh1 => ?_))
 obtain ⟨h2, e2, k2⟩ := at_run (base := base) (b := pb) (l := P.acs) (a := b) (v := pid) (by omega) (RowO.asR (d.rs (i := 1) rfl)) (d.getI (o := 1) (by (· repeat first | exact .head _ | apply List.Mem.tail)) rfl) d.ge
 have d := d.kN k2
 refine W.bs e2 ?_
 ((with_reducible repeat refine W.a2 ?_))
 have hlt := atL_lt pid P.acs 0
 apply W.jb (toldB pid P.acs) d
 ·unfold toldB
  refine W.ite (fun c => ?_) (fun c => ?_)
  ·rw [if_pos c]
   exact W.lb rfl rfl (KB.refl _ _)
  ·rw [if_neg c]
   have c' : ¬ atL pid 0 P.acs < 0 := by simpa using c
   have hi : (atL pid 0 P.acs).toNat < P.acs.length := by omega
   ((with_reducible repeat first | refine W.a1 d ?_ | refine W.bo ?_ | refine W.a8 ?_))
   obtain ⟨ad, x1, x2, x3, rfl, hbl, g0, g1, g2, g3, g4, hmm, hlk⟩ := AsR.get (RowO.asR (d.rs (i := 1) rfl)) hi
   refine W.bs rfl (W.bS g3 ?_)
   rw [aD hi]
   exact W.lb rfl rfl (KB.refl _ _)
 intro h3 d n3
 ((with_reducible repeat refine W.a2 ?_))
 refine W.ite (fun c => ?_) (fun c => ?_)
 ·rw [c]
  refine W.ret ⟨rfl, S, ?_⟩
  unfold toldL
  rw [if_pos c]
  exact d.tl
 have c2 := c
 unfold toldB at c2
 have c' : ¬ atL pid 0 P.acs < 0 := fun h => c2 (by rw [if_pos (decide_eq_true h)])
 have hi : (atL pid 0 P.acs).toNat < P.acs.length := by omega
 refine W.gt ⟨⟨fun i => [0, 0, 0, 4].getD i 0, fun _ => "l11_plain.go:160", .appendInPlace, by kernel_rfl⟩, t4, .bool false, by kernel_rfl, rfl, rfl, rfl⟩ ?_
 refine W.toss ?_
 have d := d.kN (KB.push NoB h3 none)
 generalize h3 ++ [none] = hN at d ⊢
 have dN := d
 have hSl : ∀ b, S b → b < hN.length := d.rlt (i := 1) rfl
 have row : RowO base 54 5 (AcG base F) S hN P.acs b := d.rs (i := 1) rfl
 obtain ⟨C, csA, ad, hA, hcl, rfl, cells, hCS, hSb, hCb, mod⟩ := row.mod (AcG.kp _ _) (by decide) hi hSl
 obtain ⟨bx, vs, e3, er, evl, oB, hbC, _⟩ := hA.addBox
 have hadl := hSl _ hSb
 have hpbS : ¬ S pb := (d.res _ (.tail _ (.head _))).2.2.2.2 _ (.tail _ (.head _))
 have hpbl : pb < hN.length := d.lt (.tail _ (.head _))
 ((with_reducible repeat first | refine W.a1 d ?_ | refine W.bo ?_ | refine W.a8 ?_))
 refine W.bS (cells 3 _ e3) ?_
 ((with_reducible repeat refine W.a1 d ?_))
 obtain ⟨cs6, h6, e6, t6, k6⟩ := copyTermG_run (base := base) f hN p t _ (d.rs (i := 0) rfl) hB d.ge (d.rlt (i := 0) rfl)
 obtain ⟨x1, x2, x3, x4, x5, rfl⟩ := t6.form
 have d := d.callP (TmG.kp _ _) k6 t6
 have d6 := d
 have hk6 : hN.length ≤ h6.length := k6.1
 refine W.bs e6 ?_
 ((try simp only [n1, n2, n3, n4, n5, n6] at d); (with_reducible repeat refine W.a2 ?_))
 refine W.gt (sameK k6 hadl (fun h => h)) ?_
 ((with_reducible repeat refine W.a6 d ?_))
 refine W.gt (ne_A (Nat.ne_of_lt (Nat.lt_of_lt_of_le hadl hk6))) ?_
 ((with_reducible repeat refine W.a7 ?_))
 have d7 := d6.new 42 (termV x1 x2 x3 x4 x5)
 have hrw : rawAt (h6 ++ [some ⟨termV x1 x2 x3 x4 x5, 42⟩]) (some ⟨h6.length, 0, none⟩) (1 * 4) = some (termV x1 x2 x3 x4 x5) := (d7.ol (.head _)).sl.raw rfl
 have hrz : rawAt (h6 ++ [some ⟨termV 0 0 ⟨#[]⟩ none 0, 42⟩]) (some ⟨h6.length, 0, none⟩) (1 * 4) = some (termV 0 0 ⟨#[]⟩ none 0) := ((d6.new 42 (termV 0 0 ⟨#[]⟩ none 0)).ol (.head _)).sl.raw rfl
 refine W.bs rfl ?_
 have k07 : KB NoB hN (h6 ++ [some ⟨termV x1 x2 x3 x4 x5, 42⟩]) := KB.trans k6 (KB.push NoB _ _) (fun _ _ h => h) (fun _ _ h => h)
 have hbl := hbx _ (List.getElem_mem hi)
 obtain ⟨a8, h8, e8, o8, k8, m8⟩ := (oB.keepN k07).app (n := P.acs[(atL pid 0 P.acs).toNat].box.length) (m := 1) (sz := 4) (bytes := 56) evl (by decide) hrw d7.ge (by omega) (by omega) (by rfl)
 have m8 : ∀ b, blk a8 b → b = (h6 ++ [some (⟨termV x1 x2 x3 x4 x5, 42⟩ : Blk)]).length := m8.resolve_left fun h => absurd h.1 (by decide)
 have hl7 : (h6 ++ [some (⟨termV x1 x2 x3 x4 x5, 42⟩ : Blk)]).length = h6.length + 1 := by simp
 refine W.bs e8 ?_
 ((with_reducible repeat refine W.a2 ?_))
 refine W.gt (sameK k8 (show pb < (h6 ++ [some (⟨termV x1 x2 x3 x4 x5, 42⟩ : Blk)]).length by omega) (fun h => hpbS (hCS _ (hbC _ h)))) ?_
 refine W.ifT ⟨by omega, by show atL pid 0 P.acs < (P.acs.length : Int); omega⟩ ?_
 refine W.bo ?_
 have k08 : KB (blk bx) hN h8 := KB.trans k07 k8 (fun _ _ h => h.elim) (fun _ _ h => h)
 have nbx : ∀ i, blk bx i → i < hN.length := fun i hi => hSl _ (hCS _ (hbC _ hi))
 have old8 : ∀ i, i < hN.length → ¬ blk a8 i := fun i hi hh => by have := m8 i hh; omega
 obtain ⟨h9, e9, r9, k9, l9⟩ := mod (blk bx) (fun i => C i ∨ blk a8 i ∨ iS hN.length h6.length i) h8 _ [.slice a8 (P.acs[(atL pid 0 P.acs).toNat].box.length + 1) (P.acs[(atL pid 0 P.acs).toNat].box.length + 1)] 3 (addB t P.acs[(atL pid 0 P.acs).toNat]) k08 (fun i hi _ => hbC i hi) (by simp) (by simp) rfl (fun h2' k2' => by
  obtain ⟨bx', vs', e3', er', _, _, _, fin⟩ := hA.addBox
  rw [e3] at e3'
  injection e3' with e3'
  injection e3' with e3' _ _
  subst e3'
  rw [er] at er'
  injection er' with er'
  subst er'
  refine fin (fun i => blk bx i ∨ i = ad.block) (iS hN.length h6.length) h2' a8 t (termV x1 x2 x3 x4 x5) (KB.trans k08 k2' (fun _ _ h => .inl h) (fun _ _ h => .inr h)) (fun i hi hc => hi.resolve_right fun e => hCb (e ▸ hc)) (o8.keep k2' fun i hi e => old8 ad.block hadl (e ▸ hi)) ?_ rfl (fun i hi => ⟨fun hc => old8 i (hSl _ (hCS _ hc)) hi, fun hh => by have := m8 i hi; have := hh.2; omega⟩) (fun i hi hc => by have := hSl _ (hCS _ hc); have := hi.1; omega)
  have t8 : TmG base f (iS hN.length h6.length) h8 t (termV x1 x2 x3 x4 x5) := TmG.kp _ _ _ _ _ _ _ _ (KB.trans (KB.push NoB h6 _) k8 (fun _ _ h => h.elim) (fun _ _ h => h)) (fun i hi hh => by have := nbx i hh; have := hi.1; omega) t6
  exact (TmG.kp _ _ _ _ _ _ _ _ k2' (fun i hi e => by have := hi.1; have e : i = ad.block := e; omega) t8).le hf) (fun i hi hs => by
  rcases hi with hi | hi | hi
  ·exact hi
  ·exact absurd hi (old8 i (hSl _ hs))
  ·have := hi.1; have := hSl _ hs; omega)
 refine W.bs e9 ?_
 refine W.ret ⟨⟨?_, ?_⟩, eq_of_W ?_⟩
 ·have : toldB pid P.acs = false := by simpa using c
  rw [this]
  rfl
 ·have k79 : KB (fun i => blk bx i ∨ i = ad.block) (h6 ++ [some ⟨termV x1 x2 x3 x4 x5, 42⟩]) h9 := KB.trans k8 k9 (fun _ _ h => .inl h) (fun _ _ h => .inr h)
  have d9 := d7.joinO (AcG.kp _ _) (Upd.at (i := 2) rfl) (Upd.at (i := 1) rfl) rfl rfl k79 r9 (fun i hi => .inl (hi.elim (fun h => hCS _ (hbC _ h)) fun h => h ▸ hSb)) (fun i hi => by
   rcases hi with hi | hi | hi | hi
   ·exact .inl hi
   ·exact .inl (hCS _ hi)
   ·exact .inr (.inr ⟨Nat.le_of_eq (m8 i hi).symm, by rw [l9]; exact (o8.lt hi).2⟩)
   ·exact .inr (.inl hi))
  have d10 := d9.kill
  unfold toldL
  rw [if_neg c, aD hi]
  exact ⟨_, (d10.tl).takeR 2⟩
 ·rw [hrw] at e8
  obtain ⟨L, olds, eh8, hL, ev8, ho, e8z⟩ := app_swap (c2 := termV 0 0 ⟨#[]⟩ none 0) (fun ad' h => Nat.lt_of_lt_of_le (nbx _ ⟨ad', h, rfl⟩) hk6) e8
  injection ev8 with ea8 _ _
  subst eh8
  obtain ⟨L', eh9, hL', e9z⟩ := wr_swap (x' := some ⟨termV 0 0 ⟨#[]⟩ none 0, 42⟩) (y' := some ⟨olds ++ termV 0 0 ⟨#[]⟩ none 0, 42⟩) e9 (by omega)
  have hge := d6.ge
  have d := dN
  ((with_reducible repeat first | refine W.a1 d ?_ | refine W.bo ?_ | refine W.a8 ?_))
  refine W.bS (cells 3 _ e3) ?_
  ((with_reducible repeat refine W.a1 d ?_))
  refine W.bs e6 ?_
  have d := d6
  ((try simp only [n1, n2, n3, n4, n5, n6] at d); (with_reducible repeat refine W.a2 ?_))
  refine W.gt (sameK k6 hadl (fun h => h)) ?_
  ((with_reducible repeat first | refine W.a6 d ?_ | refine W.a7 ?_))
  refine W.gt (ne_A (Nat.ne_of_lt (Nat.lt_of_lt_of_le hadl hk6))) ?_
  ((with_reducible repeat refine W.a7 ?_))
  refine W.bs rfl ?_
  refine W.bs (show Am.app base _ _ 4 56 bx _ (rawAt (h6 ++ [some ⟨termV 0 0 ⟨#[]⟩ none 0, 42⟩]) (some ⟨h6.length, 0, none⟩) (1 * 4)) 1 = _ by rw [hrz]; exact e8z) ?_
  subst ea8
  ((with_reducible repeat first | refine W.a2 ?_ | refine W.bo ?_ | refine W.a8 ?_))
  refine W.bs e9z ?_
  refine W.ifT ⟨by omega, by show ((P.acs[(atL pid 0 P.acs).toNat].box.length : Nat) : Int) < ((P.acs[(atL pid 0 P.acs).toNat].box.length + 1 : Nat) : Int); omega⟩ ?_
  refine W.bo ?_
  rw [Int.toNat_natCast]
  refine W.bs (wr_last (t := 42) (z := termV 0 0 ⟨#[]⟩ none 0) (ct := termV x1 x2 x3 x4 x5) (by omega) (by omega : L'.length = h6.length) ho rfl rfl) ?_
  refine W.ret ?_
  subst eh9
  have hLL : L'.length = h6.length := by omega
  show (Value.bool true, List.set (L' ++ [_, _]) h6.length none) = (Value.bool true, List.set (L' ++ [_, _]) h6.length none)
  rw [set_last hLL, set_last hLL]
section
namespace Hs
variable {base : Nat} {W : Fp} {h0 h : AH} {D : Ds} {R : List Rs}
theorem call3 {h' : AH} (d : Hs base W h0 h D R) (k : KB NoB h h') (S T U : Fp) (A B C : AH → Prop) (hA : A h') (hB : B h') (hC : C h') (okA : ∀ (U : Fp) (h h' : AH), KB U h h' → (∀ b, S b → ¬ U b) → A h → A h') (okB : ∀ (U : Fp) (h h' : AH), KB U h h' → (∀ b, T b → ¬ U b) → B h → B h') (okC : ∀ (V : Fp) (h h' : AH), KB V h h' → (∀ b, U b → ¬ V b) → C h → C h') (hS : ∀ b, S b → h.length ≤ b ∧ b < h'.length) (hT : ∀ b, T b → h.length ≤ b ∧ b < h'.length) (hU : ∀ b, U b → h.length ≤ b ∧ b < h'.length) (hd : ∀ b, S b → ¬ T b) (hd2 : ∀ b, S b → ¬ U b) (hd3 : ∀ b, T b → ¬ U b) : Hs base W h0 h' D (R ++ [⟨S, true, A⟩] ++ [⟨T, true, B⟩] ++ [⟨U, true, C⟩]) := by
 have d1 := d.call2 k S T A B hA hB okA okB hS hT hd
 have d2 := d.call k U C hC okC hU
 refine ⟨d1.ge, d1.kb, d1.own, d1.nd, fun r hr => ?_, ?_⟩
 ·rcases List.mem_append.1 hr with hr | hr
  ·exact d1.res r hr
  ·exact d2.res r (List.mem_append_right _ hr)
 ·rw [List.pairwise_append]
  refine ⟨d1.dj, by simp, fun r hr s hs => ?_⟩
  rcases List.mem_append.1 hr with hr | hr
  ·rcases List.mem_append.1 hr with hr | hr
   ·exact (List.pairwise_append.1 d2.dj).2.2 r hr s hs
   ·rw [List.mem_singleton] at hr hs
    subst hr; subst hs
    exact fun _ => hd2
  ·rw [List.mem_singleton] at hr hs
   subst hr; subst hs
   exact fun _ => hd3
end Hs
end
def preT (f : Nat) (P : Pl) (t : Tm) : Bool := if (!plOk f P) = true then true else !tOk f t
def notT (f : Nat) (P : Pl) (pid : Int) (t : Tm) : Bool := if preT f P t = true then true else toldB pid P.acs
def resT (f : Nat) (P : Pl) (pid : Int) (t : Tm) : Pl := if notT f P pid t = true then P else ⟨P.code, toldL pid t P.acs, P.next, P.out⟩
theorem toldL_not {pid : Int} {t : Tm} {acs : List Ac} (h : toldB pid acs = true) : toldL pid t acs = acs := by unfold toldL; rw [if_pos h]
theorem toldL_lenT {pid : Int} {t : Tm} {acs : List Ac} : (toldL pid t acs).length = acs.length := by
 unfold toldL
 split <;> simp
theorem mcAs_set {f : Nat} {A : Ac} {c : Int} : ∀ {l : List Ac} {i : Nat} (hi : i < l.length), mcA f A ≤ mcA f l[i] + c → 0 ≤ c → mcAs f (l.set i A) ≤ mcAs f l + c
 | [], i, hi, _, _ => absurd hi (Nat.not_lt_zero _)
 | B :: r, 0, hi, h, hc => by
  rw [List.set_cons_zero, mcAs, mcAs]
  simp only [List.getElem_cons_zero] at h
  omega
 | B :: r, i + 1, hi, h, hc => by
  rw [List.set_cons_succ, mcAs, mcAs]
  have := mcAs_set (f := f) (A := A) (c := c) (l := r) (i := i) (by simpa using hi) (by simpa using h) hc
  omega
theorem resT_le {f : Nat} {P : Pl} {pid : Int} {t : Tm} (hB : PlB f P) (ht : TmB f t) (hP : mcP f P ≤ 20000000) (hc : (tcnt f t : Int) ≤ 1048576) : PlB f (resT f P pid t) ∧ 0 ≤ mcP f (resT f P pid t) ∧ mcP f (resT f P pid t) ≤ 200000000 := by
 have nn : ∀ Q : Pl, 0 ≤ mcP f Q := fun Q => by
  have := mcAs_nn f Q.acs
  have : 0 ≤ mcT f Q.out := by unfold mcT; omega
  unfold mcP; omega
 unfold resT
 split
 ·exact ⟨hB, nn _, by omega⟩
 ·rename_i c
  have ct : ¬ toldB pid P.acs = true := fun h => c (by unfold notT; split <;> first | rfl | exact h)
  have c2 := ct
  unfold toldB at c2
  have hlt := atL_lt pid P.acs 0
  have c' : ¬ atL pid 0 P.acs < 0 := fun h => c2 (by rw [if_pos (decide_eq_true h)])
  have hi : (atL pid 0 P.acs).toNat < P.acs.length := by omega
  rw [if_neg (by simpa using c'), aD hi] at c2
  have hb30 : P.acs[(atL pid 0 P.acs).toNat].box.length < 30 := by simp at c2; omega
  obtain ⟨m1, m2, m3, m4, m5, m6⟩ := hB
  have e : toldL pid t P.acs = P.acs.set (atL pid 0 P.acs).toNat (addB t P.acs[(atL pid 0 P.acs).toNat]) := by
   unfold toldL
   rw [if_neg ct, aD hi]
   rfl
  refine ⟨⟨m1, m2, by show (toldL pid t P.acs).length ≤ _; rw [toldL_lenT]; exact m3, fun A hA => ?_, m5, m6⟩, nn _, ?_⟩
  ·have hA : A ∈ toldL pid t P.acs := hA
   rw [e] at hA
   rcases List.mem_or_eq_of_mem_set hA with hA | rfl
   ·exact m4 A hA
   ·obtain ⟨a1, a2, a3, a4, a5⟩ := m4 _ (List.getElem_mem hi)
    refine ⟨a1, by show (P.acs[(atL pid 0 P.acs).toNat].box ++ [t]).length ≤ _; simp; omega, a3, a4, fun u hu => ?_⟩
    rcases List.mem_append.1 (show u ∈ P.acs[(atL pid 0 P.acs).toNat].box ++ [t] from hu) with hu | hu
    ·exact a5 u hu
    ·rw [List.mem_singleton.1 hu]; exact ht
  ·have h1 : mcAs f (toldL pid t P.acs) ≤ mcAs f P.acs + (10 + 10 * (tcnt f t : Int)) := by
    rw [e]
    refine mcAs_set hi ?_ (by omega)
    unfold mcA addB mcL
    simp only [List.length_append, sumL_app, sumL, List.length_cons, List.length_nil]
    omega
   show 6 * (P.code.length : Int) + mcAs f (toldL pid t P.acs) + mcT f P.out ≤ 200000000
   unfold mcP at hP
   omega
theorem resT_told {f : Nat} {P : Pl} {pid : Int} {t : Tm} (c : ¬ preT f P t = true) : resT f P pid t = ⟨P.code, toldL pid t P.acs, P.next, P.out⟩ := by
 unfold resT notT
 rw [if_neg c]
 split
 ·rename_i h
  rw [toldL_not h]
 ·rfl
theorem specPlainTell_run {base f : Nat} {h : AH} {p q : Fp} {P : Pl} {cs : List Value} {k n : Int} {s : ByteArray} {l : List Tm} {ta : Option Addr} {pid : Int} (hB : PlB f P) (x : PlR h p f P cs) (hp : ∀ b, p b → b < h.length) (hTB : TmB f (.mk k n s l)) (y : TmR h q f (.mk k n s l) (termV k n s ta l.length)) (hq : ∀ b, q b → b < h.length) (hb : base ≤ h.length) :
  Wp (run (Et base) 13 [.agg cs.toArray, .int .i64 pid, .agg (termV k n s ta l.length).toArray] h) fun o => ∃ cs', o.1 = .tuple #[.agg cs'.toArray, .bool (!notT f P pid (.mk k n s l))] ∧ PlG base f (iS h.length o.2.length) o.2 (resT f P pid (.mk k n s l)) cs' ∧ KB NoB h o.2 := by
 have x0 := x
 obtain ⟨a, b, g, rfl, hc, hcb, ha, ho⟩ := x0
 have d := ((Hs.start hb).inp p (fun y => PlR y p f P _) x (fun U h h' k hs x => PlR.keep k hs x) hp (fun x hx => nomatch hx) rfl).inp q (fun h => TmR h q f (.mk k n s l) (termV k n s ta l.length)) y (fun U h h' k hs x => TmR.keep k hs _ _ _ x) hq (fun x hx => nomatch hx) rfl
 refine W.of (fun r hx => Am.r13 hx) ?_
 ((try simp only [n1, n2, n3, n4, n5, n6] at d); (refine W.nD d fun h1 d _ kh1 => ?_); (refine W.nD d fun h2 d _ kh2 => ?_); (refine W.nD d fun h3 d _ kh3 => ?_); (with_reducible repeat refine W.a1 d ?_))
 obtain ⟨cs4, h4, e4, g4, k4⟩ := l11Copy_run (base := base) hB (d.rs (i := 0) rfl) (d.rlt (i := 0) rfl) d.ge
 have n4 := k4.1
 obtain ⟨a4, b4, c4, S1, S2, S3, rfl, o1, o1b, o2, o3, s1, s2, s3, d12, d13, d23⟩ := g4
 have d := d.call3 k4 S1 S2 S3 (fun y => Own base 143 y a4 (insR P.code)) (fun y => RowO base 54 5 (AcG base f) S2 y P.acs b4) (fun y => RowO base 140 6 (SdD f) S3 y P.out c4) o1 o2 o3 (fun U h h' k hs x => Own.keep x k fun b hb => hs b (o1b b hb)) (fun U h h' k hs x => RowO.keep (AcG.kp _ _) x k hs) (fun U h h' k hs x => RowO.keep (SdD.kp _) x k hs) s1 s2 s3 d12 d13 d23
 refine W.bs e4 ?_
 ((try simp only [n1, n2, n3, n4, n5, n6] at d); (with_reducible repeat refine W.a2 ?_); (refine W.nD d fun h5 d _ kh5 => ?_); (with_reducible repeat refine W.a5 d fun hw d lw kw => ?_))
 apply W.jb (preT f P (.mk k n s l)) d
 ·unfold preT
  ((try simp only [n1, n2, n3, n4, n5, n6] at d); (with_reducible repeat refine W.a1 d ?_))
  obtain ⟨h6, e6, k6⟩ := specPlainOk_run (base := base) hB.M (d.rs (i := 0) rfl) d.ge
  have d := d.kN k6
  refine W.bs e6 ?_
  ((with_reducible repeat refine W.a2 ?_))
  refine W.ite (fun c => ?_) (fun c => ?_)
  ·rw [if_pos c]
   exact W.lb rfl rfl k6
  rw [if_neg c]
  ((with_reducible repeat refine W.a1 d ?_))
  obtain ⟨h7, e7, k7⟩ := specTermOk_run (base := base) (d.rs (i := 1) rfl) d.ge
  have d := d.kN k7
  refine W.bs e7 ?_
  ((with_reducible repeat refine W.a2 ?_))
  exact W.lb rfl rfl (KB.trans k6 k7 (fun _ _ h => h) (fun _ _ h => h))
 intro h6 d n6'
 ((try simp only [n1, n2, n3, n4, n5, n6] at d); (with_reducible repeat refine W.a2 ?_))
 refine W.ite (fun c => ?_) (fun c => ?_)
 ·((with_reducible repeat first | refine W.a1 d ?_ | refine W.a5 d fun hw d lw kw => ?_))
  have cn : notT f P pid (.mk k n s l) = true := by unfold notT; rw [if_pos c]
  refine W.ret ⟨_, by rw [cn]; rfl, ?_, d.kb⟩
  unfold resT
  rw [if_pos cn]
  exact PlG.of d (i := 2) (j := 3) (k := 4) (by decide) (by decide) (by decide) rfl o1b rfl rfl
 ·((with_reducible repeat refine W.a1 d ?_))
  have cn : notT f P pid (.mk k n s l) = toldB pid P.acs := by unfold notT; rw [if_neg c]
  have d := (d.frontR (Del.at (i := 3) rfl)).frontR (Del.at (i := 2) rfl)
  have d1 := Hs.part (D1 := [_]) (R1 := [_, _]) d
  refine W.wb (l11Told_run (base := base) (pid := pid) (t := .mk k n s l) hB.2.2.1 (fun A hA => (hB.2.2.2.1 A hA).2.1) hTB (Nat.le_refl _) d1) ?_
  rintro ⟨u, h7⟩ ⟨y1, S', d7⟩
  simp only at y1 d7
  subst y1
  have d := Hs.back (D1 := [_]) (R1 := [_, _]) d d7 (fun r hr hm => by
   simp only [List.mem_cons, List.not_mem_nil, or_false] at hr
   rcases hr with rfl | rfl
   ·exact ⟨_, .head _, hm, rfl⟩
   ·cases hm)
  ((try simp only [n1, n2, n3, n4, n5, n6] at d); (with_reducible repeat first | refine W.a1 d ?_ | refine W.a2 ?_ | refine W.a5 d fun hw d lw kw => ?_))
  refine W.ret ⟨_, by rw [cn], ?_, d.kb⟩
  rw [resT_told c]
  have G := PlG.of (P := ⟨P.code, toldL pid (.mk k n s l) P.acs, P.next, P.out⟩) d (i := 3) (j := 1) (k := 4) (by decide) (by decide) (by decide) rfl o1b rfl rfl
  dsimp only at G
  rw [toldL_lenT] at G
  exact G
theorem implPlainTell_run {base f : Nat} {h : AH} {p q : Fp} {P : Pl} {cs : List Value} {k n : Int} {s : ByteArray} {l : List Tm} {ta : Option Addr} {pid : Int} (hB : PlB f P) (x : PlR h p f P cs) (hp : ∀ b, p b → b < h.length) (hTB : TmB f (.mk k n s l)) (y : TmR h q f (.mk k n s l) (termV k n s ta l.length)) (hq : ∀ b, q b → b < h.length) (hb : base ≤ h.length) :
  Wp (run (Et base) 16 [.agg cs.toArray, .int .i64 pid, .agg (termV k n s ta l.length).toArray] h) fun o => ∃ cs', o.1 = .tuple #[.agg cs'.toArray, .bool (!notT f P pid (.mk k n s l))] ∧ PlG base f (iS h.length o.2.length) o.2 (resT f P pid (.mk k n s l)) cs' ∧ KB NoB h o.2 := by
 have x0 := x
 obtain ⟨a, b, g, rfl, hc, hcb, ha, ho⟩ := x0
 have d := ((Hs.start hb).inp p (fun y => PlR y p f P _) x (fun U h h' k hs x => PlR.keep k hs x) hp (fun x hx => nomatch hx) rfl).inp q (fun h => TmR h q f (.mk k n s l) (termV k n s ta l.length)) y (fun U h h' k hs x => TmR.keep k hs _ _ _ x) hq (fun x hx => nomatch hx) rfl
 refine W.of (fun r hx => Am.r16 hx) ?_
 ((try simp only [n1, n2, n3, n4, n5, n6] at d); (refine W.nD d fun h1 d _ kh1 => ?_); (refine W.nD d fun h2 d _ kh2 => ?_); (refine W.nD d fun h3 d _ kh3 => ?_); (with_reducible repeat refine W.a1 d ?_))
 obtain ⟨cs4, h4, e4, g4, k4⟩ := copyPlain_run (base := base) hB (d.rs (i := 0) rfl) (d.rlt (i := 0) rfl) d.ge
 have n4' := k4.1
 obtain ⟨a4, b4, c4, S1, S2, S3, rfl, o1, o1b, o2, o3, s1, s2, s3, d12, d13, d23⟩ := g4
 have d := d.call3 k4 S1 S2 S3 (fun y => Own base 143 y a4 (insR P.code)) (fun y => RowO base 54 5 (AcG base f) S2 y P.acs b4) (fun y => RowO base 140 6 (SdD f) S3 y P.out c4) o1 o2 o3 (fun U h h' k hs x => Own.keep x k fun b hb => hs b (o1b b hb)) (fun U h h' k hs x => RowO.keep (AcG.kp _ _) x k hs) (fun U h h' k hs x => RowO.keep (SdD.kp _) x k hs) s1 s2 s3 d12 d13 d23
 refine W.bs e4 ?_
 ((try simp only [n1, n2, n3, n4, n5, n6] at d); (with_reducible repeat refine W.a2 ?_); (refine W.nD d fun h5 d _ kh5 => ?_); (with_reducible repeat refine W.a5 d fun hw d lw kw => ?_))
 have d := d.front (Del.at (i := 0) rfl)
 have d0 := d
 obtain ⟨DD, eDD⟩ : ∃ X, X = ([(h2.length, 36, plV none 0 none 0 0 none 0), (h1.length, 42, termV k n s ta l.length), (h.length, 36, plV a P.code.length b P.acs.length P.next g P.out.length)] : Ds) := ⟨_, rfl⟩
 refine W.joinP (fun o => o.1 = [some (.pointer (at0 h.length)), some (.pointer (at0 h2.length)), some (.pointer (at0 h4.length)), some (.bool (notT f P pid (.mk k n s l)))] ∧ ∃ S', Hs base NoB h o.2 ((h4.length, 36, plV a4 P.code.length b4 P.acs.length P.next c4 P.out.length) :: DD) [rIn p (fun y => PlR y p f P (plV a P.code.length b P.acs.length P.next g P.out.length)), rIn q (fun y => TmR y q f (.mk k n s l) (termV k n s ta l.length)), ⟨S1, true, fun y => Own base 143 y a4 (insR P.code)⟩, rAs base f S' (resT f P pid (.mk k n s l)).acs b4, rSs base f S3 P.out c4]) ?_ ?_
 ·subst eDD
  ((try simp only [n1, n2, n3, n4, n5, n6] at d); (with_reducible repeat refine W.a1 d ?_))
  obtain ⟨h6, e6, k6⟩ := implPlainOk_run (base := base) hB.M (d.rs (i := 0) rfl) d.ge
  have d := d.kN k6
  refine W.bs e6 ?_
  ((with_reducible repeat refine W.a2 ?_))
  refine W.ite (fun c => ?_) (fun c => ?_)
  ·have c1 : preT f P (.mk k n s l) = true := by unfold preT; rw [if_pos c]
   have cn : notT f P pid (.mk k n s l) = true := by unfold notT; rw [if_pos c1]
   have er : resT f P pid (.mk k n s l) = P := by unfold resT; rw [if_pos cn]
   refine W.inl ⟨by simp only [cn], S2, ?_⟩
   rw [er]
   exact d
  ((with_reducible repeat refine W.a1 d ?_))
  obtain ⟨h7, e7, k7⟩ := implTermOk_run (base := base) (d.rs (i := 1) rfl) d.ge
  have d := d.kN k7
  refine W.bs e7 ?_
  ((with_reducible repeat refine W.a2 ?_))
  refine W.ite (fun c2 => ?_) (fun c2 => ?_)
  ·have c1 : preT f P (.mk k n s l) = true := by unfold preT; rw [if_neg c]; exact c2
   have cn : notT f P pid (.mk k n s l) = true := by unfold notT; rw [if_pos c1]
   have er : resT f P pid (.mk k n s l) = P := by unfold resT; rw [if_pos cn]
   refine W.inl ⟨by simp only [cn], S2, ?_⟩
   rw [er]
   exact d
  have c1 : ¬ preT f P (.mk k n s l) = true := by unfold preT; rw [if_neg c]; exact c2
  have cn : notT f P pid (.mk k n s l) = toldB pid P.acs := by unfold notT; rw [if_neg c1]
  ((with_reducible repeat refine W.a1 d ?_))
  have d := (d.frontR (Del.at (i := 3) rfl)).frontR (Del.at (i := 2) rfl)
  have d1 := Hs.part (D1 := [_]) (R1 := [_, _]) d
  refine W.wb (implTell_run (base := base) (pid := pid) (t := .mk k n s l) hB.2.2.1 (fun A hA => (hB.2.2.2.1 A hA).2.1) hTB (Nat.le_refl _) d1) ?_
  rintro ⟨u, h8⟩ ⟨y1, S', d8⟩
  simp only at y1 d8
  subst y1
  have d := Hs.back (D1 := [_]) (R1 := [_, _]) d d8 (fun r hr hm => by
   simp only [List.mem_cons, List.not_mem_nil, or_false] at hr
   rcases hr with rfl | rfl
   ·exact ⟨_, .head _, hm, rfl⟩
   ·cases hm)
  ((try simp only [n1, n2, n3, n4, n5, n6] at d); (with_reducible repeat refine W.a2 ?_))
  refine W.inl ⟨by simp only [cn, Bool.not_not], S', ?_⟩
  rw [resT_told c1]
  have d := d.frontR (Del.at (i := 4) rfl)
  have d := d.frontR (Del.at (i := 2) rfl)
  have d := d.frontR (Del.at (i := 4) rfl)
  have d := d.frontR (Del.at (i := 3) rfl)
  have d := d.frontR (Del.at (i := 4) rfl)
  exact d
 rintro ⟨q1, h6⟩ ⟨y1, S', d⟩
 simp only at y1 d
 subst y1; subst eDD
 ((with_reducible repeat refine W.a2 ?_))
 refine W.ite (fun c => ?_) (fun c => ?_)
 ·have er : resT f P pid (.mk k n s l) = P := by unfold resT; rw [if_pos c]
  ((with_reducible repeat refine W.a1 d ?_))
  obtain ⟨cs7, h7, e7, g7, k7⟩ := copyPlain_run (base := base) hB (d.rs (i := 0) rfl) (d.rlt (i := 0) rfl) d.ge
  obtain ⟨a7, b7, c7, T1, T2, T3, rfl, p1, p1b, p2, p3, t1, t2, t3, d12', d13', d23'⟩ := g7
  have d := d.call3 k7 T1 T2 T3 (fun y => Own base 143 y a7 (insR P.code)) (fun y => RowO base 54 5 (AcG base f) T2 y P.acs b7) (fun y => RowO base 140 6 (SdD f) T3 y P.out c7) p1 p2 p3 (fun U h h' k hs x => Own.keep x k fun b hb => hs b (p1b b hb)) (fun U h h' k hs x => RowO.keep (AcG.kp _ _) x k hs) (fun U h h' k hs x => RowO.keep (SdD.kp _) x k hs) t1 t2 t3 d12' d13' d23'
  refine W.bs e7 ?_
  ((try simp only [n1, n2, n3, n4, n5, n6] at d); (with_reducible repeat first | refine W.a1 d ?_ | refine W.a2 ?_ | refine W.a5 d fun hw d lw kw => ?_))
  refine W.ret ⟨_, by rw [c]; rfl, ?_, d.kb⟩
  rw [er]
  exact PlG.of d (i := 5) (j := 6) (k := 7) (by decide) (by decide) (by decide) rfl p1b rfl rfl
 ·have cn : notT f P pid (.mk k n s l) = false := by simpa using c
  have c1 : ¬ preT f P (.mk k n s l) = true := fun h => c (by unfold notT; rw [if_pos h])
  rw [resT_told c1] at d ⊢
  ((try simp only [n1, n2, n3, n4, n5, n6] at d); (with_reducible repeat first | refine W.a1 d ?_ | refine W.a5 d fun hw d lw kw => ?_))
  refine W.ret ⟨_, by rw [cn]; rfl, ?_, d.kb⟩
  have G := PlG.of (P := ⟨P.code, toldL pid (.mk k n s l) P.acs, P.next, P.out⟩) d (i := 2) (j := 3) (k := 4) (by decide) (by decide) (by decide) rfl o1b rfl rfl
  dsimp only at G
  rw [toldL_lenT] at G
  exact G
set_option maxHeartbeats 8000000 in
theorem plainTell_law {base f : Nat} {h : AH} {p : Nat → Prop} {P0 : Pl} {cs0 : List Value} {v1 : Int} {k2 n2 : Int} {s2 : ByteArray} {l2 : List Tm} {t2 : Option Addr} (hM0 : PlM P0) (x0 : PlR h p (f + 1) P0 cs0) (x2 : TmR h p (f + 1) (.mk k2 n2 s2 l2) (termV k2 n2 s2 t2 l2.length))  (hp : ∀ b, p b → b < h.length) (hb : base ≤ h.length) :
  Wp (run (Et base) 3 [.agg cs0.toArray, .int .i64 v1, .agg (termV k2 n2 s2 t2 l2.length).toArray] h) fun r => r.1 = .bool true := by
 have x0' := x0
 obtain ⟨a0, b0, g0, rfl, _⟩ := x0'
 have hb0 := hb
 have d := Hs.start hb
 have d := d.inp p _ x0 (fun U h h' k hs x => PlR.keep k hs x) hp (fun x hx => nomatch hx) rfl
 have d := d.inp p _ x2 (fun U h h' k hs x => TmR.keep k hs _ _ _ x) hp (fun x hx => nomatch hx) rfl
 refine W.of (fun r hx => Am.r3 hx) ?_
 ((refine W.nD d fun p0 d _ kp0 => ?_); (refine W.nD d fun p2 d _ kp2 => ?_); (with_reducible repeat refine W.a1 d ?_))
 obtain ⟨z0, h2, e3, k4, q1⟩ := szPlain_run (base := base) hM0 (d.rs (i := 0) rfl) d.ge (d.rlt (i := 0) rfl)
 have n5 := k4.1
 have d := d.kN k4
 refine W.bs e3 ?_
 ((with_reducible repeat refine W.a2 ?_))
 refine W.ite (fun c => W.ret rfl) (fun c6 => ?_)
 have c6' : ¬ z0 < 0 := by simpa using c6
 obtain ⟨hB0, hw0, hz0, hz0b⟩ := q1 c6'
 have hL0 : ∀ A ∈ P0.acs, A.Le := fun A hA => (hB0.2.2.2.1 A hA).Le
 have hQ0 : 0 ≤ mcP (f + 1) P0 ∧ mcP (f + 1) P0 ≤ 20000000 := by
  have q1 := mcAs_le (f + 1) P0.acs; have q2 := mcAs_nn (f + 1) P0.acs; have q3 := hB0.1
  unfold mcP mcT; omega
 ((with_reducible repeat refine W.a1 d ?_))
 obtain ⟨z2, h8, e9, k10, hz2a, hz2b, q7⟩ := szTerm_run (base := base) (f + 1) _ p _ _ z0 (d.rs (i := 1) rfl) d.ge (d.rlt (i := 1) rfl) (by omega) (by omega)
 have n11 := k10.1
 have d := d.kN k10
 refine W.bs e9 ?_
 ((with_reducible repeat refine W.a2 ?_))
 refine W.ite (fun c => W.ret rfl) (fun c12 => ?_)
 have c12' : ¬ z2 < 0 := by simpa using c12
 obtain ⟨hB2, hw2⟩ := q7 c12'
 ((with_reducible repeat refine W.a1 d ?_))
 obtain ⟨rB, rM0, rM1⟩ := resT_le (pid := v1) hB0 hB2 hQ0.2 (by omega)
 have rMc := And.intro rM0 rM1
 generalize hR : resT (f + 1) P0 v1 (.mk k2 n2 s2 l2) = R at rB rMc
 obtain ⟨cs13, h15, e16, x14, k17⟩ := toPlain_run (base := base) hB0 (d.rs (i := 0) rfl) d.ge (d.rlt (i := 0) rfl)
 have n18 := k17.1
 obtain ⟨_, _, _, _, _, _, _, rfl⟩ := x14.form
 have d := d.callP (PlG.kp _ _) k17 x14
 refine W.bs e16 ?_
 ((with_reducible repeat first | refine W.a1 d ?_ | refine W.a2 ?_ | refine W.a6 d ?_))
 obtain ⟨cs19, h21, e22, x20, k23⟩ := toTermG_run (base := base) (f + 1) _ p _ _ (d.rs (i := 1) rfl) hB2 d.ge (d.rlt (i := 1) rfl)
 have n24 := k23.1
 obtain ⟨kk, nn, ss, aa, mm, rfl⟩ := x20.form
 obtain ⟨rfl, rfl, rfl, rfl⟩ := x20.eq
 have d := d.callP (TmG.kp _ _) k23 x20
 refine W.bs e22 ?_
 ((with_reducible repeat refine W.a2 ?_))
 have x29 : PlG base (f + 1) _ _ P0 _ := (d.rs (i := 2) rfl)
 have y30 : TmG base (f + 1) _ _ (.mk k2 n2 s2 l2) _ := (d.rs (i := 3) rfl)
 refine W.wb (specPlainTell_run (pid := v1) hB0 x29.plR (d.rlt (i := 2) rfl) hB2 y30.tmR (d.rlt (i := 3) rfl) d.ge) ?_
 rw [hR]
 rintro ⟨u, h28⟩ ⟨cs25, e, gP26, k27⟩
 simp only at e
 subst e
 obtain ⟨_, _, _, _, _, _, _, rfl⟩ := gP26.form
 have d := d.callP (PlG.kp _ _) k27 gP26
 have n31 : _ ≤ h28.length := k27.1
 ((with_reducible repeat first | refine W.a2 ?_ | refine W.a3 ?_ | refine W.a7 ?_))
 ((refine W.nD d fun w0 d _ kw0 => ?_); (with_reducible repeat first | refine W.a1 d ?_ | refine W.a5 d fun hw d lw kw => ?_))
 obtain ⟨cs32, h34, e35, x33, k36⟩ := toPlain_run (base := base) hB0 (d.rs (i := 0) rfl) d.ge (d.rlt (i := 0) rfl)
 have n37 := k36.1
 obtain ⟨_, _, _, _, _, _, _, rfl⟩ := x33.form
 have d := d.callP (PlG.kp _ _) k36 x33
 refine W.bs e35 ?_
 ((with_reducible repeat refine W.a2 ?_))
 ((refine W.nD d fun x0 d _ kx0 => ?_); (with_reducible repeat first | refine W.a1 d ?_ | refine W.a5 d fun hw d lw kw => ?_))
 obtain ⟨cs38, h40, e41, x39, k42⟩ := toTermG_run (base := base) (f + 1) _ p _ _ (d.rs (i := 1) rfl) hB2 d.ge (d.rlt (i := 1) rfl)
 have n43 := k42.1
 obtain ⟨kk, nn, ss, aa, mm, rfl⟩ := x39.form
 obtain ⟨rfl, rfl, rfl, rfl⟩ := x39.eq
 have d := d.callP (TmG.kp _ _) k42 x39
 refine W.bs e41 ?_
 ((with_reducible repeat refine W.a2 ?_))
 ((refine W.nD d fun x2 d _ kx2 => ?_); (with_reducible repeat first | refine W.a1 d ?_ | refine W.a5 d fun hw d lw kw => ?_))
 have x48 : PlG base (f + 1) _ _ P0 _ := (d.rs (i := 5) rfl)
 have y49 : TmG base (f + 1) _ _ (.mk k2 n2 s2 l2) _ := (d.rs (i := 6) rfl)
 refine W.wb (implPlainTell_run (pid := v1) hB0 x48.plR (d.rlt (i := 5) rfl) hB2 y49.tmR (d.rlt (i := 6) rfl) d.ge) ?_
 rw [hR]
 rintro ⟨u, h47⟩ ⟨cs44, e, gP45, k46⟩
 simp only at e
 subst e
 obtain ⟨_, _, _, _, _, _, _, rfl⟩ := gP45.form
 have d := d.callP (PlG.kp _ _) k46 gP45
 have n50 : _ ≤ h47.length := k46.1
 ((with_reducible repeat first | refine W.a2 ?_ | refine W.a3 ?_))
 ((refine W.nD d fun g0 d _ kg0 => ?_); (with_reducible repeat refine W.a5 d fun hw d lw kw => ?_))
 apply W.jb false d
 ·((with_reducible repeat refine W.a1 d ?_))
  have x51 : PlG base (f + 1) _ _ R _ := (d.rs (i := 7) rfl)
  have x52 : PlG base (f + 1) _ _ R _ := (d.rs (i := 4) rfl)
  obtain ⟨h53, e54, k55⟩ := eqPlain_run (base := base) rB.M (fun A hA => (rB.2.2.2.1 A hA).Le) x51.plR x52.plR d.ge
  have n56 := k55.1
  have d := d.kN k55
  refine W.bs e54 ?_
  ((with_reducible repeat refine W.a2 ?_))
  refine W.ifF (by decide) ?_
  skip
  exact W.lb rfl (by simp) k55
 intro h57 d n58
 ((with_reducible repeat refine W.a2 ?_))
 refine W.ifF (by decide) ?_
 ((with_reducible repeat refine W.a1 d ?_))
 obtain ⟨cs59, h61, e62, x60, k63⟩ := toPlain_run (base := base) hB0 (d.rs (i := 0) rfl) d.ge (d.rlt (i := 0) rfl)
 have n64 := k63.1
 obtain ⟨_, _, _, _, _, _, _, rfl⟩ := x60.form
 have d := d.callP (PlG.kp _ _) k63 x60
 refine W.bs e62 ?_
 ((with_reducible repeat first | refine W.a2 ?_ | refine W.a6 d ?_))
 have x65 : PlG base (f + 1) _ _ P0 _ := (d.rs (i := 5) rfl)
 have x66 : PlG base (f + 1) _ _ P0 _ := (d.rs (i := 8) rfl)
 obtain ⟨h67, e68, k69⟩ := eqPlain_run (base := base) hB0.M hL0 x65.plR x66.plR d.ge
 have n70 := k69.1
 have d := d.kN k69
 refine W.bs e68 ?_
 ((with_reducible repeat refine W.a2 ?_))
 refine W.ifF (by decide) ?_
 ((with_reducible repeat refine W.a1 d ?_))
 obtain ⟨cs71, h73, e74, x72, k75⟩ := toTermG_run (base := base) (f + 1) _ p _ _ (d.rs (i := 1) rfl) hB2 d.ge (d.rlt (i := 1) rfl)
 have n76 := k75.1
 obtain ⟨kk, nn, ss, aa, mm, rfl⟩ := x72.form
 obtain ⟨rfl, rfl, rfl, rfl⟩ := x72.eq
 have d := d.callP (TmG.kp _ _) k75 x72
 refine W.bs e74 ?_
 ((with_reducible repeat first | refine W.a2 ?_ | refine W.a6 d ?_))
 have x77 : TmG base (f + 1) _ _ (.mk k2 n2 s2 l2) _ := (d.rs (i := 6) rfl)
 have x78 : TmG base (f + 1) _ _ (.mk k2 n2 s2 l2) _ := (d.rs (i := 9) rfl)
 obtain ⟨h79, e80, k81⟩ := eqTerm_run (base := base) (f + 1) (f + 1) _ _ _ _ _ _ x77.tmR x78.tmR d.ge
 have n82 := k81.1
 have d := d.kN k81
 refine W.bs e80 ?_
 ((with_reducible repeat refine W.a2 ?_))
 refine W.ifF (by decide) ?_
 ((with_reducible repeat refine W.a1 d ?_))
 have x83 : PlG base (f + 1) _ _ P0 _ := (d.rs (i := 5) rfl)
 obtain ⟨y84, h85, e86, _, _, _, k87⟩ := markPlain_run (base := base) (k := 1) ⟨hB0.1, hB0.2.2.1, hB0.2.2.2.2.1, hL0⟩ x83.plD (fun b hb => ⟨Nat.le_trans hb0 ((d.rfr (i := 5) rfl rfl b hb).resolve_left fun h => h), d.rlt (i := 5) rfl b hb⟩) d.ge (by omega) (by omega)
 have n88 := k87.1
 have d := d.junk (i := 5) rfl rfl k87 (fun b hb => .inl hb)
 refine W.bs e86 ?_
 ((with_reducible repeat first | refine W.a1 d ?_ | refine W.a2 ?_))
 have x89 : TmG base (f + 1) _ _ (.mk k2 n2 s2 l2) _ := (d.rs (i := 6) rfl)
 obtain ⟨z90, h91, e92, hz90, k93⟩ := markTerm_run (base := base) (k := (1 + mcP (f + 1) P0)) x89.d (fun b hb => ⟨Nat.le_trans hb0 ((d.rfr (i := 6) rfl rfl b hb).resolve_left fun h => h), d.rlt (i := 6) rfl b hb⟩) d.ge (by omega) (by omega)
 have n94 := k93.1
 have d := d.junk (i := 6) rfl rfl k93 (fun b hb => .inl hb)
 refine W.bs e92 ?_
 ((with_reducible repeat refine W.a2 ?_))
 apply W.jb false d
 ·skip
  refine W.ifF (by simp; omega) ?_
  ((with_reducible repeat refine W.a1 d ?_))
  have x95 : PlG base (f + 1) _ _ R _ := (d.rs (i := 7) rfl)
  have x96 : PlG base (f + 1) _ _ R _ := (d.rs (i := 4) rfl)
  obtain ⟨h97, e98, k99⟩ := eqPlain_run (base := base) rB.M (fun A hA => (rB.2.2.2.1 A hA).Le) x95.plR x96.plR d.ge
  have n100 := k99.1
  have d := d.kN k99
  refine W.bs e98 ?_
  ((with_reducible repeat refine W.a2 ?_))
  refine W.ifF (by decide) ?_
  skip
  exact W.lb rfl (by simp) k99
 intro h101 d n102
 ((with_reducible repeat refine W.a2 ?_))
 refine W.ifF (by decide) ?_
 ((with_reducible repeat refine W.a1 d ?_))
 have x103 : PlG base (f + 1) _ _ R _ := (d.rs (i := 7) rfl)
 obtain ⟨P104, h108, e109, D107, M105, B106, k110⟩ := markPlain_run (base := base) (k := 1) ⟨rB.1, rB.2.2.1, rB.2.2.2.2.1, (fun A hA => (rB.2.2.2.1 A hA).Le)⟩ x103.plD (fun b hb => ⟨Nat.le_trans hb0 ((d.rfr (i := 7) rfl rfl b hb).resolve_left fun h => h), d.rlt (i := 7) rfl b hb⟩) d.ge (by omega) (by have := rMc; omega)
 have n111 := k110.1
 have d := d.updP (PlD.kp _ _) (Upd.at (i := 7) rfl) rfl k110 D107 (fun b hb => .inl hb) (fun b hb => .inl hb)
 refine W.bs e109 ?_
 ((with_reducible repeat first | refine W.a1 d ?_ | refine W.a2 ?_))
 have x112 : PlD base (f + 1) _ _ P104 _ := (d.rs (i := 7) rfl)
 obtain ⟨h113, e114, k115⟩ := heldPlain_run (base := base) B106 M105 (by omega) (by have := rMc; omega) x112.plR d.ge
 have n116 := k115.1
 have d := d.kN k115
 refine W.bs e114 ?_
 ((with_reducible repeat refine W.a2 ?_))
 refine W.ifF (by simp; have := rMc; omega) ?_
 skip
 refine W.ifF (by simp) ?_
 ((with_reducible repeat refine W.a1 d ?_))
 obtain ⟨cs117, h119, e120, x118, k121⟩ := toPlain_run (base := base) hB0 (d.rs (i := 0) rfl) d.ge (d.rlt (i := 0) rfl)
 have n122 := k121.1
 obtain ⟨_, _, _, _, _, _, _, rfl⟩ := x118.form
 have d := d.callP (PlG.kp _ _) k121 x118
 refine W.bs e120 ?_
 ((with_reducible repeat first | refine W.a1 d ?_ | refine W.a2 ?_ | refine W.a6 d ?_))
 obtain ⟨cs123, h125, e126, x124, k127⟩ := toTermG_run (base := base) (f + 1) _ p _ _ (d.rs (i := 1) rfl) hB2 d.ge (d.rlt (i := 1) rfl)
 have n128 := k127.1
 obtain ⟨kk, nn, ss, aa, mm, rfl⟩ := x124.form
 obtain ⟨rfl, rfl, rfl, rfl⟩ := x124.eq
 have d := d.callP (TmG.kp _ _) k127 x124
 refine W.bs e126 ?_
 ((with_reducible repeat refine W.a2 ?_))
 have x133 : PlG base (f + 1) _ _ P0 _ := (d.rs (i := 10) rfl)
 have y134 : TmG base (f + 1) _ _ (.mk k2 n2 s2 l2) _ := (d.rs (i := 11) rfl)
 refine W.wb (implPlainTell_run (pid := v1) hB0 x133.plR (d.rlt (i := 10) rfl) hB2 y134.tmR (d.rlt (i := 11) rfl) d.ge) ?_
 rw [hR]
 rintro ⟨u, h132⟩ ⟨cs129, e, gP130, k131⟩
 simp only at e
 subst e
 obtain ⟨_, _, _, _, _, _, _, rfl⟩ := gP130.form
 have d := d.callP (PlG.kp _ _) k131 gP130
 have n135 : _ ≤ h132.length := k131.1
 ((with_reducible repeat first | refine W.a2 ?_ | refine W.a3 ?_ | refine W.a7 ?_))
 ((refine W.nD d fun v0 d _ kv0 => ?_); (with_reducible repeat refine W.a5 d fun hw d lw kw => ?_))
 apply W.jb false d
 ·((with_reducible repeat refine W.a1 d ?_))
  have x136 : PlG base (f + 1) _ _ R _ := (d.rs (i := 12) rfl)
  have x137 : PlG base (f + 1) _ _ R _ := (d.rs (i := 4) rfl)
  obtain ⟨h138, e139, k140⟩ := eqPlain_run (base := base) rB.M (fun A hA => (rB.2.2.2.1 A hA).Le) x136.plR x137.plR d.ge
  have n141 := k140.1
  have d := d.kN k140
  refine W.bs e139 ?_
  ((with_reducible repeat refine W.a2 ?_))
  refine W.ifF (by decide) ?_
  skip
  exact W.lb rfl (by simp) k140
 intro h142 d n143
 ((with_reducible repeat refine W.a2 ?_))
 refine W.ifF (by decide) ?_
 ((with_reducible repeat refine W.a1 d ?_))
 have x144 : PlD base (f + 1) _ _ P104 _ := (d.rs (i := 7) rfl)
 obtain ⟨h145, e146, k147⟩ := heldPlain_run (base := base) B106 M105 (by omega) (by have := rMc; omega) x144.plR d.ge
 have n148 := k147.1
 have d := d.kN k147
 refine W.bs e146 ?_
 ((with_reducible repeat refine W.a2 ?_))
 refine W.ifF (by simp; have := rMc; omega) ?_
 skip
 refine W.ifF (by simp) ?_
 skip
 exact W.ret rfl
theorem plainTell_entry {base : Nat} {h : AH} {f f2 : Nat} {cs : List Value} {v : Int} {cs2 : List Value} (x : Rd Try.prog h f 26 cs) (y : Rd Try.prog h f2 29 cs2) (hb : base ≤ h.length) : ∃ h', run (Et base) 3 [.agg cs.toArray, .int .i64 v, .agg cs2.toArray] h = some (.bool true, h') := by
 obtain ⟨g, P, hP, hM⟩ := rd_plain x
 obtain ⟨⟨tk, tn, ts, tl⟩, ht⟩ := rd_term f2 _ y
 have ht : TmR h (· < h.length) (max g f2 + 1) (.mk tk tn ts tl) cs2 := TmR.le (by omega) ht
 have hP : PlR h (· < h.length) (max g f2 + 1) P cs := by
  obtain ⟨a, b, c, e, h1, h2, h3, h4⟩ := hP
  exact ⟨a, b, c, e, h1, h2, AsR.le (by omega) h3, SsR.le (by omega) h4⟩
 have ht' := ht
 obtain ⟨ta, rfl, _⟩ := ht'.parts
 obtain ⟨⟨v, h'⟩, e, q⟩ := plainTell_law (f := max g f2) (v1 := v) hM hP ht (fun b hb => hb) hb
 simp only at q
 exact ⟨h', by rw [e, q]⟩
end Go.Proofs.Ytkdenmdijdmnjaa.Am
