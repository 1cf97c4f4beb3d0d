/- What the functions of this law compute, lemma by lemma, up to the law.
Conditions: none. -/
import Derived.Test.YtjmkbglnjklbcaaP2
import Derived.DataShut
import Derived.IntWalk
import Derived.Laws.BitsLemmas

set_option linter.unusedSimpArgs false
set_option linter.unusedVariables false
namespace Go.Proofs.Ytjmkbglnjklbcaa.Am
open Go Go.RowKit
def GoodA (A : Ac) : Prop := A.regs.length = 8 ∧ A.links.length ≤ 2 ∧ (∀ t ∈ A.regs, TmB 10 t) ∧ ∀ t ∈ A.box, TmB 10 t
abbrev rAc (base : Nat) (S : Fp) (A : Ac) (cs : List Value) : Rs := ⟨S, true, fun y => AcG base 10 S y A cs⟩
abbrev rTm (base f : Nat) (C : Fp) (t : Tm) (cs : List Value) : Rs := ⟨C, true, fun y => TmG base f C y t cs⟩
theorem AcG.pushBox {base f : Nat} {S C : Fp} {h : AH} {A : Ac} {tcs : List Value} {p c : Int} {a b g : Option Addr} {n m q : Nat} (x : AcG base f S h A (acV p c a n b m g q)) {t : Tm} (ht : TmG base f C h t tcs) (hC : ∀ b, C b → ¬ S b) (hSb : ∀ b, S b → b < h.length) (hCb : ∀ b, C b → b < h.length) (hb : base ≤ h.length) (hl : A.box.length ≤ 1000) :
  ∃ b' h', Am.app base (h ++ [some ⟨tcs, 39⟩]) 39 4 56 b m (rawAt (h ++ [some ⟨tcs, 39⟩]) (some ⟨h.length, 0, none⟩) (1 * 4)) 1 = some (.slice b' (m + 1) (m + 1), h') ∧ AcG base f (fun i => S i ∨ C i ∨ (h.length ≤ i ∧ i < h'.length)) h' ⟨A.pid, A.pc, A.regs, A.box ++ [t], A.links⟩ (acV p c a n b' (m + 1) g q) ∧ KB S h h' ∧ h.length + 1 ≤ h'.length := by
 obtain ⟨a2, b2, g2, S1, S2, S3, e, r1, r2, r3, hg, s1, s2, s3, d1, d2, d3⟩ := x
 injection e with e1 e; injection e with e2 e; injection e with e3 e; injection e with e4 e; injection e with e5 _
 injection e1 with _ e1; injection e2 with _ e2; injection e3 with e3 e3' _; injection e4 with e4 e4' _; injection e5 with e5 e5' _
 subst e1; subst e2; subst e3; subst e3'; subst e4; subst e4'; subst e5; subst e5'
 obtain ⟨k1, k2, k3, k4, k5, rfl⟩ := ht.form
 obtain ⟨b', h', ea, r2', k, hl'⟩ := r2.snoc (bytes := 56) (TmG.kp _ _) ht rfl (by decide) rfl (fun b hb h => hC b hb (s2 b h)) hCb (fun b hb => hSb b (s2 b hb)) hb (by omega) (by omega)
 have hb2 : ∀ i, blk b i → S2 i := r2.blkS
 refine ⟨b', h', ea, ⟨a, b', g, S1, fun i => S2 i ∨ C i ∨ (h.length ≤ i ∧ i < h'.length), S3, by simp, r1.keep (TmG.kp _ _) k fun i hi hk => d1 i hi (hb2 i hk), r2', r3.keep k fun i hi hk => d3 i (hb2 i hk) (hg i hi), hg, fun i hi => .inl (s1 i hi), fun i hi => hi.imp (s2 i) id, fun i hi => .inl (s3 i hi), fun i h1 h2 => ?_, d2, fun i h1 h2 => ?_⟩, k.mono fun i _ hi => s2 i (hb2 i hi), hl'⟩
 ·rcases h2 with h2 | h2 | h2
  ·exact d1 i h1 h2
  ·exact hC i h2 (s1 i h1)
  ·have := hSb i (s1 i h1); omega
 ·rcases h1 with h1 | h1 | h1
  ·exact d3 i h1 h2
  ·exact hC i h1 (s3 i h2)
  ·have := hSb i (s3 i h2); omega
namespace Hs
variable {base cb : Nat} {V : Fp} {hX h0 h : AH} {D : Ds}
theorem reg {S C : Fp} {A : Ac} {cs tcs : List Value} {t : Tm} {i : Nat} (d : Hs base V h0 h D [rArg base hX, rCur base cb hX, rAc base S A cs, rTm base 10 C t tcs]) (hi : i < A.regs.length) :
  ∃ ad h' S', cs[2]? = some (.slice (some ad) A.regs.length A.regs.length) ∧ Am.wr base h ad.block (ad.off + i * 4) tcs = some h' ∧ Hs base V h0 h' D [rArg base hX, rCur base cb hX, rAc base S' ⟨A.pid, A.pc, A.regs.set i t, A.box, A.links⟩ cs] ∧ KB S h h' := by
 have x : AcG base 10 S h A cs := d.rs (i := 2) rfl
 have ht : TmG base 10 C h t tcs := d.rs (i := 3) rfl
 have hC : ∀ b, C b → ¬ S b := fun b h1 h2 => by
  have dj := d.dj
  simp only [List.pairwise_cons] at dj
  exact dj.2.2.1 _ (.head _) rfl b h2 h1
 obtain ⟨ad, h', ec, ew, x', k, _⟩ := x.setReg hi ht hC
 have d2 := d.joinP (r := rAc base S A cs) (s := rTm base 10 C t tcs) (AcG.kp base 10) (R1 := [rArg base hX, rCur base cb hX, rAc base S A cs, ⟨fun _ => False, true, fun _ => True⟩]) (R2 := [rArg base hX, rCur base cb hX, rAc base (fun b => S b ∨ C b) ⟨A.pid, A.pc, A.regs.set i t, A.box, A.links⟩ cs, ⟨fun _ => False, true, fun _ => True⟩]) (Upd.at (i := 3) rfl) (Upd.at (i := 2) rfl) rfl rfl k x' (fun b hb => .inl hb) (fun b hb => hb.imp id .inl)
 exact ⟨ad, h', _, ec, ew, d2.takeR 3, k⟩
theorem wait {S C : Fp} {A : Ac} {p c : Int} {a b g : Option Addr} {n m q : Nat} {tcs : List Value} {t : Tm} (d : Hs base V h0 h D [rArg base hX, rCur base cb hX, rAc base S A (acV p c a n b m g q), rTm base 10 C t tcs]) (hl : A.box.length ≤ 1000) :
  ∃ b' h' S', Am.app base (h ++ [some ⟨tcs, 39⟩]) 39 4 56 b m (rawAt (h ++ [some ⟨tcs, 39⟩]) (some ⟨h.length, 0, none⟩) (1 * 4)) 1 = some (.slice b' (m + 1) (m + 1), h') ∧ Hs base V h0 h' D [rArg base hX, rCur base cb hX, rAc base S' ⟨A.pid, A.pc, A.regs, A.box ++ [t], A.links⟩ (acV p c a n b' (m + 1) g q)] := by
 have x : AcG base 10 S h A _ := d.rs (i := 2) rfl
 have ht : TmG base 10 C h t tcs := d.rs (i := 3) rfl
 have hC : ∀ b, C b → ¬ S b := fun b h1 h2 => by
  have dj := d.dj
  simp only [List.pairwise_cons] at dj
  exact dj.2.2.1 _ (.head _) rfl b h2 h1
 obtain ⟨b', h', ea, x', k, _⟩ := x.pushBox ht hC (d.rlt (i := 2) rfl) (d.rlt (i := 3) rfl) d.ge hl
 have d2 := d.joinP (r := rAc base S A (acV p c a n b m g q)) (s := rTm base 10 C t tcs) (AcG.kp base 10) (R1 := [rArg base hX, rCur base cb hX, rAc base S A (acV p c a n b m g q), ⟨fun _ => False, true, fun _ => True⟩]) (R2 := [rArg base hX, rCur base cb hX, rAc base (fun i => S i ∨ C i ∨ (h.length ≤ i ∧ i < h'.length)) ⟨A.pid, A.pc, A.regs, A.box ++ [t], A.links⟩ (acV p c a n b' (m + 1) g q), ⟨fun _ => False, true, fun _ => True⟩]) (Upd.at (i := 3) rfl) (Upd.at (i := 2) rfl) rfl rfl k x' (fun b hb => .inl hb) (fun b hb => hb.imp id fun hb => hb)
 exact ⟨b', h', _, ea, d2.takeR 3⟩
theorem lift {S C : Fp} {A : Ac} {cs tcs : List Value} {t : Tm} {f : Nat} (d : Hs base V h0 h D [rArg base hX, rCur base cb hX, rAc base S A cs, rTm base f C t tcs]) (hf : f ≤ 10) : Hs base V h0 h D [rArg base hX, rCur base cb hX, rAc base S A cs, rTm base 10 C t tcs] :=
 d.re (r := rTm base f C t tcs) (r' := rTm base 10 C t tcs) (Upd.at (i := 3) rfl) rfl rfl (TmG.le hf (d.rs (i := 3) rfl)) (fun U y y' k hs z => TmG.kp _ _ _ U y y' _ _ k hs z) (fun b hb => hb)
end Hs
theorem draw_TmB {t : Tm} (g : Gt 2 t) : TmB 10 t := (tOk_B (g.ok (by decide))).1
theorem l9Draw_loop0 {base cb zb ab : Nat} {hX h0 : AH} {V : Fp} : ∀ (k : Nat) (h : AH) (A : Ac) (S : Fp) (cs : List Value), k ≤ 100 → GoodA A → Hs base V h0 h [(ab, 65, cs), (zb, 65, acV 0 0 none 0 none 0 none 0)] [rArg base hX, rCur base cb hX, rAc base S A cs] →
  Wp (loopL (B191_0 base) [some (.pointer (at0 cb)), some (.pointer (at0 zb)), some (.pointer (at0 ab)), some (.int .i64 (k : Int))] h) fun o => ∃ A' S', o.1 = 2 ∧ o.2.1 = [some (.pointer (at0 cb)), some (.pointer (at0 zb)), some (.pointer (at0 ab))] ∧ GoodA A' ∧ A'.box = A.box ∧ A'.links = A.links ∧ Hs base V h0 o.2.2 [(ab, 65, cs), (zb, 65, acV 0 0 none 0 none 0 none 0)] [rArg base hX, rCur base cb hX, rAc base S' A' cs] := by
 intro k
 induction k with
 | zero =>
  intro h A S cs hk hg d
  suffices w : Wp (B191_0 base [some (.pointer (at0 cb)), some (.pointer (at0 zb)), some (.pointer (at0 ab)), some (.int .i64 ((0 : Nat) : Int))] h) fun o => o = (2, [some (.pointer (at0 cb)), some (.pointer (at0 zb)), some (.pointer (at0 ab))], h) by
   obtain ⟨o, e, rfl⟩ := w
   exact ⟨_, loop_off (by decide) e, A, S, rfl, rfl, hg, rfl, rfl, d⟩
  rw [B191_0_eq]
  exact W.ifF (by decide) (W.ret rfl)
 | succ k ih =>
  intro h A S cs hk hg d
  obtain ⟨a, b, g, rfl⟩ := (d.rs (i := 2) rfl : AcG base 10 S h A cs).form2
  suffices w : Wp (B191_0 base [some (.pointer (at0 cb)), some (.pointer (at0 zb)), some (.pointer (at0 ab)), some (.int .i64 ((k + 1 : Nat) : Int))] h) fun o => ∃ A' S', o.1 = 0 ∧ o.2.1 = [some (.pointer (at0 cb)), some (.pointer (at0 zb)), some (.pointer (at0 ab)), some (.int .i64 (k : Int))] ∧ GoodA A' ∧ A'.box = A.box ∧ A'.links = A.links ∧ Hs base V h0 o.2.2 [(ab, 65, acV A.pid A.pc a A.regs.length b A.box.length g A.links.length), (zb, 65, acV 0 0 none 0 none 0 none 0)] [rArg base hX, rCur base cb hX, rAc base S' A' (acV A.pid A.pc a A.regs.length b A.box.length g A.links.length)] by
   obtain ⟨⟨o1, o2, h'⟩, e, A', S', y1, y2, y3, y4, y5, d'⟩ := w
   simp only at y1 y2 d'
   subst y1; subst y2
   obtain ⟨o, eo, A2, S2, q1, q2, q3, q4, q5, q6⟩ := ih h' A' S' _ (by omega) y3 d'
   exact ⟨o, loop_on e eo, A2, S2, q1, q2, q3, q4.trans y4, q5.trans y5, q6⟩
  rw [B191_0_eq]
  refine W.ifT (decide_eq_true (by omega)) ?_
  ((try simp only [n1, n2, n3, n4, n5, n6] at d); (with_reducible repeat first | refine W.a1 d ?_ | refine W.a2 ?_ | refine W.a3 ?_ | refine W.bo ?_ | refine W.a5 d fun hw d lw kw => ?_ | refine W.a6 d ?_ | refine W.a7 ?_ | refine W.a8 ?_))
  obtain ⟨i, h2, e2, i0, i1, _, d, _⟩ := d.below (n := 6) (by omega)
  have i1 := i1 (by omega)
  refine W.bs e2 ?_
  ((try simp only [n1, n2, n3, n4, n5, n6] at d); (with_reducible repeat first | refine W.a1 d ?_ | refine W.a2 ?_ | refine W.a3 ?_ | refine W.bo ?_ | refine W.a5 d fun hw d lw kw => ?_ | refine W.a6 d ?_ | refine W.a7 ?_ | refine W.a8 ?_))
  obtain ⟨t, tcs, h3, C, e3, gt, d, _⟩ := d.draw (drawQ 2 (by omega))
  refine W.bs e3 ?_
  obtain ⟨k1, k2, k3, k4, k5, rfl⟩ := (d.rs (i := 3) rfl : TmG base 3 C h3 t _).form
  ((try simp only [n1, n2, n3, n4, n5, n6] at d); (with_reducible repeat first | refine W.a1 d ?_ | refine W.a2 ?_ | refine W.a3 ?_ | refine W.bo ?_ | refine W.a5 d fun hw d lw kw => ?_ | refine W.a6 d ?_ | refine W.a7 ?_ | refine W.a8 ?_))
  have hr8 := hg.1
  have d := Hs.lift d (by omega)
  obtain ⟨ad, h4, S', ec, ew, d, _⟩ := Hs.reg (A := A) (i := i.toNat) d (by omega)
  injection ec with ec
  injection ec with ea _ _
  subst ea
  refine W.ifT ⟨i0, by rw [hr8]; omega⟩ (W.bs rfl (W.bs ew ?_))
  rw [w64i (n := ((k + 1 : Nat) : Int) - 1) (by omega) (by omega), show ((k + 1 : Nat) : Int) - 1 = (k : Int) from by omega]
  refine W.ret ⟨⟨A.pid, A.pc, A.regs.set i.toNat t, A.box, A.links⟩, S', rfl, rfl, ⟨by simp [hr8], hg.2.1, fun u hu => ?_, hg.2.2.2⟩, rfl, rfl, d⟩
  rcases List.mem_or_eq_of_mem_set hu with hu | rfl
  ·exact hg.2.2.1 u hu
  ·exact draw_TmB gt
theorem l9Draw_loop1 {base cb zb ab : Nat} {hX h0 : AH} {V : Fp} : ∀ (k : Nat) (h : AH) (A : Ac) (S : Fp) (cs : List Value), A.box.length + k ≤ 2 → GoodA A → Hs base V h0 h [(ab, 65, cs), (zb, 65, acV 0 0 none 0 none 0 none 0)] [rArg base hX, rCur base cb hX, rAc base S A cs] →
  Wp (loopL (B191_1 base) [some (.pointer (at0 cb)), some (.pointer (at0 zb)), some (.pointer (at0 ab)), some (.int .i64 (k : Int))] h) fun o => ∃ A' S' cs', o.1 = 4 ∧ o.2.1 = [some (.pointer (at0 cb)), some (.pointer (at0 zb)), some (.pointer (at0 ab))] ∧ GoodA A' ∧ A'.box.length ≤ 2 ∧ A'.links = A.links ∧ Hs base V h0 o.2.2 [(ab, 65, cs'), (zb, 65, acV 0 0 none 0 none 0 none 0)] [rArg base hX, rCur base cb hX, rAc base S' A' cs'] := by
 intro k
 induction k with
 | zero =>
  intro h A S cs hk hg d
  suffices w : Wp (B191_1 base [some (.pointer (at0 cb)), some (.pointer (at0 zb)), some (.pointer (at0 ab)), some (.int .i64 ((0 : Nat) : Int))] h) fun o => o = (4, [some (.pointer (at0 cb)), some (.pointer (at0 zb)), some (.pointer (at0 ab))], h) by
   obtain ⟨o, e, rfl⟩ := w
   exact ⟨_, loop_off (by decide) e, A, S, cs, rfl, rfl, hg, by omega, rfl, d⟩
  rw [B191_1_eq]
  exact W.ifF (by decide) (W.ret rfl)
 | succ k ih =>
  intro h A S cs hk hg d
  obtain ⟨a, b, g, rfl⟩ := (d.rs (i := 2) rfl : AcG base 10 S h A cs).form2
  suffices w : Wp (B191_1 base [some (.pointer (at0 cb)), some (.pointer (at0 zb)), some (.pointer (at0 ab)), some (.int .i64 ((k + 1 : Nat) : Int))] h) fun o => ∃ A' S' cs', o.1 = 0 ∧ o.2.1 = [some (.pointer (at0 cb)), some (.pointer (at0 zb)), some (.pointer (at0 ab)), some (.int .i64 (k : Int))] ∧ GoodA A' ∧ A'.box.length = A.box.length + 1 ∧ A'.links = A.links ∧ Hs base V h0 o.2.2 [(ab, 65, cs'), (zb, 65, acV 0 0 none 0 none 0 none 0)] [rArg base hX, rCur base cb hX, rAc base S' A' cs'] by
   obtain ⟨⟨o1, o2, h'⟩, e, A', S', cs', y1, y2, y3, y4, y5, d'⟩ := w
   simp only at y1 y2 d'
   subst y1; subst y2
   obtain ⟨o, eo, A2, S2, cs2, q1, q2, q3, q4, q5, q6⟩ := ih h' A' S' _ (by omega) y3 d'
   exact ⟨o, loop_on e eo, A2, S2, cs2, q1, q2, q3, q4, q5.trans y5, q6⟩
  rw [B191_1_eq]
  refine W.ifT (decide_eq_true (by omega)) ?_
  ((try simp only [n1, n2, n3, n4, n5, n6] at d); (with_reducible repeat first | refine W.a1 d ?_ | refine W.a2 ?_ | refine W.a3 ?_ | refine W.bo ?_ | refine W.a5 d fun hw d lw kw => ?_ | refine W.a6 d ?_ | refine W.a7 ?_ | refine W.a8 ?_))
  obtain ⟨t, tcs, h3, C, e3, gt, d, _⟩ := d.draw (drawQ 2 (by omega))
  refine W.bs e3 ?_
  obtain ⟨k1, k2, k3, k4, k5, rfl⟩ := (d.rs (i := 3) rfl : TmG base 3 C h3 t _).form
  have d := Hs.lift d (by omega)
  ((try simp only [n1, n2, n3, n4, n5, n6] at d); (with_reducible repeat first | refine W.a1 d ?_ | refine W.a2 ?_ | refine W.a3 ?_ | refine W.bo ?_ | refine W.a5 d fun hw d lw kw => ?_ | refine W.a6 d ?_ | refine W.a7 ?_ | refine W.a8 ?_))
  obtain ⟨b', h4, S', ea, d⟩ := Hs.wait (A := A) d (by omega)
  refine W.bs rfl (W.bs ea ?_)
  ((try simp only [n1, n2, n3, n4, n5, n6] at d); (with_reducible repeat first | refine W.a1 d ?_ | refine W.a2 ?_ | refine W.a3 ?_ | refine W.bo ?_ | refine W.a5 d fun hw d lw kw => ?_ | refine W.a6 d ?_ | refine W.a7 ?_ | refine W.a8 ?_))
  rw [w64i (n := ((k + 1 : Nat) : Int) - 1) (by omega) (by omega), show ((k + 1 : Nat) : Int) - 1 = (k : Int) from by omega]
  refine W.ret ⟨⟨A.pid, A.pc, A.regs, A.box ++ [t], A.links⟩, S', acV A.pid A.pc a A.regs.length b' (A.box.length + 1) g A.links.length, rfl, rfl, ⟨hg.1, hg.2.1, hg.2.2.1, fun u hu => ?_⟩, by simp, rfl, d⟩
  rcases List.mem_append.1 hu with hu | hu
  ·exact hg.2.2.2 u hu
  ·rw [List.mem_singleton] at hu; subst hu; exact draw_TmB gt
theorem l9Draw_run {base cb : Nat} {h : AH} {ca : Option Addr} {n : Nat} (x : CurR base cb h) (hn : 1 ≤ n ∧ n ≤ 200) :
  ∃ A cs h', run (Et base) 191 [.pointer (at0 cb), .slice ca n n] h = some (.agg cs.toArray, h') ∧ AcG base 10 (iS h.length h'.length) h' A cs ∧ GoodA A ∧ A.box.length ≤ 2 ∧ CurR base cb h' ∧ KB (· = cb) h h' := by
 have hlt := x.lt
 have hb : base ≤ h.length := by omega
 suffices w : Wp (run (Et base) 191 [.pointer (at0 cb), .slice ca n n] h) fun o => ∃ A cs S, o.1 = .agg cs.toArray ∧ AcG base 10 S o.2 A cs ∧ (∀ b, S b → h.length ≤ b ∧ b < o.2.length) ∧ GoodA A ∧ A.box.length ≤ 2 ∧ CurR base cb o.2 ∧ KB (· = cb) h o.2 by
  obtain ⟨⟨o1, o2⟩, e, A, cs, S, y1, y2, y3, y4⟩ := w
  simp only at y1 y2 y3 y4
  subst y1
  exact ⟨A, cs, o2, e, AcG.mo _ _ _ _ _ _ _ (fun b hb => y3 b hb) y2, y4⟩
 have d := Hs.startC x hb
 refine W.of (fun r hx => Am.r191 hx) ?_
 ((try simp only [n1, n2, n3, n4, n5, n6] at d); (with_reducible repeat first | refine W.a1 d ?_ | refine W.a2 ?_ | refine W.a3 ?_ | refine W.bo ?_ | refine W.a5 d fun hw d lw kw => ?_ | refine W.a6 d ?_ | refine W.a7 ?_ | refine W.a8 ?_); (refine W.nD d fun h1 d _ kh1 => ?_); (with_reducible repeat first | refine W.a1 d ?_ | refine W.a2 ?_ | refine W.a3 ?_ | refine W.bo ?_ | refine W.a5 d fun hw d lw kw => ?_ | refine W.a6 d ?_ | refine W.a7 ?_ | refine W.a8 ?_))
 obtain ⟨u, h2, e2, u0, u1, _, d, _⟩ := d.below (n := 3) (by omega)
 have u1 := u1 (by omega)
 refine W.bs e2 ?_
 ((try simp only [n1, n2, n3, n4, n5, n6] at d); (with_reducible repeat first | refine W.a1 d ?_ | refine W.a2 ?_ | refine W.a3 ?_ | refine W.bo ?_ | refine W.a5 d fun hw d lw kw => ?_ | refine W.a6 d ?_ | refine W.a7 ?_ | refine W.a8 ?_))
 obtain ⟨v, h3, e3, v0, v1, _, d, _⟩ := d.below (n := (n : Int)) (by omega)
 refine W.bs e3 ?_
 ((try simp only [n1, n2, n3, n4, n5, n6] at d); (with_reducible repeat first | refine W.a1 d ?_ | refine W.a2 ?_ | refine W.a3 ?_ | refine W.bo ?_ | refine W.a5 d fun hw d lw kw => ?_ | refine W.a6 d ?_ | refine W.a7 ?_ | refine W.a8 ?_))
 obtain ⟨t, tcs, h4, C, e4, gt, d, _⟩ := d.draw (drawQ 2 (by omega))
 refine W.bs e4 ?_
 have tg : TmG base 3 C h4 t tcs := d.rs (i := 2) rfl
 obtain ⟨k1, k2, k3, k4, k5, rfl⟩ := tg.form
 ((try simp only [n1, n2, n3, n4, n5, n6] at d); (with_reducible repeat first | refine W.a1 d ?_ | refine W.a2 ?_ | refine W.a3 ?_ | refine W.bo ?_ | refine W.a5 d fun hw d lw kw => ?_ | refine W.a6 d ?_ | refine W.a7 ?_ | refine W.a8 ?_))
 rw [w64i (n := 1 + u) (by omega) (by omega)]
 obtain ⟨cs5, h5, e5, g5, k5'⟩ := specNew_run (base := base) (f := 9) h4 C t _ (1 + u) v (TmG.le (f' := 10) (by omega) tg).tmR (draw_TmB gt) d.ge (d.rlt (i := 2) rfl)
 have hok : newOk 10 (1 + u) v t = true := by
  unfold newOk inB
  rw [gt.ok (by decide)]
  have a1 : 1 ≤ 1 + u ∧ 1 + u ≤ 99999 := by omega
  have a2 : ¬ v < 0 := by omega
  simp [a1.1, a1.2, a2]
 have eA : newA 10 (1 + u) v t = ⟨1 + u, v, newRegs t 7, [], []⟩ := by unfold newA; rw [if_pos hok]
 rw [eA] at g5
 refine W.bs e5 ?_
 obtain ⟨a, b, g, rfl⟩ := g5.form2
 have d := d.callP (AcG.kp _ _) k5' g5
 ((try simp only [n1, n2, n3, n4, n5, n6] at d); (with_reducible repeat first | refine W.a1 d ?_ | refine W.a2 ?_ | refine W.a3 ?_ | refine W.bo ?_ | refine W.a5 d fun hw d lw kw => ?_ | refine W.a6 d ?_ | refine W.a7 ?_ | refine W.a8 ?_); (refine W.nD d fun h6 d _ kh6 => ?_); (with_reducible repeat first | refine W.a1 d ?_ | refine W.a2 ?_ | refine W.a3 ?_ | refine W.bo ?_ | refine W.a5 d fun hw d lw kw => ?_ | refine W.a6 d ?_ | refine W.a7 ?_ | refine W.a8 ?_))
 have d := (d.frontR (Del.at (i := 3) rfl)).takeR 3
 have d := d.frontR (Del.at (i := 2) rfl)
 have d := d.frontR (Del.at (i := 2) rfl)
 simp only [n5, n6] at d
 have hG0 : GoodA ⟨1 + u, v, newRegs t 7, [], []⟩ := ⟨newRegs_len t 7, by simp, fun w hw => by
  have hm : ∀ k, ∀ w ∈ newRegs t k, w = t ∨ w = tm0 := by
   intro k
   induction k with
   | zero => intro w hw; simp [newRegs] at hw; exact .inl hw
   | succ k ih =>
    intro w hw
    simp only [newRegs, List.mem_append, List.mem_singleton] at hw
    exact hw.elim (ih w) .inr
  rcases hm 7 w hw with rfl | rfl
  ·exact draw_TmB gt
  ·exact ⟨by decide, by decide, fun t ht => nomatch ht⟩, fun w hw => nomatch hw⟩
 have d : Hs base (· = cb) h hw [(h5.length, 65, acV (1 + u) v a (newRegs t 7).length b 0 g 0), (h.length, 65, acV 0 0 none 0 none 0 none 0)] [rArg base h, rCur base cb h, rAc base (iS h4.length h5.length) ⟨1 + u, v, newRegs t 7, [], []⟩ (acV (1 + u) v a (newRegs t 7).length b 0 g 0)] := d
 obtain ⟨m, h7, e7, m0, m1, _, d, _⟩ := d.below (n := 6) (by omega)
 have m1 := m1 (by omega)
 refine W.bs e7 ?_
 ((try simp only [n1, n2, n3, n4, n5, n6] at d); (with_reducible repeat first | refine W.a1 d ?_ | refine W.a2 ?_ | refine W.a3 ?_ | refine W.bo ?_ | refine W.a5 d fun hw d lw kw => ?_ | refine W.a6 d ?_ | refine W.a7 ?_ | refine W.a8 ?_))
 have w0 := l9Draw_loop0 (base := base) m.toNat h7 _ _ _ (by omega) hG0 d
 rw [show ((m.toNat : Nat) : Int) = m from by omega] at w0
 refine W.wb w0 ?_
 rintro ⟨o1, o2, h8⟩ ⟨A1, S1, y1, y2, g1, b1, l1, d⟩
 simp only at y1 y2 d
 subst y1; subst y2
 refine W.ifT rfl ?_
 ((try simp only [n1, n2, n3, n4, n5, n6] at d); (with_reducible repeat first | refine W.a1 d ?_ | refine W.a2 ?_ | refine W.a3 ?_ | refine W.bo ?_ | refine W.a5 d fun hw d lw kw => ?_ | refine W.a6 d ?_ | refine W.a7 ?_ | refine W.a8 ?_))
 obtain ⟨p, h9, e9, p0, p1, _, d, _⟩ := d.below (n := 3) (by omega)
 have p1 := p1 (by omega)
 refine W.bs e9 ?_
 ((try simp only [n1, n2, n3, n4, n5, n6] at d); (with_reducible repeat first | refine W.a1 d ?_ | refine W.a2 ?_ | refine W.a3 ?_ | refine W.bo ?_ | refine W.a5 d fun hw d lw kw => ?_ | refine W.a6 d ?_ | refine W.a7 ?_ | refine W.a8 ?_))
 have w1 := l9Draw_loop1 (base := base) p.toNat h9 A1 S1 _ (by rw [b1]; simp; omega) g1 d
 rw [show ((p.toNat : Nat) : Int) = p from by omega] at w1
 refine W.wb w1 ?_
 rintro ⟨o1, o2, h10⟩ ⟨A2, S2, cs2, y1, y2, g2, b2, l2, d⟩
 simp only at y1 y2 d
 subst y1; subst y2
 refine W.ifT rfl ?_
 ((try simp only [n1, n2, n3, n4, n5, n6] at d); (with_reducible repeat first | refine W.a1 d ?_ | refine W.a2 ?_ | refine W.a3 ?_ | refine W.bo ?_ | refine W.a5 d fun hw d lw kw => ?_ | refine W.a6 d ?_ | refine W.a7 ?_ | refine W.a8 ?_))
 obtain ⟨a2, b2', g2', rfl⟩ := (d.rs (i := 2) rfl : AcG base 10 S2 h10 A2 cs2).form2
 refine W.joinP (fun q => q.1 = [some (.pointer (at0 h.length)), some (.pointer (at0 h5.length))] ∧ ∃ A3 S3 cs3, GoodA A3 ∧ A3.box.length ≤ 2 ∧ Hs base (· = cb) h q.2 [(h5.length, 65, cs3), (h.length, 65, acV 0 0 none 0 none 0 none 0)] [rArg base h, rCur base cb h, rAc base S3 A3 cs3]) ?_ fun q hq => ?_
 ·obtain ⟨bb, h11, e11, d, _⟩ := d.once (n := 3) (by omega)
  refine W.bs e11 ?_
  ((try simp only [n1, n2, n3, n4, n5, n6] at d); (with_reducible repeat first | refine W.a1 d ?_ | refine W.a2 ?_ | refine W.a3 ?_ | refine W.bo ?_ | refine W.a5 d fun hw d lw kw => ?_ | refine W.a6 d ?_ | refine W.a7 ?_ | refine W.a8 ?_))
  refine W.ite (fun c => ?_) (fun c => ?_)
  ·obtain ⟨z, h12, e12, z0, z1, _, d, _⟩ := d.below (n := 3) (by omega)
   have z1 := z1 (by omega)
   refine W.bs e12 ?_
   ((try simp only [n1, n2, n3, n4, n5, n6] at d); (with_reducible repeat first | refine W.a1 d ?_ | refine W.a2 ?_ | refine W.a3 ?_ | refine W.bo ?_ | refine W.a5 d fun hw d lw kw => ?_ | refine W.a6 d ?_ | refine W.a7 ?_ | refine W.a8 ?_); (refine W.nD d fun h13 d _ kh13 => ?_); (with_reducible repeat first | refine W.a1 d ?_ | refine W.a2 ?_ | refine W.a3 ?_ | refine W.bo ?_ | refine W.a5 d fun hw d lw kw => ?_ | refine W.a6 d ?_ | refine W.a7 ?_ | refine W.a8 ?_))
   have d := d.front (Del.at (i := 1) rfl)
   simp only [n5, n6] at d
   have o13 : Own base 3 hw (at0 h12.length) (iv .i64 [IntKind.i64.wrap (5 + z)]) := d.ol (.tail _ (.head _))
   have x13 : AcG base 10 S2 hw A2 _ := d.rs (i := 2) rfl
   have d := d.unbox (Del.at (i := 1) rfl)
   simp only [n5, n6] at d
   have hne : ∀ i, blk (at0 h12.length) i → ¬ S2 i := fun i hi h2 => by
    rw [blk_at0] at hi
    subst hi
    have dj := d.dj
    simp only [List.pairwise_cons, List.cons_append, List.nil_append] at dj
    exact dj.2.2.1 _ (.head _) rfl _ h2 rfl
   have x14 := x13.setLinks (KB.refl NoB hw) (fun _ _ h => h) o13 hne
   have d := d.joinP (r := rAc base S2 A2 (acV A2.pid A2.pc a2 A2.regs.length b2' A2.box.length g2' A2.links.length)) (s := ⟨(· = h12.length), true, fun y => Own base 3 y (at0 h12.length) (iv .i64 [IntKind.i64.wrap (5 + z)])⟩) (AcG.kp base 10) (Upd.at (i := 3) rfl) (R2 := [rArg base h, rCur base cb h, rAc base (fun b => S2 b ∨ blk (at0 h12.length) b) ⟨A2.pid, A2.pc, A2.regs, A2.box, [IntKind.i64.wrap (5 + z)]⟩ (acV A2.pid A2.pc a2 A2.regs.length b2' A2.box.length (at0 h12.length) 1), ⟨fun _ => False, true, fun _ => True⟩]) (Upd.at (i := 2) rfl) rfl rfl (KB.refl NoB hw) x14 (fun _ h => h.elim) (fun b hb => hb.imp id fun hb => .inl (blk_at0.1 hb))
   have d := d.takeR 3
   exact W.inl ⟨rfl, ⟨A2.pid, A2.pc, A2.regs, A2.box, [IntKind.i64.wrap (5 + z)]⟩, (fun b => S2 b ∨ blk (at0 h12.length) b), acV A2.pid A2.pc a2 A2.regs.length b2' A2.box.length (at0 h12.length) 1, ⟨g2.1, by simp, g2.2.2⟩, b2, d⟩
  ·exact W.inl ⟨rfl, A2, S2, _, g2, b2, d⟩
 obtain ⟨q1, h14⟩ := q
 obtain ⟨e, A3, S3, cs3, g3, b3, d⟩ := hq
 simp only at e d
 subst e
 obtain ⟨a3, b3', g3', rfl⟩ := (d.rs (i := 2) rfl : AcG base 10 S3 h14 A3 cs3).form2
 ((try simp only [n1, n2, n3, n4, n5, n6] at d); (with_reducible repeat first | refine W.a1 d ?_ | refine W.a2 ?_ | refine W.a3 ?_ | refine W.bo ?_ | refine W.a5 d fun hw d lw kw => ?_ | refine W.a6 d ?_ | refine W.a7 ?_ | refine W.a8 ?_))
 have fr := d.rfr (i := 2) rfl rfl
 have lt := d.rlt (i := 2) rfl
 have hdj : ∀ b, S3 b → b ≠ cb := fun b hb e => by
  have dj := d.dj
  simp only [List.pairwise_cons] at dj
  exact dj.2.1 _ (.head _) rfl b e hb
 exact W.ret ⟨A3, _, S3, rfl, d.rs (i := 2) rfl, fun b hb => ⟨(fr b hb).resolve_left (hdj b hb), lt b hb⟩, g3, b3, d.cur0, d.kb⟩
end Go.Proofs.Ytjmkbglnjklbcaa.Am
set_option linter.unusedSimpArgs false
set_option linter.unusedVariables false
namespace Go.Proofs.Ytjmkbglnjklbcaa.Am
open Go Go.RowKit
theorem bendG_loop {base b1 b2 : Nat} : ∀ (d i : Nat) (h : AH) (t : Tm) (k n : Int) (s : ByteArray) (a : Option Addr) (m F : Nat), i + d = 6 → Own base 39 h (at0 b1) (termV k n s a m) → TmG base F (iS (b2 + 1) h.length) h t (termV k n s a m) → TmB F t → b1 < b2 → b2 < h.length → base ≤ b1 →
  ∃ h' t' k' n' s' a' m', loopL (B212_0 base) [some (.pointer (at0 b1)), some (.pointer (at0 b2)), some (.int .i64 (i : Int))] h = some (3, [some (.pointer (at0 b1)), some (.pointer (at0 b2))], h') ∧ Own base 39 h' (at0 b1) (termV k' n' s' a' m') ∧ TmG base (F + d) (iS (b2 + 1) h'.length) h' t' (termV k' n' s' a' m') ∧ TmB (F + d) t' ∧ KB (· = b1) h h' := by
 intro d
 induction d with
 | zero =>
  intro i h t k n s a m F hi o hm hB h1 h2 h3
  refine ⟨h, t, k, n, s, a, m, loop_off (by decide) ?_, o, hm, hB, KB.refl _ _⟩
  rw [B212_0_eq]
  exact Am.ifF (by simp; omega) rfl
 | succ d ih =>
  intro i h t k n s a m F hi o hm hB h1 h2 h3
  obtain ⟨o5, k5, q5⟩ := box_own (base := base) (t := 39) (h := h) (cs := termV 0 0 ⟨#[]⟩ none 0) (by omega) rfl
  generalize hh5 : h ++ [some (⟨termV 0 0 ⟨#[]⟩ none 0, 39⟩ : Blk)] = h5 at o5 k5 q5
  obtain ⟨h6, e6, o6, k6, l6⟩ := o5.wr0 (i := 0) (new := termV k n s a m) (by simp) (by simp)
  have hz : setAt (termV 0 0 ⟨#[]⟩ none 0) 0 (termV k n s a m) = termV k n s a m := rfl
  rw [hz] at o6
  obtain ⟨o11, k11, q11⟩ := box_own (base := base) (t := 39) (h := h6) (cs := termV k n s a m) (by omega) rfl
  generalize hh11 : h6 ++ [some (⟨termV k n s a m, 39⟩ : Blk)] = h11 at o11 k11 q11
  have k06 : KB NoB h h6 := kFresh k5 k6 fun i hi => by omega
  have k011 : KB NoB h h11 := kN k06 k11
  obtain ⟨h12, e12, o12, k12, l12⟩ := (o.keepN k011).wr0 (i := 0) (new := termV 4 0 ⟨#[]⟩ (at0 h6.length) 1) (by simp) (by simp)
  have hz : setAt (termV k n s a m) 0 (termV 4 0 ⟨#[]⟩ (at0 h6.length) 1) = termV 4 0 ⟨#[]⟩ (at0 h6.length) 1 := rfl
  rw [hz] at o12
  have k012 : KB (· = b1) h h12 := kNB k011 k12
  have o11' := o11.keep k12 fun b hb hk => by rw [blk_at0] at hb; omega
  have hm12 := TmG.kp _ _ _ _ _ _ _ _ k012 (fun b hb hk => by omega) hm
  have R12 := (RowO.one hm12 (by omega) rfl o11').mono (S' := iS (b2 + 1) h12.length) fun b hb => by rcases hb with hb | hb <;> omega
  have T12 : TmG base (F + 1) (iS (b2 + 1) h12.length) h12 (.mk 4 0 ⟨#[]⟩ [t]) (termV 4 0 ⟨#[]⟩ (at0 h6.length) 1) := ⟨by decide, by simp [maxLen], at0 h6.length, rfl, R12⟩
  have B12 : TmB (F + 1) (.mk 4 0 ⟨#[]⟩ [t]) := ⟨by decide, by simp, fun y hy => by rw [List.mem_singleton] at hy; subst hy; exact hB⟩
  obtain ⟨h', t', k', n', s', a', m', e, w1, w2, w3, w4⟩ := ih (i + 1) h12 _ _ _ _ _ _ (F + 1) (by omega) o12 T12 B12 h1 (by omega) h3
  rw [show F + 1 + d = F + (d + 1) from by omega] at w2 w3
  refine ⟨h', t', k', n', s', a', m', loop_on ?_ e, w1, w2, w3, KB.trans k012 w4 (fun _ _ h => h) (fun _ _ h => h)⟩
  rw [B212_0_eq]
  refine Am.ifT (decide_eq_true (by omega)) (Am.q4 o (lets fun y ey => ?_))
  rw [hh5] at ey
  subst ey
  refine Am.bs e6 (Am.q4 o6 (lets fun y ey => ?_))
  rw [hh11] at ey
  subst ey
  refine Am.bs e12 ?_
  rw [w64i (n := (i : Int) + 1) (by omega) (by omega)]
  rfl
theorem bend_strs {s : ByteArray} (h : s ∈ ([⟨#[]⟩, ⟨#[65]⟩, ⟨#[120]⟩, ⟨#[116, 104, 105, 114, 116, 101, 101, 110, 98, 121, 116, 101, 115]⟩] : List ByteArray)) : s.size ≤ 13 := by
 have : ∀ s ∈ ([⟨#[]⟩, ⟨#[65]⟩, ⟨#[120]⟩, ⟨#[116, 104, 105, 114, 116, 101, 101, 110, 98, 121, 116, 101, 115]⟩] : List ByteArray), s.size ≤ 13 := by
  simp only [List.forall_mem_cons]
  exact ⟨by decide, by decide, by decide, by decide, fun _ h => nomatch h⟩
 exact this s h
theorem l1BendG_run {base cb f : Nat} {h : AH} {p : Nat → Prop} {t : Tm} {cs : List Value} (x : CurR base cb h) (hm : TmR h p (f + 1) t cs) (hB : TmB (f + 1) t) (hl : t.len ≤ 1000) (hp : ∀ b, p b → b < h.length) :
  Wp (run (Et base) 212 [.pointer (at0 cb), .agg cs.toArray] h) fun r => ∃ t' k' n' s' a' m', r.1 = .agg (termV k' n' s' a' m').toArray ∧ TmG base (f + 7) (iS h.length r.2.length) r.2 t' (termV k' n' s' a' m') ∧ TmB (f + 7) t' ∧ CurR base cb r.2 ∧ KB (· = cb) h r.2 := by
 have hlt := x.lt
 obtain ⟨k, n, s, l⟩ := t
 simp only [Tm.len] at hl
 obtain ⟨a, rfl, hts, hss, _⟩ := hm.parts
 refine W.of (fun r hx => Am.r212 hx) ?_
 refine W.box (base := base) (by omega) fun h1 o1 k1 q1 => W.box (base := base) (by omega) fun h2 o2 k2 q2 => ?_
 have k02 := kN k1 k2
 obtain ⟨cs3, h3, e3, t3, k3⟩ := l1CopyG_run (base := base) (f + 1) h2 p _ _ (TmR.keep k02 (fun _ _ h => h) _ _ _ hm) hB (by omega) (fun b hb => by have := hp b hb; omega)
 have n3 := k3.1
 obtain ⟨k', n', s', ao, m', rfl⟩ := t3.form
 obtain ⟨l', el, rfl, hs3, hl3, row3⟩ := t3.parts
 injection el with el1 el2 el3 el4
 subst el1; subst el2; subst el3; subst el4
 refine W.q4 (o1.keepN k2) (W.bs e3 (W.bs (v := termV k n s ao l.length) rfl (W.bI rfl (W.bI rfl (W.bT rfl (W.bS rfl (W.wr0 ((o1.keepN k2).keepN k3) (by simp) (by simp) fun h4 o4 k4 l4 => ?_)))))))
 have hz : setAt (termV k n s a l.length) 0 (termV k n s ao l.length) = termV k n s ao l.length := rfl
 rw [hz] at o4
 have l4 : h4.length = h3.length := l4
 have k4 : KB (· = h.length) h3 h4 := k4
 have k04 : KB NoB h h4 := kFresh (kN k02 k3) k4 fun i hi => by omega
 obtain ⟨z, h5, e5, z0, z1, _, x5, k5, l5⟩ := l1Below_run (n := 6) (x.keepN k04) (by omega)
 have o5 := o4.keepB k5 fun i hi => by rw [blk_at0] at hi; omega
 have oZ5 := ((o2.keepN k3).keepB k4 fun i hi => by rw [blk_at0] at hi; omega).keepB k5 fun i hi => by rw [blk_at0] at hi; omega
 have row5 := (row3.keep (TmG.kp _ _) k4 fun b hb hk => by omega).keep (TmG.kp _ _) k5 fun b hb hk => by omega
 have k05 : KB (· = cb) h h5 := kNB k04 k5
 obtain ⟨B1, B2, B3⟩ := hB
 have hn5 : h5.length = h3.length := by omega
 have set1 : ∀ {h6 : AH} {kk nn : Int} {ss : ByteArray}, ss.size ≤ 1048576 → KB (· = cb) h5 h6 → TmG base (f + 7) (iS (h1.length + 1) h6.length) h6 (.mk kk nn ss l) (termV kk nn ss ao l.length) ∧ TmB (f + 7) (.mk kk nn ss l) := @fun h6 kk nn ss hss k56 => by
  have r6 := (row5.keep (TmG.kp _ _) k56 fun b hb hk => by omega).mono (S' := iS (h1.length + 1) h6.length) fun b hb => ⟨by omega, by have := k56.1; omega⟩
  exact ⟨⟨by simp only [maxLen]; omega, hl3, ao, rfl, r6.imp fun _ _ _ _ => TmG.le (show f ≤ f + 6 by omega)⟩, hss, by omega, fun t ht => (B3 t ht).le (by omega)⟩
 refine W.joinP (fun q => ∃ h6 t' k' n' s' a' m', q = ([some (.pointer (at0 h.length)), some (.pointer (at0 h1.length))], h6) ∧ Own base 39 h6 (at0 h.length) (termV k' n' s' a' m') ∧ Own base 39 h6 (at0 h1.length) (termV 0 0 ⟨#[]⟩ none 0) ∧ TmG base (f + 7) (iS (h1.length + 1) h6.length) h6 t' (termV k' n' s' a' m') ∧ TmB (f + 7) t' ∧ CurR base cb h6 ∧ KB (· = cb) h h6 ∧ h1.length < h6.length) ?_ fun q hq => ?_
 ·refine W.bs e5 (W.bI rfl (W.ite (fun c => ?_) fun c0 => W.ite (fun c => ?_) fun c1 => W.ite (fun c => ?_) fun c2 => W.ite (fun c => ?_) fun c3 => W.ite (fun c => ?_) fun c4 => ?_))
  ·obtain ⟨z6, h6, e6, _, _, _, x6, k6, l6⟩ := l1Below_run (n := 8) x5 (by omega)
   refine W.bs e6 (W.bI rfl (W.wr0 (o5.keepB k6 fun i hi => by rw [blk_at0] at hi; omega) (by simp) (by simp) fun h7 o7 k7 l7 => W.inl ?_))
   obtain ⟨g1, g2⟩ := set1 (kk := z6) (nn := n) (ss := s) B1 k6
   have k7 : KB (· = h.length) h6 h7 := k7
   have l7 : h7.length = h6.length := l7
   refine ⟨h7, _, _, _, _, _, _, rfl, o7, (oZ5.keepB k6 fun i hi => by rw [blk_at0] at hi; omega).keepB k7 fun i hi => by rw [blk_at0] at hi; omega, ?_, g2, x6.keep k7 fun b hb => by omega, kCF (kC k05 k6) k7 fun i hi => by omega, by omega⟩
   rw [l7]
   exact TmG.kp _ _ _ _ _ _ _ _ k7 (fun b hb hk => by omega) g1
  ·refine W.box (base := base) (h := h5) (by omega) fun h6 o6 k6 q6 => ?_
   obtain ⟨z7, h7, e7, _, x7, k7, l7⟩ := l1Int_run (zs := [-1, 1000001, 100000, 3]) (x5.keepN k6) o6.sl (fun b hb => by rw [blk_at0] at hb; omega) (by simp) (by simp)
   have k57 : KB (· = cb) h5 h7 := kNB k6 k7
   refine W.bs e7 (W.bI rfl (W.wr0 (o5.keepB k57 fun i hi => by rw [blk_at0] at hi; omega) (by simp) (by simp) fun h8 o8 k8 l8 => W.inl ?_))
   obtain ⟨g1, g2⟩ := set1 (kk := k) (nn := z7) (ss := s) B1 k57
   have k8 : KB (· = h.length) h7 h8 := k8
   have l8 : h8.length = h7.length := l8
   refine ⟨h8, _, _, _, _, _, _, rfl, o8, (oZ5.keepB k57 fun i hi => by rw [blk_at0] at hi; omega).keepB k8 fun i hi => by rw [blk_at0] at hi; omega, ?_, g2, x7.keep k8 fun b hb => by omega, kCF (kC k05 k57) k8 fun i hi => by omega, by omega⟩
   rw [l8]
   exact TmG.kp _ _ _ _ _ _ _ _ k8 (fun b hb hk => by omega) g1
  ·refine W.box (base := base) (h := h5) (by omega) fun h6 o6 k6 q6 => ?_
   obtain ⟨z7, h7, e7, hz7, x7, k7, l7⟩ := l1Str_run (ss := [⟨#[]⟩, ⟨#[65]⟩, ⟨#[120]⟩, ⟨#[116, 104, 105, 114, 116, 101, 101, 110, 98, 121, 116, 101, 115]⟩]) (x5.keepN k6) o6.sl (fun b hb => by rw [blk_at0] at hb; omega) (by simp) (by simp)
   have k57 : KB (· = cb) h5 h7 := kNB k6 k7
   refine W.bs e7 (W.bT rfl (W.wr0 (o5.keepB k57 fun i hi => by rw [blk_at0] at hi; omega) (by simp) (by simp) fun h8 o8 k8 l8 => W.inl ?_))
   obtain ⟨g1, g2⟩ := set1 (kk := k) (nn := n) (ss := z7) (by have := bend_strs hz7; omega) k57
   have k8 : KB (· = h.length) h7 h8 := k8
   have l8 : h8.length = h7.length := l8
   refine ⟨h8, _, _, _, _, _, _, rfl, o8, (oZ5.keepB k57 fun i hi => by rw [blk_at0] at hi; omega).keepB k8 fun i hi => by rw [blk_at0] at hi; omega, ?_, g2, x7.keep k8 fun b hb => by omega, kCF (kC k05 k57) k8 fun i hi => by omega, by omega⟩
   rw [l8]
   exact TmG.kp _ _ _ _ _ _ _ _ k8 (fun b hb hk => by omega) g1
  ·obtain ⟨a6, h6, e6, r6, k6, n6⟩ := (row5.imp fun _ _ _ _ => TmG.le (show f ≤ f + 1 by omega)).app1 (TmG.kp _ _) (bytes := 56) (C := fun _ => False) (y := .mk 1 4 ⟨#[]⟩ []) (cs := termV 1 4 ⟨#[]⟩ none 0) ⟨by decide, by decide, none, rfl, RowO.nil⟩ rfl (by decide) rfl (fun _ h => h.elim) (fun _ h => h.elim) (fun b hb => by omega) (by omega) (by omega) (by omega)
   have hba : ∀ b, blk ao b → h2.length ≤ b ∧ b < h3.length := by obtain ⟨vs, T, w1, w2, w3, _⟩ := row5; exact fun b hb => (w3 b hb).1
   have o6 := o5.keep k6 fun b hb hk => by rw [blk_at0] at hb; have := hba b hk; omega
   refine W.bS (o5.at0 (i := 3) rfl) (W.bs rfl (W.bs e6 (W.bS rfl (W.wr0 o6 (by simp) (by simp) fun h7 o7 k7 l7 => W.inl ?_))))
   have k7 : KB (· = h.length) h6 h7 := k7
   have l7 : h7.length = h6.length := l7
   refine ⟨h7, .mk k n s (l ++ [.mk 1 4 ⟨#[]⟩ []]), _, _, _, _, _, rfl, o7, (oZ5.keep k6 fun b hb hk => by rw [blk_at0] at hb; have := hba b hk; omega).keepB k7 fun i hi => by rw [blk_at0] at hi; omega, ?_, ⟨by omega, by simp; omega, fun t ht => ?_⟩, (x5.keep k6 fun b hb => by have := hba b hb; omega).keep k7 fun b hb => by omega, kCF (kCF k05 k6 fun i hi => by have := hba i hi; omega) k7 fun i hi => by omega, by omega⟩
   ·refine TmG.le (show f + 2 ≤ f + 7 by omega) (TmG.kp _ _ _ _ _ _ _ _ k7 (fun b hb hk => by omega) ⟨by simp only [maxLen]; omega, by simp [maxLen]; omega, a6, by simp, (r6.mono fun b hb => ?_)⟩)
    rcases hb with hb | hb | hb
    ·constructor <;> omega
    ·exact hb.elim
    ·constructor <;> omega
   ·rcases List.mem_append.1 ht with ht | ht
    ·exact (B3 t ht).le (by omega)
    ·rw [List.mem_singleton] at ht
     subst ht
     exact ⟨by decide, by decide, fun _ h => nomatch h⟩
  ·obtain ⟨g1, g2⟩ := set1 (kk := k) (nn := n) (ss := s) B1 (KB.refl _ h5)
   have g1' : TmG base (f + 1) (iS (h1.length + 1) h5.length) h5 (.mk k n s l) (termV k n s ao l.length) := ⟨by simp only [maxLen]; omega, hl3, ao, rfl, row5.mono fun b hb => ⟨by omega, by omega⟩⟩
   obtain ⟨h6, t', k', n', s', a', m', e6, o6, g6, b6, k6⟩ := bendG_loop (base := base) (b1 := h.length) (b2 := h1.length) 6 0 h5 _ _ _ _ _ _ (f + 1) rfl o5 g1' ⟨B1, B2, B3⟩ (by omega) (by omega) (by omega)
   rw [show ((0 : Nat) : Int) = 0 from rfl] at e6
   have n6 := k6.1
   refine W.bs e6 (W.ifT rfl (W.bA rfl (W.bA rfl (W.inl ⟨h6, t', k', n', s', a', m', rfl, o6, oZ5.keepB k6 fun i hi => by rw [blk_at0] at hi; omega, g6.le (by omega), b6.le (by omega), x5.keep k6 fun b hb => by omega, kCF k05 k6 fun i hi => by omega, by omega⟩))))
  ·obtain ⟨g1, g2⟩ := set1 (kk := k) (nn := n) (ss := s) B1 (KB.refl _ h5)
   exact W.inl ⟨h5, _, _, _, _, _, _, rfl, o5, oZ5, g1, g2, x5, k05, by omega⟩
 ·obtain ⟨h6, t', k', n', s', a', m', rfl, o6, z6, g6, b6, x6, k06, n6⟩ := hq
  refine W.bA rfl (W.bA rfl (W.q4 o6 (W.wr0 z6 (by simp) (by simp) fun h7 o7 k7 l7 => ?_)))
  have hz : setAt (termV 0 0 ⟨#[]⟩ none 0) 0 (termV k' n' s' a' m') = termV k' n' s' a' m' := rfl
  rw [hz] at o7
  have k7 : KB (· = h1.length) h6 h7 := k7
  have l7 : h7.length = h6.length := l7
  refine W.q4 o7 (W.ret ⟨t', k', n', s', a', m', rfl, TmG.mo _ _ _ _ _ _ _ (fun b hb => ?_) (TmG.kp _ _ _ _ _ _ _ _ k7 (fun b hb hk => by omega) g6), b6, x6.keep k7 fun b hb => by omega, kCF k06 k7 fun i hi => by omega⟩)
  exact ⟨by omega, by show b < h7.length; omega⟩
end Go.Proofs.Ytjmkbglnjklbcaa.Am
set_option linter.unusedSimpArgs false
set_option linter.unusedVariables false
namespace Go.Proofs.Ytjmkbglnjklbcaa.Am
open Go Go.RowKit
theorem tOk_len {F : Nat} {t : Tm} (h : tOk F t = true) : t.len ≤ 20 := by
 have h := of_decide_eq_true h
 obtain ⟨k, n, s, l⟩ := t
 cases F with
 | zero => rw [lk] at h; omega
 | succ F =>
  rw [lk] at h
  split at h
  ·omega
  ·rename_i hn
   have hs : shB k n s l.length = true := by
    cases e : shB k n s l.length with
    | true => rfl
    | false => exact absurd (.inr (.inr e)) hn
   exact (sh_bd hs).2
theorem Gt.ok3 {t : Tm} (h : Gt 3 t) {F : Nat} (hF : 4 ≤ F) : tOk F t = true := decide_eq_true (by
 have := h F 6 100 (by omega) (by omega) (by decide)
 have e : capT 3 = 40 := by decide
 omega)
theorem l1AnyG_run {base cb : Nat} {h : AH} (x : CurR base cb h) : ∃ t cs h', run (Et base) 192 [.pointer (at0 cb)] h = some (.agg cs.toArray, h') ∧ TmG base 10 (iS h.length h'.length) h' t cs ∧ TmB 10 t ∧ CurR base cb h' ∧ KB (· = cb) h h' := by
 have hlt := x.lt
 have hb : base ≤ h.length := by omega
 suffices w : Wp (run (Et base) 192 [.pointer (at0 cb)] h) fun o => ∃ t cs S, o.1 = .agg cs.toArray ∧ TmG base 10 S o.2 t cs ∧ (∀ b, S b → h.length ≤ b ∧ b < o.2.length) ∧ TmB 10 t ∧ CurR base cb o.2 ∧ KB (· = cb) h o.2 by
  obtain ⟨⟨o1, o2⟩, e, t, cs, S, y1, y2, y3, y4⟩ := w
  simp only at y1 y2 y3 y4
  subst y1
  exact ⟨t, cs, o2, e, TmG.mo _ _ _ _ _ _ _ (fun b hb => y3 b hb) y2, y4⟩
 have d := Hs.startC x hb
 refine W.of (fun r hx => Am.r192 hx) ?_
 ((try simp only [n1, n2, n3, n4, n5, n6] at d); (with_reducible repeat first | refine W.a1 d ?_ | refine W.a2 ?_ | refine W.a3 ?_ | refine W.bo ?_ | refine W.a5 d fun hw d lw kw => ?_ | refine W.a6 d ?_ | refine W.a7 ?_ | refine W.a8 ?_); (refine W.nD d fun h1 d _ kh1 => ?_); (with_reducible repeat first | refine W.a1 d ?_ | refine W.a2 ?_ | refine W.a3 ?_ | refine W.bo ?_ | refine W.a5 d fun hw d lw kw => ?_ | refine W.a6 d ?_ | refine W.a7 ?_ | refine W.a8 ?_))
 obtain ⟨t, tcs, h2, C, e2, gt, d, _⟩ := d.draw (drawQ 3 (by omega))
 refine W.bs e2 ?_
 obtain ⟨k1, k2, k3, k4, k5, rfl⟩ := (d.rs (i := 2) rfl : TmG base 4 C h2 t tcs).form
 ((try simp only [n1, n2, n3, n4, n5, n6] at d); (with_reducible repeat first | refine W.a1 d ?_ | refine W.a2 ?_ | refine W.a3 ?_ | refine W.bo ?_ | refine W.a5 d fun hw d lw kw => ?_ | refine W.a6 d ?_ | refine W.a7 ?_ | refine W.a8 ?_); (refine W.nD d fun h3 d _ kh3 => ?_); (with_reducible repeat first | refine W.a1 d ?_ | refine W.a2 ?_ | refine W.a3 ?_ | refine W.bo ?_ | refine W.a5 d fun hw d lw kw => ?_ | refine W.a6 d ?_ | refine W.a7 ?_ | refine W.a8 ?_))
 have d : Hs base (· = cb) h hw [(h2.length, 39, termV k1 k2 k3 k4 k5), (h.length, 39, termV 0 0 ⟨#[]⟩ none 0)] [rArg base h, rCur base cb h, rTm base 4 C t (termV k1 k2 k3 k4 k5)] := d
 refine W.joinP (fun q => q.1 = [some (.pointer (at0 h.length)), some (.pointer (at0 h2.length))] ∧ ∃ t' k n s a m S, TmB 10 t' ∧ Hs base (· = cb) h q.2 [(h2.length, 39, termV k n s a m), (h.length, 39, termV 0 0 ⟨#[]⟩ none 0)] [rArg base h, rCur base cb h, rTm base 10 S t' (termV k n s a m)]) ?_ fun q hq => ?_
 ·obtain ⟨b, h4, e4, d, _⟩ := d.once (n := 5) (by omega)
  refine W.bs e4 ?_
  ((try simp only [n1, n2, n3, n4, n5, n6] at d); (with_reducible repeat first | refine W.a1 d ?_ | refine W.a2 ?_ | refine W.a3 ?_ | refine W.bo ?_ | refine W.a5 d fun hw d lw kw => ?_ | refine W.a6 d ?_ | refine W.a7 ?_ | refine W.a8 ?_))
  refine W.ite (fun c => ?_) (fun c => ?_)
  ·((try simp only [n1, n2, n3, n4, n5, n6] at d); (with_reducible repeat first | refine W.a1 d ?_ | refine W.a2 ?_ | refine W.a3 ?_ | refine W.bo ?_ | refine W.a5 d fun hw d lw kw => ?_ | refine W.a6 d ?_ | refine W.a7 ?_ | refine W.a8 ?_))
   have tg : TmG base 4 C h4 t (termV k1 k2 k3 k4 k5) := d.rs (i := 2) rfl
   obtain ⟨⟨u, h5⟩, e5, t', k', n', s', a', m', y1, g5, b5, x5, k5'⟩ := l1BendG_run (f := 3) d.cur0 tg.tmR (tOk_B (gt.ok3 (by decide))).1 (by have := tOk_len (gt.ok3 (F := 4) (by decide)); omega) (d.rlt (i := 2) rfl)
   simp only at y1 g5 x5 k5'
   subst y1
   have d := d.drawC (j := 0) (i := 1) rfl rfl x5 k5' _ (fun y => TmG base 10 (iS h4.length h5.length) y t' (termV k' n' s' a' m')) g5 (fun U y y' ky hs z => TmG.kp _ _ _ U y y' _ _ ky hs z) (fun b hb => hb)
   refine W.bs e5 ?_
   ((try simp only [n1, n2, n3, n4, n5, n6] at d); (with_reducible repeat first | refine W.a1 d ?_ | refine W.a2 ?_ | refine W.a3 ?_ | refine W.bo ?_ | refine W.a5 d fun hw d lw kw => ?_ | refine W.a6 d ?_ | refine W.a7 ?_ | refine W.a8 ?_))
   have d := (d.frontR (Del.at (i := 3) rfl)).takeR 3
   have d := d.frontR (Del.at (i := 2) rfl)
   have d := d.frontR (Del.at (i := 2) rfl)
   simp only [n5, n6] at d
   exact W.inl ⟨rfl, t', k', n', s', a', m', _, b5, d⟩
  ·refine W.inl ⟨rfl, t, k1, k2, k3, k4, k5, C, (tOk_B (gt.ok3 (by decide))).1, ?_⟩
   exact d.re (r := rTm base 4 C t (termV k1 k2 k3 k4 k5)) (r' := rTm base 10 C t (termV k1 k2 k3 k4 k5)) (Upd.at (i := 2) rfl) rfl rfl (TmG.le (by omega) (d.rs (i := 2) rfl)) (fun U y y' k hs z => TmG.kp _ _ _ U y y' _ _ k hs z) (fun b hb => hb)
 obtain ⟨q1, h6⟩ := q
 obtain ⟨e, t', k', n', s', a', m', S, hB, d⟩ := hq
 simp only at e d
 subst e
 ((try simp only [n1, n2, n3, n4, n5, n6] at d); (with_reducible repeat first | refine W.a1 d ?_ | refine W.a2 ?_ | refine W.a3 ?_ | refine W.bo ?_ | refine W.a5 d fun hw d lw kw => ?_ | refine W.a6 d ?_ | refine W.a7 ?_ | refine W.a8 ?_))
 have fr := d.rfr (i := 2) rfl rfl
 have lt := d.rlt (i := 2) rfl
 have hdj : ∀ b, S b → b ≠ cb := fun b hb e => by
  have dj := d.dj
  simp only [List.pairwise_cons] at dj
  exact dj.2.1 _ (.head _) rfl b e hb
 exact W.ret ⟨t', _, S, rfl, d.rs (i := 2) rfl, fun b hb => ⟨(fr b hb).resolve_left (hdj b hb), lt b hb⟩, hB, d.cur0, d.kb⟩
theorem AcG.setPid {base f : Nat} {S : Fp} {h : AH} {A : Ac} {cs : List Value} (x : AcG base f S h A cs) (v : Int) : AcG base f S h ⟨v, A.pc, A.regs, A.box, A.links⟩ (setAt cs 0 [.int .i64 v]) := by
 obtain ⟨a, b, g, S1, S2, S3, rfl, h1⟩ := x
 exact ⟨a, b, g, S1, S2, S3, rfl, h1⟩
theorem AcG.dropReg {base f : Nat} {S : Fp} {h : AH} {A : Ac} {p c : Int} {a b g : Option Addr} {n m q : Nat} (x : AcG base f S h A (acV p c a n b m g q)) {t : Tm} {R : List Tm} (e : A.regs = t :: R) : AcG base f S h ⟨A.pid, A.pc, R, A.box, A.links⟩ (acV p c (shiftA a (1 * 4)) R.length b m g q) := by
 obtain ⟨a2, b2, g2, S1, S2, S3, ec, r1, r2, r3, hg, s1, s2, s3, d1, d2, d3⟩ := x
 injection ec with e1 ec; injection ec with e2 ec; injection ec with e3 ec; injection ec with e4 ec; injection ec with e5 _
 injection e1 with _ e1; injection e2 with _ e2; injection e3 with e3 e3' _; injection e4 with e4 e4' _; injection e5 with e5 e5' _
 subst e1; subst e2; subst e3; subst e3'; subst e4; subst e4'; subst e5; subst e5'
 rw [e] at r1
 obtain ⟨C, tcs, bd, hC, rfl, cells, hCS, hCb, rt⟩ := r1.uncons (TmG.mo _ _) (by decide)
 exact ⟨_, b, g, fun i => S1 i ∧ ¬ C i, S2, S3, rfl, rt, r2, r3, hg, fun i hi => s1 i hi.1, s2, s3, fun i hi => d1 i hi.1, fun i hi => d2 i hi.1, d3⟩
def AnyA (A : Ac) : Prop := A.regs.length ≤ 8 ∧ A.box.length ≤ 2 ∧ A.links.length ≤ 2 ∧ (∀ t ∈ A.regs, TmB 10 t) ∧ ∀ t ∈ A.box, TmB 10 t
theorem l9Any_run {base cb : Nat} {h : AH} {ca : Option Addr} {n : Nat} (x : CurR base cb h) (hn : n ≤ 200) :
  ∃ A cs h', run (Et base) 157 [.pointer (at0 cb), .slice ca n n] h = some (.agg cs.toArray, h') ∧ AcG base 10 (iS h.length h'.length) h' A cs ∧ AnyA A ∧ CurR base cb h' ∧ KB (· = cb) h h' := by
 have hlt := x.lt
 have hb : base ≤ h.length := by omega
 suffices w : Wp (run (Et base) 157 [.pointer (at0 cb), .slice ca n n] h) fun o => ∃ A cs S, o.1 = .agg cs.toArray ∧ AcG base 10 S o.2 A cs ∧ (∀ b, S b → h.length ≤ b ∧ b < o.2.length) ∧ AnyA A ∧ CurR base cb o.2 ∧ KB (· = cb) h o.2 by
  obtain ⟨⟨o1, o2⟩, e, A, cs, S, y1, y2, y3, y4⟩ := w
  simp only at y1 y2 y3 y4
  subst y1
  exact ⟨A, cs, o2, e, AcG.mo _ _ _ _ _ _ _ (fun b hb => y3 b hb) y2, y4⟩
 have d := Hs.startC x hb
 refine W.of (fun r hx => Am.r157 hx) ?_
 ((try simp only [n1, n2, n3, n4, n5, n6] at d); (with_reducible repeat first | refine W.a1 d ?_ | refine W.a2 ?_ | refine W.a3 ?_ | refine W.bo ?_ | refine W.a5 d fun hw d lw kw => ?_ | refine W.a6 d ?_ | refine W.a7 ?_ | refine W.a8 ?_); (refine W.nD d fun h1 d _ kh1 => ?_); (with_reducible repeat first | refine W.a1 d ?_ | refine W.a2 ?_ | refine W.a3 ?_ | refine W.bo ?_ | refine W.a5 d fun hw d lw kw => ?_ | refine W.a6 d ?_ | refine W.a7 ?_ | refine W.a8 ?_))
 refine W.ite (fun c => ?_) (fun c => ?_)
 ·((try simp only [n1, n2, n3, n4, n5, n6] at d); (with_reducible repeat first | refine W.a1 d ?_ | refine W.a2 ?_ | refine W.a3 ?_ | refine W.bo ?_ | refine W.a5 d fun hw d lw kw => ?_ | refine W.a6 d ?_ | refine W.a7 ?_ | refine W.a8 ?_))
  exact W.ret ⟨⟨0, 0, [], [], []⟩, _, fun _ => False, rfl, zeroD, fun _ h => h.elim, ⟨by decide, by decide, by decide, (by intro t ht; cases ht), (by intro t ht; cases ht)⟩, d.cur0, d.kb⟩
 have c : ¬ (n : Int) = 0 := by simpa using c
 obtain ⟨A, cs, h2, e2, g2, good, box2, x2, k2⟩ := l9Draw_run (ca := ca) d.cur0 (n := n) (by omega)
 refine W.bs e2 ?_
 have d := d.drawC (j := 0) (i := 1) rfl rfl x2 k2 _ (fun y => AcG base 10 (iS h1.length h2.length) y A cs) g2 (fun U y y' ky hs z => AcG.kp _ _ _ U y y' _ _ ky hs z) (fun b hb => hb)
 obtain ⟨a, b, g, rfl⟩ := g2.form2
 ((try simp only [n1, n2, n3, n4, n5, n6] at d); (with_reducible repeat first | refine W.a1 d ?_ | refine W.a2 ?_ | refine W.a3 ?_ | refine W.bo ?_ | refine W.a5 d fun hw d lw kw => ?_ | refine W.a6 d ?_ | refine W.a7 ?_ | refine W.a8 ?_); (refine W.nD d fun h3 d _ kh3 => ?_); (with_reducible repeat first | refine W.a1 d ?_ | refine W.a2 ?_ | refine W.a3 ?_ | refine W.bo ?_ | refine W.a5 d fun hw d lw kw => ?_ | refine W.a6 d ?_ | refine W.a7 ?_ | refine W.a8 ?_))
 have d : Hs base (· = cb) h hw [(h2.length, 65, acV A.pid A.pc a A.regs.length b A.box.length g A.links.length), (h.length, 65, acV 0 0 none 0 none 0 none 0)] [rArg base h, rCur base cb h, rAc base (iS h1.length h2.length) A (acV A.pid A.pc a A.regs.length b A.box.length g A.links.length)] := d
 have any0 : AnyA A := ⟨by rw [good.1]; omega, box2, good.2.1, good.2.2.1, good.2.2.2⟩
 have r8 := good.1
 refine W.joinP (fun q => q.1 = [some (.pointer (at0 h.length)), some (.pointer (at0 h2.length))] ∧ ∃ A' S' cs', AnyA A' ∧ Hs base (· = cb) h q.2 [(h2.length, 65, cs'), (h.length, 65, acV 0 0 none 0 none 0 none 0)] [rArg base h, rCur base cb h, rAc base S' A' cs']) ?_ fun q hq => ?_
 ·obtain ⟨u, h4, e4, _, _, _, d, _⟩ := d.below (n := 12) (by omega)
  refine W.bs e4 ?_
  ((try simp only [n1, n2, n3, n4, n5, n6] at d); (with_reducible repeat first | refine W.a1 d ?_ | refine W.a2 ?_ | refine W.a3 ?_ | refine W.bo ?_ | refine W.a5 d fun hw d lw kw => ?_ | refine W.a6 d ?_ | refine W.a7 ?_ | refine W.a8 ?_))
  refine W.ite (fun c0 => ?_) (fun c0 => ?_)
  ·((try simp only [n1, n2, n3, n4, n5, n6] at d); (with_reducible repeat first | refine W.a1 d ?_ | refine W.a2 ?_ | refine W.a3 ?_ | refine W.bo ?_ | refine W.a5 d fun hw d lw kw => ?_ | refine W.a6 d ?_ | refine W.a7 ?_ | refine W.a8 ?_); (refine W.nD d fun h5 d _ kh5 => ?_); (with_reducible repeat first | refine W.a1 d ?_ | refine W.a2 ?_ | refine W.a3 ?_ | refine W.bo ?_ | refine W.a5 d fun hw d lw kw => ?_ | refine W.a6 d ?_ | refine W.a7 ?_ | refine W.a8 ?_))
   obtain ⟨v, h6, e6, _, d, _⟩ := d.pick (b := h4.length) (zs := [0, 99999, 100000]) (.head _) (by simp) (by simp)
   refine W.bs e6 ?_
   ((try simp only [n1, n2, n3, n4, n5, n6] at d); (with_reducible repeat first | refine W.a1 d ?_ | refine W.a2 ?_ | refine W.a3 ?_ | refine W.bo ?_ | refine W.a5 d fun hw d lw kw => ?_ | refine W.a6 d ?_ | refine W.a7 ?_ | refine W.a8 ?_))
   have x' : AcG base 10 (iS h1.length h2.length) hw A _ := d.rs (i := 2) rfl
   have d := (d.tl).re (r := rAc base (iS h1.length h2.length) A (acV A.pid A.pc a A.regs.length b A.box.length g A.links.length)) (r' := rAc base (iS h1.length h2.length) ⟨v, A.pc, A.regs, A.box, A.links⟩ (acV v A.pc a A.regs.length b A.box.length g A.links.length)) (Upd.at (i := 2) rfl) rfl rfl (x'.setPid v) (fun U y y' k hs z => AcG.kp _ _ _ U y y' _ _ k hs z) (fun b hb => hb)
   exact W.inl ⟨rfl, ⟨v, A.pc, A.regs, A.box, A.links⟩, _, _, any0, d⟩
  refine W.ite (fun c1 => ?_) (fun c1 => ?_)
  ·((try simp only [n1, n2, n3, n4, n5, n6] at d); (with_reducible repeat first | refine W.a1 d ?_ | refine W.a2 ?_ | refine W.a3 ?_ | refine W.bo ?_ | refine W.a5 d fun hw d lw kw => ?_ | refine W.a6 d ?_ | refine W.a7 ?_ | refine W.a8 ?_); (refine W.nD d fun h5 d _ kh5 => ?_); (with_reducible repeat first | refine W.a1 d ?_ | refine W.a2 ?_ | refine W.a3 ?_ | refine W.bo ?_ | refine W.a5 d fun hw d lw kw => ?_ | refine W.a6 d ?_ | refine W.a7 ?_ | refine W.a8 ?_))
   obtain ⟨v, h6, e6, _, d, _⟩ := d.pick (b := h4.length) (zs := [-1, 200, (n : Int)]) (.head _) (by simp) (by simp)
   refine W.bs e6 ?_
   ((try simp only [n1, n2, n3, n4, n5, n6] at d); (with_reducible repeat first | refine W.a1 d ?_ | refine W.a2 ?_ | refine W.a3 ?_ | refine W.bo ?_ | refine W.a5 d fun hw d lw kw => ?_ | refine W.a6 d ?_ | refine W.a7 ?_ | refine W.a8 ?_))
   have x' : AcG base 10 (iS h1.length h2.length) hw A _ := d.rs (i := 2) rfl
   have d := (d.tl).re (r := rAc base (iS h1.length h2.length) A (acV A.pid A.pc a A.regs.length b A.box.length g A.links.length)) (r' := rAc base (iS h1.length h2.length) ⟨A.pid, v, A.regs, A.box, A.links⟩ (acV A.pid v a A.regs.length b A.box.length g A.links.length)) (Upd.at (i := 2) rfl) rfl rfl (x'.setPc v) (fun U y y' k hs z => AcG.kp _ _ _ U y y' _ _ k hs z) (fun b hb => hb)
   exact W.inl ⟨rfl, ⟨A.pid, v, A.regs, A.box, A.links⟩, _, _, any0, d⟩
  refine W.ite (fun c2 => ?_) (fun c2 => ?_)
  ·((try simp only [n1, n2, n3, n4, n5, n6] at d); (with_reducible repeat first | refine W.a1 d ?_ | refine W.a2 ?_ | refine W.a3 ?_ | refine W.bo ?_ | refine W.a5 d fun hw d lw kw => ?_ | refine W.a6 d ?_ | refine W.a7 ?_ | refine W.a8 ?_))
   obtain ⟨t, tcs, h5, e5, g5, b5, x5, k5⟩ := l1AnyG_run d.cur0
   refine W.bs e5 ?_
   have d := d.drawC (j := 0) (i := 1) rfl rfl x5 k5 _ (fun y => TmG base 10 (iS h4.length h5.length) y t tcs) g5 (fun U y y' ky hs z => TmG.kp _ _ _ U y y' _ _ ky hs z) (fun b hb => hb)
   obtain ⟨k1, k2, k3, k4, k5, rfl⟩ := g5.form
   ((try simp only [n1, n2, n3, n4, n5, n6] at d); (with_reducible repeat first | refine W.a1 d ?_ | refine W.a2 ?_ | refine W.a3 ?_ | refine W.bo ?_ | refine W.a5 d fun hw d lw kw => ?_ | refine W.a6 d ?_ | refine W.a7 ?_ | refine W.a8 ?_))
   obtain ⟨ad, h6, S', ec, ew, d, _⟩ := Hs.reg (A := A) (i := 0) d (by omega)
   injection ec with ec
   injection ec with ea _ _
   subst ea
   refine W.bs rfl (W.bs ew ?_)
   refine W.inl ⟨rfl, ⟨A.pid, A.pc, A.regs.set 0 t, A.box, A.links⟩, S', _, ⟨by simp [r8], box2, good.2.1, fun u hu => ?_, good.2.2.2⟩, d⟩
   rcases List.mem_or_eq_of_mem_set hu with hu | rfl
   ·exact good.2.2.1 u hu
   ·exact b5
  refine W.ite (fun c3 => ?_) (fun c3 => ?_)
  ·((try simp only [n1, n2, n3, n4, n5, n6] at d); (with_reducible repeat first | refine W.a1 d ?_ | refine W.a2 ?_ | refine W.a3 ?_ | refine W.bo ?_ | refine W.a5 d fun hw d lw kw => ?_ | refine W.a6 d ?_ | refine W.a7 ?_ | refine W.a8 ?_))
   obtain ⟨a2, b2, g2, S1, S2, S3, ec, r1, _⟩ := (d.rs (i := 2) rfl : AcG base 10 (iS h1.length h2.length) h4 A _)
   injection ec with _ ec; injection ec with _ ec; injection ec with e3 ec
   injection e3 with e3 _ _
   subst e3
   refine W.ifT ⟨by omega, (by show (1 : Int) ≤ ((A.regs.length : Nat) : Int); omega), by omega, r1.tyOk _⟩ ?_
   cases hr : A.regs with
   | nil => rw [hr] at r8; simp at r8
   | cons t0 R =>
    rw [← hr]
    have hR : R.length = 7 := by rw [hr] at r8; simpa using r8
    ((try simp only [n1, n2, n3, n4, n5, n6] at d); (with_reducible repeat first | refine W.a1 d ?_ | refine W.a2 ?_ | refine W.a3 ?_ | refine W.bo ?_ | refine W.a5 d fun hw d lw kw => ?_ | refine W.a6 d ?_ | refine W.a7 ?_ | refine W.a8 ?_))
    have x' : AcG base 10 (iS h1.length h2.length) hw A _ := d.rs (i := 2) rfl
    have d := d.re (r := rAc base (iS h1.length h2.length) A (acV A.pid A.pc a A.regs.length b A.box.length g A.links.length)) (r' := rAc base (iS h1.length h2.length) ⟨A.pid, A.pc, R, A.box, A.links⟩ (acV A.pid A.pc (shiftA a (1 * 4)) R.length b A.box.length g A.links.length)) (Upd.at (i := 2) rfl) rfl rfl (x'.dropReg hr) (fun U y y' k hs z => AcG.kp _ _ _ U y y' _ _ k hs z) (fun b hb => hb)
    refine W.inl ⟨rfl, ⟨A.pid, A.pc, R, A.box, A.links⟩, (iS h1.length h2.length), acV A.pid A.pc (shiftA a (1 * 4)) R.length b A.box.length g A.links.length, ⟨(by show R.length ≤ 8; omega), box2, good.2.1, fun u hu => good.2.2.1 u (by rw [hr]; exact .tail _ hu), good.2.2.2⟩, ?_⟩
    have e7 : Int.toNat ((A.regs.length : Nat) : Int) - Int.toNat 1 = R.length := by rw [r8, hR]; rfl
    rw [e7] at d
    exact d
  refine W.ite (fun c4 => ?_) (fun c4 => ?_)
  ·((try simp only [n1, n2, n3, n4, n5, n6] at d); (with_reducible repeat first | refine W.a1 d ?_ | refine W.a2 ?_ | refine W.a3 ?_ | refine W.bo ?_ | refine W.a5 d fun hw d lw kw => ?_ | refine W.a6 d ?_ | refine W.a7 ?_ | refine W.a8 ?_); (refine W.nD d fun h5 d _ kh5 => ?_); (with_reducible repeat first | refine W.a1 d ?_ | refine W.a2 ?_ | refine W.a3 ?_ | refine W.bo ?_ | refine W.a5 d fun hw d lw kw => ?_ | refine W.a6 d ?_ | refine W.a7 ?_ | refine W.a8 ?_))
   obtain ⟨v, h6, e6, _, d, _⟩ := d.pick (b := h4.length) (zs := [2, 3, 4, A.pid]) (.head _) (by simp) (by simp)
   refine W.bs e6 ?_
   ((try simp only [n1, n2, n3, n4, n5, n6] at d); (with_reducible repeat first | refine W.a1 d ?_ | refine W.a2 ?_ | refine W.a3 ?_ | refine W.bo ?_ | refine W.a5 d fun hw d lw kw => ?_ | refine W.a6 d ?_ | refine W.a7 ?_ | refine W.a8 ?_); (refine W.nD d fun h7 d _ kh7 => ?_); (with_reducible repeat first | refine W.a1 d ?_ | refine W.a2 ?_ | refine W.a3 ?_ | refine W.bo ?_ | refine W.a5 d fun hw d lw kw => ?_ | refine W.a6 d ?_ | refine W.a7 ?_ | refine W.a8 ?_))
   have d := d.front (Del.at (i := 2) rfl)
   simp only [n5, n6] at d
   have o13 : Own base 3 hw (at0 h6.length) (iv .i64 [3, v]) := d.ol (.tail _ (.head _))
   have x13 : AcG base 10 (iS h1.length h2.length) hw A _ := d.rs (i := 2) rfl
   have d := d.unbox (Del.at (i := 1) rfl)
   simp only [n5, n6] at d
   have d := d.front (Del.at (i := 2) rfl)
   simp only [n5, n6] at d
   have d := d.front (Del.at (i := 1) rfl)
   simp only [n5, n6] at d
   have d := d.takeD 2
   have hne : ∀ i, blk (at0 h6.length) i → ¬ (iS h1.length h2.length) i := fun i hi h2 => by
    rw [blk_at0] at hi
    subst hi
    have dj := d.dj
    simp only [List.pairwise_cons, List.cons_append, List.nil_append] at dj
    exact dj.2.2.1 _ (.head _) rfl _ h2 rfl
   have x14 := x13.setLinks (KB.refl NoB hw) (fun _ _ h => h) o13 hne
   have d := d.joinP (r := rAc base (iS h1.length h2.length) A (acV A.pid A.pc a A.regs.length b A.box.length g A.links.length)) (s := ⟨(· = h6.length), true, fun y => Own base 3 y (at0 h6.length) (iv .i64 [3, v])⟩) (AcG.kp base 10) (Upd.at (i := 3) rfl) (R2 := [rArg base h, rCur base cb h, rAc base (fun b => (iS h1.length h2.length) b ∨ blk (at0 h6.length) b) ⟨A.pid, A.pc, A.regs, A.box, [3, v]⟩ (acV A.pid A.pc a A.regs.length b A.box.length (at0 h6.length) 2), ⟨fun _ => False, true, fun _ => True⟩]) (Upd.at (i := 2) rfl) rfl rfl (KB.refl NoB hw) x14 (fun _ h => h.elim) (fun b hb => hb.imp id fun hb => .inl (blk_at0.1 hb))
   have d := d.takeR 3
   exact W.inl ⟨rfl, ⟨A.pid, A.pc, A.regs, A.box, [3, v]⟩, (fun b => (iS h1.length h2.length) b ∨ blk (at0 h6.length) b), acV A.pid A.pc a A.regs.length b A.box.length (at0 h6.length) 2, ⟨any0.1, box2, by simp, good.2.2.1, good.2.2.2⟩, d⟩
  ·exact W.inl ⟨rfl, A, _, _, any0, d⟩
 obtain ⟨q1, h14⟩ := q
 obtain ⟨e, A3, S3, cs3, g3, d⟩ := hq
 simp only at e d
 subst e
 obtain ⟨a3, b3', g3', rfl⟩ := (d.rs (i := 2) rfl : AcG base 10 S3 h14 A3 cs3).form2
 ((try simp only [n1, n2, n3, n4, n5, n6] at d); (with_reducible repeat first | refine W.a1 d ?_ | refine W.a2 ?_ | refine W.a3 ?_ | refine W.bo ?_ | refine W.a5 d fun hw d lw kw => ?_ | refine W.a6 d ?_ | refine W.a7 ?_ | refine W.a8 ?_))
 have fr := d.rfr (i := 2) rfl rfl
 have lt := d.rlt (i := 2) rfl
 have hdj : ∀ b, S3 b → b ≠ cb := fun b hb e => by
  have dj := d.dj
  simp only [List.pairwise_cons] at dj
  exact dj.2.1 _ (.head _) rfl b e hb
 exact W.ret ⟨A3, _, S3, rfl, d.rs (i := 2) rfl, fun b hb => ⟨(fr b hb).resolve_left (hdj b hb), lt b hb⟩, g3, d.cur0, d.kb⟩
end Go.Proofs.Ytjmkbglnjklbcaa.Am
set_option linter.unusedSimpArgs false
set_option linter.unusedVariables false
namespace Go.Proofs.Ytjmkbglnjklbcaa.Am
open Go Go.RowKit
theorem Hs.newD {base : Nat} {W : Fp} {h0 h h' : AH} {D : Ds} (d : Hs base W h0 h D []) (x : CurR base h.length h') (k : KB NoB h h') : Hs base W h0 h' D [rArg base h', rCur base h.length h'] := by
 have d' := d.kN k
 refine ⟨d'.ge, d'.kb, d'.own, d'.nd, fun r hr => ?_, ?_⟩
 ·simp only [List.mem_cons, List.not_mem_nil, or_false] at hr
  have hb := d.ge
  have hk := k.1
  rcases hr with rfl | rfl
  ·refine ⟨⟨Nat.le_trans hb hk, fun _ _ => rfl⟩, argOk, fun b (hb2 : b < base) => by omega, fun m => (nomatch m), fun x hx => ?_⟩
   have := ((d.own x hx).1.lt (blk_at0.2 rfl)).1
   show ¬ x.1 < base
   omega
  ·refine ⟨x.k fun _ _ => rfl, CurK.kp, fun b hb2 => by simp only at hb2; subst hb2; exact x.lt.2, fun _ b hb2 => by simp only at hb2; subst hb2; exact .inr d.kb.1, fun x hx => ?_⟩
   have := ((d.own x hx).1.lt (blk_at0.2 rfl)).2
   show ¬ x.1 = h.length
   omega
 ·simp only [List.pairwise_cons, List.mem_cons, List.not_mem_nil, or_false]
  refine ⟨fun r hr => ?_, ?_⟩
  ·subst hr
   intro _ b h1 h2
   simp only at h1 h2
   have := x.lt.1
   omega
  ·simp
def CodR (l : List In) (ao : Option Addr) (y : AH) : Prop := Sl y ao (insR l) ∧ l.length ≤ 200 ∧ ∀ y ∈ l, y.s.size ≤ 1048576
theorem CodR.kp {l : List In} {ao : Option Addr} : ∀ (U : Fp) (h h' : AH), KB U h h' → (∀ b, blk ao b → ¬ U b) → CodR l ao h → CodR l ao h' := fun U h h' k hs x => ⟨x.1.keep k hs, x.2⟩
abbrev rCod (l : List In) (ao : Option Addr) : Rs := ⟨blk ao, true, CodR l ao⟩
def DrawA (base : Nat) (h : AH) (l : List In) (ao : Option Addr) (A : Ac) (cs : List Value) (S : Fp) (h' : AH) : Prop := CodR l ao h' ∧ AcG base 10 S h' A cs ∧ AnyA A ∧ (∀ b, blk ao b ∨ S b → h.length ≤ b ∧ b < h'.length) ∧ KB NoB h h' ∧ (∀ b, blk ao b → ¬ S b)
theorem drawActorOk_run {base : Nat} {h : AH} {a : Option Addr} {zs : List Int} (s : Sl h a (iv .u8 zs)) (hz : zs = [] ∨ ∀ b, blk a b → b < base) (hl : zs.length ≤ 9223372036854775806) (hb : base ≤ h.length) :
  ∃ l ao A cs S h', run (Et base) 92 [.slice a zs.length zs.length] h = some (.tuple #[.slice ao (List.length l) (List.length l), .agg (List.toArray cs)], h') ∧ DrawA base h l ao A cs S h' := by
 suffices w : Wp (run (Et base) 92 [.slice a zs.length zs.length] h) fun o => ∃ l ao A cs S, o.1 = .tuple #[.slice ao (List.length l) (List.length l), .agg (List.toArray cs)] ∧ DrawA base h l ao A cs S o.2 by
  obtain ⟨⟨o1, o2⟩, e, l, ao, A, cs, S, y1, y2⟩ := w
  simp only at y1 y2
  subst y1
  exact ⟨l, ao, A, cs, S, o2, e, y2⟩
 have d := Hs.start hb
 refine W.of (fun r hx => Am.r92 hx) ?_
 ((try simp only [n1, n2, n3, n4, n5, n6] at d); (with_reducible repeat first | refine W.a1 d ?_ | refine W.a2 ?_ | refine W.a3 ?_ | refine W.bo ?_ | refine W.a5 d fun hw d lw kw => ?_ | refine W.a6 d ?_ | refine W.a7 ?_ | refine W.a8 ?_); (refine W.nD d fun h1 d _ kh1 => ?_); (with_reducible repeat first | refine W.a1 d ?_ | refine W.a2 ?_ | refine W.a3 ?_ | refine W.bo ?_ | refine W.a5 d fun hw d lw kw => ?_ | refine W.a6 d ?_ | refine W.a7 ?_ | refine W.a8 ?_))
 obtain ⟨h2, e2, x2, k2, l2⟩ := l1New_run (s.keepN d.kb) hz hl d.ge
 refine W.bs e2 ?_
 have d := d.newD x2 k2
 ((try simp only [n1, n2, n3, n4, n5, n6] at d); (with_reducible repeat first | refine W.a1 d ?_ | refine W.a2 ?_ | refine W.a3 ?_ | refine W.bo ?_ | refine W.a5 d fun hw d lw kw => ?_ | refine W.a6 d ?_ | refine W.a7 ?_ | refine W.a8 ?_))
 obtain ⟨l, ao, h3, e3, hok, o3, hbl, hs3, x3, k3⟩ := l8Code_run d.cur0
 obtain ⟨hl200, hl1, _⟩ := codeOk_spec hok
 have d := d.drawC (j := 0) (i := 1) rfl rfl x3 k3 (blk ao) (CodR l ao) ⟨o3.sl, hl200, hs3⟩ CodR.kp (fun b hb => ⟨hbl b hb, (o3.lt hb).2⟩)
 refine W.bs e3 ?_
 ((try simp only [n1, n2, n3, n4, n5, n6] at d); (with_reducible repeat first | refine W.a1 d ?_ | refine W.a2 ?_ | refine W.a3 ?_ | refine W.bo ?_ | refine W.a5 d fun hw d lw kw => ?_ | refine W.a6 d ?_ | refine W.a7 ?_ | refine W.a8 ?_))
 refine W.joinP (fun q => ∃ (l' : List In) (ao' : Option Addr), q.1 = [some (.pointer (at0 h.length)), some (.pointer (at0 h1.length)), some (.slice ao' l'.length l'.length)] ∧ Hs base NoB h q.2 [(h.length, 65, acV 0 0 none 0 none 0 none 0)] [rArg base h2, rCur base h1.length h2, rCod l' ao']) ?_ fun q hq => ?_
 ·obtain ⟨b, h4, e4, d, _⟩ := d.once (n := 8) (by omega)
  refine W.bs e4 ?_
  ((try simp only [n1, n2, n3, n4, n5, n6] at d); (with_reducible repeat first | refine W.a1 d ?_ | refine W.a2 ?_ | refine W.a3 ?_ | refine W.bo ?_ | refine W.a5 d fun hw d lw kw => ?_ | refine W.a6 d ?_ | refine W.a7 ?_ | refine W.a8 ?_))
  refine W.ite (fun c => ?_) (fun c => ?_)
  ·obtain ⟨l', ao', h5, e5, s5, l5, z5, f5, x5, k5⟩ := l8Any_run d.cur0
   refine W.bs e5 ?_
   have d := d.drawC (j := 0) (i := 1) rfl rfl x5 k5 (blk ao') (CodR l' ao') ⟨s5, l5, z5⟩ CodR.kp f5
   have d := (d.frontR (Del.at (i := 3) rfl)).takeR 3
   have d := d.frontR (Del.at (i := 2) rfl)
   have d := d.frontR (Del.at (i := 2) rfl)
   simp only [n5, n6] at d
   ((try simp only [n1, n2, n3, n4, n5, n6] at d); (with_reducible repeat first | refine W.a1 d ?_ | refine W.a2 ?_ | refine W.a3 ?_ | refine W.bo ?_ | refine W.a5 d fun hw d lw kw => ?_ | refine W.a6 d ?_ | refine W.a7 ?_ | refine W.a8 ?_))
   exact W.inl ⟨l', ao', rfl, d⟩
  ·exact W.inl ⟨l, ao, rfl, d⟩
 obtain ⟨q1, h5⟩ := q
 obtain ⟨l', ao', e, d⟩ := hq
 simp only at e d
 subst e
 ((try simp only [n1, n2, n3, n4, n5, n6] at d); (with_reducible repeat first | refine W.a1 d ?_ | refine W.a2 ?_ | refine W.a3 ?_ | refine W.bo ?_ | refine W.a5 d fun hw d lw kw => ?_ | refine W.a6 d ?_ | refine W.a7 ?_ | refine W.a8 ?_))
 obtain ⟨q1, q2, q3⟩ : CodR l' ao' h5 := d.rs (i := 2) rfl
 obtain ⟨A, cs, h6, e6, g6, any6, x6, k6⟩ := l9Any_run (ca := ao') d.cur0 q2
 refine W.bs e6 ?_
 have d := d.drawC (j := 0) (i := 1) rfl rfl x6 k6 _ (fun y => AcG base 10 (iS h5.length h6.length) y A cs) g6 (fun U y y' ky hs z => AcG.kp _ _ _ U y y' _ _ ky hs z) (fun b hb => hb)
 obtain ⟨a', b', g', rfl⟩ := g6.form2
 ((try simp only [n1, n2, n3, n4, n5, n6] at d); (with_reducible repeat first | refine W.a1 d ?_ | refine W.a2 ?_ | refine W.a3 ?_ | refine W.bo ?_ | refine W.a5 d fun hw d lw kw => ?_ | refine W.a6 d ?_ | refine W.a7 ?_ | refine W.a8 ?_))
 refine W.ret ⟨l', ao', A, acV A.pid A.pc a' A.regs.length b' A.box.length g' A.links.length, (iS h5.length h6.length), rfl, d.rs (i := 2) rfl, d.rs (i := 3) rfl, any6, fun b hb => ?_, d.kb, fun b h1 h2 => ?_⟩
 ·rcases hb with hb | hb
  ·exact ⟨(d.rfr (i := 2) rfl rfl b hb).resolve_left (fun h => h), d.rlt (i := 2) rfl b hb⟩
  ·exact ⟨(d.rfr (i := 3) rfl rfl b hb).resolve_left (fun h => h), d.rlt (i := 3) rfl b hb⟩
 ·have dj := d.dj
  simp only [List.pairwise_cons, List.cons_append, List.nil_append] at dj
  exact dj.2.2.1 _ (.head _) rfl b h1 h2
theorem drawStepActor_run {base : Nat} {h : AH} {a : Option Addr} {zs : List Int} (s : Sl h a (iv .u8 zs)) (hz : zs = [] ∨ ∀ b, blk a b → b < base) (hl : zs.length ≤ 9223372036854775806) (hb : base ≤ h.length) :
  ∃ l ao A cs S n h', run (Et base) 39 [.slice a zs.length zs.length] h = some (.tuple #[.slice ao (List.length l) (List.length l), .agg (List.toArray cs), .int .i64 n], h') ∧ DrawA base h l ao A cs S h' := by
 suffices w : Wp (run (Et base) 39 [.slice a zs.length zs.length] h) fun o => ∃ l ao A cs S n, o.1 = .tuple #[.slice ao (List.length l) (List.length l), .agg (List.toArray cs), .int .i64 n] ∧ DrawA base h l ao A cs S o.2 by
  obtain ⟨⟨o1, o2⟩, e, l, ao, A, cs, S, n, y1, y2⟩ := w
  simp only at y1 y2
  subst y1
  exact ⟨l, ao, A, cs, S, n, o2, e, y2⟩
 have d := Hs.start hb
 refine W.of (fun r hx => Am.r39 hx) ?_
 ((try simp only [n1, n2, n3, n4, n5, n6] at d); (with_reducible repeat first | refine W.a1 d ?_ | refine W.a2 ?_ | refine W.a3 ?_ | refine W.bo ?_ | refine W.a5 d fun hw d lw kw => ?_ | refine W.a6 d ?_ | refine W.a7 ?_ | refine W.a8 ?_); (refine W.nD d fun h1 d _ kh1 => ?_); (with_reducible repeat first | refine W.a1 d ?_ | refine W.a2 ?_ | refine W.a3 ?_ | refine W.bo ?_ | refine W.a5 d fun hw d lw kw => ?_ | refine W.a6 d ?_ | refine W.a7 ?_ | refine W.a8 ?_))
 obtain ⟨h2, e2, x2, k2, l2⟩ := l1New_run (s.keepN d.kb) hz hl d.ge
 refine W.bs e2 ?_
 have d := d.newD x2 k2
 ((try simp only [n1, n2, n3, n4, n5, n6] at d); (with_reducible repeat first | refine W.a1 d ?_ | refine W.a2 ?_ | refine W.a3 ?_ | refine W.bo ?_ | refine W.a5 d fun hw d lw kw => ?_ | refine W.a6 d ?_ | refine W.a7 ?_ | refine W.a8 ?_))
 obtain ⟨l, ao, A, cs, S, h3, e3, c3, g3, any3, f3, k3, dd3⟩ := drawActorOk_run (base := base) (h := h2) (s.keepN d.kb) hz hl d.ge
 have d := d.call2 k3 (blk ao) S (CodR l ao) (fun y => AcG base 10 S y A cs) c3 g3 CodR.kp (fun U y y' ky hs z => AcG.kp _ _ _ U y y' _ _ ky hs z) (fun b hb => f3 b (.inl hb)) (fun b hb => f3 b (.inr hb)) dd3
 refine W.bs e3 ?_
 obtain ⟨a', b', g', rfl⟩ := g3.form2
 ((try simp only [n1, n2, n3, n4, n5, n6] at d); (with_reducible repeat first | refine W.a1 d ?_ | refine W.a2 ?_ | refine W.a3 ?_ | refine W.bo ?_ | refine W.a5 d fun hw d lw kw => ?_ | refine W.a6 d ?_ | refine W.a7 ?_ | refine W.a8 ?_); (refine W.nD d fun h4 d _ kh4 => ?_); (with_reducible repeat first | refine W.a1 d ?_ | refine W.a2 ?_ | refine W.a3 ?_ | refine W.bo ?_ | refine W.a5 d fun hw d lw kw => ?_ | refine W.a6 d ?_ | refine W.a7 ?_ | refine W.a8 ?_); (refine W.nD d fun h5 d _ kh5 => ?_); (with_reducible repeat first | refine W.a1 d ?_ | refine W.a2 ?_ | refine W.a3 ?_ | refine W.bo ?_ | refine W.a5 d fun hw d lw kw => ?_ | refine W.a6 d ?_ | refine W.a7 ?_ | refine W.a8 ?_))
 obtain ⟨v, h6, e6, _, d, _⟩ := d.pick (b := List.length hw) (zs := [9, 10, 11, 12, 99999, 0, 100000]) (.head _) (by simp) (by simp)
 refine W.bs e6 ?_
 ((try simp only [n1, n2, n3, n4, n5, n6] at d); (with_reducible repeat first | refine W.a1 d ?_ | refine W.a2 ?_ | refine W.a3 ?_ | refine W.bo ?_ | refine W.a5 d fun hw d lw kw => ?_ | refine W.a6 d ?_ | refine W.a7 ?_ | refine W.a8 ?_))
 refine W.ret ⟨l, ao, A, acV A.pid A.pc a' A.regs.length b' A.box.length g' A.links.length, S, v, rfl, d.rs (i := 2) rfl, d.rs (i := 3) rfl, any3, fun b hb => ?_, d.kb, dd3⟩
 rcases hb with hb | hb
 ·exact ⟨(d.rfr (i := 2) rfl rfl b hb).resolve_left (fun h => h), d.rlt (i := 2) rfl b hb⟩
 ·exact ⟨(d.rfr (i := 3) rfl rfl b hb).resolve_left (fun h => h), d.rlt (i := 3) rfl b hb⟩
theorem actors_law {base : Nat} {h : AH} {a : Option Addr} {zs : List Int} (s : Sl h a (iv .u8 zs)) (hz : zs = [] ∨ ∀ b, blk a b → b < base) (hb : base ≤ h.length) :
  Wp (run (Et base) 6 [.slice a zs.length zs.length] h) fun r => r.1 = .bool true := by
 have big : run (Et base) 38 [.slice a zs.length zs.length] h = some (.bool (decide (((zs.length : Nat) : Int) > (1048576 : Int))), h) := Am.r38 rfl
 have d := Hs.start hb
 refine W.of (fun r hx => Am.r6 hx) ?_
 refine W.bs big ?_
 ((try simp only [n1, n2, n3, n4, n5, n6] at d); (with_reducible repeat first | refine W.a1 d ?_ | refine W.a2 ?_ | refine W.a3 ?_ | refine W.bo ?_ | refine W.a5 d fun hw d lw kw => ?_ | refine W.a6 d ?_ | refine W.a7 ?_ | refine W.a8 ?_))
 refine W.ite (fun c => W.ret rfl) (fun c => ?_)
 have c : ¬ ((zs.length : Int) > 1048576) := by simpa using c
 obtain ⟨l, ao, A, cs, S, n, h3, e3, c3, g3, any3, f3, k3, dd3⟩ := drawStepActor_run (base := base) s hz (by omega) hb
 refine W.bs e3 ?_
 have d := d.call2 k3 (blk ao) S (CodR l ao) (fun y => AcG base 10 S y A cs) c3 g3 CodR.kp (fun U y y' ky hs z => AcG.kp _ _ _ U y y' _ _ ky hs z) (fun b hb => f3 b (.inl hb)) (fun b hb => f3 b (.inr hb)) dd3
 obtain ⟨a', b', g', rfl⟩ := g3.form2
 have hAB : AcB 10 A := ⟨by have := any3.1; omega, by have := any3.2.1; omega, by have := any3.2.2.1; omega, any3.2.2.2.1, any3.2.2.2.2⟩
 obtain ⟨_, hl200, hsz⟩ := c3
 have hL : ∀ x ∈ l, x.s.size ≤ 9223372036854775807 := fun x hx => by have := hsz x hx; omega
 ((try simp only [n1, n2, n3, n4, n5, n6] at d); (with_reducible repeat first | refine W.a1 d ?_ | refine W.a2 ?_ | refine W.a3 ?_ | refine W.bo ?_ | refine W.a5 d fun hw d lw kw => ?_ | refine W.a6 d ?_ | refine W.a7 ?_ | refine W.a8 ?_); (refine W.nD d fun h4 d _ kh4 => ?_); (with_reducible repeat first | refine W.a1 d ?_ | refine W.a2 ?_ | refine W.a3 ?_ | refine W.bo ?_ | refine W.a5 d fun hw d lw kw => ?_ | refine W.a6 d ?_ | refine W.a7 ?_ | refine W.a8 ?_))
 have q0 : CodR l ao hw := d.rs (i := 0) rfl
 have q1 : AcG base 10 S hw A _ := d.rs (i := 1) rfl
 obtain ⟨h5, e5, k5⟩ := implActorOk_run (base := base) hL (by omega) q0.1 hAB.M q1.acR d.ge
 refine W.bs e5 ?_
 have d := d.kN k5
 ((try simp only [n1, n2, n3, n4, n5, n6] at d); (with_reducible repeat first | refine W.a1 d ?_ | refine W.a2 ?_ | refine W.a3 ?_ | refine W.bo ?_ | refine W.a5 d fun hw d lw kw => ?_ | refine W.a6 d ?_ | refine W.a7 ?_ | refine W.a8 ?_))
 have q0 : CodR l ao h5 := d.rs (i := 0) rfl
 have q1 : AcG base 10 S h5 A _ := d.rs (i := 1) rfl
 refine W.wb (implStep_run (base := base) (next := n) hL (by omega) q0.1 hAB q1 (d.rlt (i := 1) rfl) d.ge) ?_
 rintro ⟨u, h6⟩ ⟨cs6, k, m, t, a6, m6, S6, T6, y1, g6, t6, dd6, f6, f6', k6⟩
 simp only at y1 g6 t6 k6
 subst y1
 have d := d.call2 k6 S6 T6 _ _ g6 t6 (fun U y y' ky hs z => AcG.kp _ _ _ U y y' _ _ ky hs z) (fun U y y' ky hs z => TmG.kp _ _ _ U y y' _ _ ky hs z) f6 f6' dd6
 obtain ⟨a7, b7, g7, rfl⟩ := g6.form2
 ((try simp only [n1, n2, n3, n4, n5, n6] at d); (with_reducible repeat first | refine W.a1 d ?_ | refine W.a2 ?_ | refine W.a3 ?_ | refine W.bo ?_ | refine W.a5 d fun hw d lw kw => ?_ | refine W.a6 d ?_ | refine W.a7 ?_ | refine W.a8 ?_); (refine W.nD d fun h7 d _ kh7 => ?_); (with_reducible repeat first | refine W.a1 d ?_ | refine W.a2 ?_ | refine W.a3 ?_ | refine W.bo ?_ | refine W.a5 d fun hw d lw kw => ?_ | refine W.a6 d ?_ | refine W.a7 ?_ | refine W.a8 ?_); (refine W.nD d fun h8 d _ kh8 => ?_); (with_reducible repeat first | refine W.a1 d ?_ | refine W.a2 ?_ | refine W.a3 ?_ | refine W.bo ?_ | refine W.a5 d fun hw d lw kw => ?_ | refine W.a6 d ?_ | refine W.a7 ?_ | refine W.a8 ?_))
 have q0 : CodR l ao hw := d.rs (i := 0) rfl
 have q1 : AcG base 10 S hw A _ := d.rs (i := 1) rfl
 obtain ⟨h9, e9, k9⟩ := specActorOk_run (base := base) hL (by omega) q0.1 hAB.M q1.acR d.ge
 refine W.bs e9 ?_
 have d := d.kN k9
 ((try simp only [n1, n2, n3, n4, n5, n6] at d); (with_reducible repeat first | refine W.a1 d ?_ | refine W.a2 ?_ | refine W.a3 ?_ | refine W.bo ?_ | refine W.a5 d fun hw d lw kw => ?_ | refine W.a6 d ?_ | refine W.a7 ?_ | refine W.a8 ?_))
 refine W.ifF (by simp) ?_
 by_cases cg : (!(acOk (9 + 1) l A && inB n 1 99999)) = true
 ·have es : stepA 9 l A n = (A, ⟨0, 0, 0, tmZ⟩) := by unfold stepA; rw [if_pos cg]
  rw [es] at d ⊢
  have last : ∀ {x : Option (Value × AH)}, True := fun {_} => trivial
  refine W.ite (fun c1 => ?_) (fun c1 => ?_)
  ·refine W.ite (fun c2 => ?_) (fun c2 => ?_)
   ·refine W.ite (fun c3 => W.ret rfl) (fun c3 => ?_)
    ((try simp only [n1, n2, n3, n4, n5, n6] at d); (with_reducible repeat first | refine W.a1 d ?_ | refine W.a2 ?_ | refine W.a3 ?_ | refine W.bo ?_ | refine W.a5 d fun hw d lw kw => ?_ | refine W.a6 d ?_ | refine W.a7 ?_ | refine W.a8 ?_))
    refine W.ifT (by decide) ?_
    ((try simp only [n1, n2, n3, n4, n5, n6] at d); (with_reducible repeat first | refine W.a1 d ?_ | refine W.a2 ?_ | refine W.a3 ?_ | refine W.bo ?_ | refine W.a5 d fun hw d lw kw => ?_ | refine W.a6 d ?_ | refine W.a7 ?_ | refine W.a8 ?_))
    refine W.ifT (by simp) ?_
    ((try simp only [n1, n2, n3, n4, n5, n6] at d); (with_reducible repeat first | refine W.a1 d ?_ | refine W.a2 ?_ | refine W.a3 ?_ | refine W.bo ?_ | refine W.a5 d fun hw d lw kw => ?_ | refine W.a6 d ?_ | refine W.a7 ?_ | refine W.a8 ?_))
    refine W.ifT (by simp) ?_
    ((try simp only [n1, n2, n3, n4, n5, n6] at d); (with_reducible repeat first | refine W.a1 d ?_ | refine W.a2 ?_ | refine W.a3 ?_ | refine W.bo ?_ | refine W.a5 d fun hw d lw kw => ?_ | refine W.a6 d ?_ | refine W.a7 ?_ | refine W.a8 ?_))
    exact W.ret (by simp)
   ·((try simp only [n1, n2, n3, n4, n5, n6] at d); (with_reducible repeat first | refine W.a1 d ?_ | refine W.a2 ?_ | refine W.a3 ?_ | refine W.bo ?_ | refine W.a5 d fun hw d lw kw => ?_ | refine W.a6 d ?_ | refine W.a7 ?_ | refine W.a8 ?_))
    refine W.ifT (by decide) ?_
    ((try simp only [n1, n2, n3, n4, n5, n6] at d); (with_reducible repeat first | refine W.a1 d ?_ | refine W.a2 ?_ | refine W.a3 ?_ | refine W.bo ?_ | refine W.a5 d fun hw d lw kw => ?_ | refine W.a6 d ?_ | refine W.a7 ?_ | refine W.a8 ?_))
    refine W.ifT (by simp) ?_
    ((try simp only [n1, n2, n3, n4, n5, n6] at d); (with_reducible repeat first | refine W.a1 d ?_ | refine W.a2 ?_ | refine W.a3 ?_ | refine W.bo ?_ | refine W.a5 d fun hw d lw kw => ?_ | refine W.a6 d ?_ | refine W.a7 ?_ | refine W.a8 ?_))
    refine W.ifT (by simp) ?_
    ((try simp only [n1, n2, n3, n4, n5, n6] at d); (with_reducible repeat first | refine W.a1 d ?_ | refine W.a2 ?_ | refine W.a3 ?_ | refine W.bo ?_ | refine W.a5 d fun hw d lw kw => ?_ | refine W.a6 d ?_ | refine W.a7 ?_ | refine W.a8 ?_))
    exact W.ret (by simp)
  ·((try simp only [n1, n2, n3, n4, n5, n6] at d); (with_reducible repeat first | refine W.a1 d ?_ | refine W.a2 ?_ | refine W.a3 ?_ | refine W.bo ?_ | refine W.a5 d fun hw d lw kw => ?_ | refine W.a6 d ?_ | refine W.a7 ?_ | refine W.a8 ?_))
   refine W.ifT (by decide) ?_
   ((try simp only [n1, n2, n3, n4, n5, n6] at d); (with_reducible repeat first | refine W.a1 d ?_ | refine W.a2 ?_ | refine W.a3 ?_ | refine W.bo ?_ | refine W.a5 d fun hw d lw kw => ?_ | refine W.a6 d ?_ | refine W.a7 ?_ | refine W.a8 ?_))
   refine W.ifT (by simp) ?_
   ((try simp only [n1, n2, n3, n4, n5, n6] at d); (with_reducible repeat first | refine W.a1 d ?_ | refine W.a2 ?_ | refine W.a3 ?_ | refine W.bo ?_ | refine W.a5 d fun hw d lw kw => ?_ | refine W.a6 d ?_ | refine W.a7 ?_ | refine W.a8 ?_))
   refine W.ifT (by simp) ?_
   ((try simp only [n1, n2, n3, n4, n5, n6] at d); (with_reducible repeat first | refine W.a1 d ?_ | refine W.a2 ?_ | refine W.a3 ?_ | refine W.bo ?_ | refine W.a5 d fun hw d lw kw => ?_ | refine W.a6 d ?_ | refine W.a7 ?_ | refine W.a8 ?_))
   exact W.ret (by simp)
 ·have cg : acOk 10 l A = true ∧ inB n 1 99999 = true := by simpa using cg
  have hn : 1 ≤ n ∧ n ≤ 99999 := by have := cg.2; unfold inB at this; simpa using this
  exact W.ifT cg.1 (W.ifT (decide_eq_true hn.1) (W.ifT (decide_eq_true hn.2) (W.ret rfl)))
theorem actors_all {base : Nat} {h : AH} {a : Option Addr} {zs : List Int} (s : Sl h a (iv .u8 zs)) (hb : h.length = base) :
  ∃ h', run (Et base) 6 [.slice a zs.length zs.length] h = some (.bool true, h') := by
 have hz : zs = [] ∨ ∀ b, blk a b → b < base := by
  rcases sl_below s with e | e
  ·exact .inl (by cases zs with | nil => rfl | cons x r => simp [iv] at e)
  ·exact .inr fun b hb' => by have := e b hb'; omega
 obtain ⟨⟨u, h'⟩, e, q⟩ := actors_law (base := base) s hz (by omega)
 simp only at q
 exact ⟨h', by rw [e, q]⟩
end Go.Proofs.Ytjmkbglnjklbcaa.Am
