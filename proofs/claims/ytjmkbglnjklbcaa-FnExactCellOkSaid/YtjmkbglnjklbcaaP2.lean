/- What the functions of this law compute, lemma by lemma, up to the law.
Conditions: none. -/
import Derived.Test.YtjmkbglnjklbcaaP1
import Derived.IntWalk
import Derived.Laws.BitsLemmas

set_option linter.unusedSimpArgs false
set_option linter.unusedVariables false
namespace Go.Proofs.Ytjmkbglnjklbcaa.Am
open Go Go.RowKit
def rdS (G : Gn) (g : Int → Int → Option (Tm × Int)) : Nat → Int → Int → Option (List Tm × Int)
 | 0, _, c => some ([], c)
 | n + 1, p, c => (gwd G p).bind fun w => (g w c).bind fun x => (rdS G g n (p + 1) x.2).bind fun y => some (x.1 :: y.1, y.2)
def rdL (G : Gn) (g : Int → Int → Option (Tm × Int)) : Nat → Int → Int → Option (List Tm × Int)
 | n, w, c => if w = 3 then some ([], c) else
  match n with
  | 0 => none
  | n + 1 => if w < 0 ∨ tagW w ≠ 5 then none else (gwd G (valW w)).bind fun x => (g x c).bind fun t => (gwd G (valW w + 1)).bind fun w' => (rdL G g n w' t.2).bind fun y => some (t.1 :: y.1, y.2)
def rdB (G : Gn) : Nat → Int → Option (List Int)
 | 0, _ => some []
 | n + 1, p => (gwd G p).bind fun w => if inB w 0 255 = true then (rdB G n (p + 1)).bind fun y => some (w :: y) else none
def rdT (chk : Tm → Bool) (G : Gn) (at_ : List ByteArray) : Nat → Int → Int → Option (Tm × Int)
 | 0, _, _ => none
 | f + 1, w, c =>
  if w < 0 ∨ 100 ≤ c then none else
  ((if tagW w = 0 then (if valW w ≤ 2000000 then some (Tm.mk 1 (valW w - 1000000) ⟨#[]⟩ [], c + 1) else none)
   else if tagW w = 1 then ((at_[(valW w).toNat]?).bind fun s => some (Tm.mk 2 0 s [], c + 1))
   else if tagW w = 2 then some (Tm.mk 3 (valW w) ⟨#[]⟩ [], c + 1)
   else if tagW w = 4 then ((gwd G (valW w)).bind fun n => if inB n 0 8 = true then (rdS G (rdT chk G at_ f) n.toNat (valW w + 1) (c + 1)).bind fun y => some (Tm.mk 4 0 ⟨#[]⟩ y.1, y.2) else none)
   else if tagW w = 6 then ((gwd G (valW w)).bind fun n => if inB n 0 40 = true then (rdB G n.toNat (valW w + 1)).bind fun y => some (Tm.mk 6 0 (bstr y) [], c + 1) else none)
   else if tagW w = 7 then none
   else (rdL G (rdT chk G at_ f) 20 w (c + 1)).bind fun y => some (Tm.mk 5 0 ⟨#[]⟩ y.1, y.2)) : Option (Tm × Int)).bind fun y => if chk y.1 = true then some y else none
theorem rdS_le {G : Gn} {g : Int → Int → Option (Tm × Int)} (hg : ∀ w c y, g w c = some y → 0 ≤ c → 0 ≤ y.2 ∧ y.2 ≤ 100) : ∀ n p c y, rdS G g n p c = some y → 0 ≤ c ∧ c ≤ 100 → 0 ≤ y.2 ∧ y.2 ≤ 100
 | 0, p, c, y, e, hc => by rw [rdS] at e; injection e with e; subst e; exact hc
 | n + 1, p, c, y, e, hc => by
  rw [rdS] at e
  cases e1 : gwd G p with
  | none => rw [e1] at e; cases e
  | some w =>
   rw [e1] at e
   simp only [Option.bind_some] at e
   cases e2 : g w c with
   | none => rw [e2] at e; cases e
   | some x =>
    rw [e2] at e
    simp only [Option.bind_some] at e
    cases e3 : rdS G g n (p + 1) x.2 with
    | none => rw [e3] at e; cases e
    | some z =>
     rw [e3] at e
     simp only [Option.bind_some] at e
     injection e with e
     subst e
     exact (rdS_le hg n _ _ _ e3 (hg _ _ _ e2 hc.1) :)
theorem rdL_le {G : Gn} {g : Int → Int → Option (Tm × Int)} (hg : ∀ w c y, g w c = some y → 0 ≤ c → 0 ≤ y.2 ∧ y.2 ≤ 100) : ∀ n w c y, rdL G g n w c = some y → 0 ≤ c ∧ c ≤ 100 → 0 ≤ y.2 ∧ y.2 ≤ 100
 | 0, w, c, y, e, hc => by
  rw [rdL] at e
  split at e
  ·injection e with e; subst e; exact hc
  ·cases e
 | n + 1, w, c, y, e, hc => by
  rw [rdL] at e
  split at e
  ·injection e with e; subst e; exact hc
  split at e
  ·cases e
  cases e1 : gwd G (valW w) with
  | none => rw [e1] at e; cases e
  | some x =>
   rw [e1] at e
   simp only [Option.bind_some] at e
   cases e2 : g x c with
   | none => rw [e2] at e; cases e
   | some t =>
    rw [e2] at e
    simp only [Option.bind_some] at e
    cases e3 : gwd G (valW w + 1) with
    | none => rw [e3] at e; cases e
    | some v =>
     rw [e3] at e
     simp only [Option.bind_some] at e
     cases e4 : rdL G g n v t.2 with
     | none => rw [e4] at e; cases e
     | some z =>
      rw [e4] at e
      simp only [Option.bind_some] at e
      injection e with e
      subst e
      exact (rdL_le hg n _ _ _ e4 (hg _ _ _ e2 hc.1) :)
theorem rdT_le {chk : Tm → Bool} {G : Gn} {ats : List ByteArray} : ∀ f w c y, rdT chk G ats f w c = some y → 0 ≤ c → 0 ≤ y.2 ∧ y.2 ≤ 100
 | 0, w, c, y, e, hc => by rw [rdT] at e; cases e
 | f + 1, w, c, y, e, hc => by
  rw [rdT] at e
  split at e
  ·cases e
  rename_i h1
  have h1 : ¬ w < 0 ∧ ¬ 100 ≤ c := by omega
  obtain ⟨x, e1, e2⟩ := Option.bind_eq_some_iff.1 e
  split at e2
  ·injection e2 with e2
   subst e2
   have ih := rdT_le (chk := chk) (G := G) (ats := ats) f
   split at e1
   ·split at e1
    ·injection e1 with e1; subst e1; simp only; omega
    ·cases e1
   split at e1
   ·obtain ⟨s, _, e1⟩ := Option.bind_eq_some_iff.1 e1
    injection e1 with e1; subst e1; simp only; omega
   split at e1
   ·injection e1 with e1; subst e1; simp only; omega
   split at e1
   ·obtain ⟨n, _, e1⟩ := Option.bind_eq_some_iff.1 e1
    split at e1
    ·obtain ⟨z, e3, e1⟩ := Option.bind_eq_some_iff.1 e1
     injection e1 with e1; subst e1
     exact rdS_le ih _ _ _ _ e3 (by omega)
    ·cases e1
   split at e1
   ·obtain ⟨n, _, e1⟩ := Option.bind_eq_some_iff.1 e1
    split at e1
    ·obtain ⟨z, e3, e1⟩ := Option.bind_eq_some_iff.1 e1
     injection e1 with e1; subst e1; simp only; omega
    ·cases e1
   split at e1
   ·cases e1
   ·obtain ⟨z, e3, e1⟩ := Option.bind_eq_some_iff.1 e1
    injection e1 with e1; subst e1
    exact rdL_le ih _ _ _ _ e3 (by omega)
  ·cases e2
def GrB (h : AH) (gb : Nat) (oa ya : Option Addr) (G : Gn) (aa : Option Addr) (ats : List ByteArray) : Prop :=
 Am.cell h gb 0 = some (.slice oa G.old.length G.old.length) ∧ Am.cell h gb 1 = some (.slice ya G.young.length G.young.length) ∧ GnS h oa ya G ∧ Sl h aa (ats.map .string)
abbrev gtV (gb : Nat) (aa : Option Addr) (n : Nat) (c : Int) (b : Bool) : List Value := [.func (.func 149) #[.pointer (at0 gb)] #[], .slice aa n n, .int .i64 c, .bool b]
theorem callWord {base : Nat} {h h' : AH} {args : List Value} {a : Int} {b : Bool} (e : run (Et base) 149 args h = some (.tuple #[.int .i64 a, .bool b], h')) : callU (Et base) (run (Et base)) (.func 149) args h = some (.tuple #[.int .i64 a, .bool b], h') := by
 unfold callU
 have ef : (Et base).fn 149 = some [(false, [.int .i64]), (false, [.bool])] := by kernel_rfl
 simp only [ef, e]
 rfl
theorem getWord_run {base gb rb : Nat} {G : Gn} {oa ya aa : Option Addr} {ats : List ByteArray} {p c : Int} {b m : Bool} {S V : Fp} {A : AH → Prop} {h0 h : AH} {n : Nat} {R : List Rs} (hG : G.Ok) (hp : p ≤ 9223372036854775807) (hA : ∀ y, A y → GrB y gb oa ya G aa ats) (d : Hs base V h0 h [(rb, 200, gtV gb aa n c b)] (⟨S, m, A⟩ :: R)) :
  Wp (run (Et base) 218 [.pointer (at0 rb), .int .i64 p] h) fun o => o.1 = .int .i64 ((gwd G p).getD 0) ∧ Hs base V h0 o.2 [(rb, 200, gtV gb aa n c (b || !(gwd G p).isSome))] (⟨S, m, A⟩ :: R) := by
 obtain ⟨a0, a1, a2, a3⟩ := hA _ (d.rs (i := 0) rfl)
 refine W.of (fun r hx => Am.r218 hx) ?_
 refine W.bs rfl ?_
 have e1 : (Am.cell h rb 0).bind getF = some (.func 149, #[.pointer (at0 gb)], #[]) := by rw [d.getI (o := 0) (.head _) rfl]; rfl
 refine W.bs e1 ?_
 refine W.bs (callWord (implWord_run (base := base) hG hp a0 a1 a2)) ?_
 ((try simp only [n1, n2, n3, n4, n5, n6] at d); (with_reducible repeat first | refine W.a1 d ?_ | refine W.a2 ?_ | refine W.a3 ?_ | refine W.bo ?_ | refine W.a5 d fun hw d lw kw => ?_ | refine W.a6 d ?_ | refine W.a7 ?_ | refine W.a8 ?_))
 refine W.join ?_
 ((try simp only [n1, n2, n3, n4, n5, n6] at d); (with_reducible repeat first | refine W.a1 d ?_ | refine W.a2 ?_ | refine W.a3 ?_ | refine W.bo ?_ | refine W.a5 d fun hw d lw kw => ?_ | refine W.a6 d ?_ | refine W.a7 ?_ | refine W.a8 ?_))
 refine W.ite (fun c => ?_) (fun c => ?_)
 ·((try simp only [n1, n2, n3, n4, n5, n6] at d); (with_reducible repeat first | refine W.a1 d ?_ | refine W.a2 ?_ | refine W.a3 ?_ | refine W.bo ?_ | refine W.a5 d fun hw d lw kw => ?_ | refine W.a6 d ?_ | refine W.a7 ?_ | refine W.a8 ?_))
  refine W.il ?_
  ((try simp only [n1, n2, n3, n4, n5, n6] at d); (with_reducible repeat first | refine W.a1 d ?_ | refine W.a2 ?_ | refine W.a3 ?_ | refine W.bo ?_ | refine W.a5 d fun hw d lw kw => ?_ | refine W.a6 d ?_ | refine W.a7 ?_ | refine W.a8 ?_))
  rw [c]
  exact W.ret ⟨rfl, d⟩
 ·((try simp only [n1, n2, n3, n4, n5, n6] at d); (with_reducible repeat first | refine W.a1 d ?_ | refine W.a2 ?_ | refine W.a3 ?_ | refine W.bo ?_ | refine W.a5 d fun hw d lw kw => ?_ | refine W.a6 d ?_ | refine W.a7 ?_ | refine W.a8 ?_))
  refine W.il ?_
  ((try simp only [n1, n2, n3, n4, n5, n6] at d); (with_reducible repeat first | refine W.a1 d ?_ | refine W.a2 ?_ | refine W.a3 ?_ | refine W.bo ?_ | refine W.a5 d fun hw d lw kw => ?_ | refine W.a6 d ?_ | refine W.a7 ?_ | refine W.a8 ?_))
  have c : b = false := by simpa using c
  rw [c]
  exact W.ret ⟨rfl, d⟩
end Go.Proofs.Ytjmkbglnjklbcaa.Am
set_option linter.unusedSimpArgs false
set_option linter.unusedVariables false
namespace Go.Proofs.Ytjmkbglnjklbcaa.Am
open Go Go.RowKit
def chkI : Tm → Bool
 | .mk k n s l => shB k n s l.length
def OutT (b : Bool) (x : Option (Tm × Int)) (t : Tm) (c' : Int) (b' : Bool) : Prop := if b = true then b' = true else match x with
 | some y => t = y.1 ∧ c' = y.2 ∧ b' = false
 | none => b' = true
def OutL (b : Bool) (x : Option (List Tm × Int)) (l l' : List Tm) (c' : Int) (b' : Bool) : Prop := if b = true then b' = true else match x with
 | some y => l' = l ++ y.1 ∧ c' = y.2 ∧ b' = false
 | none => b' = true
abbrev rTs (base f : Nat) (S : Fp) (l : List Tm) (a : Option Addr) : Rs := ⟨S, true, fun y => RowO base 39 4 (TmG base f) S y l a⟩
def GetR (base gb : Nat) (oa ya : Option Addr) (G : Gn) (aa : Option Addr) (ats : List ByteArray) (f : Nat) : Prop := ∀ (rb : Nat) (w c : Int) (b m : Bool) (S V : Fp) (A : AH → Prop) (h0 h : AH), wOk w → (b = false → 0 ≤ c ∧ c ≤ 100) → (∀ y, A y → GrB y gb oa ya G aa ats) → Hs base V h0 h [(rb, 200, gtV gb aa ats.length c b)] [⟨S, m, A⟩] →
 Wp (run (Et base) 184 [.pointer (at0 rb), .int .i64 w, .int .i64 (7 - (f : Int))] h) fun o => ∃ t cs' S' c' b', o.1 = .agg cs'.toArray ∧ Hs base V h0 o.2 [(rb, 200, gtV gb aa ats.length c' b')] [⟨S, m, A⟩, ⟨S', true, fun y => TmG base (f + 1) S' y t cs'⟩] ∧ OutT b (rdT chkI G ats f w c) t c' b'
theorem imA {S : Fp} {m : Bool} {A : AH → Prop} {r2 : Rs} (h2 : r2.mu = true) : ∀ r ∈ [⟨S, m, A⟩, r2], r.mu = false → ∃ r0 ∈ [(⟨S, m, A⟩ : Rs)], r0.mu = false ∧ r0.S = r.S := by
 intro r hr hm
 simp only [List.mem_cons, List.not_mem_nil, or_false] at hr
 rcases hr with rfl | rfl
 ·exact ⟨_, .head _, hm, rfl⟩
 ·rw [h2] at hm; cases hm
theorem gwd_getD {G : Gn} (hG : G.Ok) (q : Int) : wOk ((gwd G q).getD 0) := by
 cases e : gwd G q with
 | none => exact ⟨by decide, by decide⟩
 | some w => exact (gwd_ok hG e).1
theorem tuple_loop {base gb rb f : Nat} {G : Gn} {oa ya aa : Option Addr} {ats : List ByteArray} {p : Int} {n : Nat} {m : Bool} {S V : Fp} {A : AH → Prop} {h0 : AH} (hG : G.Ok) (hp : 0 ≤ p ∧ p ≤ 9223372036854700000) (hn : n ≤ 8) (hf : f ≤ 6) (hA : ∀ y, A y → GrB y gb oa ya G aa ats) (ih : GetR base gb oa ya G aa ats f) : ∀ (r : Nat) (h : AH) (l : List Tm) (ao : Option Addr) (c : Int) (b : Bool) (S2 : Fp), l.length + r = n → (b = false → 0 ≤ c ∧ c ≤ 100) → Hs base V h0 h [(rb, 200, gtV gb aa ats.length c b)] [⟨S, m, A⟩, rTs base (f + 1) S2 l ao] →
  Wp (loopL (B204_0 base) [some (.pointer (at0 rb)), some (.int .i64 p), some (.int .i64 (6 - (f : Int))), some (.int .i64 (n : Int)), some (.slice ao l.length l.length), some (.int .i64 ((l.length : Int) + 1))] h) fun o => ∃ l' a' c' b' S', o.1 = 2 ∧ o.2.1 = [some (.slice a' l'.length l'.length)] ∧ l'.length ≤ n ∧ Hs base V h0 o.2.2 [(rb, 200, gtV gb aa ats.length c' b')] [⟨S, m, A⟩, rTs base (f + 1) S' l' a'] ∧ OutL b (rdS G (rdT chkI G ats f) r (p + 1 + l.length) c) l l' c' b' := by
 intro r
 induction r with
 | zero =>
  intro h l ao c b S2 hl hcb d
  suffices w : Wp (B204_0 base [some (.pointer (at0 rb)), some (.int .i64 p), some (.int .i64 (6 - (f : Int))), some (.int .i64 (n : Int)), some (.slice ao l.length l.length), some (.int .i64 ((l.length : Int) + 1))] h) fun o => o = (2, [some (.slice ao l.length l.length)], h) by
   obtain ⟨o, e, rfl⟩ := w
   refine ⟨_, loop_off (by decide) e, l, ao, c, b, S2, rfl, rfl, by omega, d, ?_⟩
   unfold OutL
   split
   ·rename_i hb; exact hb
   ·rename_i hb; exact ⟨by simp [rdS], rfl, by simpa using hb⟩
  rw [B204_0_eq]
  ((try simp only [n1, n2, n3, n4, n5, n6] at d); (with_reducible repeat first | refine W.a1 d ?_ | refine W.a2 ?_ | refine W.a3 ?_ | refine W.bo ?_ | refine W.a5 d fun hw d lw kw => ?_ | refine W.a6 d ?_ | refine W.a7 ?_ | refine W.a8 ?_))
  refine W.join (W.ifF (by simp; omega) (W.il ?_))
  ((try simp only [n1, n2, n3, n4, n5, n6] at d); (with_reducible repeat first | refine W.a1 d ?_ | refine W.a2 ?_ | refine W.a3 ?_ | refine W.bo ?_ | refine W.a5 d fun hw d lw kw => ?_ | refine W.a6 d ?_ | refine W.a7 ?_ | refine W.a8 ?_))
  exact W.ifF (by decide) (W.ret rfl)
 | succ r ihr =>
  intro h l ao c b S2 hl hcb d
  cases b with
  | true =>
   suffices w : Wp (B204_0 base [some (.pointer (at0 rb)), some (.int .i64 p), some (.int .i64 (6 - (f : Int))), some (.int .i64 (n : Int)), some (.slice ao l.length l.length), some (.int .i64 ((l.length : Int) + 1))] h) fun o => o = (2, [some (.slice ao l.length l.length)], h) by
    obtain ⟨o, e, rfl⟩ := w
    exact ⟨_, loop_off (by decide) e, l, ao, c, true, S2, rfl, rfl, by omega, d, rfl⟩
   rw [B204_0_eq]
   ((try simp only [n1, n2, n3, n4, n5, n6] at d); (with_reducible repeat first | refine W.a1 d ?_ | refine W.a2 ?_ | refine W.a3 ?_ | refine W.bo ?_ | refine W.a5 d fun hw d lw kw => ?_ | refine W.a6 d ?_ | refine W.a7 ?_ | refine W.a8 ?_))
   refine W.join (W.ifT (decide_eq_true (by omega)) ?_)
   ((try simp only [n1, n2, n3, n4, n5, n6] at d); (with_reducible repeat first | refine W.a1 d ?_ | refine W.a2 ?_ | refine W.a3 ?_ | refine W.bo ?_ | refine W.a5 d fun hw d lw kw => ?_ | refine W.a6 d ?_ | refine W.a7 ?_ | refine W.a8 ?_))
   refine W.il ?_
   ((try simp only [n1, n2, n3, n4, n5, n6] at d); (with_reducible repeat first | refine W.a1 d ?_ | refine W.a2 ?_ | refine W.a3 ?_ | refine W.bo ?_ | refine W.a5 d fun hw d lw kw => ?_ | refine W.a6 d ?_ | refine W.a7 ?_ | refine W.a8 ?_))
   exact W.ifF (by decide) (W.ret rfl)
  | false =>
   suffices w : Wp (B204_0 base [some (.pointer (at0 rb)), some (.int .i64 p), some (.int .i64 (6 - (f : Int))), some (.int .i64 (n : Int)), some (.slice ao l.length l.length), some (.int .i64 ((l.length : Int) + 1))] h) fun o => ∃ t a' c' b' S', o.1 = 0 ∧ o.2.1 = [some (.pointer (at0 rb)), some (.int .i64 p), some (.int .i64 (6 - (f : Int))), some (.int .i64 (n : Int)), some (.slice a' (l.length + 1) (l.length + 1)), some (.int .i64 ((l.length : Int) + 1 + 1))] ∧ Hs base V h0 o.2.2 [(rb, 200, gtV gb aa ats.length c' b')] [⟨S, m, A⟩, rTs base (f + 1) S' (l ++ [t]) a'] ∧ OutT false ((gwd G (p + 1 + l.length)).bind fun w => rdT chkI G ats f w c) t c' b' by
    obtain ⟨⟨o1, o2, h'⟩, e, t, a', c', b', S', y1, y2, d', ho⟩ := w
    simp only at y1 y2 d'
    subst y1; subst y2
    have el : (l ++ [t]).length = l.length + 1 := by simp
    have hcb' : b' = false → 0 ≤ c' ∧ c' ≤ 100 := by
     intro eb
     cases e1 : gwd G (p + 1 + l.length) with
     | none => rw [e1] at ho; simp [OutT] at ho; rw [ho] at eb; cases eb
     | some w =>
      rw [e1] at ho
      cases e2 : rdT chkI G ats f w c with
      | none => simp [OutT, e2] at ho; rw [ho] at eb; cases eb
      | some y =>
       simp only [OutT, Option.bind_some, e2, Bool.false_eq_true, if_false] at ho
       rw [ho.2.1]
       exact rdT_le f w c y e2 (hcb rfl).1
    have q := ihr h' (l ++ [t]) a' c' b' S' (by omega) hcb' d'
    rw [el] at q
    obtain ⟨o, eo, l2, a2, c2, b2, S3, z1, z2, z3, z4, z5⟩ := q
    refine ⟨o, loop_on e eo, l2, a2, c2, b2, S3, z1, z2, z3, z4, ?_⟩
    simp only [OutT, OutL, rdS, Bool.false_eq_true, if_false] at ho z5 ⊢
    cases e1 : gwd G (p + 1 + l.length) with
    | none =>
     rw [e1] at ho
     simp only [Option.bind_none] at ho ⊢
     rw [if_pos ho] at z5
     exact z5
    | some w =>
     rw [e1] at ho
     simp only [Option.bind_some] at ho ⊢
     cases e2 : rdT chkI G ats f w c with
     | none =>
      rw [e2] at ho
      simp only [Option.bind_none] at ho ⊢
      rw [if_pos ho] at z5
      exact z5
     | some y =>
      rw [e2] at ho
      simp only [Option.bind_some] at ho ⊢
      obtain ⟨h1, h2, h3⟩ := ho
      subst h1; subst h2; subst h3
      simp only [Bool.false_eq_true, if_false] at z5
      rw [show p + 1 + ((l.length + 1 : Nat) : Int) = p + 1 + (l.length : Int) + 1 from by omega] at z5
      cases e3 : rdS G (rdT chkI G ats f) r (p + 1 + (l.length : Int) + 1) y.2 with
      | none => rw [e3] at z5; simpa using z5
      | some u =>
       rw [e3] at z5
       simp only [Option.bind_some]
       obtain ⟨h4, h5, h6⟩ := z5
       exact ⟨by rw [h4]; simp, h5, h6⟩
   rw [B204_0_eq]
   ((try simp only [n1, n2, n3, n4, n5, n6] at d); (with_reducible repeat first | refine W.a1 d ?_ | refine W.a2 ?_ | refine W.a3 ?_ | refine W.bo ?_ | refine W.a5 d fun hw d lw kw => ?_ | refine W.a6 d ?_ | refine W.a7 ?_ | refine W.a8 ?_))
   refine W.join (W.ifT (decide_eq_true (by omega)) ?_)
   ((try simp only [n1, n2, n3, n4, n5, n6] at d); (with_reducible repeat first | refine W.a1 d ?_ | refine W.a2 ?_ | refine W.a3 ?_ | refine W.bo ?_ | refine W.a5 d fun hw d lw kw => ?_ | refine W.a6 d ?_ | refine W.a7 ?_ | refine W.a8 ?_))
   refine W.il ?_
   ((try simp only [n1, n2, n3, n4, n5, n6] at d); (with_reducible repeat first | refine W.a1 d ?_ | refine W.a2 ?_ | refine W.a3 ?_ | refine W.bo ?_ | refine W.a5 d fun hw d lw kw => ?_ | refine W.a6 d ?_ | refine W.a7 ?_ | refine W.a8 ?_))
   refine W.ifT (by decide) ?_
   rw [w64i (n := p + ((l.length : Int) + 1)) (by omega) (by omega)]
   refine W.wb (getWord_run (base := base) hG (by omega) hA d) ?_
   rintro ⟨u1, h1⟩ ⟨rfl, d⟩
   simp only at d
   ((try simp only [n1, n2, n3, n4, n5, n6] at d); (with_reducible repeat first | refine W.a1 d ?_ | refine W.a2 ?_ | refine W.a3 ?_ | refine W.bo ?_ | refine W.a5 d fun hw d lw kw => ?_ | refine W.a6 d ?_ | refine W.a7 ?_ | refine W.a8 ?_))
   rw [show p + ((l.length : Int) + 1) = p + 1 + (l.length : Int) from by omega] at d ⊢
   rw [w64i (n := 6 - (f : Int) + 1) (by omega) (by omega), show 6 - (f : Int) + 1 = 7 - (f : Int) from by omega]
   have d1 := Hs.part (D1 := [_]) (R1 := [_]) d
   refine W.wb (ih rb _ c _ m S _ A _ _ (gwd_getD hG _) (fun _ => hcb rfl) hA d1) ?_
   rintro ⟨u, h2⟩ ⟨t, cs', S', c', b', y1, d2, ho⟩
   simp only at y1 d2
   subst y1
   have d := Hs.back (D1 := [_]) (R1 := [_]) d d2 (imA rfl)
   obtain ⟨k1, k2, k3, k4, k5, rfl⟩ := (d.rs (i := 1) rfl : TmG base (f + 1) S' h2 t _).form
   ((try simp only [n1, n2, n3, n4, n5, n6] at d); (with_reducible repeat first | refine W.a1 d ?_ | refine W.a2 ?_ | refine W.a3 ?_ | refine W.bo ?_ | refine W.a5 d fun hw d lw kw => ?_ | refine W.a6 d ?_ | refine W.a7 ?_ | refine W.a8 ?_); (refine W.nD d fun h3 d _ kh3 => ?_); (with_reducible repeat first | refine W.a1 d ?_ | refine W.a2 ?_ | refine W.a3 ?_ | refine W.bo ?_ | refine W.a5 d fun hw d lw kw => ?_ | refine W.a6 d ?_ | refine W.a7 ?_ | refine W.a8 ?_))
   ((try simp only [n1, n2, n3, n4, n5, n6] at d); (with_reducible repeat first | refine W.a1 d ?_ | refine W.a2 ?_ | refine W.a3 ?_ | refine W.bo ?_ | refine W.a5 d fun hw d lw kw => ?_ | refine W.a6 d ?_ | refine W.a7 ?_ | refine W.a8 ?_); (refine W.nD d fun h4 d _ kh4 => ?_); (with_reducible repeat first | refine W.a1 d ?_ | refine W.a2 ?_ | refine W.a3 ?_ | refine W.bo ?_ | refine W.a5 d fun hw d lw kw => ?_ | refine W.a6 d ?_ | refine W.a7 ?_ | refine W.a8 ?_))
   obtain ⟨a5, h5, S5, e5, d, _, _, _⟩ := d.app1 (i := 2) (j := 1) (bytes := 56) (TmG.kp _ _) rfl rfl (by decide) (.head _) rfl (by decide) rfl (by omega) (by omega)
   refine W.bs e5 ?_
   ((try simp only [n1, n2, n3, n4, n5, n6] at d); (with_reducible repeat first | refine W.a1 d ?_ | refine W.a2 ?_ | refine W.a3 ?_ | refine W.bo ?_ | refine W.a5 d fun hw d lw kw => ?_ | refine W.a6 d ?_ | refine W.a7 ?_ | refine W.a8 ?_))
   have d := ((((d.tl.tl).frontR (Del.at (i := 2) rfl)).frontR (Del.at (i := 1) rfl)).takeR 2)
   rw [w64i (n := (l.length : Int) + 1 + 1) (by omega) (by omega)]
   refine W.ret ⟨t, a5, c', b', S5, rfl, rfl, d, ?_⟩
   unfold OutT at ho ⊢
   cases e1 : gwd G (p + 1 + (l.length : Int)) with
   | none => rw [e1] at ho; simpa using ho
   | some w => rw [e1] at ho; simpa using ho
end Go.Proofs.Ytjmkbglnjklbcaa.Am
set_option linter.unusedSimpArgs false
set_option linter.unusedVariables false
namespace Go.Proofs.Ytjmkbglnjklbcaa.Am
open Go Go.RowKit
theorem rdS_to {G : Gn} {g1 g2 : Int → Int → Option (Tm × Int)} {P : Tm → Prop} (h : ∀ w c y, g1 w c = some y → P y.1 → g2 w c = some y) : ∀ (n : Nat) (p c : Int) (y : List Tm × Int), rdS G g1 n p c = some y → (∀ t ∈ y.1, P t) → rdS G g2 n p c = some y
 | 0, p, c, y, e, _ => by rw [rdS] at e ⊢; exact e
 | n + 1, p, c, y, e, hP => by
  rw [rdS] at e ⊢
  obtain ⟨w, e1, e⟩ := Option.bind_eq_some_iff.1 e
  obtain ⟨x, e2, e⟩ := Option.bind_eq_some_iff.1 e
  obtain ⟨z, e3, e⟩ := Option.bind_eq_some_iff.1 e
  injection e with e
  subst e
  rw [e1, Option.bind_some, h w c x e2 (hP _ (.head _)), Option.bind_some, rdS_to h n _ _ z e3 fun t ht => hP t (.tail _ ht)]
  rfl
theorem rdL_0 {G : Gn} {g : Int → Int → Option (Tm × Int)} {w c : Int} : rdL G g 0 w c = if w = 3 then some ([], c) else none := by rw [rdL]
theorem rdL_s {G : Gn} {g : Int → Int → Option (Tm × Int)} {n : Nat} {w c : Int} : rdL G g (n + 1) w c = if w = 3 then some ([], c) else if w < 0 ∨ tagW w ≠ 5 then none else (gwd G (valW w)).bind fun x => (g x c).bind fun t => (gwd G (valW w + 1)).bind fun w' => (rdL G g n w' t.2).bind fun y => some (t.1 :: y.1, y.2) := by rw [rdL]
theorem rdL_to {G : Gn} {g1 g2 : Int → Int → Option (Tm × Int)} {P : Tm → Prop} (h : ∀ w c y, g1 w c = some y → P y.1 → g2 w c = some y) : ∀ (n : Nat) (w c : Int) (y : List Tm × Int), rdL G g1 n w c = some y → (∀ t ∈ y.1, P t) → rdL G g2 n w c = some y
 | 0, w, c, y, e, _ => by rw [rdL_0] at e ⊢; exact e
 | n + 1, w, c, y, e, hP => by
  rw [rdL_s] at e ⊢
  by_cases h1 : w = 3
  ·rw [if_pos h1] at e ⊢; exact e
  rw [if_neg h1] at e ⊢
  by_cases h2 : w < 0 ∨ tagW w ≠ 5
  ·rw [if_pos h2] at e; cases e
  rw [if_neg h2] at e ⊢
  obtain ⟨x, e1, e⟩ := Option.bind_eq_some_iff.1 e
  obtain ⟨t, e2, e⟩ := Option.bind_eq_some_iff.1 e
  obtain ⟨v, e3, e⟩ := Option.bind_eq_some_iff.1 e
  obtain ⟨z, e4, e⟩ := Option.bind_eq_some_iff.1 e
  injection e with e
  subst e
  rw [e1, Option.bind_some, h x c t e2 (hP _ (.head _)), Option.bind_some, e3, Option.bind_some, rdL_to h n _ _ z e4 fun t ht => hP t (.tail _ ht)]
  rfl
theorem rdT_to {G : Gn} {ats : List ByteArray} {c1 c2 : Tm → Bool} {P : Tm → Prop} (hP : ∀ k n s l, P (.mk k n s l) → c1 (.mk k n s l) = true → c2 (.mk k n s l) = true ∧ ∀ t ∈ l, P t) : ∀ (f : Nat) (w c : Int) (y : Tm × Int), rdT c1 G ats f w c = some y → P y.1 → rdT c2 G ats f w c = some y
 | 0, w, c, y, e, _ => by rw [rdT] at e; cases e
 | f + 1, w, c, y, e, hy => by
  have ih := rdT_to (G := G) (ats := ats) hP f
  rw [rdT] at e ⊢
  by_cases h1 : w < 0 ∨ 100 ≤ c
  ·rw [if_pos h1] at e; cases e
  rw [if_neg h1] at e ⊢
  obtain ⟨x, e1, e⟩ := Option.bind_eq_some_iff.1 e
  by_cases h2 : c1 x.1 = true
  ·rw [if_pos h2] at e
   injection e with e
   subst e
   obtain ⟨⟨k, n, s, l⟩, cc⟩ := x
   obtain ⟨p1, p2⟩ := hP k n s l hy h2
   have key : (if tagW w = 0 then (if valW w ≤ 2000000 then some (Tm.mk 1 (valW w - 1000000) ⟨#[]⟩ [], c + 1) else none)
   else if tagW w = 1 then ((ats[(valW w).toNat]?).bind fun s => some (Tm.mk 2 0 s [], c + 1))
   else if tagW w = 2 then some (Tm.mk 3 (valW w) ⟨#[]⟩ [], c + 1)
   else if tagW w = 4 then ((gwd G (valW w)).bind fun n => if inB n 0 8 = true then (rdS G (rdT c2 G ats f) n.toNat (valW w + 1) (c + 1)).bind fun y => some (Tm.mk 4 0 ⟨#[]⟩ y.1, y.2) else none)
   else if tagW w = 6 then ((gwd G (valW w)).bind fun n => if inB n 0 40 = true then (rdB G n.toNat (valW w + 1)).bind fun y => some (Tm.mk 6 0 (bstr y) [], c + 1) else none)
   else if tagW w = 7 then none
   else (rdL G (rdT c2 G ats f) 20 w (c + 1)).bind fun y => some (Tm.mk 5 0 ⟨#[]⟩ y.1, y.2) : Option (Tm × Int)) = some (Tm.mk k n s l, cc) := by
    by_cases t0 : tagW w = 0
    ·rw [if_pos t0] at e1 ⊢; exact e1
    rw [if_neg t0] at e1 ⊢
    by_cases t1 : tagW w = 1
    ·rw [if_pos t1] at e1 ⊢; exact e1
    rw [if_neg t1] at e1 ⊢
    by_cases t2 : tagW w = 2
    ·rw [if_pos t2] at e1 ⊢; exact e1
    rw [if_neg t2] at e1 ⊢
    by_cases t4 : tagW w = 4
    ·rw [if_pos t4] at e1 ⊢
     obtain ⟨v, q1, e1⟩ := Option.bind_eq_some_iff.1 e1
     by_cases hv : inB v 0 8 = true
     ·rw [if_pos hv] at e1
      obtain ⟨z, q2, e1⟩ := Option.bind_eq_some_iff.1 e1
      injection e1 with e1
      injection e1 with e1 e2
      injection e1 with e3 e4 e5 e6
      rw [q1, Option.bind_some, if_pos hv, rdS_to ih _ _ _ z q2 fun t ht => p2 t (e6 ▸ ht)]
      rw [Option.bind_some, e2, e6, e3, e4, e5]
     ·rw [if_neg hv] at e1; cases e1
    rw [if_neg t4] at e1 ⊢
    by_cases t6 : tagW w = 6
    ·rw [if_pos t6] at e1 ⊢; exact e1
    rw [if_neg t6] at e1 ⊢
    by_cases t7 : tagW w = 7
    ·rw [if_pos t7] at e1; cases e1
    rw [if_neg t7] at e1 ⊢
    obtain ⟨z, q2, e1⟩ := Option.bind_eq_some_iff.1 e1
    injection e1 with e1
    injection e1 with e1 e2
    injection e1 with e3 e4 e5 e6
    rw [rdL_to ih _ _ _ z q2 fun t ht => p2 t (e6 ▸ ht)]
    rw [Option.bind_some, e2, e6, e3, e4, e5]
   rw [key, Option.bind_some, if_pos p1]
  ·rw [if_neg h2] at e; cases e
def chkT : Tm → Bool := fun _ => true
theorem rdT_T {G : Gn} {ats : List ByteArray} {f : Nat} {w c : Int} {y : Tm × Int} (e : rdT chkI G ats f w c = some y) : rdT chkT G ats f w c = some y :=
 rdT_to (P := fun _ => True) (fun k n s l _ _ => ⟨rfl, fun _ _ => trivial⟩) f w c y e trivial
theorem lkS_mem {g : Tm → Int → Int → Int} : ∀ (l : List Tm) (d x : Int), 0 ≤ lkS g l d x → ∀ t ∈ l, ∃ d' x', 0 ≤ g t d' x'
 | [], d, x, _, t, ht => by cases ht
 | u :: r, d, x, h, t, ht => by
  rw [lkS] at h
  by_cases h0 : x ≥ 0
  ·rw [if_pos h0] at h
   rcases List.mem_cons.1 ht with rfl | ht
   ·refine ⟨d, x, ?_⟩
    by_cases hc : 0 ≤ g t d x
    ·exact hc
    ·rw [lkS_neg _ _ _ _ (by omega)] at h; omega
   ·exact lkS_mem r _ _ h t ht
  ·rw [if_neg h0] at h; omega
theorem rdT_I {G : Gn} {ats : List ByteArray} {f : Nat} {w c : Int} {y : Tm × Int} (e : rdT chkT G ats f w c = some y) (F : Nat) (h : tOk F y.1 = true) : rdT chkI G ats f w c = some y :=
 rdT_to (P := fun t => ∃ F d x, 0 ≤ lk F t d x) (fun k n s l hp _ => by
  obtain ⟨F, d, x, hp⟩ := hp
  cases F with
  | zero => rw [lk] at hp; omega
  | succ F =>
   rw [lk] at hp
   split at hp
   ·omega
   ·rename_i hn
    refine ⟨?_, fun t ht => ?_⟩
    ·cases hs : shB k n s l.length with
     | true => exact hs
     | false => exact absurd (.inr (.inr hs)) hn
    ·obtain ⟨d', x', q⟩ := lkS_mem l _ _ hp t ht
     exact ⟨F, d', x', q⟩) f w c y e ⟨F, 6, 100, of_decide_eq_true h⟩
theorem rdL_up {G : Gn} {g : Int → Int → Option (Tm × Int)} : ∀ (n : Nat) (w c : Int) (y : List Tm × Int), rdL G g n w c = some y → y.1.length ≤ n ∧ rdL G g (n + 1) w c = some y
 | 0, w, c, y, e => by
  rw [rdL_0] at e
  rw [rdL_s]
  by_cases h1 : w = 3
  ·rw [if_pos h1] at e ⊢
   injection e with e; subst e; exact ⟨by simp, rfl⟩
  ·rw [if_neg h1] at e; cases e
 | n + 1, w, c, y, e => by
  rw [rdL_s] at e
  rw [rdL_s]
  by_cases h1 : w = 3
  ·rw [if_pos h1] at e ⊢
   injection e with e; subst e; exact ⟨by simp, rfl⟩
  rw [if_neg h1] at e ⊢
  by_cases h2 : w < 0 ∨ tagW w ≠ 5
  ·rw [if_pos h2] at e; cases e
  rw [if_neg h2] at e ⊢
  obtain ⟨x, e1, e⟩ := Option.bind_eq_some_iff.1 e
  obtain ⟨t, e2, e⟩ := Option.bind_eq_some_iff.1 e
  obtain ⟨v, e3, e⟩ := Option.bind_eq_some_iff.1 e
  obtain ⟨z, e4, e⟩ := Option.bind_eq_some_iff.1 e
  injection e with e
  subst e
  obtain ⟨a, b⟩ := rdL_up n _ _ z e4
  refine ⟨by simp; omega, ?_⟩
  rw [e1, Option.bind_some, e2, Option.bind_some, e3, Option.bind_some, b]
  rfl
theorem rdL_dn {G : Gn} {g : Int → Int → Option (Tm × Int)} : ∀ (n : Nat) (w c : Int) (y : List Tm × Int), rdL G g (n + 1) w c = some y → y.1.length ≤ n → rdL G g n w c = some y
 | n, w, c, y, e, hl => by
  rw [rdL_s] at e
  by_cases h1 : w = 3
  ·rw [if_pos h1] at e
   cases n with
   | zero => rw [rdL_0, if_pos h1]; exact e
   | succ n => rw [rdL_s, if_pos h1]; exact e
  rw [if_neg h1] at e
  by_cases h2 : w < 0 ∨ tagW w ≠ 5
  ·rw [if_pos h2] at e; cases e
  rw [if_neg h2] at e
  obtain ⟨x, e1, e⟩ := Option.bind_eq_some_iff.1 e
  obtain ⟨t, e2, e⟩ := Option.bind_eq_some_iff.1 e
  obtain ⟨v, e3, e⟩ := Option.bind_eq_some_iff.1 e
  obtain ⟨z, e4, e⟩ := Option.bind_eq_some_iff.1 e
  injection e with e
  subst e
  cases n with
  | zero => simp at hl
  | succ n =>
   rw [rdL_s, if_neg h1, if_neg h2, e1, Option.bind_some, e2, Option.bind_some, e3, Option.bind_some, rdL_dn n _ _ z e4 (by simpa using hl)]
   rfl
theorem rdL_21 {G : Gn} {g : Int → Int → Option (Tm × Int)} {w c : Int} : match rdL G g 20 w c with
  | some y => rdL G g 21 w c = some y ∧ y.1.length ≤ 20
  | none => rdL G g 21 w c = none ∨ ∃ y, rdL G g 21 w c = some y ∧ 20 < y.1.length := by
 cases e : rdL G g 20 w c with
 | some y => exact ⟨(rdL_up 20 w c y e).2, (rdL_up 20 w c y e).1⟩
 | none =>
  cases e2 : rdL G g 21 w c with
  | none => exact .inl rfl
  | some y =>
   refine .inr ⟨y, rfl, ?_⟩
   by_cases h : y.1.length ≤ 20
   ·rw [rdL_dn 20 w c y e2 h] at e; cases e
   ·omega
end Go.Proofs.Ytjmkbglnjklbcaa.Am
set_option linter.unusedSimpArgs false
set_option linter.unusedVariables false
namespace Go.Proofs.Ytjmkbglnjklbcaa.Am
open Go Go.RowKit
def leadW (w : Int) : Bool := inB (tagW w) 4 6
def prt (G : Gn) (p : Int) : Int := if p < 100000 then 0 else if p - 100000 < G.mark then 1 else 2
def chW (G : Gn) (w : Int) : List Int :=
 if tagW w = 5 then [(gwd G (valW w)).getD 0, (gwd G (valW w + 1)).getD 0]
 else if tagW w = 4 then (List.range ((gwd G (valW w)).getD 0).toNat).map fun (i : Nat) => (gwd G (valW w + 1 + (i : Int))).getD 0
 else []
def Nd (G : Gn) (w : Int) : Prop := (tagW w = 6 → ∃ v, gwd G (valW w) = some v ∧ 0 ≤ v ∧ v ≤ 40) ∧ (tagW w = 4 → ∃ v, gwd G (valW w) = some v ∧ 0 ≤ v ∧ v ≤ 8 ∧ ∀ i : Nat, (i : Int) < v → (gwd G (valW w + 1 + (i : Int))).isSome = true) ∧ (tagW w = 5 → (gwd G (valW w)).isSome = true ∧ (gwd G (valW w + 1)).isSome = true)
def Fue (G : Gn) : Nat → Int → Prop
 | 0, _ => False
 | n + 1, w => Nd G w ∧ ∀ x ∈ chW G w, Fue G n x
def dnW (G : Gn) : Nat → Int → Bool
 | 0, _ => true
 | n + 1, w => !leadW w || (chW G w).all fun x => !(leadW x && decide (prt G (valW x) > prt G (valW w))) && dnW G n x
def frm (G : Gn) (p : Int) : Int := if p = 0 then 100000 else if p = 1 then 100000 + G.mark else 200000
def nxt (G : Gn) (at_ fr : Int) : Int := if at_ < 100000 then 100000 else if at_ < 100000 + G.mark ∧ fr > 100000 + G.mark then 100000 + G.mark else fr
def lnW (G : Gn) : Nat → Int → Int → Bool
 | 0, _, _ => true
 | n + 1, w, fr => !leadW w || (!decide (valW w ≥ fr) && (chW G w).all fun x => lnW G n x (nxt G (valW w) fr))
theorem Fue.up {G : Gn} : ∀ {n : Nat} {w : Int}, Fue G n w → ∀ m, n ≤ m → Fue G m w
 | 0, w, h, m, _ => h.elim
 | n + 1, w, h, 0, e => by omega
 | n + 1, w, h, m + 1, e => ⟨h.1, fun x hx => Fue.up (h.2 x hx) m (by omega)⟩
theorem Fue.leaf {G : Gn} {w : Int} (h4 : tagW w ≠ 4) (h5 : tagW w ≠ 5) (h6 : tagW w = 6 → ∃ v, gwd G (valW w) = some v ∧ 0 ≤ v ∧ v ≤ 40) : Fue G 1 w := by
 refine ⟨⟨h6, fun h => absurd h h4, fun h => absurd h h5⟩, fun x hx => ?_⟩
 unfold chW at hx
 rw [if_neg h5, if_neg h4] at hx
 cases hx
theorem rdS_all {G : Gn} {g : Int → Int → Option (Tm × Int)} {Q : Int → Prop} (h : ∀ w c y, g w c = some y → Q w) : ∀ (n : Nat) (p c : Int) (y : List Tm × Int), rdS G g n p c = some y → ∀ i : Nat, i < n → (gwd G (p + i)).isSome = true ∧ Q ((gwd G (p + i)).getD 0)
 | 0, p, c, y, e, i, hi => by omega
 | n + 1, p, c, y, e, i, hi => by
  rw [rdS] at e
  obtain ⟨w, e1, e⟩ := Option.bind_eq_some_iff.1 e
  obtain ⟨x, e2, e⟩ := Option.bind_eq_some_iff.1 e
  obtain ⟨z, e3, e⟩ := Option.bind_eq_some_iff.1 e
  cases i with
  | zero =>
   rw [show p + ((0 : Nat) : Int) = p from by omega, e1]
   exact ⟨rfl, h _ _ _ e2⟩
  | succ i =>
   have := rdS_all h n (p + 1) x.2 z e3 i (by omega)
   rw [show p + ((i + 1 : Nat) : Int) = p + 1 + (i : Int) from by omega]
   exact this
theorem rdL_fue {G : Gn} {g : Int → Int → Option (Tm × Int)} {m : Nat} (hm : 1 ≤ m) (h : ∀ w c y, g w c = some y → Fue G m w) : ∀ (n : Nat) (w c : Int) (y : List Tm × Int), rdL G g n w c = some y → Fue G (m + n + 1) w
 | 0, w, c, y, e => by
  rw [rdL_0] at e
  by_cases h1 : w = 3
  ·subst h1
   exact Fue.up (Fue.leaf (by decide) (by decide) (fun h => absurd h (by decide))) _ (by omega)
  ·rw [if_neg h1] at e; cases e
 | n + 1, w, c, y, e => by
  rw [rdL_s] at e
  by_cases h1 : w = 3
  ·subst h1
   exact Fue.up (Fue.leaf (by decide) (by decide) (fun h => absurd h (by decide))) _ (by omega)
  rw [if_neg h1] at e
  by_cases h2 : w < 0 ∨ tagW w ≠ 5
  ·rw [if_pos h2] at e; cases e
  rw [if_neg h2] at e
  obtain ⟨x, e1, e⟩ := Option.bind_eq_some_iff.1 e
  obtain ⟨t, e2, e⟩ := Option.bind_eq_some_iff.1 e
  obtain ⟨v, e3, e⟩ := Option.bind_eq_some_iff.1 e
  obtain ⟨z, e4, e⟩ := Option.bind_eq_some_iff.1 e
  have h5 : tagW w = 5 := Classical.byContradiction fun h => h2 (.inr h)
  show Fue G (m + n + 1 + 1) w
  refine ⟨⟨fun h => by omega, fun h => by omega, fun _ => by rw [e1, e3]; exact ⟨rfl, rfl⟩⟩, fun u hu => ?_⟩
  unfold chW at hu
  rw [if_pos h5, e1, e3] at hu
  simp only [Option.getD_some, List.mem_cons, List.not_mem_nil, or_false] at hu
  rcases hu with rfl | rfl
  ·exact Fue.up (h _ _ _ e2) _ (by omega)
  ·exact rdL_fue hm h n _ _ _ e4
theorem rdT_fue {G : Gn} {ats : List ByteArray} {chk : Tm → Bool} : ∀ (f : Nat) (w c : Int) (y : Tm × Int), rdT chk G ats f w c = some y → Fue G (22 * f + 1) w
 | 0, w, c, y, e => by rw [rdT] at e; cases e
 | f + 1, w, c, y, e => by
  have ih := rdT_fue (G := G) (ats := ats) (chk := chk) f
  rw [rdT] at e
  by_cases h1 : w < 0 ∨ 100 ≤ c
  ·rw [if_pos h1] at e; cases e
  rw [if_neg h1] at e
  obtain ⟨x, e1, e⟩ := Option.bind_eq_some_iff.1 e
  by_cases h5 : tagW w = 5
  ·rw [if_neg (by omega), if_neg (by omega), if_neg (by omega), if_neg (by omega), if_neg (by omega), if_neg (by omega)] at e1
   obtain ⟨z, q2, e1⟩ := Option.bind_eq_some_iff.1 e1
   exact Fue.up (rdL_fue (by omega) ih _ _ _ _ q2) _ (by omega)
  by_cases h4 : tagW w = 4
  ·rw [if_neg (by omega), if_neg (by omega), if_neg (by omega), if_pos h4] at e1
   obtain ⟨v, q1, e1⟩ := Option.bind_eq_some_iff.1 e1
   by_cases hv : inB v 0 8 = true
   ·rw [if_pos hv] at e1
    obtain ⟨z, q2, e1⟩ := Option.bind_eq_some_iff.1 e1
    show Fue G (22 * (f + 1) + 1) w
    rw [show 22 * (f + 1) + 1 = 22 * f + 22 + 1 from by omega]
    have hv2 : 0 ≤ v ∧ v ≤ 8 := by unfold inB at hv; simpa using hv
    have ra := rdS_all (Q := Fue G (22 * f + 1)) ih _ _ _ _ q2
    refine ⟨⟨fun h => by omega, fun _ => ⟨v, q1, hv2.1, hv2.2, fun i hi => (ra i (by omega)).1⟩, fun h => by omega⟩, fun u hu => ?_⟩
    unfold chW at hu
    rw [if_neg h5, if_pos h4, q1] at hu
    obtain ⟨i, hi, rfl⟩ := List.mem_map.1 hu
    have := (ra i (by simpa using hi)).2
    exact Fue.up this _ (by omega)
   ·rw [if_neg hv] at e1; cases e1
  ·refine Fue.up (Fue.leaf h4 h5 fun h6 => ?_) _ (by omega)
   rw [if_neg (by omega), if_neg (by omega), if_neg (by omega), if_neg h4, if_pos h6] at e1
   obtain ⟨v, q1, e1⟩ := Option.bind_eq_some_iff.1 e1
   by_cases hv : inB v 0 40 = true
   ·exact ⟨v, q1, by unfold inB at hv; simpa using hv⟩
   ·rw [if_neg hv] at e1; cases e1
theorem prt_le (G : Gn) (p : Int) : 0 ≤ prt G p ∧ prt G p ≤ 2 := by unfold prt; split <;> (try split) <;> omega
theorem Nd.at_ {G : Gn} (hG : G.Ok) {w : Int} (h : Nd G w) (hl : leadW w = true) : 0 ≤ valW w ∧ valW w < 1148576 ∧ (valW w < 100000 ∨ valW w - 100000 < G.young.length) := by
 have hs : (gwd G (valW w)).isSome = true := by
  have : tagW w = 4 ∨ tagW w = 5 ∨ tagW w = 6 := by
   unfold leadW inB at hl
   simp only [Bool.and_eq_true, decide_eq_true_eq] at hl
   omega
  rcases this with h4 | h4 | h4
  ·obtain ⟨v, e, _⟩ := h.2.1 h4; rw [e]; rfl
  ·exact (h.2.2 h4).1
  ·obtain ⟨v, e, _⟩ := h.1 h4; rw [e]; rfl
 obtain ⟨v, e⟩ := Option.isSome_iff_exists.1 hs
 have g := gwd_ok hG e
 refine ⟨g.2.1, g.2.2, ?_⟩
 unfold gwd at e
 split at e
 ·have := (ati_ok e).2; omega
 ·omega
theorem lnW_dnW {G : Gn} (hG : G.Ok) (hy : G.young.length ≤ 1000) (hm : 0 ≤ G.mark ∧ G.mark ≤ G.young.length) : ∀ (n : Nat) (w p : Int), Fue G n w → 0 ≤ p ∧ p ≤ 2 → lnW G n w (frm G p) = (!(leadW w && decide (prt G (valW w) > p)) && dnW G n w)
 | 0, w, p, h, _ => h.elim
 | n + 1, w, p, h, hp => by
  rw [lnW, dnW]
  cases hl : leadW w with
  | false => rfl
  | true =>
   obtain ⟨a1, a2, a3⟩ := h.1.at_ hG hl
   have e1 : decide (valW w ≥ frm G p) = decide (prt G (valW w) > p) := by
    apply decide_eq_decide.2
    unfold frm prt
    repeat' split
    all_goals omega
   rw [e1]
   cases e2 : decide (prt G (valW w) > p) with
   | true => rfl
   | false =>
    have e2 := of_decide_eq_false e2
    have e3 : nxt G (valW w) (frm G p) = frm G (prt G (valW w)) := by
     unfold nxt frm
     unfold prt at e2 ⊢
     repeat' split
     all_goals (repeat' split at e2)
     all_goals omega
    simp only [Bool.not_true, Bool.false_or, Bool.not_false, Bool.true_and, Bool.and_false]
    rw [e3]
    rw [Bool.eq_iff_iff, List.all_eq_true, List.all_eq_true]
    refine ⟨fun q x hx => ?_, fun q x hx => ?_⟩
    ·rw [← lnW_dnW hG hy hm n x _ (h.2 x hx) (prt_le _ _)]; exact q x hx
    ·rw [lnW_dnW hG hy hm n x _ (h.2 x hx) (prt_le _ _)]; exact q x hx
end Go.Proofs.Ytjmkbglnjklbcaa.Am
set_option linter.unusedSimpArgs false
set_option linter.unusedVariables false
namespace Go.Proofs.Ytjmkbglnjklbcaa.Am
open Go Go.RowKit
theorem tuple_run {base gb rb f : Nat} {G : Gn} {oa ya aa : Option Addr} {ats : List ByteArray} {p c : Int} {b m : Bool} {S V : Fp} {A : AH → Prop} {h0 h : AH} (hG : G.Ok) (hp : 0 ≤ p ∧ p ≤ 9223372036854700000) (hf : f ≤ 6) (hA : ∀ y, A y → GrB y gb oa ya G aa ats) (ih : GetR base gb oa ya G aa ats f) (hcb : b = false → 0 ≤ c ∧ c ≤ 100) (d0 : Hs base V h0 h [(rb, 200, gtV gb aa ats.length c b)] [⟨S, m, A⟩]) :
  Wp (run (Et base) 204 [.pointer (at0 rb), .int .i64 p, .int .i64 (6 - (f : Int))] h) fun o => ∃ l a' c' b' S', o.1 = .slice a' l.length l.length ∧ l.length ≤ 8 ∧ Hs base V h0 o.2 [(rb, 200, gtV gb aa ats.length c' b')] [⟨S, m, A⟩, rTs base (f + 1) S' l a'] ∧ OutL b ((gwd G p).bind fun n => if inB n 0 8 = true then rdS G (rdT chkI G ats f) n.toNat (p + 1) c else none) [] l c' b' := by
 refine W.of (fun r hx => Am.r204 hx) ?_
 refine W.wb (getWord_run (base := base) hG (by omega) hA d0) ?_
 rintro ⟨u1, h1⟩ ⟨rfl, d⟩
 simp only at d
 ((try simp only [n1, n2, n3, n4, n5, n6] at d); (with_reducible repeat first | refine W.a1 d ?_ | refine W.a2 ?_ | refine W.a3 ?_ | refine W.bo ?_ | refine W.a5 d fun hw d lw kw => ?_ | refine W.a6 d ?_ | refine W.a7 ?_ | refine W.a8 ?_))
 have none_row : ∀ y, RowO base 39 4 (TmG base (f + 1)) (fun _ => False) y [] none := fun y => RowO.nil
 generalize hb1 : (b || !(gwd G p).isSome) = b1 at d
 apply W.jb (b1 || !inB ((gwd G p).getD 0) 0 8) d
 ·((try simp only [n1, n2, n3, n4, n5, n6] at d); (with_reducible repeat first | refine W.a1 d ?_ | refine W.a2 ?_ | refine W.a3 ?_ | refine W.bo ?_ | refine W.a5 d fun hw d lw kw => ?_ | refine W.a6 d ?_ | refine W.a7 ?_ | refine W.a8 ?_))
  refine W.ite (fun c => ?_) (fun c => ?_)
  ·rw [c]
   exact W.lb rfl rfl (KB.refl _ _)
  ·have c : b1 = false := by simpa using c
   rw [c]
   refine W.bs in_run ?_
   ((try simp only [n1, n2, n3, n4, n5, n6] at d); (with_reducible repeat first | refine W.a1 d ?_ | refine W.a2 ?_ | refine W.a3 ?_ | refine W.bo ?_ | refine W.a5 d fun hw d lw kw => ?_ | refine W.a6 d ?_ | refine W.a7 ?_ | refine W.a8 ?_))
   exact W.lb rfl rfl (KB.refl _ _)
 intro h2 d n2
 ((try simp only [n1, n2, n3, n4, n5, n6] at d); (with_reducible repeat first | refine W.a1 d ?_ | refine W.a2 ?_ | refine W.a3 ?_ | refine W.bo ?_ | refine W.a5 d fun hw d lw kw => ?_ | refine W.a6 d ?_ | refine W.a7 ?_ | refine W.a8 ?_))
 refine W.ite (fun c => ?_) (fun c1 => ?_)
 ·((try simp only [n1, n2, n3, n4, n5, n6] at d); (with_reducible repeat first | refine W.a1 d ?_ | refine W.a2 ?_ | refine W.a3 ?_ | refine W.bo ?_ | refine W.a5 d fun hw d lw kw => ?_ | refine W.a6 d ?_ | refine W.a7 ?_ | refine W.a8 ?_))
  have d := d.call (KB.refl NoB _) (fun _ => False) (fun y => RowO base 39 4 (TmG base (f + 1)) (fun _ => False) y [] none) (none_row _) (fun U y y' k hs x => x.keep (TmG.kp _ _) k hs) (fun _ h => h.elim)
  refine W.ret ⟨[], none, _, true, _, rfl, by simp, d, ?_⟩
  unfold OutL
  cases b with
  | true => rfl
  | false =>
   simp only [Bool.false_eq_true, if_false]
   cases e : gwd G p with
   | none => simp
   | some n =>
    rw [e] at hb1 c
    simp only [Option.isSome_some, Bool.not_true, Bool.or_false] at hb1
    subst hb1
    simp only [Option.getD_some, Bool.false_or] at c
    have c : inB n 0 8 = false := by simpa using c
    simp [c]
 ·have c2 : b1 = false ∧ inB ((gwd G p).getD 0) 0 8 = true := by simpa using c1
  obtain ⟨c2, c3⟩ := c2
  rw [c2] at hb1 d
  have hb : b = false := by
   cases b with
   | true => simp at hb1
   | false => rfl
  subst hb
  cases e : gwd G p with
  | none => rw [e] at hb1; simp at hb1
  | some n =>
   rw [e] at c3
   simp only [Option.getD_some] at c3 ⊢
   have hn : 0 ≤ n ∧ n ≤ 8 := by unfold inB at c3; simpa using c3
   have d := d.call (KB.refl NoB _) (fun _ => False) (fun y => RowO base 39 4 (TmG base (f + 1)) (fun _ => False) y [] none) (none_row _) (fun U y y' k hs x => x.keep (TmG.kp _ _) k hs) (fun _ h => h.elim)
   have w := tuple_loop (base := base) (n := n.toNat) hG hp (by omega) hf hA ih n.toNat h2 [] none c false _ (by simp) hcb d
   rw [show ((n.toNat : Nat) : Int) = n from by omega] at w
   refine W.wb w ?_
   rintro ⟨o1, o2, h3⟩ ⟨l', a', c', b', S', z1, z2, z3, z4, z5⟩
   simp only at z1 z2 z4
   subst z1; subst z2
   refine W.ifT rfl ?_
   ((try simp only [n1, n2, n3, n4, n5, n6] at d); (with_reducible repeat first | refine W.a1 d ?_ | refine W.a2 ?_ | refine W.a3 ?_ | refine W.bo ?_ | refine W.a5 d fun hw d lw kw => ?_ | refine W.a6 d ?_ | refine W.a7 ?_ | refine W.a8 ?_))
   refine W.ret ⟨l', a', c', b', S', rfl, by omega, z4, ?_⟩
   simp only [Option.bind_some, c3, if_true]
   simpa using z5
end Go.Proofs.Ytjmkbglnjklbcaa.Am
set_option linter.unusedSimpArgs false
set_option linter.unusedVariables false
namespace Go.Proofs.Ytjmkbglnjklbcaa.Am
open Go Go.RowKit
theorem valW_le {w : Int} (h : wOk w) : valW w ≤ 1152921504606846976 := by
 obtain ⟨_, h⟩ := h
 unfold valW
 split <;> omega
theorem rdL_end {G : Gn} {g : Int → Int → Option (Tm × Int)} {n : Nat} {w c : Int} (h : w < 0 ∨ tagW w ≠ 5) : rdL G g n w c = if w = 3 then some ([], c) else none := by
 cases n with
 | zero => rw [rdL]
 | succ n => rw [rdL]; simp only [h, if_true]
theorem rdL_on {G : Gn} {g : Int → Int → Option (Tm × Int)} {n : Nat} {w c : Int} (h : ¬ w < 0) (h2 : tagW w = 5) : rdL G g (n + 1) w c = (gwd G (valW w)).bind fun x => (g x c).bind fun t => (gwd G (valW w + 1)).bind fun w' => (rdL G g n w' t.2).bind fun y => some (t.1 :: y.1, y.2) := by
 have h3 : w ≠ 3 := by intro e; subst e; exact absurd h2 (by decide)
 have h4 : ¬ (w < 0 ∨ tagW w ≠ 5) := by simp [h, h2]
 rw [rdL, if_neg h3, if_neg h4]
theorem list_loop {base gb rb f : Nat} {G : Gn} {oa ya aa : Option Addr} {ats : List ByteArray} {m : Bool} {S V : Fp} {A : AH → Prop} {h0 : AH} (hG : G.Ok) (hf : f ≤ 6) (hA : ∀ y, A y → GrB y gb oa ya G aa ats) (ih : GetR base gb oa ya G aa ats f) : ∀ (r : Nat) (h : AH) (w : Int) (l : List Tm) (ao : Option Addr) (c : Int) (b : Bool) (S2 : Fp), wOk w → l.length + r = 21 → (b = false → 0 ≤ c ∧ c ≤ 100) → Hs base V h0 h [(rb, 200, gtV gb aa ats.length c b)] [⟨S, m, A⟩, rTs base (f + 1) S2 l ao] →
  Wp (loopL (B205_0 base) [some (.pointer (at0 rb)), some (.int .i64 w), some (.int .i64 (6 - (f : Int))), some (.slice ao l.length l.length)] h) fun o => ∃ l' a' w' c' b' S', o.1 = 2 ∧ o.2.1 = [some (.pointer (at0 rb)), some (.int .i64 w'), some (.slice a' l'.length l'.length)] ∧ l'.length ≤ 21 ∧ Hs base V h0 o.2.2 [(rb, 200, gtV gb aa ats.length c' b')] [⟨S, m, A⟩, rTs base (f + 1) S' l' a'] ∧ OutL b (rdL G (rdT chkI G ats f) r w c) l l' c' (b' || (w' != 3)) := by
 intro r
 have stop : ∀ (h : AH) (w : Int) (l : List Tm) (ao : Option Addr) (c : Int) (b : Bool) (S2 : Fp) (X : Option (List Tm × Int)), l.length ≤ 21 → Hs base V h0 h [(rb, 200, gtV gb aa ats.length c b)] [⟨S, m, A⟩, rTs base (f + 1) S2 l ao] → (tagW w ≠ 5 ∨ w < 0 ∨ l.length = 21 ∨ b = true) → OutL b X l l c (b || (w != 3)) → Wp (loopL (B205_0 base) [some (.pointer (at0 rb)), some (.int .i64 w), some (.int .i64 (6 - (f : Int))), some (.slice ao l.length l.length)] h) fun o => ∃ l' a' w' c' b' S', o.1 = 2 ∧ o.2.1 = [some (.pointer (at0 rb)), some (.int .i64 w'), some (.slice a' l'.length l'.length)] ∧ l'.length ≤ 21 ∧ Hs base V h0 o.2.2 [(rb, 200, gtV gb aa ats.length c' b')] [⟨S, m, A⟩, rTs base (f + 1) S' l' a'] ∧ OutL b X l l' c' (b' || (w' != 3)) := by
  intro h w l ao c b S2 X hl d hc ho
  suffices w1 : Wp (B205_0 base [some (.pointer (at0 rb)), some (.int .i64 w), some (.int .i64 (6 - (f : Int))), some (.slice ao l.length l.length)] h) fun o => o.1 = 2 ∧ o.2.1 = [some (.pointer (at0 rb)), some (.int .i64 w), some (.slice ao l.length l.length)] ∧ Hs base V h0 o.2.2 [(rb, 200, gtV gb aa ats.length c b)] [⟨S, m, A⟩, rTs base (f + 1) S2 l ao] by
   obtain ⟨⟨o1, o2, h'⟩, e, y1, y2, d'⟩ := w1
   simp only at y1 y2 d'
   subst y1; subst y2
   exact ⟨_, loop_off (by decide) e, l, ao, w, c, b, S2, rfl, rfl, hl, d', ho⟩
  rw [B205_0_eq]
  apply W.jb false d
  ·refine W.bs implTag_run ?_
   ((try simp only [n1, n2, n3, n4, n5, n6] at d); (with_reducible repeat first | refine W.a1 d ?_ | refine W.a2 ?_ | refine W.a3 ?_ | refine W.bo ?_ | refine W.a5 d fun hw d lw kw => ?_ | refine W.a6 d ?_ | refine W.a7 ?_ | refine W.a8 ?_))
   refine W.ite (fun c1 => ?_) (fun c1 => W.lb rfl rfl (KB.refl _ _))
   refine W.ite (fun c2 => ?_) (fun c2 => W.lb rfl rfl (KB.refl _ _))
   refine W.ite (fun c3 => ?_) (fun c3 => W.lb rfl rfl (KB.refl _ _))
   ((try simp only [n1, n2, n3, n4, n5, n6] at d); (with_reducible repeat first | refine W.a1 d ?_ | refine W.a2 ?_ | refine W.a3 ?_ | refine W.bo ?_ | refine W.a5 d fun hw d lw kw => ?_ | refine W.a6 d ?_ | refine W.a7 ?_ | refine W.a8 ?_))
   refine W.lb rfl ?_ (KB.refl _ _)
   have c1 : tagW w = 5 := by simpa using c1
   have c2 : w ≥ 0 := by simpa using c2
   have c3 : (l.length : Int) ≤ 20 := by simpa using c3
   have hb : b = true := by
    rcases hc with h | h | h | h
    ·exact absurd c1 h
    ·omega
    ·omega
    ·exact h
   rw [hb]; rfl
  intro h1 d n1
  ((try simp only [n1, n2, n3, n4, n5, n6] at d); (with_reducible repeat first | refine W.a1 d ?_ | refine W.a2 ?_ | refine W.a3 ?_ | refine W.bo ?_ | refine W.a5 d fun hw d lw kw => ?_ | refine W.a6 d ?_ | refine W.a7 ?_ | refine W.a8 ?_))
  exact W.ifF (by decide) (W.ret ⟨rfl, rfl, d⟩)
 induction r with
 | zero =>
  intro h w l ao c b S2 hw hl hcb d
  refine stop h w l ao c b S2 _ (by omega) d (.inr (.inr (.inl (by omega)))) ?_
  unfold OutL
  cases b with
  | true => rfl
  | false =>
   rw [rdL]
   by_cases e : w = 3
   ·simp [e]
   ·simp [e]
 | succ r ihr =>
  intro h w l ao c b S2 hw hl hcb d
  by_cases hc : tagW w ≠ 5 ∨ w < 0 ∨ l.length = 21 ∨ b = true
  ·refine stop h w l ao c b S2 _ (by omega) d hc ?_
   unfold OutL
   cases b with
   | true => rfl
   | false =>
    have h1 : w < 0 ∨ tagW w ≠ 5 := by
     rcases hc with h | h | h | h
     ·exact .inr h
     ·exact .inl h
     ·omega
     ·cases h
    rw [rdL_end h1]
    by_cases e : w = 3
    ·simp [e]
    ·simp [e]
  ·have h1 : tagW w = 5 := Classical.byContradiction fun h => hc (.inl h)
   have h2 : ¬ w < 0 := fun h => hc (.inr (.inl h))
   have h3 : ¬ l.length = 21 := fun h => hc (.inr (.inr (.inl h)))
   have h4 : b = false := by cases b with
    | true => exact absurd rfl (fun h => hc (.inr (.inr (.inr h))))
    | false => rfl
   subst h4
   have hv := valW_le hw
   have hv0 := valW_nn w
   suffices w1 : Wp (B205_0 base [some (.pointer (at0 rb)), some (.int .i64 w), some (.int .i64 (6 - (f : Int))), some (.slice ao l.length l.length)] h) fun o => ∃ t a' w' c' b' S', wOk w' ∧ o.1 = 0 ∧ o.2.1 = [some (.pointer (at0 rb)), some (.int .i64 w'), some (.int .i64 (6 - (f : Int))), some (.slice a' (l.length + 1) (l.length + 1))] ∧ Hs base V h0 o.2.2 [(rb, 200, gtV gb aa ats.length c' b')] [⟨S, m, A⟩, rTs base (f + 1) S' (l ++ [t]) a'] ∧ (match (gwd G (valW w)).bind fun x => (rdT chkI G ats f x c).bind fun t => (gwd G (valW w + 1)).bind fun w' => some (t, w') with
     | some y => t = y.1.1 ∧ c' = y.1.2 ∧ w' = y.2 ∧ b' = false
     | none => b' = true) by
    obtain ⟨⟨o1, o2, h'⟩, e, t, a', w', c', b', S', wk, y1, y2, d', ho⟩ := w1
    simp only at y1 y2 d'
    subst y1; subst y2
    have el : (l ++ [t]).length = l.length + 1 := by simp
    have hcb' : b' = false → 0 ≤ c' ∧ c' ≤ 100 := by
     intro eb
     cases e1 : gwd G (valW w) with
     | none => rw [e1] at ho; simp at ho; rw [ho] at eb; cases eb
     | some x =>
      rw [e1] at ho
      cases e2 : rdT chkI G ats f x c with
      | none => simp [e2] at ho; rw [ho] at eb; cases eb
      | some y =>
       cases e3 : gwd G (valW w + 1) with
       | none => simp [e2, e3] at ho; rw [ho] at eb; cases eb
       | some v =>
        simp only [Option.bind_some, e2, e3] at ho
        rw [ho.2.1]
        exact rdT_le f x c y e2 (hcb rfl).1
    have q := ihr h' w' (l ++ [t]) a' c' b' S' wk (by omega) hcb' d'
    rw [el] at q
    obtain ⟨o, eo, l2, a2, w2, c2, b2, S3, z1, z2, z3, z4, z5⟩ := q
    refine ⟨o, loop_on e eo, l2, a2, w2, c2, b2, S3, z1, z2, z3, z4, ?_⟩
    rw [rdL_on h2 h1]
    simp only [OutL, Bool.false_eq_true, if_false] at z5 ⊢
    cases e1 : gwd G (valW w) with
    | none =>
     rw [e1] at ho
     simp only [Option.bind_none] at ho ⊢
     rw [if_pos ho] at z5
     exact z5
    | some x =>
     rw [e1] at ho
     simp only [Option.bind_some] at ho ⊢
     cases e2 : rdT chkI G ats f x c with
     | none =>
      rw [e2] at ho
      simp only [Option.bind_none] at ho ⊢
      rw [if_pos ho] at z5
      exact z5
     | some y =>
      rw [e2] at ho
      simp only [Option.bind_some] at ho ⊢
      cases e3 : gwd G (valW w + 1) with
      | none =>
       rw [e3] at ho
       simp only [Option.bind_none] at ho ⊢
       rw [if_pos ho] at z5
       exact z5
      | some v =>
       rw [e3] at ho
       simp only [Option.bind_some] at ho ⊢
       obtain ⟨i1, i2, i3, i4⟩ := ho
       subst i1; subst i2; subst i3; subst i4
       simp only [Bool.false_eq_true, if_false] at z5
       cases e4 : rdL G (rdT chkI G ats f) r w' y.2 with
       | none => rw [e4] at z5; simpa using z5
       | some u =>
        rw [e4] at z5
        simp only [Option.bind_some]
        obtain ⟨i5, i6, i7⟩ := z5
        exact ⟨by rw [i5]; simp, i6, i7⟩
   rw [B205_0_eq]
   apply W.jb true d
   ·refine W.bs implTag_run ?_
    ((try simp only [n1, n2, n3, n4, n5, n6] at d); (with_reducible repeat first | refine W.a1 d ?_ | refine W.a2 ?_ | refine W.a3 ?_ | refine W.bo ?_ | refine W.a5 d fun hw d lw kw => ?_ | refine W.a6 d ?_ | refine W.a7 ?_ | refine W.a8 ?_))
    refine W.ifT (by simp [h1]) (W.ifT (decide_eq_true (by omega)) (W.ifT (decide_eq_true (by omega)) ?_))
    ((try simp only [n1, n2, n3, n4, n5, n6] at d); (with_reducible repeat first | refine W.a1 d ?_ | refine W.a2 ?_ | refine W.a3 ?_ | refine W.bo ?_ | refine W.a5 d fun hw d lw kw => ?_ | refine W.a6 d ?_ | refine W.a7 ?_ | refine W.a8 ?_))
    exact W.lb rfl rfl (KB.refl _ _)
   intro h1' d n1
   ((try simp only [n1, n2, n3, n4, n5, n6] at d); (with_reducible repeat first | refine W.a1 d ?_ | refine W.a2 ?_ | refine W.a3 ?_ | refine W.bo ?_ | refine W.a5 d fun hw d lw kw => ?_ | refine W.a6 d ?_ | refine W.a7 ?_ | refine W.a8 ?_))
   refine W.ifT (by decide) (W.bs (implVal_run hw.2) ?_)
   ((try simp only [n1, n2, n3, n4, n5, n6] at d); (with_reducible repeat first | refine W.a1 d ?_ | refine W.a2 ?_ | refine W.a3 ?_ | refine W.bo ?_ | refine W.a5 d fun hw d lw kw => ?_ | refine W.a6 d ?_ | refine W.a7 ?_ | refine W.a8 ?_))
   refine W.wb (getWord_run (base := base) hG (by omega) hA d) ?_
   rintro ⟨u1, h2'⟩ ⟨rfl, d⟩
   simp only at d
   ((try simp only [n1, n2, n3, n4, n5, n6] at d); (with_reducible repeat first | refine W.a1 d ?_ | refine W.a2 ?_ | refine W.a3 ?_ | refine W.bo ?_ | refine W.a5 d fun hw d lw kw => ?_ | refine W.a6 d ?_ | refine W.a7 ?_ | refine W.a8 ?_))
   rw [w64i (n := 6 - (f : Int) + 1) (by omega) (by omega), show 6 - (f : Int) + 1 = 7 - (f : Int) from by omega]
   have d1 := Hs.part (D1 := [_]) (R1 := [_]) d
   refine W.wb (ih rb _ c _ m S _ A _ _ (gwd_getD hG _) (fun _ => hcb rfl) hA d1) ?_
   rintro ⟨u, h3'⟩ ⟨t, cs', S', c', b', y1, d2, ho⟩
   simp only at y1 d2
   subst y1
   have d := Hs.back (D1 := [_]) (R1 := [_]) d d2 (imA rfl)
   obtain ⟨k1, k2, k3, k4, k5, rfl⟩ := (d.rs (i := 1) rfl : TmG base (f + 1) S' h3' t _).form
   ((try simp only [n1, n2, n3, n4, n5, n6] at d); (with_reducible repeat first | refine W.a1 d ?_ | refine W.a2 ?_ | refine W.a3 ?_ | refine W.bo ?_ | refine W.a5 d fun hw d lw kw => ?_ | refine W.a6 d ?_ | refine W.a7 ?_ | refine W.a8 ?_); (refine W.nD d fun h5 d _ kh5 => ?_); (with_reducible repeat first | refine W.a1 d ?_ | refine W.a2 ?_ | refine W.a3 ?_ | refine W.bo ?_ | refine W.a5 d fun hw d lw kw => ?_ | refine W.a6 d ?_ | refine W.a7 ?_ | refine W.a8 ?_))
   ((try simp only [n1, n2, n3, n4, n5, n6] at d); (with_reducible repeat first | refine W.a1 d ?_ | refine W.a2 ?_ | refine W.a3 ?_ | refine W.bo ?_ | refine W.a5 d fun hw d lw kw => ?_ | refine W.a6 d ?_ | refine W.a7 ?_ | refine W.a8 ?_); (refine W.nD d fun h6 d _ kh6 => ?_); (with_reducible repeat first | refine W.a1 d ?_ | refine W.a2 ?_ | refine W.a3 ?_ | refine W.bo ?_ | refine W.a5 d fun hw d lw kw => ?_ | refine W.a6 d ?_ | refine W.a7 ?_ | refine W.a8 ?_))
   obtain ⟨a5, h7, S5, e5, d, _, _, _⟩ := d.app1 (i := 2) (j := 1) (bytes := 56) (TmG.kp _ _) rfl rfl (by decide) (.head _) rfl (by decide) rfl (by omega) (by omega)
   refine W.bs e5 ?_
   ((try simp only [n1, n2, n3, n4, n5, n6] at d); (with_reducible repeat first | refine W.a1 d ?_ | refine W.a2 ?_ | refine W.a3 ?_ | refine W.bo ?_ | refine W.a5 d fun hw d lw kw => ?_ | refine W.a6 d ?_ | refine W.a7 ?_ | refine W.a8 ?_))
   have d := ((((d.tl.tl).frontR (Del.at (i := 2) rfl)).frontR (Del.at (i := 1) rfl)).takeR 2)
   rw [w64i (n := valW w + 1) (by omega) (by omega)]
   refine W.wb (getWord_run (base := base) hG (by omega) hA d) ?_
   rintro ⟨u3, h8⟩ ⟨rfl, d⟩
   simp only at d
   ((try simp only [n1, n2, n3, n4, n5, n6] at d); (with_reducible repeat first | refine W.a1 d ?_ | refine W.a2 ?_ | refine W.a3 ?_ | refine W.bo ?_ | refine W.a5 d fun hw d lw kw => ?_ | refine W.a6 d ?_ | refine W.a7 ?_ | refine W.a8 ?_))
   refine W.ret ⟨t, a5, _, c', _, S5, gwd_getD hG (valW w + 1), rfl, rfl, d, ?_⟩
   unfold OutT at ho
   cases e1 : gwd G (valW w) with
   | none => rw [e1] at ho; simp at ho; simp [ho]
   | some x =>
    rw [e1] at ho
    simp only [Option.isSome_some, Bool.not_true, Bool.or_false, Bool.false_eq_true, if_false, Option.getD_some] at ho
    simp only [Option.bind_some]
    cases e2 : rdT chkI G ats f x c with
    | none => rw [e2] at ho; simp at ho; simp [ho]
    | some y =>
     rw [e2] at ho
     obtain ⟨i1, i2, i3⟩ := ho
     simp only [Option.bind_some]
     cases e3 : gwd G (valW w + 1) with
     | none => simp
     | some v => simp [i1, i2, i3]
end Go.Proofs.Ytjmkbglnjklbcaa.Am
set_option linter.unusedSimpArgs false
set_option linter.unusedVariables false
namespace Go.Proofs.Ytjmkbglnjklbcaa.Am
open Go Go.RowKit
theorem list_run {base gb rb f : Nat} {G : Gn} {oa ya aa : Option Addr} {ats : List ByteArray} {w c : Int} {b m : Bool} {S V : Fp} {A : AH → Prop} {h0 h : AH} (hG : G.Ok) (hw : wOk w) (hf : f ≤ 6) (hA : ∀ y, A y → GrB y gb oa ya G aa ats) (ih : GetR base gb oa ya G aa ats f) (hcb : b = false → 0 ≤ c ∧ c ≤ 100) (d0 : Hs base V h0 h [(rb, 200, gtV gb aa ats.length c b)] [⟨S, m, A⟩]) :
  Wp (run (Et base) 205 [.pointer (at0 rb), .int .i64 w, .int .i64 (6 - (f : Int))] h) fun o => ∃ l a' c' b' S', o.1 = .slice a' l.length l.length ∧ l.length ≤ 21 ∧ Hs base V h0 o.2 [(rb, 200, gtV gb aa ats.length c' b')] [⟨S, m, A⟩, rTs base (f + 1) S' l a'] ∧ OutL b (rdL G (rdT chkI G ats f) 21 w c) [] l c' b' := by
 refine W.of (fun r hx => Am.r205 hx) ?_
 have none_row : ∀ y, RowO base 39 4 (TmG base (f + 1)) (fun _ => False) y [] none := fun y => RowO.nil
 have d := d0.call (KB.refl NoB _) (fun _ => False) (fun y => RowO base 39 4 (TmG base (f + 1)) (fun _ => False) y [] none) (none_row _) (fun U y y' k hs x => x.keep (TmG.kp _ _) k hs) (fun _ h => h.elim)
 refine W.wb (list_loop (base := base) hG hf hA ih 21 h w [] none c b _ hw (by simp) hcb d) ?_
 rintro ⟨o1, o2, h1⟩ ⟨l, a', w', c', b', S', z1, z2, z3, d, z5⟩
 simp only at z1 z2 d
 subst z1; subst z2
 refine W.ifT rfl ?_
 ((try simp only [n1, n2, n3, n4, n5, n6] at d); (with_reducible repeat first | refine W.a1 d ?_ | refine W.a2 ?_ | refine W.a3 ?_ | refine W.bo ?_ | refine W.a5 d fun hw d lw kw => ?_ | refine W.a6 d ?_ | refine W.a7 ?_ | refine W.a8 ?_))
 refine W.join ?_
 ((try simp only [n1, n2, n3, n4, n5, n6] at d); (with_reducible repeat first | refine W.a1 d ?_ | refine W.a2 ?_ | refine W.a3 ?_ | refine W.bo ?_ | refine W.a5 d fun hw d lw kw => ?_ | refine W.a6 d ?_ | refine W.a7 ?_ | refine W.a8 ?_))
 refine W.ite (fun c => ?_) (fun c => ?_)
 ·((try simp only [n1, n2, n3, n4, n5, n6] at d); (with_reducible repeat first | refine W.a1 d ?_ | refine W.a2 ?_ | refine W.a3 ?_ | refine W.bo ?_ | refine W.a5 d fun hw d lw kw => ?_ | refine W.a6 d ?_ | refine W.a7 ?_ | refine W.a8 ?_))
  refine W.il ?_
  ((try simp only [n1, n2, n3, n4, n5, n6] at d); (with_reducible repeat first | refine W.a1 d ?_ | refine W.a2 ?_ | refine W.a3 ?_ | refine W.bo ?_ | refine W.a5 d fun hw d lw kw => ?_ | refine W.a6 d ?_ | refine W.a7 ?_ | refine W.a8 ?_))
  rw [c] at z5
  exact W.ret ⟨l, a', _, true, S', rfl, z3, d, z5⟩
 ·have c : b' = false := by simpa using c
  subst c
  refine W.bs implMk_run ?_
  ((try simp only [n1, n2, n3, n4, n5, n6] at d); (with_reducible repeat first | refine W.a1 d ?_ | refine W.a2 ?_ | refine W.a3 ?_ | refine W.bo ?_ | refine W.a5 d fun hw d lw kw => ?_ | refine W.a6 d ?_ | refine W.a7 ?_ | refine W.a8 ?_))
  refine W.il ?_
  ((try simp only [n1, n2, n3, n4, n5, n6] at d); (with_reducible repeat first | refine W.a1 d ?_ | refine W.a2 ?_ | refine W.a3 ?_ | refine W.bo ?_ | refine W.a5 d fun hw d lw kw => ?_ | refine W.a6 d ?_ | refine W.a7 ?_ | refine W.a8 ?_))
  refine W.ret ⟨l, a', _, _, S', rfl, z3, d, ?_⟩
  rw [show mkW 3 0 = 3 from rfl]
  simpa using z5
end Go.Proofs.Ytjmkbglnjklbcaa.Am
set_option linter.unusedSimpArgs false
set_option linter.unusedVariables false
namespace Go.Proofs.Ytjmkbglnjklbcaa.Am
open Go Go.RowKit
def OutB (b : Bool) (x : Option (List Int)) (l l' : List Int) (b' : Bool) : Prop := if b = true then b' = true else match x with
 | some y => l' = l ++ y ∧ b' = false
 | none => b' = true
abbrev rBs (base : Nat) (S : Fp) (l : List Int) (a : Option Addr) : Rs := ⟨S, true, fun y => Own base 5 y a (iv .u8 l)⟩
theorem bin_loop {base gb rb : Nat} {G : Gn} {oa ya aa : Option Addr} {ats : List ByteArray} {p c : Int} {n : Nat} {m : Bool} {S V : Fp} {A : AH → Prop} {h0 : AH} (hG : G.Ok) (hp : 0 ≤ p ∧ p ≤ 9223372036854700000) (hn : n ≤ 40) (hA : ∀ y, A y → GrB y gb oa ya G aa ats) : ∀ (r : Nat) (h : AH) (l : List Int) (ao : Option Addr) (b : Bool) (S2 : Fp), l.length + r = n → (∀ x, blk ao x → S2 x) → Hs base V h0 h [(rb, 200, gtV gb aa ats.length c b)] [⟨S, m, A⟩, rBs base S2 l ao] →
  Wp (loopL (B206_0 base) [some (.pointer (at0 rb)), some (.int .i64 p), some (.int .i64 (n : Int)), some (.slice ao l.length l.length), some (.int .i64 ((l.length : Int) + 1))] h) fun o => ∃ l' a' b' S', o.1 = 2 ∧ o.2.1 = [some (.slice a' l'.length l'.length)] ∧ l'.length ≤ n ∧ Hs base V h0 o.2.2 [(rb, 200, gtV gb aa ats.length c b')] [⟨S, m, A⟩, rBs base S' l' a'] ∧ OutB b (rdB G r (p + 1 + l.length)) l l' b' := by
 intro r
 induction r with
 | zero =>
  intro h l ao b S2 hl hS d
  suffices w : Wp (B206_0 base [some (.pointer (at0 rb)), some (.int .i64 p), some (.int .i64 (n : Int)), some (.slice ao l.length l.length), some (.int .i64 ((l.length : Int) + 1))] h) fun o => o = (2, [some (.slice ao l.length l.length)], h) by
   obtain ⟨o, e, rfl⟩ := w
   refine ⟨_, loop_off (by decide) e, l, ao, b, S2, rfl, rfl, by omega, d, ?_⟩
   unfold OutB
   split
   ·rename_i hb; exact hb
   ·rename_i hb; exact ⟨by simp [rdB], by simpa using hb⟩
  rw [B206_0_eq]
  exact W.ifF (by simp; omega) (W.ret rfl)
 | succ r ihr =>
  intro h l ao b S2 hl hS d
  suffices w : Wp (B206_0 base [some (.pointer (at0 rb)), some (.int .i64 p), some (.int .i64 (n : Int)), some (.slice ao l.length l.length), some (.int .i64 ((l.length : Int) + 1))] h) fun o => ∃ x a' b' S', o.1 = 0 ∧ o.2.1 = [some (.pointer (at0 rb)), some (.int .i64 p), some (.int .i64 (n : Int)), some (.slice a' (l.length + 1) (l.length + 1)), some (.int .i64 ((l.length : Int) + 1 + 1))] ∧ (∀ x, blk a' x → S' x) ∧ Hs base V h0 o.2.2 [(rb, 200, gtV gb aa ats.length c b')] [⟨S, m, A⟩, rBs base S' (l ++ [x]) a'] ∧ (if b = true then b' = true else match gwd G (p + 1 + l.length) with
    | some w => (if inB w 0 255 = true then x = w ∧ b' = false else b' = true)
    | none => b' = true) by
   obtain ⟨⟨o1, o2, h'⟩, e, x, a', b', S', y1, y2, hS', d', ho⟩ := w
   simp only at y1 y2 d'
   subst y1; subst y2
   have el : (l ++ [x]).length = l.length + 1 := by simp
   have q := ihr h' (l ++ [x]) a' b' S' (by omega) hS' d'
   rw [el] at q
   obtain ⟨o, eo, l2, a2, b2, S3, z1, z2, z3, z4, z5⟩ := q
   refine ⟨o, loop_on e eo, l2, a2, b2, S3, z1, z2, z3, z4, ?_⟩
   unfold OutB at z5 ⊢
   cases b with
   | true =>
    rw [if_pos rfl] at ho ⊢
    rw [if_pos ho] at z5
    exact z5
   | false =>
    simp only [Bool.false_eq_true, if_false, rdB] at ho ⊢
    cases e1 : gwd G (p + 1 + l.length) with
    | none =>
     rw [e1] at ho
     simp only [Option.bind_none] at ho ⊢
     rw [if_pos ho] at z5
     exact z5
    | some w =>
     rw [e1] at ho
     simp only [Option.bind_some] at ho ⊢
     by_cases e2 : inB w 0 255 = true
     ·rw [if_pos e2] at ho ⊢
      obtain ⟨h1, h3⟩ := ho
      subst h1; subst h3
      simp only [Bool.false_eq_true, if_false] at z5
      rw [show p + 1 + ((l.length + 1 : Nat) : Int) = p + 1 + (l.length : Int) + 1 from by omega] at z5
      cases e3 : rdB G r (p + 1 + (l.length : Int) + 1) with
      | none => rw [e3] at z5; simpa using z5
      | some u =>
       rw [e3] at z5
       simp only [Option.bind_some]
       obtain ⟨h4, h6⟩ := z5
       exact ⟨by rw [h4]; simp, h6⟩
     ·rw [if_neg e2] at ho ⊢
      rw [if_pos ho] at z5
      exact z5
  rw [B206_0_eq]
  refine W.ifT (decide_eq_true (by omega)) ?_
  rw [w64i (n := p + ((l.length : Int) + 1)) (by omega) (by omega)]
  refine W.wb (getWord_run (base := base) hG (by omega) hA d) ?_
  rintro ⟨u1, h1⟩ ⟨rfl, d⟩
  simp only at d
  ((try simp only [n1, n2, n3, n4, n5, n6] at d); (with_reducible repeat first | refine W.a1 d ?_ | refine W.a2 ?_ | refine W.a3 ?_ | refine W.bo ?_ | refine W.a5 d fun hw d lw kw => ?_ | refine W.a6 d ?_ | refine W.a7 ?_ | refine W.a8 ?_))
  rw [show p + ((l.length : Int) + 1) = p + 1 + (l.length : Int) from by omega] at d ⊢
  refine W.join ?_
  ((try simp only [n1, n2, n3, n4, n5, n6] at d); (with_reducible repeat first | refine W.a1 d ?_ | refine W.a2 ?_ | refine W.a3 ?_ | refine W.bo ?_ | refine W.a5 d fun hw d lw kw => ?_ | refine W.a6 d ?_ | refine W.a7 ?_ | refine W.a8 ?_))
  generalize hb1 : (b || !(gwd G (p + 1 + (l.length : Int))).isSome) = b1 at d
  refine W.ite (fun c1 => ?_) (fun c1 => ?_)
  ·((try simp only [n1, n2, n3, n4, n5, n6] at d); (with_reducible repeat first | refine W.a1 d ?_ | refine W.a2 ?_ | refine W.a3 ?_ | refine W.bo ?_ | refine W.a5 d fun hw d lw kw => ?_ | refine W.a6 d ?_ | refine W.a7 ?_ | refine W.a8 ?_))
   refine W.il ?_
   ((try simp only [n1, n2, n3, n4, n5, n6] at d); (with_reducible repeat first | refine W.a1 d ?_ | refine W.a2 ?_ | refine W.a3 ?_ | refine W.bo ?_ | refine W.a5 d fun hw d lw kw => ?_ | refine W.a6 d ?_ | refine W.a7 ?_ | refine W.a8 ?_); (refine W.nD d fun h3 d _ kh3 => ?_); (with_reducible repeat first | refine W.a1 d ?_ | refine W.a2 ?_ | refine W.a3 ?_ | refine W.bo ?_ | refine W.a5 d fun hw d lw kw => ?_ | refine W.a6 d ?_ | refine W.a7 ?_ | refine W.a8 ?_))
   obtain ⟨a5, h5, e5, d, q5, k5, _⟩ := d.app1O (w := 1) (i := 1) (n := l.length) (bytes := 1) rfl hS (.head _) rfl (by decide) (by simp) rfl (by omega) (by omega)
   refine W.bs e5 ?_
   ((try simp only [n1, n2, n3, n4, n5, n6] at d); (with_reducible repeat first | refine W.a1 d ?_ | refine W.a2 ?_ | refine W.a3 ?_ | refine W.bo ?_ | refine W.a5 d fun hw d lw kw => ?_ | refine W.a6 d ?_ | refine W.a7 ?_ | refine W.a8 ?_))
   rw [w64i (n := (l.length : Int) + 1 + 1) (by omega) (by omega)]
   have d := d.tl
   rw [show iv .u8 l ++ [Value.int .u8 (IntKind.wrap .u8 ((gwd G (p + 1 + (l.length : Int))).getD 0))] = iv .u8 (l ++ [IntKind.wrap .u8 ((gwd G (p + 1 + (l.length : Int))).getD 0)]) from by rw [← iv_append]; rfl] at d
   refine W.ret ⟨_, a5, _, _, rfl, rfl, fun x hx => hx, d, ?_⟩
   cases b with
   | true => rfl
   | false =>
    simp only [Bool.false_eq_true, if_false]
    cases e : gwd G (p + 1 + (l.length : Int)) with
    | none => simp
    | some w =>
     rw [e] at hb1
     have h9 : b1 = false := by rw [← hb1]; rfl
     rw [h9] at c1; cases c1
  ·have c1 : b1 = false := by simpa using c1
   refine W.bs in_run ?_
   ((try simp only [n1, n2, n3, n4, n5, n6] at d); (with_reducible repeat first | refine W.a1 d ?_ | refine W.a2 ?_ | refine W.a3 ?_ | refine W.bo ?_ | refine W.a5 d fun hw d lw kw => ?_ | refine W.a6 d ?_ | refine W.a7 ?_ | refine W.a8 ?_))
   refine W.il ?_
   ((try simp only [n1, n2, n3, n4, n5, n6] at d); (with_reducible repeat first | refine W.a1 d ?_ | refine W.a2 ?_ | refine W.a3 ?_ | refine W.bo ?_ | refine W.a5 d fun hw d lw kw => ?_ | refine W.a6 d ?_ | refine W.a7 ?_ | refine W.a8 ?_); (refine W.nD d fun h3 d _ kh3 => ?_); (with_reducible repeat first | refine W.a1 d ?_ | refine W.a2 ?_ | refine W.a3 ?_ | refine W.bo ?_ | refine W.a5 d fun hw d lw kw => ?_ | refine W.a6 d ?_ | refine W.a7 ?_ | refine W.a8 ?_))
   obtain ⟨a5, h5, e5, d, q5, k5, _⟩ := d.app1O (w := 1) (i := 1) (n := l.length) (bytes := 1) rfl hS (.head _) rfl (by decide) (by simp) rfl (by omega) (by omega)
   refine W.bs e5 ?_
   ((try simp only [n1, n2, n3, n4, n5, n6] at d); (with_reducible repeat first | refine W.a1 d ?_ | refine W.a2 ?_ | refine W.a3 ?_ | refine W.bo ?_ | refine W.a5 d fun hw d lw kw => ?_ | refine W.a6 d ?_ | refine W.a7 ?_ | refine W.a8 ?_))
   rw [w64i (n := (l.length : Int) + 1 + 1) (by omega) (by omega)]
   have d := d.tl
   rw [show iv .u8 l ++ [Value.int .u8 (IntKind.wrap .u8 ((gwd G (p + 1 + (l.length : Int))).getD 0))] = iv .u8 (l ++ [IntKind.wrap .u8 ((gwd G (p + 1 + (l.length : Int))).getD 0)]) from by rw [← iv_append]; rfl] at d
   refine W.ret ⟨_, a5, _, _, rfl, rfl, fun x hx => hx, d, ?_⟩
   rw [c1] at hb1
   cases b with
   | true => simp at hb1
   | false =>
    simp only [Bool.false_eq_true, if_false]
    cases e : gwd G (p + 1 + (l.length : Int)) with
    | none => rw [e] at hb1; simp at hb1
    | some w =>
     simp only [Option.getD_some]
     by_cases c2 : inB w 0 255 = true
     ·rw [if_pos c2, c2]
      have : 0 ≤ w ∧ w ≤ 255 := by unfold inB at c2; simpa using c2
      exact ⟨IntWalk.u8_in w ⟨this.1, this.2⟩, rfl⟩
     ·rw [if_neg c2]
      have c2 : inB w 0 255 = false := by simpa using c2
      rw [c2]; rfl
end Go.Proofs.Ytjmkbglnjklbcaa.Am
set_option linter.unusedSimpArgs false
set_option linter.unusedVariables false
namespace Go.Proofs.Ytjmkbglnjklbcaa.Am
open Go Go.RowKit
end Go.Proofs.Ytjmkbglnjklbcaa.Am
set_option linter.unusedSimpArgs false
set_option linter.unusedVariables false
namespace Go.Proofs.Ytjmkbglnjklbcaa.Am
open Go Go.RowKit
end Go.Proofs.Ytjmkbglnjklbcaa.Am
set_option linter.unusedSimpArgs false
set_option linter.unusedVariables false
namespace Go.Proofs.Ytjmkbglnjklbcaa.Am
open Go Go.RowKit
theorem p0 : (128 : Int) ^ 0 = 1 := by decide
theorem p1 : (128 : Int) ^ 1 = 128 := by decide
theorem p2 : (128 : Int) ^ 2 = 16384 := by decide
theorem p3 : (128 : Int) ^ 3 = 2097152 := by decide
end Go.Proofs.Ytjmkbglnjklbcaa.Am
set_option linter.unusedSimpArgs false
set_option linter.unusedVariables false
namespace Go.Proofs.Ytjmkbglnjklbcaa.Am
open Go Go.RowKit
theorem bstr_go (ns : List Int) : ∀ r : ByteArray, (ns.foldl (fun r n => r.push (UInt8.ofNat n.toNat)) r).data.toList = r.data.toList ++ ns.map fun n => UInt8.ofNat n.toNat := by
 induction ns with
 | nil => intro r; simp
 | cons n ns ih =>
  intro r
  rw [List.foldl_cons, ih]
  simp [ByteArray.push]
theorem bstr_data (ns : List Int) : (bstr ns).data.toList = ns.map fun n => UInt8.ofNat n.toNat := by
 unfold bstr
 rw [bstr_go]
 rfl
theorem bstr_size (ns : List Int) : (bstr ns).size = ns.length := by
 have := congrArg List.length (bstr_data ns)
 simpa using this
end Go.Proofs.Ytjmkbglnjklbcaa.Am
set_option linter.unusedSimpArgs false
set_option linter.unusedVariables false
namespace Go.Proofs.Ytjmkbglnjklbcaa.Am
open Go Go.RowKit
theorem bin_run {base gb rb : Nat} {G : Gn} {oa ya aa : Option Addr} {ats : List ByteArray} {p c : Int} {b m : Bool} {S V : Fp} {A : AH → Prop} {h0 h : AH} (hG : G.Ok) (hp : 0 ≤ p ∧ p ≤ 9223372036854700000) (hA : ∀ y, A y → GrB y gb oa ya G aa ats) (d0 : Hs base V h0 h [(rb, 200, gtV gb aa ats.length c b)] [⟨S, m, A⟩]) :
  Wp (run (Et base) 206 [.pointer (at0 rb), .int .i64 p] h) fun o => ∃ s b', o.1 = .string s ∧ s.size ≤ 40 ∧ Hs base V h0 o.2 [(rb, 200, gtV gb aa ats.length c b')] [⟨S, m, A⟩] ∧ (if b = true then b' = true else match (gwd G p).bind fun n => if inB n 0 40 = true then rdB G n.toNat (p + 1) else none with
   | some y => s = bstr y ∧ b' = false
   | none => b' = true) := by
 refine W.of (fun r hx => Am.r206 hx) ?_
 refine W.wb (getWord_run (base := base) hG (by omega) hA d0) ?_
 rintro ⟨u1, h1⟩ ⟨rfl, d⟩
 simp only at d
 ((try simp only [n1, n2, n3, n4, n5, n6] at d); (with_reducible repeat first | refine W.a1 d ?_ | refine W.a2 ?_ | refine W.a3 ?_ | refine W.bo ?_ | refine W.a5 d fun hw d lw kw => ?_ | refine W.a6 d ?_ | refine W.a7 ?_ | refine W.a8 ?_))
 generalize hb1 : (b || !(gwd G p).isSome) = b1 at d
 apply W.jb (b1 || !inB ((gwd G p).getD 0) 0 40) d
 ·((try simp only [n1, n2, n3, n4, n5, n6] at d); (with_reducible repeat first | refine W.a1 d ?_ | refine W.a2 ?_ | refine W.a3 ?_ | refine W.bo ?_ | refine W.a5 d fun hw d lw kw => ?_ | refine W.a6 d ?_ | refine W.a7 ?_ | refine W.a8 ?_))
  refine W.ite (fun c => ?_) (fun c => ?_)
  ·rw [c]
   exact W.lb rfl rfl (KB.refl _ _)
  ·have c : b1 = false := by simpa using c
   rw [c]
   refine W.bs in_run ?_
   ((try simp only [n1, n2, n3, n4, n5, n6] at d); (with_reducible repeat first | refine W.a1 d ?_ | refine W.a2 ?_ | refine W.a3 ?_ | refine W.bo ?_ | refine W.a5 d fun hw d lw kw => ?_ | refine W.a6 d ?_ | refine W.a7 ?_ | refine W.a8 ?_))
   exact W.lb rfl rfl (KB.refl _ _)
 intro h2 d n2
 ((try simp only [n1, n2, n3, n4, n5, n6] at d); (with_reducible repeat first | refine W.a1 d ?_ | refine W.a2 ?_ | refine W.a3 ?_ | refine W.bo ?_ | refine W.a5 d fun hw d lw kw => ?_ | refine W.a6 d ?_ | refine W.a7 ?_ | refine W.a8 ?_))
 refine W.ite (fun c => ?_) (fun c1 => ?_)
 ·((try simp only [n1, n2, n3, n4, n5, n6] at d); (with_reducible repeat first | refine W.a1 d ?_ | refine W.a2 ?_ | refine W.a3 ?_ | refine W.bo ?_ | refine W.a5 d fun hw d lw kw => ?_ | refine W.a6 d ?_ | refine W.a7 ?_ | refine W.a8 ?_))
  refine W.ret ⟨_, true, rfl, by decide, d, ?_⟩
  cases b with
  | true => rfl
  | false =>
   simp only [Bool.false_eq_true, if_false]
   cases e : gwd G p with
   | none => simp
   | some n =>
    rw [e] at hb1 c
    simp only [Option.isSome_some, Bool.not_true, Bool.or_false] at hb1
    subst hb1
    simp only [Option.getD_some, Bool.false_or] at c
    have c : inB n 0 40 = false := by simpa using c
    simp [c]
 ·have c2 : b1 = false ∧ inB ((gwd G p).getD 0) 0 40 = true := by simpa using c1
  obtain ⟨c2, c3⟩ := c2
  rw [c2] at hb1 d
  have hb : b = false := by
   cases b with
   | true => simp at hb1
   | false => rfl
  subst hb
  cases e : gwd G p with
  | none => rw [e] at hb1; simp at hb1
  | some n =>
   rw [e] at c3
   simp only [Option.getD_some] at c3 ⊢
   have hn : 0 ≤ n ∧ n ≤ 40 := by unfold inB at c3; simpa using c3
   have d := d.call (KB.refl NoB _) (fun _ => False) (fun y => Own base 5 y none (iv .u8 [])) (.inl ⟨rfl, rfl⟩) (fun U y y' k hs x => Own.keep x k fun b hb => by obtain ⟨_, e, _⟩ := hb; cases e) (fun _ h => h.elim)
   have w := bin_loop (base := base) (c := c) (n := n.toNat) hG hp (by omega) hA n.toNat h2 [] none false _ (by simp) (fun x hx => by obtain ⟨_, e, _⟩ := hx; cases e) d
   rw [show ((n.toNat : Nat) : Int) = n from by omega] at w
   refine W.wb w ?_
   rintro ⟨o1, o2, h3⟩ ⟨l', a', b', S', z1, z2, z3, z4, z5⟩
   simp only at z1 z2 z4
   subst z1; subst z2
   refine W.ifT rfl ?_
   ((try simp only [n1, n2, n3, n4, n5, n6] at d); (with_reducible repeat first | refine W.a1 d ?_ | refine W.a2 ?_ | refine W.a3 ?_ | refine W.bo ?_ | refine W.a5 d fun hw d lw kw => ?_ | refine W.a6 d ?_ | refine W.a7 ?_ | refine W.a8 ?_))
   have hr : (rawAt h3 a' l'.length).bind u8s = some l' := raw_iv (Own.sl (z4.rs (i := 1) rfl))
   refine W.bs hr ?_
   refine W.ret ⟨_, b', rfl, ?_, z4.takeR 1, ?_⟩
   ·rw [bstr_size]; omega
   ·simp only [Option.bind_some, c3, if_true]
    unfold OutB at z5
    simp only [Bool.false_eq_true, if_false] at z5 ⊢
    cases e5 : rdB G n.toNat (p + 1) with
    | none => simp only [List.length_nil, Int.natCast_zero, Int.add_zero] at z5; rw [e5] at z5; simpa using z5
    | some u =>
     simp only [List.length_nil, Int.natCast_zero, Int.add_zero] at z5
     rw [e5] at z5
     obtain ⟨h4, h6⟩ := z5
     exact ⟨by rw [h4]; rfl, h6⟩
end Go.Proofs.Ytjmkbglnjklbcaa.Am
set_option linter.unusedSimpArgs false
set_option linter.unusedVariables false
namespace Go.Proofs.Ytjmkbglnjklbcaa.Am
open Go Go.RowKit
theorem get_zero {base gb : Nat} {oa ya : Option Addr} {G : Gn} {aa : Option Addr} {ats : List ByteArray} : GetR base gb oa ya G aa ats 0 := by
 intro rb w c b m S V A h0 h hwk hcb hA d
 refine W.of (fun r hx => Am.r184 hx) ?_
 ((try simp only [n1, n2, n3, n4, n5, n6] at d); (with_reducible repeat first | refine W.a1 d ?_ | refine W.a2 ?_ | refine W.a3 ?_ | refine W.bo ?_ | refine W.a5 d fun hw d lw kw => ?_ | refine W.a6 d ?_ | refine W.a7 ?_ | refine W.a8 ?_); (refine W.nD d fun h1 d _ kh1 => ?_); (with_reducible repeat first | refine W.a1 d ?_ | refine W.a2 ?_ | refine W.a3 ?_ | refine W.bo ?_ | refine W.a5 d fun hw d lw kw => ?_ | refine W.a6 d ?_ | refine W.a7 ?_ | refine W.a8 ?_))
 refine W.bs (implVal_run hwk.2) ?_
 ((try simp only [n1, n2, n3, n4, n5, n6] at d); (with_reducible repeat first | refine W.a1 d ?_ | refine W.a2 ?_ | refine W.a3 ?_ | refine W.bo ?_ | refine W.a5 d fun hw d lw kw => ?_ | refine W.a6 d ?_ | refine W.a7 ?_ | refine W.a8 ?_))
 apply W.jb true d
 ·((try simp only [n1, n2, n3, n4, n5, n6] at d); (with_reducible repeat first | refine W.a1 d ?_ | refine W.a2 ?_ | refine W.a3 ?_ | refine W.bo ?_ | refine W.a5 d fun hw d lw kw => ?_ | refine W.a6 d ?_ | refine W.a7 ?_ | refine W.a8 ?_))
  refine W.ite (fun c1 => W.lb rfl rfl (KB.refl _ _)) (fun c1 => ?_)
  refine W.ite (fun c2 => W.lb rfl rfl (KB.refl _ _)) (fun c2 => ?_)
  refine W.ite (fun c3 => W.lb rfl rfl (KB.refl _ _)) (fun c3 => ?_)
  exact W.ifT (by decide) (W.lb rfl rfl (KB.refl _ _))
 intro h2 d n2
 ((try simp only [n1, n2, n3, n4, n5, n6] at d); (with_reducible repeat first | refine W.a1 d ?_ | refine W.a2 ?_ | refine W.a3 ?_ | refine W.bo ?_ | refine W.a5 d fun hw d lw kw => ?_ | refine W.a6 d ?_ | refine W.a7 ?_ | refine W.a8 ?_))
 refine W.ifT (by decide) ?_
 ((try simp only [n1, n2, n3, n4, n5, n6] at d); (with_reducible repeat first | refine W.a1 d ?_ | refine W.a2 ?_ | refine W.a3 ?_ | refine W.bo ?_ | refine W.a5 d fun hw d lw kw => ?_ | refine W.a6 d ?_ | refine W.a7 ?_ | refine W.a8 ?_))
 have d := (d.tl).call (KB.refl NoB _) (fun _ => False) (fun y => TmG base (0 + 1) (fun _ => False) y tmZ (termV 0 0 ⟨#[]⟩ none 0)) tmZ_G (fun U y y' k hs x => TmG.kp _ _ _ U y y' _ _ k hs x) (fun _ h => h.elim)
 refine W.ret ⟨tmZ, termV 0 0 ⟨#[]⟩ none 0, _, _, true, rfl, d, ?_⟩
 unfold OutT rdT
 cases b <;> rfl
theorem rdT_big {G : Gn} {ats : List ByteArray} (hG : G.Ok) (ha : ats.length ≤ 1048576) {f : Nat} {w c : Int} (hv : valW w > 4000000) : rdT chkI G ats (f + 1) w c = none := by
 have hg : ∀ q : Int, q > 4000000 → gwd G q = none := fun q hq => by
  cases e : gwd G q with
  | none => rfl
  | some n => have := (gwd_ok hG e).2; omega
 rw [rdT]
 split
 ·rfl
 rename_i h1
 have h1 : ¬ w < 0 := by omega
 have ev : valW w = w / 8 := by unfold valW; rw [if_neg h1]
 have et : tagW w = w % 8 := by unfold tagW; rw [if_neg h1]
 rw [hg _ hv]
 have e1 : ats[(valW w).toNat]? = none := List.getElem?_eq_none_iff.2 (by omega)
 rw [e1]
 have e2 : w ≠ 3 := by omega
 have e3 : rdL G (rdT chkI G ats f) 20 w (c + 1) = none := by
  rw [rdL, if_neg e2]
  split
  ·rfl
  ·rw [hg _ hv]; rfl
 rw [e3, if_neg (show ¬ valW w ≤ 2000000 by omega)]
 have e4 : shB 3 (valW w) ⟨#[]⟩ 0 = false := by
  unfold shB inB
  have : ¬ valW w ≤ 99999 := by omega
  simp [this]
 simp only [Option.bind_none]
 repeat' split
 all_goals first | rfl | skip
 all_goals simp [chkI, e4]
end Go.Proofs.Ytjmkbglnjklbcaa.Am
set_option linter.unusedSimpArgs false
set_option linter.unusedVariables false
namespace Go.Proofs.Ytjmkbglnjklbcaa.Am
open Go Go.RowKit
def core (G : Gn) (ats : List ByteArray) (f : Nat) (w c : Int) : Option (Tm × Int) :=
 if tagW w = 0 then (if valW w ≤ 2000000 then some (Tm.mk 1 (valW w - 1000000) ⟨#[]⟩ [], c + 1) else none)
 else if tagW w = 1 then ((ats[(valW w).toNat]?).bind fun s => some (Tm.mk 2 0 s [], c + 1))
 else if tagW w = 2 then some (Tm.mk 3 (valW w) ⟨#[]⟩ [], c + 1)
 else if tagW w = 4 then ((gwd G (valW w)).bind fun n => if inB n 0 8 = true then (rdS G (rdT chkI G ats f) n.toNat (valW w + 1) (c + 1)).bind fun y => some (Tm.mk 4 0 ⟨#[]⟩ y.1, y.2) else none)
 else if tagW w = 6 then ((gwd G (valW w)).bind fun n => if inB n 0 40 = true then (rdB G n.toNat (valW w + 1)).bind fun y => some (Tm.mk 6 0 (bstr y) [], c + 1) else none)
 else if tagW w = 7 then none
 else (rdL G (rdT chkI G ats f) 20 w (c + 1)).bind fun y => some (Tm.mk 5 0 ⟨#[]⟩ y.1, y.2)
theorem rdT_core {G : Gn} {ats : List ByteArray} {f : Nat} {w c : Int} (h1 : ¬ w < 0) (h2 : c < 100) : rdT chkI G ats (f + 1) w c = (core G ats f w c).bind fun y => if chkI y.1 = true then some y else none := by
 rw [rdT, if_neg (by omega)]; rfl
def badG (b : Bool) (w c : Int) : Bool := if b = true then true else if decide (w < 0) = true then true else if decide (valW w > 4000000) = true then true else decide (IntKind.wrap .i64 (c + 1) > 100)
def Half (base gb rb zb tb f : Nat) (G : Gn) (aa : Option Addr) (ats : List ByteArray) (w c : Int) (m : Bool) (S V : Fp) (A : AH → Prop) (h0 : AH) (q : Slots × AH) : Prop :=
 q.1 = [some (.pointer (at0 rb)), some (.pointer (at0 zb)), some (.pointer (at0 tb))] ∧ ∃ k n s l a c' b' S', s.size ≤ maxLen ∧ l.length ≤ maxLen ∧ Hs base V h0 q.2 [(rb, 200, gtV gb aa ats.length c' b'), (tb, 39, termV k n s a (List.length l)), (zb, 39, termV 0 0 ⟨#[]⟩ none 0)] [⟨S, m, A⟩, rTs base (f + 1) S' l a] ∧
  (match core G ats f w c with
  | some y => (Tm.mk k n s l = y.1 ∧ c' = y.2 ∧ b' = false)
  | none => b' = true ∨ shB k n s l.length = false)
theorem Hs.takeD {base : Nat} {W : Fp} {h0 h : AH} {D : Ds} {R : List Rs} (d : Hs base W h0 h D R) (n : Nat) : Hs base W h0 h (D.take n) R :=
 ⟨d.ge, d.kb, fun x hx => d.own x (List.mem_of_mem_take hx), by rw [List.map_take]; exact d.nd.sublist (List.take_sublist _ _), fun r hr => by
  obtain ⟨r1, r2, r3, r4, r5⟩ := d.res r hr
  exact ⟨r1, r2, r3, r4, fun x hx => r5 x (List.mem_of_mem_take hx)⟩, d.dj⟩
theorem Hs.ty1 {base b t : Nat} {W : Fp} {h0 h : AH} {D : Ds} {R : List Rs} {cs : List Value} (d : Hs base W h0 h D R) (m : (b, t, cs) ∈ D) : (hget h b).map (·.ty) = some t := by
 rcases d.ol m with ⟨e, _⟩ | ⟨ad, k, e1, _, e2, e3, _⟩
 ·cases e
 ·injection e1 with e1
  subst e1
  rw [e2]
  simp [e3]
theorem Hs.gR {base b t : Nat} {W W1 : Fp} {h0 h h01 h1 : AH} {D D1 : Ds} {R R1 : List Rs} {cs cs1 : List Value} {ad : Addr} {v : Value} (d1 : Hs base W1 h01 h1 D1 R1) (m1 : (b, t, cs1) ∈ D1) (d : Hs base W h0 h D R) (m : (b, t, cs) ∈ D) (k : KB (· = b) h1 h) (e1 : Am.cell h1 ad.block ad.off = some v) (e : Am.cell h ad.block ad.off = some v) : sameA h1 h (some ad) 1 := by
 intro a' ea
 injection ea with ea
 subst ea
 refine ⟨fun j hj => ?_, ?_⟩
 ·have : j = 0 := by omega
  subst this
  rw [Nat.add_zero, e1, e]
 ·by_cases hb : ad.block = b
  ·rw [hb, d1.ty1 m1, d.ty1 m]
  ·have hlt : ad.block < h1.length := by
    by_cases hc : ad.block < h1.length
    ·exact hc
    ·have : Am.cell h1 ad.block ad.off = none := by
      unfold Am.cell hget
      rw [List.getElem?_eq_none_iff.2 (by omega)]
      rfl
     rw [this] at e1; cases e1
   rw [k.2 _ hlt hb]
theorem get_succ {base gb f : Nat} {oa ya : Option Addr} {G : Gn} {aa : Option Addr} {ats : List ByteArray} (hG : G.Ok) (ha : ats.length ≤ 1048576) (hs : ∀ s ∈ ats, s.size ≤ maxLen) (hf : f ≤ 5) (ih : GetR base gb oa ya G aa ats f) : GetR base gb oa ya G aa ats (f + 1) := by
 intro rb w c b m S V A h0 h hwk hcb hA d
 rw [show 7 - ((f + 1 : Nat) : Int) = 6 - (f : Int) from by omega]
 refine W.of (fun r hx => Am.r184 hx) ?_
 ((try simp only [n1, n2, n3, n4, n5, n6] at d); (with_reducible repeat first | refine W.a1 d ?_ | refine W.a2 ?_ | refine W.a3 ?_ | refine W.bo ?_ | refine W.a5 d fun hw d lw kw => ?_ | refine W.a6 d ?_ | refine W.a7 ?_ | refine W.a8 ?_); (refine W.nD d fun h1 d _ kh1 => ?_); (with_reducible repeat first | refine W.a1 d ?_ | refine W.a2 ?_ | refine W.a3 ?_ | refine W.bo ?_ | refine W.a5 d fun hw d lw kw => ?_ | refine W.a6 d ?_ | refine W.a7 ?_ | refine W.a8 ?_))
 refine W.bs (implVal_run hwk.2) ?_
 ((try simp only [n1, n2, n3, n4, n5, n6] at d); (with_reducible repeat first | refine W.a1 d ?_ | refine W.a2 ?_ | refine W.a3 ?_ | refine W.bo ?_ | refine W.a5 d fun hw d lw kw => ?_ | refine W.a6 d ?_ | refine W.a7 ?_ | refine W.a8 ?_))
 apply W.jb (badG b w c) d
 ·((try simp only [n1, n2, n3, n4, n5, n6] at d); (with_reducible repeat first | refine W.a1 d ?_ | refine W.a2 ?_ | refine W.a3 ?_ | refine W.bo ?_ | refine W.a5 d fun hw d lw kw => ?_ | refine W.a6 d ?_ | refine W.a7 ?_ | refine W.a8 ?_))
  unfold badG
  refine W.ite (fun c1 => ?_) (fun c1 => ?_)
  ·rw [if_pos c1]; exact W.lb rfl rfl (KB.refl _ _)
  rw [if_neg c1]
  refine W.ite (fun c2 => ?_) (fun c2 => ?_)
  ·rw [if_pos c2]; exact W.lb rfl rfl (KB.refl _ _)
  rw [if_neg c2]
  refine W.ite (fun c3 => ?_) (fun c3 => ?_)
  ·rw [if_pos c3]; exact W.lb rfl rfl (KB.refl _ _)
  rw [if_neg c3]
  refine W.ifF (by simp; omega) ?_
  ((try simp only [n1, n2, n3, n4, n5, n6] at d); (with_reducible repeat first | refine W.a1 d ?_ | refine W.a2 ?_ | refine W.a3 ?_ | refine W.bo ?_ | refine W.a5 d fun hw d lw kw => ?_ | refine W.a6 d ?_ | refine W.a7 ?_ | refine W.a8 ?_))
  exact W.lb rfl rfl (KB.refl _ _)
 intro h2 d n2
 ((try simp only [n1, n2, n3, n4, n5, n6] at d); (with_reducible repeat first | refine W.a1 d ?_ | refine W.a2 ?_ | refine W.a3 ?_ | refine W.bo ?_ | refine W.a5 d fun hw d lw kw => ?_ | refine W.a6 d ?_ | refine W.a7 ?_ | refine W.a8 ?_))
 refine W.ite (fun cb => ?_) (fun cb => ?_)
 ·((try simp only [n1, n2, n3, n4, n5, n6] at d); (with_reducible repeat first | refine W.a1 d ?_ | refine W.a2 ?_ | refine W.a3 ?_ | refine W.bo ?_ | refine W.a5 d fun hw d lw kw => ?_ | refine W.a6 d ?_ | refine W.a7 ?_ | refine W.a8 ?_))
  have d := (d.tl).call (KB.refl NoB _) (fun _ => False) (fun y => TmG base (f + 1 + 1) (fun _ => False) y tmZ (termV 0 0 ⟨#[]⟩ none 0)) tmZ_G (fun U y y' k hs x => TmG.kp _ _ _ U y y' _ _ k hs x) (fun _ h => h.elim)
  refine W.ret ⟨tmZ, termV 0 0 ⟨#[]⟩ none 0, _, _, true, rfl, d, ?_⟩
  unfold OutT
  cases b with
  | true => rfl
  | false =>
   have hcc := hcb rfl
   have en : rdT chkI G ats (f + 1) w c = none := by
    by_cases e1 : w < 0
    ·rw [rdT, if_pos (.inl e1)]
    ·by_cases e2 : valW w > 4000000
     ·exact rdT_big hG ha e2
     ·unfold badG at cb
      rw [w64i (n := c + 1) (by omega) (by omega)] at cb
      simp [e1, e2] at cb
      rw [rdT, if_pos (.inr (by omega))]
   rw [en]
   simp
 ·have cb : badG b w c = false := by simpa using cb
  unfold badG at cb
  have hb : b = false := by cases b with
   | true => simp at cb
   | false => rfl
  subst hb
  have hcc := hcb rfl
  simp only [Bool.false_eq_true, if_false] at cb
  have h1w : ¬ w < 0 := fun e => by simp [e] at cb
  have h2w : ¬ valW w > 4000000 := fun e => by simp [h1w, e] at cb
  have h3w : c < 100 := by
   rw [w64i (n := c + 1) (by omega) (by omega)] at cb
   simp [h1w, h2w] at cb
   omega
  have ecc : IntKind.i64.wrap (c + 1) = c + 1 := w64i (by omega) (by omega)
  ((try simp only [n1, n2, n3, n4, n5, n6] at d); (with_reducible repeat first | refine W.a1 d ?_ | refine W.a2 ?_ | refine W.a3 ?_ | refine W.bo ?_ | refine W.a5 d fun hw d lw kw => ?_ | refine W.a6 d ?_ | refine W.a7 ?_ | refine W.a8 ?_); (refine W.nD d fun h3 d _ kh3 => ?_); (with_reducible repeat first | refine W.a1 d ?_ | refine W.a2 ?_ | refine W.a3 ?_ | refine W.bo ?_ | refine W.a5 d fun hw d lw kw => ?_ | refine W.a6 d ?_ | refine W.a7 ?_ | refine W.a8 ?_))
  rw [ecc] at d
  have d := d.front (Del.at (i := 2) rfl)
  simp only [n5, n6] at d
  have none_row : ∀ y, RowO base 39 4 (TmG base (f + 1)) (fun _ => False) y [] none := fun y => RowO.nil
  have fin : ∀ {h' : AH} {k n : Int} {s : ByteArray} {c' : Int} {b' : Bool}, s.size ≤ maxLen → Hs base V h0 h' [(rb, 200, gtV gb aa ats.length c' b'), (h2.length, 39, termV k n s none 0), (h.length, 39, termV 0 0 ⟨#[]⟩ none 0)] [⟨S, m, A⟩] → (match core G ats f w c with | some y => (Tm.mk k n s [] = y.1 ∧ c' = y.2 ∧ b' = false) | none => b' = true ∨ shB k n s 0 = false) → Half base gb rb h.length h2.length f G aa ats w c m S V A h0 ([some (.pointer (at0 rb)), some (.pointer (at0 h.length)), some (.pointer (at0 h2.length))], h') := by
   intro h' k n s c' b' hs d hm
   have d := d.call (KB.refl NoB _) (fun _ => False) (fun y => RowO base 39 4 (TmG base (f + 1)) (fun _ => False) y [] none) (none_row _) (fun U y y' k hs x => x.keep (TmG.kp _ _) k hs) (fun _ h => h.elim)
   exact ⟨rfl, k, n, s, [], none, c', b', _, hs, by decide, d, hm⟩
  have vnn := valW_nn w
  have tlt := tagW_lt w
  refine W.joinP (Half base gb rb h.length h2.length f G aa ats w c m S V A h0) ?_ fun q hq => ?_
  ·refine W.bs implTag_run ?_
   ((try simp only [n1, n2, n3, n4, n5, n6] at d); (with_reducible repeat first | refine W.a1 d ?_ | refine W.a2 ?_ | refine W.a3 ?_ | refine W.bo ?_ | refine W.a5 d fun hw d lw kw => ?_ | refine W.a6 d ?_ | refine W.a7 ?_ | refine W.a8 ?_))
   refine W.ite (fun t0 => ?_) (fun t0 => ?_)
   ·((try simp only [n1, n2, n3, n4, n5, n6] at d); (with_reducible repeat first | refine W.a1 d ?_ | refine W.a2 ?_ | refine W.a3 ?_ | refine W.bo ?_ | refine W.a5 d fun hw d lw kw => ?_ | refine W.a6 d ?_ | refine W.a7 ?_ | refine W.a8 ?_))
    have t0 : tagW w = 0 := by simpa using t0
    rw [w64i (n := valW w - 1000000) (by omega) (by omega)] at d
    refine W.inl (fin (by decide) d ?_)
    have hc : core G ats f w c = if valW w ≤ 2000000 then some (Tm.mk 1 (valW w - 1000000) ⟨#[]⟩ [], c + 1) else none := by unfold core; rw [if_pos t0]
    rw [hc]
    by_cases hv : valW w ≤ 2000000
    ·rw [if_pos hv]; exact ⟨rfl, rfl, rfl⟩
    ·rw [if_neg hv]
     refine .inr ?_
     have : ¬ valW w - 1000000 ≤ 1000000 := by omega
     unfold shB inB; simp [this]
   have t0 : ¬ tagW w = 0 := by simpa using t0
   refine W.ite (fun t1 => ?_) (fun t1 => ?_)
   ·have t1 : tagW w = 1 := by simpa using t1
    have hc : core G ats f w c = ((ats[(valW w).toNat]?).bind fun s => some (Tm.mk 2 0 s [], c + 1)) := by unfold core; rw [if_neg t0, if_pos t1]
    ((try simp only [n1, n2, n3, n4, n5, n6] at d); (with_reducible repeat first | refine W.a1 d ?_ | refine W.a2 ?_ | refine W.a3 ?_ | refine W.bo ?_ | refine W.a5 d fun hw d lw kw => ?_ | refine W.a6 d ?_ | refine W.a7 ?_ | refine W.a8 ?_))
    refine W.ite (fun c1 => ?_) (fun c1 => ?_)
    ·have c1 : valW w ≥ (ats.length : Int) := by simpa using c1
     ((try simp only [n1, n2, n3, n4, n5, n6] at d); (with_reducible repeat first | refine W.a1 d ?_ | refine W.a2 ?_ | refine W.a3 ?_ | refine W.bo ?_ | refine W.a5 d fun hw d lw kw => ?_ | refine W.a6 d ?_ | refine W.a7 ?_ | refine W.a8 ?_))
     refine W.mp ?_
     ((try simp only [n1, n2, n3, n4, n5, n6] at d); (with_reducible repeat first | refine W.a1 d ?_ | refine W.a2 ?_ | refine W.a3 ?_ | refine W.bo ?_ | refine W.a5 d fun hw d lw kw => ?_ | refine W.a6 d ?_ | refine W.a7 ?_ | refine W.a8 ?_))
     have d := d.takeD 1
     have d := d.call (KB.refl NoB _) (fun _ => False) (fun y => TmG base (f + 1 + 1) (fun _ => False) y tmZ (termV 0 0 ⟨#[]⟩ none 0)) tmZ_G (fun U y y' k hs x => TmG.kp _ _ _ U y y' _ _ k hs x) (fun _ h => h.elim)
     refine W.ret ⟨tmZ, termV 0 0 ⟨#[]⟩ none 0, _, _, true, rfl, d, ?_⟩
     have en : ats[(valW w).toNat]? = none := List.getElem?_eq_none_iff.2 (by omega)
     unfold OutT
     rw [rdT_core h1w h3w, hc, en]
     rfl
    ·have c1 : valW w < (ats.length : Int) := by simpa using c1
     have hlt : (valW w).toNat < ats.length := by omega
     ((try simp only [n1, n2, n3, n4, n5, n6] at d); (with_reducible repeat first | refine W.a1 d ?_ | refine W.a2 ?_ | refine W.a3 ?_ | refine W.bo ?_ | refine W.a5 d fun hw d lw kw => ?_ | refine W.a6 d ?_ | refine W.a7 ?_ | refine W.a8 ?_))
     obtain ⟨ad, ea, g⟩ := (hA _ (d.rs (i := 0) rfl)).2.2.2.cell (i := (valW w).toNat) (v := .string ats[(valW w).toNat]) (by simp [hlt])
     have dd := d
     subst ea
     refine W.bs rfl (W.bT (by rw [Nat.mul_one]; exact g) ?_)
     refine W.a5 d fun hx d lw kx => ?_
     obtain ⟨ad', ea', g'⟩ := (hA _ (d.rs (i := 0) rfl)).2.2.2.cell (i := (valW w).toNat) (v := .string ats[(valW w).toNat]) (by simp [hlt])
     injection ea' with ea'
     subst ea'
     refine W.gt (dd.gR (.tail _ (.head _)) d (.tail _ (.head _)) kx (ad := ⟨ad.block, ad.off + (valW w).toNat * 1, none⟩) (v := .string ats[(valW w).toNat]) (by rw [Nat.mul_one]; exact g) (by rw [Nat.mul_one]; exact g')) ?_
     ((try simp only [n1, n2, n3, n4, n5, n6] at d); (with_reducible repeat first | refine W.a1 d ?_ | refine W.a2 ?_ | refine W.a3 ?_ | refine W.bo ?_ | refine W.a5 d fun hw d lw kw => ?_ | refine W.a6 d ?_ | refine W.a7 ?_ | refine W.a8 ?_))
     refine W.inl (fin (hs _ (List.getElem_mem _)) d ?_)
     rw [hc, List.getElem?_eq_getElem hlt]
     exact ⟨rfl, rfl, rfl⟩
   have t1 : ¬ tagW w = 1 := by simpa using t1
   refine W.ite (fun t2 => ?_) (fun t2 => ?_)
   ·have t2 : tagW w = 2 := by simpa using t2
    have hc : core G ats f w c = some (Tm.mk 3 (valW w) ⟨#[]⟩ [], c + 1) := by unfold core; rw [if_neg t0, if_neg t1, if_pos t2]
    ((try simp only [n1, n2, n3, n4, n5, n6] at d); (with_reducible repeat first | refine W.a1 d ?_ | refine W.a2 ?_ | refine W.a3 ?_ | refine W.bo ?_ | refine W.a5 d fun hw d lw kw => ?_ | refine W.a6 d ?_ | refine W.a7 ?_ | refine W.a8 ?_))
    refine W.inl (fin (by decide) d ?_)
    rw [hc]
    exact ⟨rfl, rfl, rfl⟩
   have t2 : ¬ tagW w = 2 := by simpa using t2
   refine W.ite (fun t3 => ?_) (fun t3 => ?_)
   ·have t3 : tagW w = 3 := by simpa using t3
    have hc : core G ats f w c = if w = 3 then some (Tm.mk 5 0 ⟨#[]⟩ [], c + 1) else none := by
     unfold core
     rw [if_neg t0, if_neg t1, if_neg t2, if_neg (by omega), if_neg (by omega), if_neg (by omega), rdL_end (.inr (by omega))]
     split <;> rfl
    ((try simp only [n1, n2, n3, n4, n5, n6] at d); (with_reducible repeat first | refine W.a1 d ?_ | refine W.a2 ?_ | refine W.a3 ?_ | refine W.bo ?_ | refine W.a5 d fun hw d lw kw => ?_ | refine W.a6 d ?_ | refine W.a7 ?_ | refine W.a8 ?_))
    refine W.inl (fin (by decide) d ?_)
    rw [hc]
    by_cases e3 : w = 3
    ·subst e3; exact ⟨rfl, rfl, rfl⟩
    ·rw [if_neg e3]
     refine .inl ?_
     have : valW w ≠ 0 := by
      unfold valW tagW at *
      rw [if_neg h1w] at *
      omega
     simpa using this
   have t3 : ¬ tagW w = 3 := by simpa using t3
   refine W.ite (fun t4 => ?_) (fun t4 => ?_)
   ·have t4 : tagW w = 4 := by simpa using t4
    have hc : core G ats f w c = ((gwd G (valW w)).bind fun n => if inB n 0 8 = true then (rdS G (rdT chkI G ats f) n.toNat (valW w + 1) (c + 1)).bind fun y => some (Tm.mk 4 0 ⟨#[]⟩ y.1, y.2) else none) := by unfold core; rw [if_neg t0, if_neg t1, if_neg t2, if_pos t4]
    have d1 := Hs.part (D1 := [_]) (R1 := [_]) d
    refine W.wb (tuple_run (c := c + 1) (b := false) hG (by omega) (by omega) hA ih (fun _ => by omega) d1) ?_
    rintro ⟨u, h4⟩ ⟨l, a', c', b', S', y1, hl8, d2, ho⟩
    simp only at y1 d2
    subst y1
    have d := Hs.back (D1 := [_]) (R1 := [_]) d d2 (imA rfl)
    ((try simp only [n1, n2, n3, n4, n5, n6] at d); (with_reducible repeat first | refine W.a1 d ?_ | refine W.a2 ?_ | refine W.a3 ?_ | refine W.bo ?_ | refine W.a5 d fun hw d lw kw => ?_ | refine W.a6 d ?_ | refine W.a7 ?_ | refine W.a8 ?_))
    have d : Hs base V h0 hw [(rb, 200, gtV gb aa ats.length c' b'), (h2.length, 39, termV 4 0 ⟨#[]⟩ a' l.length), (h.length, 39, termV 0 0 ⟨#[]⟩ none 0)] [⟨S, m, A⟩, rTs base (f + 1) S' l a'] := d
    refine W.inl ⟨rfl, 4, 0, ⟨#[]⟩, l, a', c', b', S', by decide, Nat.le_trans hl8 (by decide), d, ?_⟩
    rw [hc]
    unfold OutL at ho
    simp only [Bool.false_eq_true, if_false] at ho
    cases e1 : gwd G (valW w) with
    | none => rw [e1] at ho; exact .inl ho
    | some v =>
     rw [e1] at ho
     simp only [Option.bind_some] at ho ⊢
     by_cases hv : inB v 0 8 = true
     ·rw [if_pos hv] at ho ⊢
      cases e2 : rdS G (rdT chkI G ats f) v.toNat (valW w + 1) (c + 1) with
      | none => rw [e2] at ho; exact .inl ho
      | some y =>
       rw [e2] at ho
       obtain ⟨i1, i2, i3⟩ := ho
       exact ⟨by rw [i1]; rfl, i2, i3⟩
     ·rw [if_neg hv] at ho ⊢
      exact .inl ho
   have t4 : ¬ tagW w = 4 := by simpa using t4
   refine W.ite (fun t5 => ?_) (fun t5 => ?_)
   ·have t5 : tagW w = 5 := by simpa using t5
    have hc : core G ats f w c = ((rdL G (rdT chkI G ats f) 20 w (c + 1)).bind fun y => some (Tm.mk 5 0 ⟨#[]⟩ y.1, y.2)) := by unfold core; rw [if_neg t0, if_neg t1, if_neg t2, if_neg t4, if_neg (by omega), if_neg (by omega)]
    have d1 := Hs.part (D1 := [_]) (R1 := [_]) d
    refine W.wb (list_run (c := c + 1) (b := false) hG hwk (by omega) hA ih (fun _ => by omega) d1) ?_
    rintro ⟨u, h4⟩ ⟨l, a', c', b', S', y1, hl8, d2, ho⟩
    simp only at y1 d2
    subst y1
    have d := Hs.back (D1 := [_]) (R1 := [_]) d d2 (imA rfl)
    ((try simp only [n1, n2, n3, n4, n5, n6] at d); (with_reducible repeat first | refine W.a1 d ?_ | refine W.a2 ?_ | refine W.a3 ?_ | refine W.bo ?_ | refine W.a5 d fun hw d lw kw => ?_ | refine W.a6 d ?_ | refine W.a7 ?_ | refine W.a8 ?_))
    have d : Hs base V h0 hw [(rb, 200, gtV gb aa ats.length c' b'), (h2.length, 39, termV 5 0 ⟨#[]⟩ a' l.length), (h.length, 39, termV 0 0 ⟨#[]⟩ none 0)] [⟨S, m, A⟩, rTs base (f + 1) S' l a'] := d
    refine W.inl ⟨rfl, 5, 0, ⟨#[]⟩, l, a', c', b', S', by decide, Nat.le_trans hl8 (by decide), d, ?_⟩
    rw [hc]
    unfold OutL at ho
    simp only [Bool.false_eq_true, if_false] at ho
    have h21 := rdL_21 (G := G) (g := rdT chkI G ats f) (w := w) (c := c + 1)
    cases e1 : rdL G (rdT chkI G ats f) 20 w (c + 1) with
    | none =>
     rw [e1] at h21
     rcases h21 with h21 | ⟨y, h21, hy⟩
     ·rw [h21] at ho; exact .inl ho
     ·rw [h21] at ho
      obtain ⟨i1, i2, i3⟩ := ho
      refine .inr ?_
      have : ¬ (l.length : Int) ≤ 20 := by rw [i1]; simp; omega
      unfold shB
      simp [this]
    | some y =>
     rw [e1] at h21
     rw [h21.1] at ho
     obtain ⟨i1, i2, i3⟩ := ho
     exact ⟨by rw [i1]; rfl, i2, i3⟩
   have t5 : ¬ tagW w = 5 := by simpa using t5
   refine W.ite (fun t6 => ?_) (fun t6 => ?_)
   ·have t6 : tagW w = 6 := by simpa using t6
    have hc : core G ats f w c = ((gwd G (valW w)).bind fun n => if inB n 0 40 = true then (rdB G n.toNat (valW w + 1)).bind fun y => some (Tm.mk 6 0 (bstr y) [], c + 1) else none) := by unfold core; rw [if_neg t0, if_neg t1, if_neg t2, if_neg t4, if_pos t6]
    have d1 := Hs.part (D1 := [_]) (R1 := [_]) d
    refine W.wb (bin_run (c := c + 1) (b := false) hG (by omega) hA d1) ?_
    rintro ⟨u, h4⟩ ⟨s, b', y1, hs40, d2, ho⟩
    simp only at y1 d2
    subst y1
    have d := Hs.back (D1 := [_]) (R1 := [_]) d d2 (fun r hr hm => ⟨r, hr, hm, rfl⟩)
    ((try simp only [n1, n2, n3, n4, n5, n6] at d); (with_reducible repeat first | refine W.a1 d ?_ | refine W.a2 ?_ | refine W.a3 ?_ | refine W.bo ?_ | refine W.a5 d fun hw d lw kw => ?_ | refine W.a6 d ?_ | refine W.a7 ?_ | refine W.a8 ?_))
    refine W.inl (fin (by have : s.size ≤ 40 := hs40; exact Nat.le_trans this (by decide)) d ?_)
    rw [hc]
    simp only [Bool.false_eq_true, if_false] at ho
    cases e1 : gwd G (valW w) with
    | none => rw [e1] at ho; exact .inl ho
    | some v =>
     rw [e1] at ho
     simp only [Option.bind_some] at ho ⊢
     by_cases hv : inB v 0 40 = true
     ·rw [if_pos hv] at ho ⊢
      cases e2 : rdB G v.toNat (valW w + 1) with
      | none => rw [e2] at ho; exact .inl ho
      | some y =>
       rw [e2] at ho
       obtain ⟨i1, i2⟩ := ho
       exact ⟨by rw [i1], rfl, i2⟩
     ·rw [if_neg hv] at ho ⊢
      exact .inl ho
   ·have t6 : ¬ tagW w = 6 := by simpa using t6
    have hc : core G ats f w c = none := by unfold core; rw [if_neg t0, if_neg t1, if_neg t2, if_neg t4, if_neg t6, if_pos (by omega)]
    ((try simp only [n1, n2, n3, n4, n5, n6] at d); (with_reducible repeat first | refine W.a1 d ?_ | refine W.a2 ?_ | refine W.a3 ?_ | refine W.bo ?_ | refine W.a5 d fun hw d lw kw => ?_ | refine W.a6 d ?_ | refine W.a7 ?_ | refine W.a8 ?_))
    refine W.inl (fin (by decide) d ?_)
    rw [hc]
    exact .inl rfl
  ·obtain ⟨q1, h4⟩ := q
   obtain ⟨e, k, n, s, l, a, c', b', S', hsz, hlz, d, hm⟩ := hq
   simp only at e d
   subst e
   ((try simp only [n1, n2, n3, n4, n5, n6] at d); (with_reducible repeat first | refine W.a1 d ?_ | refine W.a2 ?_ | refine W.a3 ?_ | refine W.bo ?_ | refine W.a5 d fun hw d lw kw => ?_ | refine W.a6 d ?_ | refine W.a7 ?_ | refine W.a8 ?_))
   refine W.joinP (fun q => q.1 = [some (.pointer (at0 h.length)), some (.pointer (at0 h2.length))] ∧ Hs base V h0 q.2 [(rb, 200, gtV gb aa ats.length c' (b' || !shB k n s l.length)), (h2.length, 39, termV k n s a l.length), (h.length, 39, termV 0 0 ⟨#[]⟩ none 0)] [⟨S, m, A⟩, rTs base (f + 1) S' l a]) ?_ fun q hq => ?_
   ·((try simp only [n1, n2, n3, n4, n5, n6] at d); (with_reducible repeat first | refine W.a1 d ?_ | refine W.a2 ?_ | refine W.a3 ?_ | refine W.bo ?_ | refine W.a5 d fun hw d lw kw => ?_ | refine W.a6 d ?_ | refine W.a7 ?_ | refine W.a8 ?_))
    refine W.ite (fun c1 => ?_) (fun c1 => ?_)
    ·((try simp only [n1, n2, n3, n4, n5, n6] at d); (with_reducible repeat first | refine W.a1 d ?_ | refine W.a2 ?_ | refine W.a3 ?_ | refine W.bo ?_ | refine W.a5 d fun hw d lw kw => ?_ | refine W.a6 d ?_ | refine W.a7 ?_ | refine W.a8 ?_))
     rw [c1]
     exact W.inl ⟨rfl, d⟩
    ·have c1 : b' = false := by simpa using c1
     ((try simp only [n1, n2, n3, n4, n5, n6] at d); (with_reducible repeat first | refine W.a1 d ?_ | refine W.a2 ?_ | refine W.a3 ?_ | refine W.bo ?_ | refine W.a5 d fun hw d lw kw => ?_ | refine W.a6 d ?_ | refine W.a7 ?_ | refine W.a8 ?_))
     obtain ⟨h5, e5, k5⟩ := fieldsOk_run (base := base) (h := h4) (k := k) (n := n) (s := s) (a := a) (m := l.length) (by have := hsz; unfold maxLen at this; omega) d.ge
     have d := d.kN k5
     refine W.bs e5 ?_
     ((try simp only [n1, n2, n3, n4, n5, n6] at d); (with_reducible repeat first | refine W.a1 d ?_ | refine W.a2 ?_ | refine W.a3 ?_ | refine W.bo ?_ | refine W.a5 d fun hw d lw kw => ?_ | refine W.a6 d ?_ | refine W.a7 ?_ | refine W.a8 ?_))
     rw [c1]
     exact W.inl ⟨rfl, d⟩
   ·obtain ⟨q1, h5⟩ := q
    obtain ⟨e, d⟩ := hq
    simp only at e d
    subst e
    ((try simp only [n1, n2, n3, n4, n5, n6] at d); (with_reducible repeat first | refine W.a1 d ?_ | refine W.a2 ?_ | refine W.a3 ?_ | refine W.bo ?_ | refine W.a5 d fun hw d lw kw => ?_ | refine W.a6 d ?_ | refine W.a7 ?_ | refine W.a8 ?_))
    have d := d.takeD 1
    have row : RowO base 39 4 (TmG base (f + 1)) S' hw l a := d.rs (i := 1) rfl
    have d := d.re (r := rTs base (f + 1) S' l a) (r' := ⟨S', true, fun y => TmG base (f + 1 + 1) S' y (.mk k n s l) (termV k n s a l.length)⟩) (Upd.at (i := 1) rfl) rfl rfl ⟨hsz, hlz, a, rfl, row⟩ (fun U y y' k hs x => TmG.kp _ _ _ U y y' _ _ k hs x) (fun b hb => hb)
    refine W.ret ⟨.mk k n s l, termV k n s a l.length, S', c', _, rfl, d, ?_⟩
    unfold OutT
    rw [if_neg (by decide), rdT_core h1w h3w]
    cases e1 : core G ats f w c with
    | none =>
     rw [e1] at hm
     simp only [Option.bind_none]
     rcases hm with hm | hm <;> simp [hm]
    | some y =>
     rw [e1] at hm
     obtain ⟨i1, i2, i3⟩ := hm
     simp only [Option.bind_some]
     have ei : chkI y.1 = shB k n s l.length := by rw [← i1]; rfl
     cases e2 : shB k n s l.length with
     | true => rw [if_pos (by rw [ei, e2])]; exact ⟨i1, i2, by rw [i3]; rfl⟩
     | false => rw [if_neg (by rw [ei, e2]; decide)]; simp
end Go.Proofs.Ytjmkbglnjklbcaa.Am
set_option linter.unusedSimpArgs false
set_option linter.unusedVariables false
namespace Go.Proofs.Ytjmkbglnjklbcaa.Am
open Go Go.RowKit
theorem getR_all {base gb : Nat} {oa ya : Option Addr} {G : Gn} {aa : Option Addr} {ats : List ByteArray} (hG : G.Ok) (ha : ats.length ≤ 1048576) (hs : ∀ s ∈ ats, s.size ≤ maxLen) : ∀ f, f ≤ 6 → GetR base gb oa ya G aa ats f
 | 0, _ => get_zero
 | f + 1, hf => get_succ hG ha hs (by omega) (getR_all hG ha hs f (by omega))
def gRd (G : Gn) (ats : List ByteArray) (w : Int) : Tm × Bool := match rdT chkI G ats 6 w 0 with
 | some y => if tOk 7 y.1 = true then (y.1, true) else (tmZ, false)
 | none => (tmZ, false)
def RdA (base : Nat) (oa ya : Option Addr) (G : Gn) (aa : Option Addr) (ats : List ByteArray) (h : AH) : Prop :=
 TyOk base h oa 3 ∧ TyOk base h ya 3 ∧ TyOk base h aa 9 ∧ GnS h oa ya G ∧ Sl h aa (ats.map .string)
theorem RdA.keep {base : Nat} {oa ya : Option Addr} {G : Gn} {aa : Option Addr} {ats : List ByteArray} {U : Fp} {h h' : AH} (x : RdA base oa ya G aa ats h) (k : KB U h h') (hS : ∀ b, blk oa b ∨ blk ya b ∨ blk aa b → ¬ U b) : RdA base oa ya G aa ats h' := by
 obtain ⟨a, b, c, ⟨d, e⟩, f⟩ := x
 exact ⟨a.keep k fun i hi => hS i (.inl hi), b.keep k fun i hi => hS i (.inr (.inl hi)), c.keep k fun i hi => hS i (.inr (.inr hi)), ⟨d.keep k fun i hi => hS i (.inl hi), e.keep k fun i hi => hS i (.inr (.inl hi))⟩, f.keep k fun i hi => hS i (.inr (.inr hi))⟩
theorem RdA.keepN {base : Nat} {oa ya : Option Addr} {G : Gn} {aa : Option Addr} {ats : List ByteArray} {h h' : AH} (x : RdA base oa ya G aa ats h) (k : KB NoB h h') : RdA base oa ya G aa ats h' := x.keep k fun _ _ h => h
theorem TyOk.lt {base t : Nat} {h : AH} {a : Option Addr} (x : TyOk base h a t) : ∀ b, blk a b → b < h.length := fun b ⟨ad, e, e2⟩ => e2 ▸ (x ad e).1
theorem RdA.lt {base : Nat} {oa ya : Option Addr} {G : Gn} {aa : Option Addr} {ats : List ByteArray} {h : AH} (x : RdA base oa ya G aa ats h) : ∀ b, blk oa b ∨ blk ya b ∨ blk aa b → b < h.length := by
 obtain ⟨a, b, c, _⟩ := x
 rintro i (hi | hi | hi)
 ·exact a.lt i hi
 ·exact b.lt i hi
 ·exact c.lt i hi
theorem cell_lt {h : AH} {b o : Nat} {v : Value} (e : Am.cell h b o = some v) : b < h.length := by
 by_cases hc : b < h.length
 ·exact hc
 ·have : Am.cell h b o = none := by
   unfold Am.cell hget
   rw [List.getElem?_eq_none_iff.2 (by omega)]
   rfl
  rw [this] at e; cases e
theorem cell_keepU {U : Fp} {h h' : AH} {b o : Nat} {v : Value} (e : Am.cell h b o = some v) (k : KB U h h') (hb : ¬ U b) : Am.cell h' b o = some v := by
 have hlt := cell_lt e
 unfold Am.cell at e ⊢
 rw [k.2 _ hlt hb]
 exact e
theorem implRead_run {base gb : Nat} {h : AH} {oa ya : Option Addr} {G : Gn} {aa : Option Addr} {ats : List ByteArray} {w : Int} (hG : G.Ok) (ha : ats.length ≤ 1048576) (hs : ∀ s ∈ ats, s.size ≤ maxLen) (hw : wOk w) (g0 : Am.cell h gb 0 = some (.slice oa G.old.length G.old.length)) (g1 : Am.cell h gb 1 = some (.slice ya G.young.length G.young.length)) (x : RdA base oa ya G aa ats h) (hb : base ≤ h.length) :
  ∃ cs' h', run (Et base) 148 [.func (.func 149) #[.pointer (at0 gb)] #[], .slice aa ats.length ats.length, .int .i64 w] h = some (.tuple #[.agg cs'.toArray, .bool (gRd G ats w).2], h') ∧ TmG base 7 (iS h.length h'.length) h' (gRd G ats w).1 cs' ∧ KB NoB h h' := by
 have hgb : gb < h.length := cell_lt g0
 have xlt := x.lt
 have d := Hs.start hb
 have d := d.inp (fun b => b < h.length) (fun y => GrB y gb oa ya G aa ats ∧ RdA base oa ya G aa ats y) ⟨⟨g0, g1, x.2.2.2.1, x.2.2.2.2⟩, x⟩ (fun U y y' k hS q => by
  have q2 := q.2.keep k fun i hi => hS i (xlt i hi)
  exact ⟨⟨cell_keepU q.1.1 k (hS _ hgb), cell_keepU q.1.2.1 k (hS _ hgb), q2.2.2.2.1, q2.2.2.2.2⟩, q2⟩) (fun b hb => hb) (fun x hx => nomatch hx) rfl
 suffices W : Wp (run (Et base) 148 [.func (.func 149) #[.pointer (at0 gb)] #[], .slice aa ats.length ats.length, .int .i64 w] h) fun o => ∃ cs', o.1 = .tuple #[.agg cs'.toArray, .bool (gRd G ats w).2] ∧ TmG base 7 (iS h.length o.2.length) o.2 (gRd G ats w).1 cs' ∧ KB NoB h o.2 by
  obtain ⟨⟨o1, o2⟩, e, cs', y1, y2, y3⟩ := W
  simp only at y1 y2 y3
  subst y1
  exact ⟨cs', o2, e, y2, y3⟩
 refine W.of (fun r hx => Am.r148 hx) ?_
 ((try simp only [n1, n2, n3, n4, n5, n6] at d); (with_reducible repeat first | refine W.a1 d ?_ | refine W.a2 ?_ | refine W.a3 ?_ | refine W.bo ?_ | refine W.a5 d fun hw d lw kw => ?_ | refine W.a6 d ?_ | refine W.a7 ?_ | refine W.a8 ?_); (refine W.nD d fun p1 d _ kp1 => ?_); (with_reducible repeat first | refine W.a1 d ?_ | refine W.a2 ?_ | refine W.a3 ?_ | refine W.bo ?_ | refine W.a5 d fun hw d lw kw => ?_ | refine W.a6 d ?_ | refine W.a7 ?_ | refine W.a8 ?_); (refine W.nD d fun p2 d _ kp2 => ?_); (with_reducible repeat first | refine W.a1 d ?_ | refine W.a2 ?_ | refine W.a3 ?_ | refine W.bo ?_ | refine W.a5 d fun hw d lw kw => ?_ | refine W.a6 d ?_ | refine W.a7 ?_ | refine W.a8 ?_))
 have d1 := Hs.part (D1 := [_]) (R1 := [_]) d
 refine W.wb (getR_all (base := base) (gb := gb) hG ha hs 6 (Nat.le_refl _) p1.length w 0 false _ _ _ _ _ _ hw (fun _ => by omega) (fun y hy => hy.1) d1) ?_
 rintro ⟨u, h4⟩ ⟨t, cs', S', c', b', y1, d2, ho⟩
 simp only at y1 d2
 subst y1
 have d := Hs.back (D1 := [_]) (R1 := [_]) d d2 (imA rfl)
 have tg : TmG base 7 S' h4 t _ := d.rs (i := 1) rfl
 obtain ⟨k1, k2, k3, k4, k5, rfl⟩ := tg.form
 ((try simp only [n1, n2, n3, n4, n5, n6] at d); (with_reducible repeat first | refine W.a1 d ?_ | refine W.a2 ?_ | refine W.a3 ?_ | refine W.bo ?_ | refine W.a5 d fun hw d lw kw => ?_ | refine W.a6 d ?_ | refine W.a7 ?_ | refine W.a8 ?_); (refine W.nD d fun h9 d _ kh9 => ?_); (with_reducible repeat first | refine W.a1 d ?_ | refine W.a2 ?_ | refine W.a3 ?_ | refine W.bo ?_ | refine W.a5 d fun hw d lw kw => ?_ | refine W.a6 d ?_ | refine W.a7 ?_ | refine W.a8 ?_))
 apply W.jb (b' || !tOk 7 t) d
 ·((try simp only [n1, n2, n3, n4, n5, n6] at d); (with_reducible repeat first | refine W.a1 d ?_ | refine W.a2 ?_ | refine W.a3 ?_ | refine W.bo ?_ | refine W.a5 d fun hw d lw kw => ?_ | refine W.a6 d ?_ | refine W.a7 ?_ | refine W.a8 ?_))
  refine W.ite (fun c => ?_) (fun c => ?_)
  ·rw [c]; exact W.lb rfl rfl (KB.refl _ _)
  ·have c : b' = false := by simpa using c
   rw [c]
   ((try simp only [n1, n2, n3, n4, n5, n6] at d); (with_reducible repeat first | refine W.a1 d ?_ | refine W.a2 ?_ | refine W.a3 ?_ | refine W.bo ?_ | refine W.a5 d fun hw d lw kw => ?_ | refine W.a6 d ?_ | refine W.a7 ?_ | refine W.a8 ?_))
   obtain ⟨h5, e5, k5'⟩ := implTermOk_run (base := base) (d.rs (i := 1) rfl : TmG base 7 S' hw t _).tmR d.ge
   have d := d.kN k5'
   refine W.bs e5 ?_
   ((try simp only [n1, n2, n3, n4, n5, n6] at d); (with_reducible repeat first | refine W.a1 d ?_ | refine W.a2 ?_ | refine W.a3 ?_ | refine W.bo ?_ | refine W.a5 d fun hw d lw kw => ?_ | refine W.a6 d ?_ | refine W.a7 ?_ | refine W.a8 ?_))
   exact W.lb rfl rfl k5'
 intro h11 d n11
 ((try simp only [n1, n2, n3, n4, n5, n6] at d); (with_reducible repeat first | refine W.a1 d ?_ | refine W.a2 ?_ | refine W.a3 ?_ | refine W.bo ?_ | refine W.a5 d fun hw d lw kw => ?_ | refine W.a6 d ?_ | refine W.a7 ?_ | refine W.a8 ?_))
 have hgr : gRd G ats w = if (b' || !tOk 7 t) = true then (tmZ, false) else (t, true) := by
  unfold gRd
  unfold OutT at ho
  rw [if_neg (by decide)] at ho
  cases e1 : rdT chkI G ats 6 w 0 with
  | none => rw [e1] at ho; rw [ho]; rfl
  | some y =>
   rw [e1] at ho
   obtain ⟨i1, i2, i3⟩ := ho
   rw [i3, i1]
   simp only [Bool.false_or]
   cases tOk 7 y.1 <;> rfl
 refine W.ite (fun c => ?_) (fun c => ?_)
 ·rw [hgr, if_pos c]
  ((try simp only [n1, n2, n3, n4, n5, n6] at d); (with_reducible repeat first | refine W.a1 d ?_ | refine W.a2 ?_ | refine W.a3 ?_ | refine W.bo ?_ | refine W.a5 d fun hw d lw kw => ?_ | refine W.a6 d ?_ | refine W.a7 ?_ | refine W.a8 ?_))
  exact W.ret ⟨_, rfl, tmZ_G, d.kb⟩
 ·rw [hgr, if_neg c]
  ((try simp only [n1, n2, n3, n4, n5, n6] at d); (with_reducible repeat first | refine W.a1 d ?_ | refine W.a2 ?_ | refine W.a3 ?_ | refine W.bo ?_ | refine W.a5 d fun hw d lw kw => ?_ | refine W.a6 d ?_ | refine W.a7 ?_ | refine W.a8 ?_))
  exact W.ret ⟨_, rfl, d.out (TmG.mo _ _) (i := 1) rfl, d.kb⟩
theorem implGensRead_run {base : Nat} {h : AH} {oa ya : Option Addr} {G : Gn} {aa : Option Addr} {ats : List ByteArray} {w : Int} (hG : G.Ok) (ha : ats.length ≤ 1048576) (hs : ∀ s ∈ ats, s.size ≤ maxLen) (hw : wOk w) (x : RdA base oa ya G aa ats h) (hb : base ≤ h.length) :
  ∃ cs' h', run (Et base) 89 [.agg (gensV oa ya G).toArray, .slice aa ats.length ats.length, .int .i64 w] h = some (.tuple #[.agg cs'.toArray, .bool (gRd G ats w).2], h') ∧ TmG base 7 (iS h.length h'.length) h' (gRd G ats w).1 cs' ∧ KB NoB h h' := by
 have d := Hs.start hb
 suffices W : Wp (run (Et base) 89 [.agg (gensV oa ya G).toArray, .slice aa ats.length ats.length, .int .i64 w] h) fun o => ∃ cs', o.1 = .tuple #[.agg cs'.toArray, .bool (gRd G ats w).2] ∧ TmG base 7 (iS h.length o.2.length) o.2 (gRd G ats w).1 cs' ∧ KB NoB h o.2 by
  obtain ⟨⟨o1, o2⟩, e, cs', y1, y2, y3⟩ := W
  simp only at y1 y2 y3
  subst y1
  exact ⟨cs', o2, e, y2, y3⟩
 refine W.of (fun r hx => Am.r89 hx) ?_
 ((try simp only [n1, n2, n3, n4, n5, n6] at d); (with_reducible repeat first | refine W.a1 d ?_ | refine W.a2 ?_ | refine W.a3 ?_ | refine W.bo ?_ | refine W.a5 d fun hw d lw kw => ?_ | refine W.a6 d ?_ | refine W.a7 ?_ | refine W.a8 ?_); (refine W.nD d fun p1 d _ kp1 => ?_); (with_reducible repeat first | refine W.a1 d ?_ | refine W.a2 ?_ | refine W.a3 ?_ | refine W.bo ?_ | refine W.a5 d fun hw d lw kw => ?_ | refine W.a6 d ?_ | refine W.a7 ?_ | refine W.a8 ?_); (refine W.nD d fun p2 d _ kp2 => ?_); (with_reducible repeat first | refine W.a1 d ?_ | refine W.a2 ?_ | refine W.a3 ?_ | refine W.bo ?_ | refine W.a5 d fun hw d lw kw => ?_ | refine W.a6 d ?_ | refine W.a7 ?_ | refine W.a8 ?_))
 obtain ⟨cs', h3, e3, t3, k3⟩ := implRead_run (base := base) (gb := h.length) hG ha hs hw (d.getI (.tail _ (.head _)) rfl) (d.getI (.tail _ (.head _)) rfl) (x.keepN d.kb) d.ge
 refine W.bs e3 ?_
 have d := d.callP (TmG.kp _ _) k3 t3
 obtain ⟨k1, k2, k3, k4, k5, rfl⟩ := t3.form
 ((try simp only [n1, n2, n3, n4, n5, n6] at d); (with_reducible repeat first | refine W.a1 d ?_ | refine W.a2 ?_ | refine W.a3 ?_ | refine W.bo ?_ | refine W.a5 d fun hw d lw kw => ?_ | refine W.a6 d ?_ | refine W.a7 ?_ | refine W.a8 ?_))
 exact W.ret ⟨_, rfl, d.out (TmG.mo _ _) (i := 0) rfl, d.kb⟩
end Go.Proofs.Ytjmkbglnjklbcaa.Am
set_option linter.unusedSimpArgs false
set_option linter.unusedVariables false
namespace Go.Proofs.Ytjmkbglnjklbcaa.Am
open Go Go.RowKit
def gwl (G : Gn) (p : Int) : List Int := if 100000 ≤ p then G.young else G.old
def gwp (p : Int) : Int := if 100000 ≤ p then p - 100000 else p
def gwB (G : Gn) (p n : Int) : Bool := inB (gwp p) 0 (gwl G p).length && inB n 0 ((gwl G p).length - gwp p)
def gws (G : Gn) (p n : Int) : List Int := if gwB G p n = true then ((gwl G p).drop (gwp p).toNat).take n.toNat else []
theorem gwB_iff {G : Gn} {p n : Int} : gwB G p n = true ↔ (0 ≤ gwp p ∧ gwp p ≤ (gwl G p).length) ∧ 0 ≤ n ∧ n ≤ (gwl G p).length - gwp p := by
 unfold gwB inB
 simp only [Bool.and_eq_true, decide_eq_true_eq]
theorem gws_len {G : Gn} {p n : Int} (h : gwB G p n = true) : ((gws G p n).length : Int) = n := by
 unfold gws
 rw [if_pos h]
 have := gwB_iff.1 h
 rw [List.length_take, List.length_drop]
 omega
theorem gws_at {G : Gn} (ho : G.old.length ≤ 1000) {p n : Int} (h : gwB G p n = true) {i : Nat} (hi : i < (gws G p n).length) : gwd G (p + i) = some (gws G p n)[i] := by
 have hl := gws_len h
 have h2 := gwB_iff.1 h
 have e : (gws G p n)[i]? = (gwl G p)[(gwp p).toNat + i]? := by
  unfold gws
  rw [if_pos h, List.getElem?_take_of_lt (by omega), List.getElem?_drop]
 rw [List.getElem?_eq_getElem hi] at e
 rw [e]
 unfold gwl gwp at *
 unfold gwd ati
 by_cases c : 100000 ≤ p
 ·rw [if_pos c] at h2 ⊢
  rw [if_pos c, if_pos (by omega), if_pos (by omega)]
  rw [if_pos c] at h2
  congr 1
  omega
 ·rw [if_neg c] at h2 ⊢
  rw [if_neg c] at h2 ⊢
  rw [if_neg (by omega), if_pos (by omega)]
  congr 1
  omega
theorem gws_no {G : Gn} (ho : G.old.length ≤ 1000) {p n : Int} (hn : 1 ≤ n) (h : gwB G p n = false) : ∃ i : Nat, (i : Int) < n ∧ gwd G (p + i) = none := by
 have h2 : ¬ ((0 ≤ gwp p ∧ gwp p ≤ (gwl G p).length) ∧ 0 ≤ n ∧ n ≤ (gwl G p).length - gwp p) := fun h3 => by rw [gwB_iff.2 h3] at h; cases h
 unfold gwl gwp at h2
 unfold gwd ati
 by_cases c : 100000 ≤ p
 ·rw [if_pos c, if_pos c] at h2
  refine ⟨if p - 100000 < G.young.length then (G.young.length - (p - 100000)).toNat else 0, ?_, ?_⟩
  ·split <;> omega
  ·rw [if_pos (by split <;> omega), if_pos (by split <;> omega)]
   exact List.getElem?_eq_none_iff.2 (by split <;> omega)
 ·rw [if_neg c, if_neg c] at h2
  by_cases c0 : p < 0
  ·refine ⟨0, by omega, ?_⟩
   rw [if_neg (by omega), if_neg (by omega)]
  ·refine ⟨if p < G.old.length then (G.old.length - p).toNat else 0, ?_, ?_⟩
   ·split <;> omega
   ·rw [if_neg (by split <;> omega), if_pos (by split <;> omega)]
    exact List.getElem?_eq_none_iff.2 (by split <;> omega)
theorem gwB_one {G : Gn} (ho : G.old.length ≤ 1000) {p : Int} : gwB G p 1 = (gwd G p).isSome := by
 cases h : gwB G p 1 with
 | true =>
  have hl := gws_len h
  have := gws_at ho h (i := 0) (by omega)
  rw [show p + ((0 : Nat) : Int) = p from by omega] at this
  rw [this]; rfl
 | false =>
  obtain ⟨i, hi, e⟩ := gws_no ho (by omega) h
  have : i = 0 := by omega
  subst this
  rw [show p + ((0 : Nat) : Int) = p from by omega] at e
  rw [e]; rfl
theorem gws_one {G : Gn} (ho : G.old.length ≤ 1000) {p n : Int} (h : gwd G p = some n) : gws G p 1 = [n] := by
 have hb : gwB G p 1 = true := by rw [gwB_one ho, h]; rfl
 have hl := gws_len hb
 have e := gws_at ho hb (i := 0) (by omega)
 rw [show p + ((0 : Nat) : Int) = p from by omega, h] at e
 injection e with e
 cases hh : gws G p 1 with
 | nil => rw [hh] at hl; simp at hl
 | cons x r =>
  rw [hh] at hl
  have : r = [] := by
   cases r with
   | nil => rfl
   | cons y r => simp at hl; omega
  subst this
  simp only [hh, List.getElem_cons_zero] at e
  rw [e]
def GnO (base : Nat) (h : AH) (oa ya : Option Addr) (G : Gn) : Prop := TyOk base h oa 3 ∧ TyOk base h ya 3 ∧ GnS h oa ya G
theorem RdA.gnO {base : Nat} {oa ya : Option Addr} {G : Gn} {aa : Option Addr} {ats : List ByteArray} {h : AH} (x : RdA base oa ya G aa ats h) : GnO base h oa ya G := ⟨x.1, x.2.1, x.2.2.2.1⟩
theorem GnO.keepN {base : Nat} {h h' : AH} {oa ya : Option Addr} {G : Gn} (x : GnO base h oa ya G) (k : KB NoB h h') : GnO base h' oa ya G := ⟨x.1.keepN k, x.2.1.keepN k, x.2.2.1.keepN k, x.2.2.2.keepN k⟩
theorem GnO.keep {base : Nat} {U : Fp} {h h' : AH} {oa ya : Option Addr} {G : Gn} (x : GnO base h oa ya G) (k : KB U h h') (hS : ∀ b, blk oa b ∨ blk ya b → ¬ U b) : GnO base h' oa ya G :=
 ⟨x.1.keep k fun i hi => hS i (.inl hi), x.2.1.keep k fun i hi => hS i (.inr hi), x.2.2.1.keep k fun i hi => hS i (.inl hi), x.2.2.2.keep k fun i hi => hS i (.inr hi)⟩
theorem GnO.lt {base : Nat} {h : AH} {oa ya : Option Addr} {G : Gn} (x : GnO base h oa ya G) : ∀ b, blk oa b ∨ blk ya b → b < h.length := fun b hb => hb.elim (x.1.lt b) (x.2.1.lt b)
def gwa (oa ya : Option Addr) (p : Int) : Option Addr := if 100000 ≤ p then ya else oa
theorem GnO.part {base : Nat} {h : AH} {oa ya : Option Addr} {G : Gn} (x : GnO base h oa ya G) (p : Int) : TyOk base h (gwa oa ya p) 3 ∧ Sl h (gwa oa ya p) (iv .i64 (gwl G p)) := by
 unfold gwa gwl
 split
 ·exact ⟨x.2.1, x.2.2.2⟩
 ·exact ⟨x.1, x.2.2.1⟩
theorem GnO.sl {base : Nat} {h : AH} {oa ya : Option Addr} {G : Gn} {p n : Int} (x : GnO base h oa ya G) (c : gwB G p n = true) : Sl h (shiftA (gwa oa ya p) (gwp p).toNat) (iv .i64 (gws G p n)) := by
 have c2 := gwB_iff.1 c
 have e2 : gws G p n = ((gwl G p).drop (gwp p).toNat).take n.toNat := by unfold gws; rw [if_pos c]
 rw [e2, iv, List.map_take, List.map_drop]
 exact (x.part p).2.part (by rw [iv_length]; omega)
theorem GnO.inp {base : Nat} {h : AH} {oa ya : Option Addr} {G : Gn} (x : GnO base h oa ya G) (hb : base ≤ h.length) : Hs base NoB h h [] [⟨fun b => b < h.length, false, fun y => GnO base y oa ya G⟩] :=
 (Hs.start hb).inp (fun b => b < h.length) (fun y => GnO base y oa ya G) x (fun U y y' k hS q => q.keep k fun i hi => hS i (x.lt i hi)) (fun b hb => hb) (fun x hx => nomatch hx) rfl
theorem l6Words_run {base : Nat} {h : AH} {oa ya : Option Addr} {G : Gn} {p n : Int} (hG : G.Ok) (hp : wOk p) (hn : wOk n) (x : GnO base h oa ya G) (hb : base ≤ h.length) :
  ∃ a' h', run (Et base) 144 [.agg (gensV oa ya G).toArray, .int .i64 p, .int .i64 n] h = some (.tuple #[.slice a' (gws G p n).length (gws G p n).length, .bool (gwB G p n)], h') ∧ Sl h' a' (iv .i64 (gws G p n)) ∧ KB NoB h h' ∧ (gwB G p n = true → a' = shiftA (gwa oa ya p) (gwp p).toNat) := by
 obtain ⟨g1, g2, g3, g4⟩ := hG
 obtain ⟨p1, p2⟩ := hp
 obtain ⟨n1, n2⟩ := hn
 have d := x.inp hb
 suffices W : Wp (run (Et base) 144 [.agg (gensV oa ya G).toArray, .int .i64 p, .int .i64 n] h) fun o => ∃ a', o.1 = .tuple #[.slice a' (gws G p n).length (gws G p n).length, .bool (gwB G p n)] ∧ Sl o.2 a' (iv .i64 (gws G p n)) ∧ KB NoB h o.2 ∧ (gwB G p n = true → a' = shiftA (gwa oa ya p) (gwp p).toNat) by
  obtain ⟨⟨o1, o2⟩, e, a', y1, y2, y3⟩ := W
  simp only at y1 y2 y3
  subst y1
  exact ⟨a', o2, e, y2, y3⟩
 refine W.of (fun r hx => Am.r144 hx) ?_
 ((try simp only [n1, n2, n3, n4, n5, n6] at d); (with_reducible repeat first | refine W.a1 d ?_ | refine W.a2 ?_ | refine W.a3 ?_ | refine W.bo ?_ | refine W.a5 d fun hw d lw kw => ?_ | refine W.a6 d ?_ | refine W.a7 ?_ | refine W.a8 ?_); (refine W.nD d fun h1 d _ kh1 => ?_); (with_reducible repeat first | refine W.a1 d ?_ | refine W.a2 ?_ | refine W.a3 ?_ | refine W.bo ?_ | refine W.a5 d fun hw d lw kw => ?_ | refine W.a6 d ?_ | refine W.a7 ?_ | refine W.a8 ?_))
 have hl : (gwl G p).length ≤ 1048576 := by unfold gwl; split <;> omega
 refine W.joinP (fun q => q.1 = [some (.int .i64 (gwp p)), some (.int .i64 n), some (.slice (gwa oa ya p) (gwl G p).length (gwl G p).length)] ∧ q.2 = h1) ?_ fun q hq => ?_
 ·refine W.ite (fun c => ?_) (fun c => ?_)
  ·have c : 100000 ≤ p := by simpa using c
   ((try simp only [n1, n2, n3, n4, n5, n6] at d); (with_reducible repeat first | refine W.a1 d ?_ | refine W.a2 ?_ | refine W.a3 ?_ | refine W.bo ?_ | refine W.a5 d fun hw d lw kw => ?_ | refine W.a6 d ?_ | refine W.a7 ?_ | refine W.a8 ?_))
   rw [w64i (n := p - 100000) (by omega) (by omega)]
   refine W.inl ⟨?_, rfl⟩
   unfold gwp gwl gwa; rw [if_pos c, if_pos c, if_pos c]
  ·have c : ¬ 100000 ≤ p := by simpa using c
   refine W.inl ⟨?_, rfl⟩
   unfold gwp gwl gwa; rw [if_neg c, if_neg c, if_neg c]
 obtain ⟨q1, q2⟩ := q
 obtain ⟨e, e2⟩ := hq
 simp only at e e2
 subst e; subst e2
 ((try simp only [n1, n2, n3, n4, n5, n6] at d); (with_reducible repeat first | refine W.a1 d ?_ | refine W.a2 ?_ | refine W.a3 ?_ | refine W.bo ?_ | refine W.a5 d fun hw d lw kw => ?_ | refine W.a6 d ?_ | refine W.a7 ?_ | refine W.a8 ?_))
 apply W.jb (!gwB G p n) d
 ·refine W.bs l1In_run ?_
  ((try simp only [n1, n2, n3, n4, n5, n6] at d); (with_reducible repeat first | refine W.a1 d ?_ | refine W.a2 ?_ | refine W.a3 ?_ | refine W.bo ?_ | refine W.a5 d fun hw d lw kw => ?_ | refine W.a6 d ?_ | refine W.a7 ?_ | refine W.a8 ?_))
  unfold gwB
  refine W.ite (fun c => ?_) (fun c => ?_)
  ·have c : inB (gwp p) 0 (gwl G p).length = false := by simpa using c
   rw [c]; exact W.lb rfl rfl (KB.refl _ _)
  ·have c : inB (gwp p) 0 (gwl G p).length = true := by simpa using c
   have c2 : 0 ≤ gwp p ∧ gwp p ≤ (gwl G p).length := by unfold inB at c; simpa using c
   rw [c, w64i (by omega) (by omega)]
   refine W.bs l1In_run ?_
   ((try simp only [n1, n2, n3, n4, n5, n6] at d); (with_reducible repeat first | refine W.a1 d ?_ | refine W.a2 ?_ | refine W.a3 ?_ | refine W.bo ?_ | refine W.a5 d fun hw d lw kw => ?_ | refine W.a6 d ?_ | refine W.a7 ?_ | refine W.a8 ?_))
   exact W.lb rfl (by simp) (KB.refl _ _)
 intro h2 d n2
 ((try simp only [n1, n2, n3, n4, n5, n6] at d); (with_reducible repeat first | refine W.a1 d ?_ | refine W.a2 ?_ | refine W.a3 ?_ | refine W.bo ?_ | refine W.a5 d fun hw d lw kw => ?_ | refine W.a6 d ?_ | refine W.a7 ?_ | refine W.a8 ?_))
 refine W.ite (fun c => ?_) (fun c => ?_)
 ·have c : gwB G p n = false := by simpa using c
  ((try simp only [n1, n2, n3, n4, n5, n6] at d); (with_reducible repeat first | refine W.a1 d ?_ | refine W.a2 ?_ | refine W.a3 ?_ | refine W.bo ?_ | refine W.a5 d fun hw d lw kw => ?_ | refine W.a6 d ?_ | refine W.a7 ?_ | refine W.a8 ?_); (refine W.nD d fun h3 d _ kh3 => ?_); (with_reducible repeat first | refine W.a1 d ?_ | refine W.a2 ?_ | refine W.a3 ?_ | refine W.bo ?_ | refine W.a5 d fun hw d lw kw => ?_ | refine W.a6 d ?_ | refine W.a7 ?_ | refine W.a8 ?_))
  rw [c, show gws G p n = [] from by unfold gws; rw [if_neg (by rw [c]; decide)]]
  exact W.ret ⟨_, rfl, .inl rfl, d.kb, fun h => by cases h⟩
 ·have c : gwB G p n = true := by simpa using c
  have c2 := gwB_iff.1 c
  rw [w64i (n := gwp p + n) (by omega) (by omega)]
  obtain ⟨ty, sl⟩ := (d.rs (i := 0) rfl : GnO base h2 oa ya G).part p
  refine W.ifT ⟨c2.1.1, by omega, by omega, ty.ok _⟩ (W.ret ⟨shiftA (gwa oa ya p) ((gwp p).toNat * 1), ?_, ?_, d.kb, fun _ => by rw [Nat.mul_one]⟩)
  ·have e1 : (gwp p + n).toNat - (gwp p).toNat = (gws G p n).length := by have := gws_len c; omega
   rw [e1, c]
  ·have e2 : gws G p n = ((gwl G p).drop (gwp p).toNat).take n.toNat := by unfold gws; rw [if_pos c]
   rw [e2, Nat.mul_one, iv, List.map_take, List.map_drop]
   exact sl.part (by rw [iv_length]; omega)
end Go.Proofs.Ytjmkbglnjklbcaa.Am
set_option linter.unusedSimpArgs false
set_option linter.unusedVariables false
namespace Go.Proofs.Ytjmkbglnjklbcaa.Am
open Go Go.RowKit
def sz1 (G : Gn) (p : Int) : Int := match gwd G p with
 | some n => if inB n 0 1000 = true then n + 1 else 0
 | none => 0
def szW (G : Gn) (w : Int) : Int := if tagW w = 5 then 2 else if tagW w = 4 ∨ tagW w = 6 then sz1 G (valW w) else 0
theorem sz1_le (G : Gn) (p : Int) : 0 ≤ sz1 G p ∧ sz1 G p ≤ 1001 := by
 unfold sz1
 split
 ·split
  ·rename_i n _ h
   unfold inB at h
   have h : 0 ≤ n ∧ n ≤ 1000 := by simpa using h
   omega
  ·omega
 ·omega
theorem szW_le (G : Gn) (w : Int) : 0 ≤ szW G w ∧ szW G w ≤ 1001 := by
 have := sz1_le G (valW w)
 unfold szW
 split
 ·omega
 ·split <;> omega
theorem valW_ok {w : Int} (hw : wOk w) : wOk (valW w) := ⟨by have := valW_nn w; omega, by have := valW_le hw; omega⟩
theorem l6Size_run {base : Nat} {h : AH} {oa ya : Option Addr} {G : Gn} {w : Int} (hG : G.Ok) (ho : G.old.length ≤ 1000) (hw : wOk w) (x : GnO base h oa ya G) (hb : base ≤ h.length) :
  ∃ h', run (Et base) 142 [.agg (gensV oa ya G).toArray, .int .i64 w] h = some (.int .i64 (szW G w), h') ∧ KB NoB h h' := by
 have d := x.inp hb
 suffices W : Wp (run (Et base) 142 [.agg (gensV oa ya G).toArray, .int .i64 w] h) fun o => o.1 = .int .i64 (szW G w) ∧ KB NoB h o.2 by
  obtain ⟨⟨o1, o2⟩, e, y1, y2⟩ := W
  simp only at y1 y2
  subst y1
  exact ⟨o2, e, y2⟩
 refine W.of (fun r hx => Am.r142 hx) ?_
 ((try simp only [n1, n2, n3, n4, n5, n6] at d); (with_reducible repeat first | refine W.a1 d ?_ | refine W.a2 ?_ | refine W.a3 ?_ | refine W.bo ?_ | refine W.a5 d fun hw d lw kw => ?_ | refine W.a6 d ?_ | refine W.a7 ?_ | refine W.a8 ?_); (refine W.nD d fun h1 d _ kh1 => ?_); (with_reducible repeat first | refine W.a1 d ?_ | refine W.a2 ?_ | refine W.a3 ?_ | refine W.bo ?_ | refine W.a5 d fun hw d lw kw => ?_ | refine W.a6 d ?_ | refine W.a7 ?_ | refine W.a8 ?_))
 refine W.bs specTag_run ?_
 ((try simp only [n1, n2, n3, n4, n5, n6] at d); (with_reducible repeat first | refine W.a1 d ?_ | refine W.a2 ?_ | refine W.a3 ?_ | refine W.bo ?_ | refine W.a5 d fun hw d lw kw => ?_ | refine W.a6 d ?_ | refine W.a7 ?_ | refine W.a8 ?_))
 refine W.ite (fun c5 => ?_) (fun c5 => ?_)
 ·have c5 : tagW w = 5 := by simpa using c5
  refine W.ret ⟨?_, d.kb⟩
  unfold szW; rw [if_pos c5]
 have c5 : ¬ tagW w = 5 := by simpa using c5
 apply W.jb (decide (tagW w = 4 ∨ tagW w = 6)) d
 ·refine W.ite (fun c => ?_) (fun c => ?_)
  ·have c : tagW w = 4 := by simpa using c
   exact W.lb rfl (by simp [c]) (KB.refl _ _)
  ·have c : ¬ tagW w = 4 := by simpa using c
   refine W.lb rfl ?_ (KB.refl _ _)
   by_cases c6 : tagW w = 6
   ·simp [c6]
   ·simp [c, c6]
 intro h2 d n2
 ((try simp only [n1, n2, n3, n4, n5, n6] at d); (with_reducible repeat first | refine W.a1 d ?_ | refine W.a2 ?_ | refine W.a3 ?_ | refine W.bo ?_ | refine W.a5 d fun hw d lw kw => ?_ | refine W.a6 d ?_ | refine W.a7 ?_ | refine W.a8 ?_))
 refine W.ite (fun c => ?_) (fun c => ?_)
 ·have c : tagW w = 4 ∨ tagW w = 6 := by simpa using c
  have es : szW G w = sz1 G (valW w) := by unfold szW; rw [if_neg c5, if_pos c]
  rw [es]
  ((try simp only [n1, n2, n3, n4, n5, n6] at d); (with_reducible repeat first | refine W.a1 d ?_ | refine W.a2 ?_ | refine W.a3 ?_ | refine W.bo ?_ | refine W.a5 d fun hw d lw kw => ?_ | refine W.a6 d ?_ | refine W.a7 ?_ | refine W.a8 ?_))
  refine W.bs (specVal_run hw.2) ?_
  ((try simp only [n1, n2, n3, n4, n5, n6] at d); (with_reducible repeat first | refine W.a1 d ?_ | refine W.a2 ?_ | refine W.a3 ?_ | refine W.bo ?_ | refine W.a5 d fun hw d lw kw => ?_ | refine W.a6 d ?_ | refine W.a7 ?_ | refine W.a8 ?_))
  obtain ⟨a', h3, e3, s3, k3, _⟩ := l6Words_run (base := base) (n := 1) hG (valW_ok hw) ⟨by omega, by omega⟩ (d.rs (i := 0) rfl : GnO base h2 oa ya G) d.ge
  refine W.bs e3 ?_
  have d := d.kN k3
  ((try simp only [n1, n2, n3, n4, n5, n6] at d); (with_reducible repeat first | refine W.a1 d ?_ | refine W.a2 ?_ | refine W.a3 ?_ | refine W.bo ?_ | refine W.a5 d fun hw d lw kw => ?_ | refine W.a6 d ?_ | refine W.a7 ?_ | refine W.a8 ?_))
  rw [gwB_one ho]
  refine W.joinP (fun q => q.1 = [some (.slice a' (gws G (valW w) 1).length (gws G (valW w) 1).length), some (.bool (match gwd G (valW w) with | some n => inB n 0 1000 | none => false))] ∧ q.2 = h3) ?_ fun q hq => ?_
  ·refine W.ite (fun c1 => ?_) (fun c1 => ?_)
   ·obtain ⟨n, e⟩ := Option.isSome_iff_exists.1 c1
    have e1 := gws_one ho e
    rw [e1] at s3 ⊢
    refine W.ifT (by simp) ?_
    obtain ⟨ad, rfl, g⟩ := s3.int (i := 0) (by simp)
    refine W.bs rfl (W.bs g ?_)
    refine W.bs l1In_run ?_
    ((try simp only [n1, n2, n3, n4, n5, n6] at d); (with_reducible repeat first | refine W.a1 d ?_ | refine W.a2 ?_ | refine W.a3 ?_ | refine W.bo ?_ | refine W.a5 d fun hw d lw kw => ?_ | refine W.a6 d ?_ | refine W.a7 ?_ | refine W.a8 ?_))
    refine W.inl ⟨?_, rfl⟩
    rw [e]; rfl
   ·have c1 : gwd G (valW w) = none := by simpa using c1
    refine W.inl ⟨?_, rfl⟩
    rw [c1]
  obtain ⟨q1, q2⟩ := q
  obtain ⟨e, e2⟩ := hq
  simp only at e e2
  subst e; subst e2
  ((try simp only [n1, n2, n3, n4, n5, n6] at d); (with_reducible repeat first | refine W.a1 d ?_ | refine W.a2 ?_ | refine W.a3 ?_ | refine W.bo ?_ | refine W.a5 d fun hw d lw kw => ?_ | refine W.a6 d ?_ | refine W.a7 ?_ | refine W.a8 ?_))
  unfold sz1
  cases e : gwd G (valW w) with
  | none => exact W.ifF (by decide) (W.ret ⟨rfl, d.kb⟩)
  | some n =>
   simp only
   cases e2 : inB n 0 1000 with
   | false => exact W.ifF (by decide) (W.ret ⟨rfl, d.kb⟩)
   | true =>
    have hn : 0 ≤ n ∧ n ≤ 1000 := by unfold inB at e2; simpa using e2
    refine W.ifT rfl ?_
    have e1 := gws_one ho e
    rw [e1] at s3 ⊢
    refine W.ifT (by simp) ?_
    obtain ⟨ad, rfl, g⟩ := s3.int (i := 0) (by simp)
    refine W.bs rfl (W.bs g ?_)
    refine W.ret ⟨?_, d.kb⟩
    simp only [List.getElem_cons_zero]
    rw [w64i (by omega) (by omega)]
    rfl
 ·have c : ¬ (tagW w = 4 ∨ tagW w = 6) := by simpa using c
  refine W.ret ⟨?_, d.kb⟩
  unfold szW; rw [if_neg c5, if_neg c]
end Go.Proofs.Ytjmkbglnjklbcaa.Am
set_option linter.unusedSimpArgs false
set_option linter.unusedVariables false
namespace Go.Proofs.Ytjmkbglnjklbcaa.Am
open Go Go.RowKit
abbrev rdV (oa ya : Option Addr) (G : Gn) (aa : Option Addr) (n : Nat) (left : Int) (b : Bool) : List Value := [.slice oa G.old.length G.old.length, .slice ya G.young.length G.young.length, .int .i64 G.mark, .slice aa n n, .int .i64 left, .bool b]
theorem mkW_ok (t v : Int) : wOk (mkW t v) := by
 unfold mkW inB wOk
 split
 ·rename_i h1
  split
  ·rename_i h2
   simp only [Bool.and_eq_true, decide_eq_true_eq] at h1 h2
   omega
  ·omega
 ·omega
theorem szW_mk {G : Gn} (hG : G.Ok) {t p : Int} (ht : t = 4 ∨ t = 6) (hp : 0 ≤ p) : szW G (mkW t p) = sz1 G p := by
 by_cases c : p ≤ 4000000
 ·have e : mkW t p = t + 8 * p := by
   unfold mkW inB
   rw [if_pos (by simp; omega), if_pos (by simp; omega)]
  have e1 : tagW (t + 8 * p) = t := by unfold tagW; rw [if_neg (by omega)]; omega
  have e2 : valW (t + 8 * p) = p := by unfold valW; rw [if_neg (by omega)]; omega
  rw [e]
  unfold szW
  rw [e1, e2, if_neg (by omega), if_pos (by omega)]
 ·have e : mkW t p = 0 := by
   unfold mkW inB
   rw [if_pos (by simp; omega), if_neg (by simp; omega)]
  rw [e]
  have e3 : gwd G p = none := by
   cases e : gwd G p with
   | none => rfl
   | some v => have := (gwd_ok hG e).2; omega
  unfold sz1
  rw [e3]
  rfl
def bnL (L : List Int) : Option (List Int) := if L.all (fun x => inB x 0 255) = true then some L else none
theorem bnL_cons (x : Int) (L : List Int) : bnL (x :: L) = if inB x 0 255 = true then (bnL L).bind fun y => some (x :: y) else none := by
 unfold bnL
 cases h1 : inB x 0 255 with
 | false => rw [if_neg (by simp [h1])]; rfl
 | true =>
  cases h2 : L.all (fun x => inB x 0 255) with
  | false => rw [if_neg (by simp [h1, h2])]; rfl
  | true => rw [if_pos (by simp only [List.all_cons, h1, h2]; rfl)]; rfl
theorem rdB_words {G : Gn} : ∀ (L : List Int) (p : Int), (∀ i (hi : i < L.length), gwd G (p + (i : Int)) = some L[i]) → rdB G L.length p = bnL L
 | [], p, _ => rfl
 | x :: L, p, h => by
  have h0 := h 0 (by simp)
  rw [show p + ((0 : Nat) : Int) = p from by omega] at h0
  rw [List.length_cons, rdB, h0, bnL_cons]
  simp only [Option.bind_some, List.getElem_cons_zero]
  rw [rdB_words L (p + 1) fun i hi => by
   have := h (i + 1) (by simp; omega)
   rw [show p + 1 + (i : Int) = p + ((i + 1 : Nat) : Int) from by omega]
   simpa using this]
theorem rdB_none {G : Gn} : ∀ (n : Nat) (p : Int) (i : Nat), i < n → gwd G (p + (i : Int)) = none → rdB G n p = none
 | 0, p, i, hi, _ => by omega
 | n + 1, p, 0, hi, e => by
  rw [show p + ((0 : Nat) : Int) = p from by omega] at e
  rw [rdB, e]; rfl
 | n + 1, p, i + 1, hi, e => by
  rw [rdB]
  cases e1 : gwd G p with
  | none => rfl
  | some w =>
   rw [show p + ((i + 1 : Nat) : Int) = p + 1 + (i : Int) from by omega] at e
   simp only [Option.bind_some]
   rw [rdB_none n (p + 1) i (by omega) e]
   split <;> rfl
theorem u8_map {L : List Int} (h : L.all (fun x => inB x 0 255) = true) : L.map (IntKind.wrap .u8) = L := by
 induction L with
 | nil => rfl
 | cons x L ih =>
  simp only [List.all_cons, Bool.and_eq_true] at h
  have : 0 ≤ x ∧ x ≤ 255 := by unfold inB at h; simpa using h.1
  rw [List.map_cons, ih h.2, IntWalk.u8_in x ⟨this.1, this.2⟩]
theorem l6Bin_loop {base rb zb : Nat} {G : Gn} {oa ya aa a' : Option Addr} {na : Nat} {left : Int} {L : List Int} {m : Bool} {S V : Fp} {A : AH → Prop} {h0 : AH} (hL : L.length ≤ 41) (hA : ∀ y, A y → Sl y a' (iv .i64 L)) : ∀ (r i : Nat) (h : AH) (l : List Int) (ao : Option Addr) (b : Bool) (S2 : Fp), i + r = L.length → l.length ≤ i → (∀ x, blk ao x → S2 x) → Hs base V h0 h [(zb, 39, termV 0 0 ⟨#[]⟩ none 0), (rb, 172, rdV oa ya G aa na left b)] [⟨S, m, A⟩, rBs base S2 l ao] →
  Wp (loopL (B180_0 base) [some (.pointer (at0 rb)), some (.pointer (at0 zb)), some (.slice a' L.length L.length), some (.slice ao l.length l.length), some (.int .i64 (i : Int))] h) fun o => ∃ l' a2 S', o.1 = 2 ∧ o.2.1 = [some (.pointer (at0 zb)), some (.slice a2 l'.length l'.length)] ∧ l' = l ++ (L.drop i).map (IntKind.wrap .u8) ∧ Hs base V h0 o.2.2 [(zb, 39, termV 0 0 ⟨#[]⟩ none 0), (rb, 172, rdV oa ya G aa na left (b || !(L.drop i).all (fun x => inB x 0 255)))] [⟨S, m, A⟩, rBs base S' l' a2] := by
 intro r
 induction r with
 | zero =>
  intro i h l ao b S2 hi hl hS d
  suffices w : Wp (B180_0 base [some (.pointer (at0 rb)), some (.pointer (at0 zb)), some (.slice a' L.length L.length), some (.slice ao l.length l.length), some (.int .i64 (i : Int))] h) fun o => o = (2, [some (.pointer (at0 zb)), some (.slice ao l.length l.length)], h) by
   obtain ⟨o, e, rfl⟩ := w
   refine ⟨_, loop_off (by decide) e, l, ao, S2, rfl, rfl, ?_, ?_⟩
   ·rw [List.drop_of_length_le (by omega)]; simp
   ·rw [List.drop_of_length_le (by omega)]; simpa using d
  rw [B180_0_eq]
  exact W.ifF (by simp; omega) (W.ret rfl)
 | succ r ihr =>
  intro i h l ao b S2 hi hl hS d
  have hlt : i < L.length := by omega
  suffices w : Wp (B180_0 base [some (.pointer (at0 rb)), some (.pointer (at0 zb)), some (.slice a' L.length L.length), some (.slice ao l.length l.length), some (.int .i64 (i : Int))] h) fun o => ∃ a2 S', o.1 = 0 ∧ o.2.1 = [some (.pointer (at0 rb)), some (.pointer (at0 zb)), some (.slice a' L.length L.length), some (.slice a2 (l.length + 1) (l.length + 1)), some (.int .i64 ((i : Int) + 1))] ∧ (∀ x, blk a2 x → S' x) ∧ Hs base V h0 o.2.2 [(zb, 39, termV 0 0 ⟨#[]⟩ none 0), (rb, 172, rdV oa ya G aa na left (b || !inB L[i] 0 255))] [⟨S, m, A⟩, rBs base S' (l ++ [IntKind.wrap .u8 L[i]]) a2] by
   obtain ⟨⟨o1, o2, h'⟩, e, a2, S', y1, y2, hS', d'⟩ := w
   simp only at y1 y2 d'
   subst y1; subst y2
   have el : (l ++ [IntKind.wrap .u8 L[i]]).length = l.length + 1 := by simp
   have q := ihr (i + 1) h' (l ++ [IntKind.wrap .u8 L[i]]) a2 _ S' (by omega) (by omega) hS' d'
   rw [el] at q
   obtain ⟨o, eo, l2, a3, S3, z1, z2, z3, z4⟩ := q
   have ed : L.drop i = L[i] :: L.drop (i + 1) := List.drop_eq_getElem_cons hlt
   refine ⟨o, loop_on e eo, l2, a3, S3, z1, z2, ?_, ?_⟩
   ·rw [z3, ed, List.map_cons, List.append_assoc]; rfl
   ·rw [ed, List.all_cons, Bool.not_and, ← Bool.or_assoc]; exact z4
  rw [B180_0_eq]
  refine W.ifT (decide_eq_true (by omega)) ?_
  obtain ⟨ad, ea, g⟩ := (hA _ (d.rs (i := 0) rfl)).int hlt
  subst ea
  refine W.joinP (fun q => q.1 = [some (.pointer (at0 rb)), some (.pointer (at0 zb)), some (.slice (some ad) L.length L.length), some (.slice ao l.length l.length), some (.int .i64 (i : Int))] ∧ Hs base V h0 q.2 [(zb, 39, termV 0 0 ⟨#[]⟩ none 0), (rb, 172, rdV oa ya G aa na left (b || !inB L[i] 0 255))] [⟨S, m, A⟩, rBs base S2 l ao]) ?_ fun q hq => ?_
  ·((try simp only [n1, n2, n3, n4, n5, n6] at d); (with_reducible repeat first | refine W.a1 d ?_ | refine W.a2 ?_ | refine W.a3 ?_ | refine W.bo ?_ | refine W.a5 d fun hw d lw kw => ?_ | refine W.a6 d ?_ | refine W.a7 ?_ | refine W.a8 ?_))
   refine W.ite (fun c => ?_) (fun c => ?_)
   ·rw [c] at d
    ((try simp only [n1, n2, n3, n4, n5, n6] at d); (with_reducible repeat first | refine W.a1 d ?_ | refine W.a2 ?_ | refine W.a3 ?_ | refine W.bo ?_ | refine W.a5 d fun hw d lw kw => ?_ | refine W.a6 d ?_ | refine W.a7 ?_ | refine W.a8 ?_))
    rw [c]
    exact W.inl ⟨rfl, d⟩
   ·have c : b = false := by simpa using c
    refine W.ifT (by omega) (W.bs rfl ?_)
    refine W.bs (by rw [show Int.toNat (i : Int) * 1 = i from by simp]; exact g) ?_
    refine W.bs l1In_run ?_
    ((try simp only [n1, n2, n3, n4, n5, n6] at d); (with_reducible repeat first | refine W.a1 d ?_ | refine W.a2 ?_ | refine W.a3 ?_ | refine W.bo ?_ | refine W.a5 d fun hw d lw kw => ?_ | refine W.a6 d ?_ | refine W.a7 ?_ | refine W.a8 ?_))
    rw [c]
    exact W.inl ⟨rfl, d⟩
  obtain ⟨q1, h2⟩ := q
  obtain ⟨e, d⟩ := hq
  simp only at e d
  subst e
  ((try simp only [n1, n2, n3, n4, n5, n6] at d); (with_reducible repeat first | refine W.a1 d ?_ | refine W.a2 ?_ | refine W.a3 ?_ | refine W.bo ?_ | refine W.a5 d fun hw d lw kw => ?_ | refine W.a6 d ?_ | refine W.a7 ?_ | refine W.a8 ?_))
  obtain ⟨ad', ea, g⟩ := (hA _ (d.rs (i := 0) rfl)).int hlt
  injection ea with ea
  subst ea
  refine W.bs (by rw [show Int.toNat (i : Int) * 1 = i from by simp]; exact g) ?_
  ((try simp only [n1, n2, n3, n4, n5, n6] at d); (with_reducible repeat first | refine W.a1 d ?_ | refine W.a2 ?_ | refine W.a3 ?_ | refine W.bo ?_ | refine W.a5 d fun hw d lw kw => ?_ | refine W.a6 d ?_ | refine W.a7 ?_ | refine W.a8 ?_); (refine W.nD d fun h3 d _ kh3 => ?_); (with_reducible repeat first | refine W.a1 d ?_ | refine W.a2 ?_ | refine W.a3 ?_ | refine W.bo ?_ | refine W.a5 d fun hw d lw kw => ?_ | refine W.a6 d ?_ | refine W.a7 ?_ | refine W.a8 ?_))
  obtain ⟨a5, h5, e5, d, q5, k5, _⟩ := d.app1O (w := 1) (i := 1) (n := l.length) (bytes := 1) rfl hS (.head _) rfl (by decide) (by simp) rfl (by omega) (by omega)
  refine W.bs e5 ?_
  ((try simp only [n1, n2, n3, n4, n5, n6] at d); (with_reducible repeat first | refine W.a1 d ?_ | refine W.a2 ?_ | refine W.a3 ?_ | refine W.bo ?_ | refine W.a5 d fun hw d lw kw => ?_ | refine W.a6 d ?_ | refine W.a7 ?_ | refine W.a8 ?_))
  rw [w64i (n := (i : Int) + 1) (by omega) (by omega)]
  have d := d.tl
  rw [show iv .u8 l ++ [Value.int .u8 (IntKind.wrap .u8 L[i])] = iv .u8 (l ++ [IntKind.wrap .u8 L[i]]) from by rw [← iv_append]; rfl] at d
  exact W.ret ⟨a5, _, rfl, rfl, fun x hx => hx, d⟩
theorem l6Bin_run {base rb f : Nat} {G : Gn} {oa ya aa : Option Addr} {ats : List ByteArray} {p left : Int} {m : Bool} {S V : Fp} {A : AH → Prop} {h0 h : AH} (hG : G.Ok) (ho : G.old.length ≤ 1000) (hp : 0 ≤ p ∧ wOk p) (hA : ∀ y, A y → RdA base oa ya G aa ats y) (d : Hs base V h0 h [(rb, 172, rdV oa ya G aa ats.length left false)] [⟨S, m, A⟩]) :
  Wp (run (Et base) 180 [.pointer (at0 rb), .int .i64 p] h) fun o => ∃ t cs' S' b', o.1 = .agg cs'.toArray ∧ Hs base V h0 o.2 [(rb, 172, rdV oa ya G aa ats.length left b')] [⟨S, m, A⟩, ⟨S', true, fun y => TmG base (f + 1) S' y t cs'⟩] ∧ (match (gwd G p).bind fun n => if inB n 0 40 = true then (rdB G n.toNat (p + 1)).bind fun y => some (Tm.mk 6 0 (bstr y) []) else none with
   | some y => t = y ∧ b' = false
   | none => b' = true) := by
 refine W.of (fun r hx => Am.r180 hx) ?_
 ((try simp only [n1, n2, n3, n4, n5, n6] at d); (with_reducible repeat first | refine W.a1 d ?_ | refine W.a2 ?_ | refine W.a3 ?_ | refine W.bo ?_ | refine W.a5 d fun hw d lw kw => ?_ | refine W.a6 d ?_ | refine W.a7 ?_ | refine W.a8 ?_); (refine W.nD d fun h1 d _ kh1 => ?_); (with_reducible repeat first | refine W.a1 d ?_ | refine W.a2 ?_ | refine W.a3 ?_ | refine W.bo ?_ | refine W.a5 d fun hw d lw kw => ?_ | refine W.a6 d ?_ | refine W.a7 ?_ | refine W.a8 ?_))
 refine W.bs specMk_run ?_
 ((try simp only [n1, n2, n3, n4, n5, n6] at d); (with_reducible repeat first | refine W.a1 d ?_ | refine W.a2 ?_ | refine W.a3 ?_ | refine W.bo ?_ | refine W.a5 d fun hw d lw kw => ?_ | refine W.a6 d ?_ | refine W.a7 ?_ | refine W.a8 ?_))
 obtain ⟨h2, e2, k2⟩ := l6Size_run (base := base) (w := mkW 6 p) hG ho (mkW_ok _ _) (hA _ (d.rs (i := 0) rfl)).gnO d.ge
 refine W.bs e2 ?_
 have d := d.kN k2
 rw [szW_mk hG (.inr rfl) hp.1]
 have hz := sz1_le G p
 ((try simp only [n1, n2, n3, n4, n5, n6] at d); (with_reducible repeat first | refine W.a1 d ?_ | refine W.a2 ?_ | refine W.a3 ?_ | refine W.bo ?_ | refine W.a5 d fun hw d lw kw => ?_ | refine W.a6 d ?_ | refine W.a7 ?_ | refine W.a8 ?_))
 rw [w64i (n := sz1 G p - 1) (by omega) (by omega), w64i (n := sz1 G p - 1 + 1) (by omega) (by omega), show sz1 G p - 1 + 1 = sz1 G p from by omega]
 obtain ⟨a', h3, e3, s3, k3, x3⟩ := l6Words_run (base := base) (p := p) (n := sz1 G p) hG hp.2 ⟨by omega, by omega⟩ (hA _ (d.rs (i := 0) rfl)).gnO d.ge
 refine W.bs e3 ?_
 have d := d.kN k3
 ((try simp only [n1, n2, n3, n4, n5, n6] at d); (with_reducible repeat first | refine W.a1 d ?_ | refine W.a2 ?_ | refine W.a3 ?_ | refine W.bo ?_ | refine W.a5 d fun hw d lw kw => ?_ | refine W.a6 d ?_ | refine W.a7 ?_ | refine W.a8 ?_))
 apply W.jb (!(inB (sz1 G p - 1) 0 40 && gwB G p (sz1 G p))) d
 ·refine W.bs l1In_run ?_
  ((try simp only [n1, n2, n3, n4, n5, n6] at d); (with_reducible repeat first | refine W.a1 d ?_ | refine W.a2 ?_ | refine W.a3 ?_ | refine W.bo ?_ | refine W.a5 d fun hw d lw kw => ?_ | refine W.a6 d ?_ | refine W.a7 ?_ | refine W.a8 ?_))
  refine W.ite (fun c => ?_) (fun c => ?_)
  ·have c : inB (sz1 G p - 1) 0 40 = false := by simpa using c
   rw [c]; exact W.lb rfl rfl (KB.refl _ _)
  ·have c : inB (sz1 G p - 1) 0 40 = true := by simpa using c
   rw [c]; exact W.lb rfl (by simp) (KB.refl _ _)
 intro h4 d n4
 ((try simp only [n1, n2, n3, n4, n5, n6] at d); (with_reducible repeat first | refine W.a1 d ?_ | refine W.a2 ?_ | refine W.a3 ?_ | refine W.bo ?_ | refine W.a5 d fun hw d lw kw => ?_ | refine W.a6 d ?_ | refine W.a7 ?_ | refine W.a8 ?_))
 refine W.ite (fun c => ?_) (fun c => ?_)
 ·((try simp only [n1, n2, n3, n4, n5, n6] at d); (with_reducible repeat first | refine W.a1 d ?_ | refine W.a2 ?_ | refine W.a3 ?_ | refine W.bo ?_ | refine W.a5 d fun hw d lw kw => ?_ | refine W.a6 d ?_ | refine W.a7 ?_ | refine W.a8 ?_))
  have d := (d.tl).call (KB.refl NoB _) (fun _ => False) (fun y => TmG base (f + 1) (fun _ => False) y tmZ (termV 0 0 ⟨#[]⟩ none 0)) tmZ_G (fun U y y' k hs x => TmG.kp _ _ _ U y y' _ _ k hs x) (fun _ h => h.elim)
  refine W.ret ⟨tmZ, termV 0 0 ⟨#[]⟩ none 0, _, true, rfl, d, ?_⟩
  cases e1 : gwd G p with
  | none => rfl
  | some n =>
   simp only [Option.bind_some]
   by_cases hn : inB n 0 40 = true
   ·rw [if_pos hn]
    have hn2 : 0 ≤ n ∧ n ≤ 40 := by unfold inB at hn; simpa using hn
    have es : sz1 G p = n + 1 := by
     unfold sz1; rw [e1]; simp only
     rw [if_pos (by unfold inB; simp; omega)]
    rw [es, show n + 1 - 1 = n from by omega, hn, Bool.true_and] at c
    have c : gwB G p (n + 1) = false := by simpa using c
    obtain ⟨i, hi, e⟩ := gws_no ho (by omega) c
    cases i with
    | zero => rw [show p + ((0 : Nat) : Int) = p from by omega, e1] at e; cases e
    | succ i =>
     rw [rdB_none n.toNat (p + 1) i (by omega) (by rw [show p + 1 + (i : Int) = p + ((i + 1 : Nat) : Int) from by omega]; exact e)]
     simp
   ·rw [if_neg hn]; simp
 ·have c : inB (sz1 G p - 1) 0 40 = true ∧ gwB G p (sz1 G p) = true := by simpa using c
  obtain ⟨c1, c2⟩ := c
  have c3 : 0 ≤ sz1 G p - 1 ∧ sz1 G p - 1 ≤ 40 := by unfold inB at c1; simpa using c1
  have hlen := gws_len c2
  have ea := x3 c2
  subst ea
  ((try simp only [n1, n2, n3, n4, n5, n6] at d); (with_reducible repeat first | refine W.a1 d ?_ | refine W.a2 ?_ | refine W.a3 ?_ | refine W.bo ?_ | refine W.a5 d fun hw d lw kw => ?_ | refine W.a6 d ?_ | refine W.a7 ?_ | refine W.a8 ?_); (refine W.nD d fun h5 d _ kh5 => ?_); (with_reducible repeat first | refine W.a1 d ?_ | refine W.a2 ?_ | refine W.a3 ?_ | refine W.bo ?_ | refine W.a5 d fun hw d lw kw => ?_ | refine W.a6 d ?_ | refine W.a7 ?_ | refine W.a8 ?_))
  have d := d.unbox (Del.at (i := 0) rfl)
  simp only [n5, n6] at d
  refine W.wb (l6Bin_loop (base := base) (L := gws G p (sz1 G p)) (A := A) (by omega) (fun y hy => (hA y hy).gnO.sl c2) ((sz1 G p - 1).toNat) 1 h5 [] _ false _ (by omega) (by simp) (fun x hx => by obtain ⟨ad, e, e2⟩ := hx; injection e with e; subst e; exact e2.symm) d) ?_
  rintro ⟨o1, o2, h6⟩ ⟨l', a2, S', z1, z2, z3, z4⟩
  simp only at z1 z2 z4
  subst z1; subst z2
  refine W.ifT rfl ?_
  ((try simp only [n1, n2, n3, n4, n5, n6] at d); (with_reducible repeat first | refine W.a1 d ?_ | refine W.a2 ?_ | refine W.a3 ?_ | refine W.bo ?_ | refine W.a5 d fun hw d lw kw => ?_ | refine W.a6 d ?_ | refine W.a7 ?_ | refine W.a8 ?_))
  have hr : (rawAt h6 a2 l'.length).bind u8s = some l' := raw_iv (Own.sl (z4.rs (i := 1) rfl))
  refine W.bs hr ?_
  have d := z4
  have hl40 : l'.length ≤ 40 := by rw [z3]; simp; omega
  have hsz : (bstr l').size ≤ maxLen := by rw [bstr_size]; exact Nat.le_trans hl40 (by decide)
  ((try simp only [n1, n2, n3, n4, n5, n6] at d); (with_reducible repeat first | refine W.a1 d ?_ | refine W.a2 ?_ | refine W.a3 ?_ | refine W.bo ?_ | refine W.a5 d fun hw d lw kw => ?_ | refine W.a6 d ?_ | refine W.a7 ?_ | refine W.a8 ?_))
  have d := (((d.tl).takeR 1)).call (KB.refl NoB _) (fun _ => False) (fun y => TmG base (f + 1) (fun _ => False) y (.mk 6 0 (bstr l') []) (termV 6 0 (bstr l') none 0)) ⟨hsz, by decide, none, rfl, RowO.nil⟩ (fun U y y' k hs x => TmG.kp _ _ _ U y y' _ _ k hs x) (fun _ h => h.elim)
  refine W.ret ⟨.mk 6 0 (bstr l') [], termV 6 0 (bstr l') none 0, _, _, rfl, d, ?_⟩
  obtain ⟨n, e1⟩ : ∃ n, gwd G p = some n := by
   cases e : gwd G p with
   | some n => exact ⟨n, rfl⟩
   | none => exfalso; unfold sz1 at c3; rw [e] at c3; simp only at c3; omega
  have hn : 0 ≤ n ∧ n ≤ 40 ∧ sz1 G p = n + 1 := by
   unfold sz1 at c3 ⊢
   rw [e1] at c3 ⊢
   simp only at c3 ⊢
   split at c3
   ·rename_i hh
    rw [if_pos hh]
    omega
   ·omega
  rw [e1]
  simp only [Option.bind_some]
  rw [if_pos (by unfold inB; simp; omega)]
  have hw := fun (i : Nat) (hi : i < (gws G p (sz1 G p)).length) => gws_at ho c2 hi
  cases hh : gws G p (sz1 G p) with
  | nil => rw [hh] at hlen; simp at hlen; omega
  | cons x L =>
   rw [hh] at hlen z3
   simp only [List.length_cons, List.drop_succ_cons, List.drop_zero, List.nil_append] at hlen z3
   have hLn : n.toNat = L.length := by omega
   have hd : rdB G L.length (p + 1) = bnL L := rdB_words L (p + 1) fun i hi => by
    have := hw (i + 1) (by rw [hh]; simp; omega)
    rw [show p + 1 + (i : Int) = p + ((i + 1 : Nat) : Int) from by omega, this]
    simp only [hh, List.getElem_cons_succ]
   rw [hLn, hd]
   unfold bnL
   simp only [Bool.false_or, List.drop_succ_cons, List.drop_zero]
   cases ha : L.all (fun x => inB x 0 255) with
   | true =>
    rw [if_pos rfl]
    rw [z3, u8_map ha]
    exact ⟨rfl, rfl⟩
   | false =>
    rw [if_neg (by decide)]
    simp
end Go.Proofs.Ytjmkbglnjklbcaa.Am
set_option linter.unusedSimpArgs false
set_option linter.unusedVariables false
namespace Go.Proofs.Ytjmkbglnjklbcaa.Am
open Go Go.RowKit
def GetS (base : Nat) (oa ya : Option Addr) (G : Gn) (aa : Option Addr) (ats : List ByteArray) (f : Nat) : Prop := ∀ (rb : Nat) (w c : Int) (m : Bool) (S V : Fp) (A : AH → Prop) (h0 h : AH), wOk w → (0 ≤ c ∧ c ≤ 100) → (∀ y, A y → RdA base oa ya G aa ats y) → Hs base V h0 h [(rb, 172, rdV oa ya G aa ats.length (100 - c) false)] [⟨S, m, A⟩] →
 Wp (run (Et base) 141 [.pointer (at0 rb), .int .i64 w, .int .i64 (f : Int)] h) fun o => ∃ t cs' S' c' b', o.1 = .agg cs'.toArray ∧ Hs base V h0 o.2 [(rb, 172, rdV oa ya G aa ats.length (100 - c') b')] [⟨S, m, A⟩, ⟨S', true, fun y => TmG base (f + 1) S' y t cs'⟩] ∧ OutT false (rdT chkT G ats f w c) t c' b'
theorem l6Tuple_loop {base rb tb zb f : Nat} {G : Gn} {oa ya aa a' : Option Addr} {ats : List ByteArray} {p : Int} {L : List Int} {m : Bool} {S V : Fp} {A : AH → Prop} {h0 : AH} (hG : G.Ok) (hL : L.length ≤ 9) (hf : f ≤ 6) (hA : ∀ y, A y → RdA base oa ya G aa ats y) (hS : ∀ y, A y → Sl y a' (iv .i64 L)) (hW : ∀ (i : Nat) (hi : i < L.length), gwd G (p + (i : Int)) = some L[i]) (ih : GetS base oa ya G aa ats f) : ∀ (r : Nat) (h : AH) (l : List Tm) (ao : Option Addr) (c : Int) (b : Bool) (S2 : Fp), l.length + 1 + r = L.length → (b = false → 0 ≤ c ∧ c ≤ 100) → Hs base V h0 h [(rb, 172, rdV oa ya G aa ats.length (100 - c) b), (tb, 39, termV 4 0 ⟨#[]⟩ ao l.length), (zb, 39, termV 0 0 ⟨#[]⟩ none 0)] [⟨S, m, A⟩, rTs base (f + 1) S2 l ao] →
  Wp (loopL (B179_0 base) [some (.pointer (at0 rb)), some (.int .i64 ((f : Int) + 1)), some (.pointer (at0 zb)), some (.slice a' L.length L.length), some (.pointer (at0 tb)), some (.int .i64 ((l.length : Int) + 1))] h) fun o => ∃ l' a2 c' b' S', o.1 = 2 ∧ o.2.1 = [some (.pointer (at0 zb)), some (.pointer (at0 tb))] ∧ l'.length ≤ L.length ∧ Hs base V h0 o.2.2 [(rb, 172, rdV oa ya G aa ats.length (100 - c') b'), (tb, 39, termV 4 0 ⟨#[]⟩ a2 l'.length), (zb, 39, termV 0 0 ⟨#[]⟩ none 0)] [⟨S, m, A⟩, rTs base (f + 1) S' l' a2] ∧ OutL b (rdS G (rdT chkT G ats f) r (p + 1 + l.length) c) l l' c' b' := by
 intro r
 induction r with
 | zero =>
  intro h l ao c b S2 hl hcb d
  suffices w : Wp (B179_0 base [some (.pointer (at0 rb)), some (.int .i64 ((f : Int) + 1)), some (.pointer (at0 zb)), some (.slice a' L.length L.length), some (.pointer (at0 tb)), some (.int .i64 ((l.length : Int) + 1))] h) fun o => o = (2, [some (.pointer (at0 zb)), some (.pointer (at0 tb))], h) by
   obtain ⟨o, e, rfl⟩ := w
   refine ⟨_, loop_off (by decide) e, l, ao, c, b, S2, rfl, rfl, by omega, d, ?_⟩
   unfold OutL
   split
   ·rename_i hb; exact hb
   ·rename_i hb; exact ⟨by simp [rdS], rfl, by simpa using hb⟩
  rw [B179_0_eq]
  refine W.join (W.ifF (by simp; omega) (W.il ?_))
  ((try simp only [n1, n2, n3, n4, n5, n6] at d); (with_reducible repeat first | refine W.a1 d ?_ | refine W.a2 ?_ | refine W.a3 ?_ | refine W.bo ?_ | refine W.a5 d fun hw d lw kw => ?_ | refine W.a6 d ?_ | refine W.a7 ?_ | refine W.a8 ?_))
  exact W.ifF (by decide) (W.ret rfl)
 | succ r ihr =>
  intro h l ao c b S2 hl hcb d
  cases b with
  | true =>
   suffices w : Wp (B179_0 base [some (.pointer (at0 rb)), some (.int .i64 ((f : Int) + 1)), some (.pointer (at0 zb)), some (.slice a' L.length L.length), some (.pointer (at0 tb)), some (.int .i64 ((l.length : Int) + 1))] h) fun o => o = (2, [some (.pointer (at0 zb)), some (.pointer (at0 tb))], h) by
    obtain ⟨o, e, rfl⟩ := w
    exact ⟨_, loop_off (by decide) e, l, ao, c, true, S2, rfl, rfl, by omega, d, rfl⟩
   rw [B179_0_eq]
   refine W.join (W.ifT (decide_eq_true (by omega)) ?_)
   ((try simp only [n1, n2, n3, n4, n5, n6] at d); (with_reducible repeat first | refine W.a1 d ?_ | refine W.a2 ?_ | refine W.a3 ?_ | refine W.bo ?_ | refine W.a5 d fun hw d lw kw => ?_ | refine W.a6 d ?_ | refine W.a7 ?_ | refine W.a8 ?_))
   refine W.il ?_
   ((try simp only [n1, n2, n3, n4, n5, n6] at d); (with_reducible repeat first | refine W.a1 d ?_ | refine W.a2 ?_ | refine W.a3 ?_ | refine W.bo ?_ | refine W.a5 d fun hw d lw kw => ?_ | refine W.a6 d ?_ | refine W.a7 ?_ | refine W.a8 ?_))
   exact W.ifF (by decide) (W.ret rfl)
  | false =>
   have hcc := hcb rfl
   have hlt : l.length + 1 < L.length := by omega
   have ew := hW (l.length + 1) hlt
   rw [show p + ((l.length + 1 : Nat) : Int) = p + 1 + (l.length : Int) from by omega] at ew
   have hwk := (gwd_ok hG ew).1
   suffices w : Wp (B179_0 base [some (.pointer (at0 rb)), some (.int .i64 ((f : Int) + 1)), some (.pointer (at0 zb)), some (.slice a' L.length L.length), some (.pointer (at0 tb)), some (.int .i64 ((l.length : Int) + 1))] h) fun o => ∃ t a2 c' b' S', o.1 = 0 ∧ o.2.1 = [some (.pointer (at0 rb)), some (.int .i64 ((f : Int) + 1)), some (.pointer (at0 zb)), some (.slice a' L.length L.length), some (.pointer (at0 tb)), some (.int .i64 ((l.length : Int) + 1 + 1))] ∧ Hs base V h0 o.2.2 [(rb, 172, rdV oa ya G aa ats.length (100 - c') b'), (tb, 39, termV 4 0 ⟨#[]⟩ a2 (l.length + 1)), (zb, 39, termV 0 0 ⟨#[]⟩ none 0)] [⟨S, m, A⟩, rTs base (f + 1) S' (l ++ [t]) a2] ∧ OutT false (rdT chkT G ats f L[l.length + 1] c) t c' b' by
    obtain ⟨⟨o1, o2, h'⟩, e, t, a2, c', b', S', y1, y2, d', ho⟩ := w
    simp only at y1 y2 d'
    subst y1; subst y2
    have el : (l ++ [t]).length = l.length + 1 := by simp
    have hcb' : b' = false → 0 ≤ c' ∧ c' ≤ 100 := by
     intro eb
     cases e2 : rdT chkT G ats f L[l.length + 1] c with
     | none => simp [OutT, e2] at ho; rw [ho] at eb; cases eb
     | some y =>
      simp only [OutT, e2, Bool.false_eq_true, if_false] at ho
      rw [ho.2.1]
      exact rdT_le f _ c y e2 (hcb rfl).1
    have q := ihr h' (l ++ [t]) a2 c' b' S' (by omega) hcb' (by rw [el]; exact d')
    rw [el] at q
    obtain ⟨o, eo, l2, a3, c2, b2, S3, z1, z2, z3, z4, z5⟩ := q
    refine ⟨o, loop_on e eo, l2, a3, c2, b2, S3, z1, z2, z3, z4, ?_⟩
    simp only [OutT, OutL, rdS, Bool.false_eq_true, if_false] at ho z5 ⊢
    rw [ew]
    simp only [Option.bind_some]
    cases e2 : rdT chkT G ats f L[l.length + 1] c with
    | none =>
     rw [e2] at ho
     simp only [Option.bind_none] at ho ⊢
     rw [if_pos ho] at z5
     exact z5
    | some y =>
     rw [e2] at ho
     simp only [Option.bind_some] at ho ⊢
     obtain ⟨h1, h2, h3⟩ := ho
     subst h1; subst h2; subst h3
     simp only [Bool.false_eq_true, if_false] at z5
     rw [show p + 1 + ((l.length + 1 : Nat) : Int) = p + 1 + (l.length : Int) + 1 from by omega] at z5
     cases e3 : rdS G (rdT chkT G ats f) r (p + 1 + (l.length : Int) + 1) y.2 with
     | none => rw [e3] at z5; simpa using z5
     | some u =>
      rw [e3] at z5
      simp only [Option.bind_some]
      obtain ⟨h4, h5, h6⟩ := z5
      exact ⟨by rw [h4]; simp, h5, h6⟩
   rw [B179_0_eq]
   refine W.join (W.ifT (decide_eq_true (by omega)) ?_)
   ((try simp only [n1, n2, n3, n4, n5, n6] at d); (with_reducible repeat first | refine W.a1 d ?_ | refine W.a2 ?_ | refine W.a3 ?_ | refine W.bo ?_ | refine W.a5 d fun hw d lw kw => ?_ | refine W.a6 d ?_ | refine W.a7 ?_ | refine W.a8 ?_))
   refine W.il ?_
   ((try simp only [n1, n2, n3, n4, n5, n6] at d); (with_reducible repeat first | refine W.a1 d ?_ | refine W.a2 ?_ | refine W.a3 ?_ | refine W.bo ?_ | refine W.a5 d fun hw d lw kw => ?_ | refine W.a6 d ?_ | refine W.a7 ?_ | refine W.a8 ?_))
   refine W.ifT (by decide) ?_
   ((try simp only [n1, n2, n3, n4, n5, n6] at d); (with_reducible repeat first | refine W.a1 d ?_ | refine W.a2 ?_ | refine W.a3 ?_ | refine W.bo ?_ | refine W.a5 d fun hw d lw kw => ?_ | refine W.a6 d ?_ | refine W.a7 ?_ | refine W.a8 ?_))
   obtain ⟨ad, ea, g⟩ := (hS _ (d.rs (i := 0) rfl)).int hlt
   subst ea
   refine W.bs rfl (W.bs (by rw [show Int.toNat ((l.length : Int) + 1) * 1 = l.length + 1 from by omega]; exact g) ?_)
   rw [w64i (n := (f : Int) + 1 - 1) (by omega) (by omega), show (f : Int) + 1 - 1 = (f : Int) from by omega]
   have d1 := Hs.part (D1 := [_]) (R1 := [_]) d
   refine W.wb (ih rb _ c m S _ A _ _ hwk hcc hA d1) ?_
   rintro ⟨u, h2⟩ ⟨t, cs', S', c', b', y1, d2, ho⟩
   simp only at y1 d2
   subst y1
   have d := Hs.back (D1 := [_]) (R1 := [_]) d d2 (imA rfl)
   obtain ⟨k1, k2, k3, k4, k5, rfl⟩ := (d.rs (i := 1) rfl : TmG base (f + 1) S' h2 t _).form
   clear d1 d2
   ((try simp only [n1, n2, n3, n4, n5, n6] at d); (with_reducible repeat first | refine W.a1 d ?_ | refine W.a2 ?_ | refine W.a3 ?_ | refine W.bo ?_ | refine W.a5 d fun hw d lw kw => ?_ | refine W.a6 d ?_ | refine W.a7 ?_ | refine W.a8 ?_); (refine W.nD d fun h4 d _ kh4 => ?_); (with_reducible repeat first | refine W.a1 d ?_ | refine W.a2 ?_ | refine W.a3 ?_ | refine W.bo ?_ | refine W.a5 d fun hw d lw kw => ?_ | refine W.a6 d ?_ | refine W.a7 ?_ | refine W.a8 ?_))
   obtain ⟨a5, h5, S5, e5, d, _, _, _⟩ := d.app1 (i := 2) (j := 1) (bytes := 56) (TmG.kp _ _) rfl rfl (by decide) (.head _) rfl (by decide) rfl (by omega) (by omega)
   refine W.bs e5 ?_
   ((try simp only [n1, n2, n3, n4, n5, n6] at d); (with_reducible repeat first | refine W.a1 d ?_ | refine W.a2 ?_ | refine W.a3 ?_ | refine W.bo ?_ | refine W.a5 d fun hw d lw kw => ?_ | refine W.a6 d ?_ | refine W.a7 ?_ | refine W.a8 ?_))
   have d := ((((d.tl).frontR (Del.at (i := 2) rfl)).frontR (Del.at (i := 1) rfl)).takeR 2)
   rw [w64i (n := (l.length : Int) + 1 + 1) (by omega) (by omega)]
   exact W.ret ⟨t, a5, c', b', S5, rfl, rfl, d, ho⟩
end Go.Proofs.Ytjmkbglnjklbcaa.Am
set_option linter.unusedSimpArgs false
set_option linter.unusedVariables false
namespace Go.Proofs.Ytjmkbglnjklbcaa.Am
open Go Go.RowKit
theorem sz1_iff {G : Gn} {p n k : Int} (e1 : gwd G p = some n) (hk : k ≤ 1000) : inB (sz1 G p - 1) 0 k = inB n 0 k := by
 unfold sz1
 rw [e1]
 simp only
 cases h : inB n 0 1000 with
 | true => rw [if_pos rfl, show n + 1 - 1 = n from by omega]
 | false =>
  rw [if_neg (by decide)]
  unfold inB at *
  have : ¬ (0 ≤ n ∧ n ≤ 1000) := by simpa using h
  have h2 : ¬ (0 ≤ n ∧ n ≤ k) := by omega
  have e2 : (decide (0 ≤ n) && decide (n ≤ k)) = false := by
   simp only [Bool.and_eq_false_iff, decide_eq_false_iff_not]
   omega
  rw [e2]
  simp
theorem rdS_none {G : Gn} {g : Int → Int → Option (Tm × Int)} : ∀ (n : Nat) (p c : Int) (i : Nat), i < n → gwd G (p + (i : Int)) = none → rdS G g n p c = none
 | 0, p, c, i, hi, _ => by omega
 | n + 1, p, c, 0, hi, e => by
  rw [show p + ((0 : Nat) : Int) = p from by omega] at e
  rw [rdS, e]; rfl
 | n + 1, p, c, i + 1, hi, e => by
  rw [rdS]
  rw [show p + ((i + 1 : Nat) : Int) = p + 1 + (i : Int) from by omega] at e
  cases e1 : gwd G p with
  | none => rfl
  | some w =>
   simp only [Option.bind_some]
   cases e2 : g w c with
   | none => rfl
   | some x =>
    simp only [Option.bind_some]
    rw [rdS_none n (p + 1) _ i (by omega) e]
    rfl
def core4 (G : Gn) (ats : List ByteArray) (f : Nat) (p c : Int) : Option (List Tm × Int) := (gwd G p).bind fun n => if inB n 0 8 = true then rdS G (rdT chkT G ats f) n.toNat (p + 1) c else none
theorem l6Tuple_run {base rb f : Nat} {G : Gn} {oa ya aa : Option Addr} {ats : List ByteArray} {p c : Int} {m : Bool} {S V : Fp} {A : AH → Prop} {h0 h : AH} (hG : G.Ok) (ho : G.old.length ≤ 1000) (hp : 0 ≤ p ∧ wOk p) (hf : f ≤ 6) (hc : 0 ≤ c ∧ c ≤ 100) (hA : ∀ y, A y → RdA base oa ya G aa ats y) (ih : GetS base oa ya G aa ats f) (d : Hs base V h0 h [(rb, 172, rdV oa ya G aa ats.length (100 - c) false)] [⟨S, m, A⟩]) :
  Wp (run (Et base) 179 [.pointer (at0 rb), .int .i64 p, .int .i64 ((f : Int) + 1)] h) fun o => ∃ t cs' S' c' b', o.1 = .agg cs'.toArray ∧ Hs base V h0 o.2 [(rb, 172, rdV oa ya G aa ats.length (100 - c') b')] [⟨S, m, A⟩, ⟨S', true, fun y => TmG base (f + 2) S' y t cs'⟩] ∧ (match core4 G ats f p c with
   | some y => t = .mk 4 0 ⟨#[]⟩ y.1 ∧ c' = y.2 ∧ b' = false
   | none => b' = true) := by
 refine W.of (fun r hx => Am.r179 hx) ?_
 ((try simp only [n1, n2, n3, n4, n5, n6] at d); (with_reducible repeat first | refine W.a1 d ?_ | refine W.a2 ?_ | refine W.a3 ?_ | refine W.bo ?_ | refine W.a5 d fun hw d lw kw => ?_ | refine W.a6 d ?_ | refine W.a7 ?_ | refine W.a8 ?_); (refine W.nD d fun h1 d _ kh1 => ?_); (with_reducible repeat first | refine W.a1 d ?_ | refine W.a2 ?_ | refine W.a3 ?_ | refine W.bo ?_ | refine W.a5 d fun hw d lw kw => ?_ | refine W.a6 d ?_ | refine W.a7 ?_ | refine W.a8 ?_))
 refine W.bs specMk_run ?_
 ((try simp only [n1, n2, n3, n4, n5, n6] at d); (with_reducible repeat first | refine W.a1 d ?_ | refine W.a2 ?_ | refine W.a3 ?_ | refine W.bo ?_ | refine W.a5 d fun hw d lw kw => ?_ | refine W.a6 d ?_ | refine W.a7 ?_ | refine W.a8 ?_))
 obtain ⟨h2, e2, k2⟩ := l6Size_run (base := base) (w := mkW 4 p) hG ho (mkW_ok _ _) (hA _ (d.rs (i := 0) rfl)).gnO d.ge
 refine W.bs e2 ?_
 have d := d.kN k2
 rw [szW_mk hG (.inl rfl) hp.1]
 have hz := sz1_le G p
 ((try simp only [n1, n2, n3, n4, n5, n6] at d); (with_reducible repeat first | refine W.a1 d ?_ | refine W.a2 ?_ | refine W.a3 ?_ | refine W.bo ?_ | refine W.a5 d fun hw d lw kw => ?_ | refine W.a6 d ?_ | refine W.a7 ?_ | refine W.a8 ?_))
 rw [w64i (n := sz1 G p - 1) (by omega) (by omega), w64i (n := sz1 G p - 1 + 1) (by omega) (by omega), show sz1 G p - 1 + 1 = sz1 G p from by omega]
 obtain ⟨a', h3, e3, s3, k3, x3⟩ := l6Words_run (base := base) (p := p) (n := sz1 G p) hG hp.2 ⟨by omega, by omega⟩ (hA _ (d.rs (i := 0) rfl)).gnO d.ge
 refine W.bs e3 ?_
 have d := d.kN k3
 ((try simp only [n1, n2, n3, n4, n5, n6] at d); (with_reducible repeat first | refine W.a1 d ?_ | refine W.a2 ?_ | refine W.a3 ?_ | refine W.bo ?_ | refine W.a5 d fun hw d lw kw => ?_ | refine W.a6 d ?_ | refine W.a7 ?_ | refine W.a8 ?_); (refine W.nD d fun h4 d _ kh4 => ?_); (with_reducible repeat first | refine W.a1 d ?_ | refine W.a2 ?_ | refine W.a3 ?_ | refine W.bo ?_ | refine W.a5 d fun hw d lw kw => ?_ | refine W.a6 d ?_ | refine W.a7 ?_ | refine W.a8 ?_))
 have d := d.front (Del.at (i := 2) rfl)
 simp only [n5, n6] at d
 have d : Hs base V h0 hw [(rb, 172, rdV oa ya G aa ats.length (100 - c) false), (h3.length, 39, termV 4 0 ⟨#[]⟩ none 0), (h.length, 39, termV 0 0 ⟨#[]⟩ none 0)] [⟨S, m, A⟩] := d
 apply W.jb (!(inB (sz1 G p - 1) 0 8 && gwB G p (sz1 G p))) d
 ·refine W.bs l1In_run ?_
  ((try simp only [n1, n2, n3, n4, n5, n6] at d); (with_reducible repeat first | refine W.a1 d ?_ | refine W.a2 ?_ | refine W.a3 ?_ | refine W.bo ?_ | refine W.a5 d fun hw d lw kw => ?_ | refine W.a6 d ?_ | refine W.a7 ?_ | refine W.a8 ?_))
  refine W.ite (fun c => ?_) (fun c => ?_)
  ·have c : inB (sz1 G p - 1) 0 8 = false := by simpa using c
   rw [c]; exact W.lb rfl rfl (KB.refl _ _)
  ·have c : inB (sz1 G p - 1) 0 8 = true := by simpa using c
   rw [c]; exact W.lb rfl (by simp) (KB.refl _ _)
 intro h5 d n5'
 ((try simp only [n1, n2, n3, n4, n5, n6] at d); (with_reducible repeat first | refine W.a1 d ?_ | refine W.a2 ?_ | refine W.a3 ?_ | refine W.bo ?_ | refine W.a5 d fun hw d lw kw => ?_ | refine W.a6 d ?_ | refine W.a7 ?_ | refine W.a8 ?_))
 refine W.ite (fun cc => ?_) (fun cc => ?_)
 ·((try simp only [n1, n2, n3, n4, n5, n6] at d); (with_reducible repeat first | refine W.a1 d ?_ | refine W.a2 ?_ | refine W.a3 ?_ | refine W.bo ?_ | refine W.a5 d fun hw d lw kw => ?_ | refine W.a6 d ?_ | refine W.a7 ?_ | refine W.a8 ?_))
  have d := (d.takeD 1).call (KB.refl NoB _) (fun _ => False) (fun y => TmG base (f + 2) (fun _ => False) y (.mk 4 0 ⟨#[]⟩ []) (termV 4 0 ⟨#[]⟩ none 0)) ⟨by decide, by decide, none, rfl, RowO.nil⟩ (fun U y y' k hs x => TmG.kp _ _ _ U y y' _ _ k hs x) (fun _ h => h.elim)
  refine W.ret ⟨.mk 4 0 ⟨#[]⟩ [], termV 4 0 ⟨#[]⟩ none 0, _, c, true, rfl, d, ?_⟩
  unfold core4
  cases e1 : gwd G p with
  | none => simp
  | some n =>
   simp only [Option.bind_some]
   by_cases hn : inB n 0 8 = true
   ·rw [if_pos hn]
    have hn2 : 0 ≤ n ∧ n ≤ 8 := by unfold inB at hn; simpa using hn
    rw [sz1_iff e1 (by omega), hn, Bool.true_and] at cc
    have es : sz1 G p = n + 1 := by
     unfold sz1; rw [e1]; simp only
     rw [if_pos (by unfold inB; simp; omega)]
    rw [es] at cc
    have c : gwB G p (n + 1) = false := by simpa using cc
    obtain ⟨i, hi, e⟩ := gws_no ho (by omega) c
    cases i with
    | zero => rw [show p + ((0 : Nat) : Int) = p from by omega, e1] at e; cases e
    | succ i =>
     rw [rdS_none n.toNat (p + 1) _ i (by omega) (by rw [show p + 1 + (i : Int) = p + ((i + 1 : Nat) : Int) from by omega]; exact e)]
     simp
   ·rw [if_neg hn]; simp
 ·have cc : inB (sz1 G p - 1) 0 8 = true ∧ gwB G p (sz1 G p) = true := by simpa using cc
  obtain ⟨c1, c2⟩ := cc
  have c3 : 0 ≤ sz1 G p - 1 ∧ sz1 G p - 1 ≤ 8 := by unfold inB at c1; simpa using c1
  have hlen := gws_len c2
  have ea := x3 c2
  have dk := d
  subst ea
  have d := dk.call (KB.refl NoB _) (fun _ => False) (fun y => RowO base 39 4 (TmG base (f + 1)) (fun _ => False) y [] none) RowO.nil (fun U y y' k hs x => x.keep (TmG.kp _ _) k hs) (fun _ h => h.elim)
  refine W.wb (l6Tuple_loop (base := base) (p := p) (L := gws G p (sz1 G p)) (A := A) hG (by omega) hf hA (fun y hy => (hA y hy).gnO.sl c2) (fun i hi => gws_at ho c2 hi) ih ((sz1 G p - 1).toNat) h5 [] none c false _ (by simp; omega) (fun _ => hc) d) ?_
  rintro ⟨o1, o2, h6⟩ ⟨l', a2, c', b', S', z1, z2, z3, d, z5⟩
  simp only at z1 z2 d
  subst z1; subst z2
  refine W.ifT rfl ?_
  ((try simp only [n1, n2, n3, n4, n5, n6] at d); (with_reducible repeat first | refine W.a1 d ?_ | refine W.a2 ?_ | refine W.a3 ?_ | refine W.bo ?_ | refine W.a5 d fun hw d lw kw => ?_ | refine W.a6 d ?_ | refine W.a7 ?_ | refine W.a8 ?_))
  have hl9 : l'.length ≤ 9 := by omega
  have row : RowO base 39 4 (TmG base (f + 1)) S' hw l' a2 := d.rs (i := 1) rfl
  have d := (d.takeD 1).re (r := rTs base (f + 1) S' l' a2) (r' := ⟨S', true, fun y => TmG base (f + 2) S' y (.mk 4 0 ⟨#[]⟩ l') (termV 4 0 ⟨#[]⟩ a2 l'.length)⟩) (Upd.at (i := 1) rfl) rfl rfl ⟨by decide, Nat.le_trans hl9 (by decide), a2, rfl, row⟩ (fun U y y' k hs x => TmG.kp _ _ _ U y y' _ _ k hs x) (fun b hb => hb)
  refine W.ret ⟨.mk 4 0 ⟨#[]⟩ l', termV 4 0 ⟨#[]⟩ a2 l'.length, S', c', b', rfl, d, ?_⟩
  obtain ⟨n, e1⟩ : ∃ n, gwd G p = some n := by
   cases e : gwd G p with
   | some n => exact ⟨n, rfl⟩
   | none => exfalso; unfold sz1 at c3; rw [e] at c3; simp only at c3; omega
  have hn8 : inB n 0 8 = true := by rw [← sz1_iff e1 (by omega)]; exact c1
  have hn2 : 0 ≤ n ∧ n ≤ 8 := by unfold inB at hn8; simpa using hn8
  have es : sz1 G p = n + 1 := by
   unfold sz1; rw [e1]; simp only
   rw [if_pos (by unfold inB; simp; omega)]
  unfold core4
  rw [e1]
  simp only [Option.bind_some]
  rw [if_pos hn8]
  unfold OutL at z5
  simp only [Bool.false_eq_true, if_false, List.length_nil, Int.natCast_zero, Int.add_zero] at z5
  rw [show n.toNat = (sz1 G p - 1).toNat from by rw [es]; congr 1; omega]
  cases e2 : rdS G (rdT chkT G ats f) (sz1 G p - 1).toNat (p + 1) c with
  | none => rw [e2] at z5; exact z5
  | some y =>
   rw [e2] at z5
   obtain ⟨i1, i2, i3⟩ := z5
   exact ⟨by rw [i1]; rfl, i2, i3⟩
end Go.Proofs.Ytjmkbglnjklbcaa.Am
set_option linter.unusedSimpArgs false
set_option linter.unusedVariables false
namespace Go.Proofs.Ytjmkbglnjklbcaa.Am
open Go Go.RowKit
theorem gws_two {G : Gn} (ho : G.old.length ≤ 1000) {p : Int} (h : gwB G p 2 = true) : ∃ x y, gws G p 2 = [x, y] ∧ gwd G p = some x ∧ gwd G (p + 1) = some y := by
 have hl := gws_len h
 have ha := fun (i : Nat) (hi : i < (gws G p 2).length) => gws_at ho h hi
 cases e : gws G p 2 with
 | nil => rw [e] at hl; simp at hl
 | cons x r =>
  cases r with
  | nil => rw [e] at hl; simp at hl
  | cons y r =>
   cases r with
   | cons z r => rw [e] at hl; simp at hl; omega
   | nil =>
    refine ⟨x, y, rfl, ?_, ?_⟩
    ·have := ha 0 (by rw [e]; simp)
     rw [show p + ((0 : Nat) : Int) = p from by omega] at this
     rw [this]; simp [e]
    ·have := ha 1 (by rw [e]; simp)
     rw [show p + ((1 : Nat) : Int) = p + 1 from by omega] at this
     rw [this]; simp [e]
theorem rdL_bad {G : Gn} (ho : G.old.length ≤ 1000) {g : Int → Int → Option (Tm × Int)} {n : Nat} {w c : Int} (h3 : w ≠ 3) (h : gwB G (valW w) 2 = false ∨ w < 0 ∨ tagW w ≠ 5 ∨ n = 0) : rdL G g n w c = none := by
 cases n with
 | zero => rw [rdL_0, if_neg h3]
 | succ n =>
  rw [rdL_s, if_neg h3]
  by_cases h2 : w < 0 ∨ tagW w ≠ 5
  ·rw [if_pos h2]
  ·rw [if_neg h2]
   have h : gwB G (valW w) 2 = false := by
    rcases h with h | h | h | h
    ·exact h
    ·exact absurd (.inl h) h2
    ·exact absurd (.inr h) h2
    ·omega
   obtain ⟨i, hi, e⟩ := gws_no ho (by omega) h
   cases e1 : gwd G (valW w) with
   | none => rfl
   | some x =>
    simp only [Option.bind_some]
    cases e2 : g x c with
    | none => rfl
    | some t =>
     simp only [Option.bind_some]
     cases i with
     | zero => rw [show valW w + ((0 : Nat) : Int) = valW w from by omega, e1] at e; cases e
     | succ i =>
      have : i = 0 := by omega
      subst this
      rw [show valW w + ((0 + 1 : Nat) : Int) = valW w + 1 from by omega] at e
      rw [e]; rfl
abbrev rdD (base : Nat) (V : Fp) (h0 h : AH) (rb tb zb : Nat) (oa ya : Option Addr) (G : Gn) (aa : Option Addr) (n : Nat) (c : Int) (b : Bool) (tv zv : List Value) (R : List Rs) : Prop := Hs base V h0 h [(rb, 172, rdV oa ya G aa n (100 - c) b), (tb, 39, tv), (zb, 39, zv)] R
def ConsP (base rb tb zb f : Nat) (oa ya : Option Addr) (G : Gn) (aa : Option Addr) (ats : List ByteArray) (m : Bool) (S V : Fp) (A : AH → Prop) (h0 : AH) (b : Bool) (X : Option (List Tm × Int)) (l : List Tm) (o : Nat × Slots × AH) : Prop :=
 ∃ l' a2 c' b' S', l'.length ≤ 20 ∧ ((o.1 = 2 ∧ o.2.1 = [some (.pointer (at0 zb)), some (.pointer (at0 tb))] ∧ rdD base V h0 o.2.2 rb tb zb oa ya G aa ats.length c' b' (termV 5 0 ⟨#[]⟩ a2 l'.length) (termV 0 0 ⟨#[]⟩ none 0) [⟨S, m, A⟩, rTs base (f + 1) S' l' a2]) ∨
  (o.1 = 1 ∧ o.2.1 = [some (.pointer (at0 zb))] ∧ rdD base V h0 o.2.2 rb tb zb oa ya G aa ats.length c' b' (termV 5 0 ⟨#[]⟩ a2 l'.length) (termV 5 0 ⟨#[]⟩ a2 l'.length) [⟨S, m, A⟩, rTs base (f + 1) S' l' a2])) ∧ OutL b X l l' c' b'
theorem l6Cons_loop {base rb tb zb f : Nat} {G : Gn} {oa ya aa : Option Addr} {ats : List ByteArray} {m : Bool} {S V : Fp} {A : AH → Prop} {h0 : AH} (hG : G.Ok) (ho : G.old.length ≤ 1000) (hf : f ≤ 6) (hA : ∀ y, A y → RdA base oa ya G aa ats y) (ih : GetS base oa ya G aa ats f) : ∀ (r : Nat) (h : AH) (w : Int) (l : List Tm) (ao : Option Addr) (c : Int) (b : Bool) (S2 : Fp), wOk w → l.length + r = 20 → (b = false → 0 ≤ c ∧ c ≤ 100) → rdD base V h0 h rb tb zb oa ya G aa ats.length c b (termV 5 0 ⟨#[]⟩ ao l.length) (termV 0 0 ⟨#[]⟩ none 0) [⟨S, m, A⟩, rTs base (f + 1) S2 l ao] →
  Wp (loopL (B178_0 base) [some (.pointer (at0 rb)), some (.int .i64 w), some (.int .i64 ((f : Int) + 1)), some (.pointer (at0 zb)), some (.pointer (at0 tb))] h) (ConsP base rb tb zb f oa ya G aa ats m S V A h0 b (rdL G (rdT chkT G ats f) r w c) l) := by
 intro r
 have stop : ∀ (h : AH) (w : Int) (l : List Tm) (ao : Option Addr) (c : Int) (b : Bool) (S2 : Fp) (X : Option (List Tm × Int)), l.length ≤ 20 → rdD base V h0 h rb tb zb oa ya G aa ats.length c b (termV 5 0 ⟨#[]⟩ ao l.length) (termV 0 0 ⟨#[]⟩ none 0) [⟨S, m, A⟩, rTs base (f + 1) S2 l ao] → (w = 3 ∨ b = true) → OutL b X l l c b → Wp (loopL (B178_0 base) [some (.pointer (at0 rb)), some (.int .i64 w), some (.int .i64 ((f : Int) + 1)), some (.pointer (at0 zb)), some (.pointer (at0 tb))] h) (ConsP base rb tb zb f oa ya G aa ats m S V A h0 b X l) := by
  intro h w l ao c b S2 X hl d hc hx
  suffices w1 : Wp (B178_0 base [some (.pointer (at0 rb)), some (.int .i64 w), some (.int .i64 ((f : Int) + 1)), some (.pointer (at0 zb)), some (.pointer (at0 tb))] h) fun o => o = (2, [some (.pointer (at0 zb)), some (.pointer (at0 tb))], h) by
   obtain ⟨o, e, rfl⟩ := w1
   exact ⟨_, loop_off (by decide) e, l, ao, c, b, S2, hl, .inl ⟨rfl, rfl, d⟩, hx⟩
  rw [B178_0_eq]
  refine W.joinP (fun q => q = ([some (.pointer (at0 rb)), some (.int .i64 w), some (.int .i64 ((f : Int) + 1)), some (.pointer (at0 zb)), some (.pointer (at0 tb)), some (.bool false)], h)) ?_ fun q hq => ?_
  ·((try simp only [n1, n2, n3, n4, n5, n6] at d); (with_reducible repeat first | refine W.a1 d ?_ | refine W.a2 ?_ | refine W.a3 ?_ | refine W.bo ?_ | refine W.a5 d fun hw d lw kw => ?_ | refine W.a6 d ?_ | refine W.a7 ?_ | refine W.a8 ?_))
   refine W.ite (fun c1 => ?_) (fun c1 => ?_)
   ·have c1 : b = false := by simpa using c1
    refine W.bs specMk_run ?_
    ((try simp only [n1, n2, n3, n4, n5, n6] at d); (with_reducible repeat first | refine W.a1 d ?_ | refine W.a2 ?_ | refine W.a3 ?_ | refine W.bo ?_ | refine W.a5 d fun hw d lw kw => ?_ | refine W.a6 d ?_ | refine W.a7 ?_ | refine W.a8 ?_))
    refine W.inl ?_
    have : w = 3 := hc.resolve_right (by rw [c1]; decide)
    rw [this, show mkW 3 0 = 3 from rfl]; rfl
   ·exact W.inl rfl
  subst hq
  ((try simp only [n1, n2, n3, n4, n5, n6] at d); (with_reducible repeat first | refine W.a1 d ?_ | refine W.a2 ?_ | refine W.a3 ?_ | refine W.bo ?_ | refine W.a5 d fun hw d lw kw => ?_ | refine W.a6 d ?_ | refine W.a7 ?_ | refine W.a8 ?_))
  exact W.ifF (by decide) (W.ret rfl)
 have badE : ∀ (h : AH) (w : Int) (l : List Tm) (ao : Option Addr) (c : Int) (S2 : Fp) (X : Option (List Tm × Int)), wOk w → l.length ≤ 20 → rdD base V h0 h rb tb zb oa ya G aa ats.length c false (termV 5 0 ⟨#[]⟩ ao l.length) (termV 0 0 ⟨#[]⟩ none 0) [⟨S, m, A⟩, rTs base (f + 1) S2 l ao] → w ≠ 3 → (gwB G (valW w) 2 = false ∨ w < 0 ∨ tagW w ≠ 5 ∨ l.length = 20) → X = none → Wp (loopL (B178_0 base) [some (.pointer (at0 rb)), some (.int .i64 w), some (.int .i64 ((f : Int) + 1)), some (.pointer (at0 zb)), some (.pointer (at0 tb))] h) (ConsP base rb tb zb f oa ya G aa ats m S V A h0 false X l) := by
  intro h w l ao c S2 X hw hl d h3 hbad hX
  suffices w1 : Wp (B178_0 base [some (.pointer (at0 rb)), some (.int .i64 w), some (.int .i64 ((f : Int) + 1)), some (.pointer (at0 zb)), some (.pointer (at0 tb))] h) fun o => o.1 = 1 ∧ o.2.1 = [some (.pointer (at0 zb))] ∧ rdD base V h0 o.2.2 rb tb zb oa ya G aa ats.length c true (termV 5 0 ⟨#[]⟩ ao l.length) (termV 5 0 ⟨#[]⟩ ao l.length) [⟨S, m, A⟩, rTs base (f + 1) S2 l ao] by
   obtain ⟨⟨o1, o2, o3⟩, e, y1, y2, y3⟩ := w1
   simp only at y1 y2 y3
   subst y1; subst y2
   exact ⟨_, loop_off (by decide) e, l, ao, c, true, S2, hl, .inr ⟨rfl, rfl, y3⟩, by rw [hX]; rfl⟩
  rw [B178_0_eq]
  refine W.joinP (fun q => q = ([some (.pointer (at0 rb)), some (.int .i64 w), some (.int .i64 ((f : Int) + 1)), some (.pointer (at0 zb)), some (.pointer (at0 tb)), some (.bool true)], h)) ?_ fun q hq => ?_
  ·((try simp only [n1, n2, n3, n4, n5, n6] at d); (with_reducible repeat first | refine W.a1 d ?_ | refine W.a2 ?_ | refine W.a3 ?_ | refine W.bo ?_ | refine W.a5 d fun hw d lw kw => ?_ | refine W.a6 d ?_ | refine W.a7 ?_ | refine W.a8 ?_))
   refine W.ifT (by decide) ?_
   refine W.bs specMk_run ?_
   ((try simp only [n1, n2, n3, n4, n5, n6] at d); (with_reducible repeat first | refine W.a1 d ?_ | refine W.a2 ?_ | refine W.a3 ?_ | refine W.bo ?_ | refine W.a5 d fun hw d lw kw => ?_ | refine W.a6 d ?_ | refine W.a7 ?_ | refine W.a8 ?_))
   refine W.inl ?_
   rw [show mkW 3 0 = 3 from rfl]
   have : (w != 3) = true := by simpa using h3
   rw [this]
  subst hq
  ((try simp only [n1, n2, n3, n4, n5, n6] at d); (with_reducible repeat first | refine W.a1 d ?_ | refine W.a2 ?_ | refine W.a3 ?_ | refine W.bo ?_ | refine W.a5 d fun hw d lw kw => ?_ | refine W.a6 d ?_ | refine W.a7 ?_ | refine W.a8 ?_))
  refine W.ifT rfl ?_
  ((try simp only [n1, n2, n3, n4, n5, n6] at d); (with_reducible repeat first | refine W.a1 d ?_ | refine W.a2 ?_ | refine W.a3 ?_ | refine W.bo ?_ | refine W.a5 d fun hw d lw kw => ?_ | refine W.a6 d ?_ | refine W.a7 ?_ | refine W.a8 ?_))
  refine W.bs (specVal_run hw.2) ?_
  ((try simp only [n1, n2, n3, n4, n5, n6] at d); (with_reducible repeat first | refine W.a1 d ?_ | refine W.a2 ?_ | refine W.a3 ?_ | refine W.bo ?_ | refine W.a5 d fun hw d lw kw => ?_ | refine W.a6 d ?_ | refine W.a7 ?_ | refine W.a8 ?_))
  obtain ⟨a', h2, e2, s2, k2, x2⟩ := l6Words_run (base := base) (p := valW w) (n := 2) hG (valW_ok hw) ⟨by omega, by omega⟩ (hA _ (d.rs (i := 0) rfl)).gnO d.ge
  refine W.bs e2 ?_
  have d : rdD base V h0 h2 rb tb zb oa ya G aa ats.length c false (termV 5 0 ⟨#[]⟩ ao l.length) (termV 0 0 ⟨#[]⟩ none 0) [⟨S, m, A⟩, rTs base (f + 1) S2 l ao] := d.kN k2
  ((try simp only [n1, n2, n3, n4, n5, n6] at d); (with_reducible repeat first | refine W.a1 d ?_ | refine W.a2 ?_ | refine W.a3 ?_ | refine W.bo ?_ | refine W.a5 d fun hw d lw kw => ?_ | refine W.a6 d ?_ | refine W.a7 ?_ | refine W.a8 ?_))
  apply W.jb true d
  ·refine W.ite (fun c1 => W.lb rfl rfl (KB.refl _ _)) (fun c1 => ?_)
   refine W.ite (fun c2 => W.lb rfl rfl (KB.refl _ _)) (fun c2 => ?_)
   refine W.bs specTag_run ?_
   ((try simp only [n1, n2, n3, n4, n5, n6] at d); (with_reducible repeat first | refine W.a1 d ?_ | refine W.a2 ?_ | refine W.a3 ?_ | refine W.bo ?_ | refine W.a5 d fun hw d lw kw => ?_ | refine W.a6 d ?_ | refine W.a7 ?_ | refine W.a8 ?_))
   refine W.ite (fun c3 => W.lb rfl rfl (KB.refl _ _)) (fun c3 => ?_)
   ((try simp only [n1, n2, n3, n4, n5, n6] at d); (with_reducible repeat first | refine W.a1 d ?_ | refine W.a2 ?_ | refine W.a3 ?_ | refine W.bo ?_ | refine W.a5 d fun hw d lw kw => ?_ | refine W.a6 d ?_ | refine W.a7 ?_ | refine W.a8 ?_))
   refine W.lb rfl ?_ (KB.refl _ _)
   have c1 : gwB G (valW w) 2 = true := by simpa using c1
   have c2 : ¬ w < 0 := by simpa using c2
   have c3 : tagW w = 5 := by simpa using c3
   have hl20 : l.length = 20 := by
    rcases hbad with h | h | h | h
    ·rw [c1] at h; cases h
    ·exact absurd h c2
    ·exact absurd c3 h
    ·exact h
   rw [hl20]; rfl
  intro h3' d n3
  ((try simp only [n1, n2, n3, n4, n5, n6] at d); (with_reducible repeat first | refine W.a1 d ?_ | refine W.a2 ?_ | refine W.a3 ?_ | refine W.bo ?_ | refine W.a5 d fun hw d lw kw => ?_ | refine W.a6 d ?_ | refine W.a7 ?_ | refine W.a8 ?_))
  refine W.ifT rfl ?_
  ((try simp only [n1, n2, n3, n4, n5, n6] at d); (with_reducible repeat first | refine W.a1 d ?_ | refine W.a2 ?_ | refine W.a3 ?_ | refine W.bo ?_ | refine W.a5 d fun hw d lw kw => ?_ | refine W.a6 d ?_ | refine W.a7 ?_ | refine W.a8 ?_))
  exact W.ret ⟨rfl, rfl, d⟩
 induction r with
 | zero =>
  intro h w l ao c b S2 hw hl hcb d
  by_cases hs : w = 3 ∨ b = true
  ·refine stop h w l ao c b S2 _ (by omega) d hs ?_
   unfold OutL
   cases b with
   | true => rfl
   | false =>
    have : w = 3 := hs.resolve_right (by decide)
    rw [rdL_0, if_pos this]
    exact ⟨by simp, rfl, rfl⟩
  ·have h3 : w ≠ 3 := fun h => hs (.inl h)
   have hb : b = false := by
    cases b with
    | true => exact absurd (.inr rfl) hs
    | false => rfl
   subst hb
   exact badE h w l ao c S2 _ hw (by omega) d h3 (.inr (.inr (.inr (by omega)))) (by rw [rdL_0, if_neg h3])
 | succ r ihr =>
  intro h w l ao c b S2 hw hl hcb d
  by_cases hs : w = 3 ∨ b = true
  ·refine stop h w l ao c b S2 _ (by omega) d hs ?_
   unfold OutL
   cases b with
   | true => rfl
   | false =>
    have : w = 3 := hs.resolve_right (by decide)
    rw [rdL_s, if_pos this]
    exact ⟨by simp, rfl, rfl⟩
  have h3 : w ≠ 3 := fun h => hs (.inl h)
  have hb : b = false := by
   cases b with
   | true => exact absurd (.inr rfl) hs
   | false => rfl
  subst hb
  have hcc := hcb rfl
  by_cases hbad : gwB G (valW w) 2 = false ∨ w < 0 ∨ tagW w ≠ 5
  ·exact badE h w l ao c S2 _ hw (by omega) d h3 (by rcases hbad with h | h | h <;> simp [h]) (rdL_bad ho h3 (by rcases hbad with h | h | h <;> simp [h]))
  have g1 : gwB G (valW w) 2 = true := by
   cases e : gwB G (valW w) 2 with
   | true => rfl
   | false => exact absurd (.inl e) hbad
  have g2 : ¬ w < 0 := fun h => hbad (.inr (.inl h))
  have g3 : tagW w = 5 := Classical.byContradiction fun h => hbad (.inr (.inr h))
  obtain ⟨x, w', ew, ex, ew'⟩ := gws_two ho g1
  have hxk := (gwd_ok hG ex).1
  have hwk := (gwd_ok hG ew').1
  suffices w1 : Wp (B178_0 base [some (.pointer (at0 rb)), some (.int .i64 w), some (.int .i64 ((f : Int) + 1)), some (.pointer (at0 zb)), some (.pointer (at0 tb))] h) fun o => ∃ t a2 c' b' S', o.1 = 0 ∧ o.2.1 = [some (.pointer (at0 rb)), some (.int .i64 w'), some (.int .i64 ((f : Int) + 1)), some (.pointer (at0 zb)), some (.pointer (at0 tb))] ∧ rdD base V h0 o.2.2 rb tb zb oa ya G aa ats.length c' b' (termV 5 0 ⟨#[]⟩ a2 (l.length + 1)) (termV 0 0 ⟨#[]⟩ none 0) [⟨S, m, A⟩, rTs base (f + 1) S' (l ++ [t]) a2] ∧ OutT false (rdT chkT G ats f x c) t c' b' by
   obtain ⟨⟨o1, o2, h'⟩, e, t, a2, c', b', S', y1, y2, d', hx⟩ := w1
   simp only at y1 y2 d'
   subst y1; subst y2
   have el : (l ++ [t]).length = l.length + 1 := by simp
   have hcb' : b' = false → 0 ≤ c' ∧ c' ≤ 100 := by
    intro eb
    cases e2 : rdT chkT G ats f x c with
    | none => simp [OutT, e2] at hx; rw [hx] at eb; cases eb
    | some y =>
     simp only [OutT, e2, Bool.false_eq_true, if_false] at hx
     rw [hx.2.1]
     exact rdT_le f _ c y e2 hcc.1
   obtain ⟨o, eo, l2, a3, c2, b2, S3, z1, z2, z3⟩ := ihr h' w' (l ++ [t]) a2 c' b' S' hwk (by omega) hcb' (by rw [el]; exact d')
   refine ⟨o, loop_on e eo, l2, a3, c2, b2, S3, z1, z2, ?_⟩
   rw [rdL_s, if_neg h3, if_neg (by simp [g2, g3]), ex]
   simp only [OutT, OutL, Bool.false_eq_true, if_false, Option.bind_some] at hx z3 ⊢
   cases e2 : rdT chkT G ats f x c with
   | none =>
    rw [e2] at hx
    simp only [Option.bind_none] at hx ⊢
    rw [if_pos hx] at z3
    exact z3
   | some y =>
    rw [e2] at hx
    simp only [Option.bind_some] at hx ⊢
    obtain ⟨i1, i2, i3⟩ := hx
    subst i1; subst i2; subst i3
    rw [ew']
    simp only [Bool.false_eq_true, if_false, Option.bind_some] at z3 ⊢
    cases e4 : rdL G (rdT chkT G ats f) r w' y.2 with
    | none => rw [e4] at z3; simpa using z3
    | some u =>
     rw [e4] at z3
     simp only [Option.bind_some]
     obtain ⟨i5, i6, i7⟩ := z3
     exact ⟨by rw [i5]; simp, i6, i7⟩
  rw [B178_0_eq]
  refine W.joinP (fun q => q = ([some (.pointer (at0 rb)), some (.int .i64 w), some (.int .i64 ((f : Int) + 1)), some (.pointer (at0 zb)), some (.pointer (at0 tb)), some (.bool true)], h)) ?_ fun q hq => ?_
  ·((try simp only [n1, n2, n3, n4, n5, n6] at d); (with_reducible repeat first | refine W.a1 d ?_ | refine W.a2 ?_ | refine W.a3 ?_ | refine W.bo ?_ | refine W.a5 d fun hw d lw kw => ?_ | refine W.a6 d ?_ | refine W.a7 ?_ | refine W.a8 ?_))
   refine W.ifT (by decide) ?_
   refine W.bs specMk_run ?_
   ((try simp only [n1, n2, n3, n4, n5, n6] at d); (with_reducible repeat first | refine W.a1 d ?_ | refine W.a2 ?_ | refine W.a3 ?_ | refine W.bo ?_ | refine W.a5 d fun hw d lw kw => ?_ | refine W.a6 d ?_ | refine W.a7 ?_ | refine W.a8 ?_))
   refine W.inl ?_
   rw [show mkW 3 0 = 3 from rfl]
   have : (w != 3) = true := by simpa using h3
   rw [this]
  subst hq
  ((try simp only [n1, n2, n3, n4, n5, n6] at d); (with_reducible repeat first | refine W.a1 d ?_ | refine W.a2 ?_ | refine W.a3 ?_ | refine W.bo ?_ | refine W.a5 d fun hw d lw kw => ?_ | refine W.a6 d ?_ | refine W.a7 ?_ | refine W.a8 ?_))
  refine W.ifT rfl ?_
  ((try simp only [n1, n2, n3, n4, n5, n6] at d); (with_reducible repeat first | refine W.a1 d ?_ | refine W.a2 ?_ | refine W.a3 ?_ | refine W.bo ?_ | refine W.a5 d fun hw d lw kw => ?_ | refine W.a6 d ?_ | refine W.a7 ?_ | refine W.a8 ?_))
  refine W.bs (specVal_run hw.2) ?_
  ((try simp only [n1, n2, n3, n4, n5, n6] at d); (with_reducible repeat first | refine W.a1 d ?_ | refine W.a2 ?_ | refine W.a3 ?_ | refine W.bo ?_ | refine W.a5 d fun hw d lw kw => ?_ | refine W.a6 d ?_ | refine W.a7 ?_ | refine W.a8 ?_))
  obtain ⟨a', h2, e2, s2, k2, x2⟩ := l6Words_run (base := base) (p := valW w) (n := 2) hG (valW_ok hw) ⟨by omega, by omega⟩ (hA _ (d.rs (i := 0) rfl)).gnO d.ge
  refine W.bs e2 ?_
  have ea := x2 g1
  have sA : ∀ y, A y → Sl y a' (iv .i64 (gws G (valW w) 2)) := fun y hy => by rw [ea]; exact (hA y hy).gnO.sl g1
  rw [ew] at sA ⊢
  rw [g1]
  have d : rdD base V h0 h2 rb tb zb oa ya G aa ats.length c false (termV 5 0 ⟨#[]⟩ ao l.length) (termV 0 0 ⟨#[]⟩ none 0) [⟨S, m, A⟩, rTs base (f + 1) S2 l ao] := d.kN k2
  ((try simp only [n1, n2, n3, n4, n5, n6] at d); (with_reducible repeat first | refine W.a1 d ?_ | refine W.a2 ?_ | refine W.a3 ?_ | refine W.bo ?_ | refine W.a5 d fun hw d lw kw => ?_ | refine W.a6 d ?_ | refine W.a7 ?_ | refine W.a8 ?_))
  apply W.jb false d
  ·refine W.ifF (by decide) (W.ifF (by simpa using g2) ?_)
   refine W.bs specTag_run ?_
   ((try simp only [n1, n2, n3, n4, n5, n6] at d); (with_reducible repeat first | refine W.a1 d ?_ | refine W.a2 ?_ | refine W.a3 ?_ | refine W.bo ?_ | refine W.a5 d fun hw d lw kw => ?_ | refine W.a6 d ?_ | refine W.a7 ?_ | refine W.a8 ?_))
   refine W.ifF (by simp [g3]) ?_
   ((try simp only [n1, n2, n3, n4, n5, n6] at d); (with_reducible repeat first | refine W.a1 d ?_ | refine W.a2 ?_ | refine W.a3 ?_ | refine W.bo ?_ | refine W.a5 d fun hw d lw kw => ?_ | refine W.a6 d ?_ | refine W.a7 ?_ | refine W.a8 ?_))
   refine W.lb rfl ?_ (KB.refl _ _)
   have : ¬ ((l.length : Int) = 20) := by omega
   simp [this]
  intro h3' d n3
  ((try simp only [n1, n2, n3, n4, n5, n6] at d); (with_reducible repeat first | refine W.a1 d ?_ | refine W.a2 ?_ | refine W.a3 ?_ | refine W.bo ?_ | refine W.a5 d fun hw d lw kw => ?_ | refine W.a6 d ?_ | refine W.a7 ?_ | refine W.a8 ?_))
  refine W.ifF (by decide) ?_
  ((try simp only [n1, n2, n3, n4, n5, n6] at d); (with_reducible repeat first | refine W.a1 d ?_ | refine W.a2 ?_ | refine W.a3 ?_ | refine W.bo ?_ | refine W.a5 d fun hw d lw kw => ?_ | refine W.a6 d ?_ | refine W.a7 ?_ | refine W.a8 ?_))
  obtain ⟨ad, ea1, g⟩ := (sA _ (d.rs (i := 0) rfl)).int (i := 0) (by simp)
  subst ea1
  refine W.bs rfl (W.bs g ?_)
  rw [w64i (n := (f : Int) + 1 - 1) (by omega) (by omega), show (f : Int) + 1 - 1 = (f : Int) from by omega]
  have d1 := Hs.part (D1 := [_]) (R1 := [_]) d
  refine W.wb (ih rb _ c m S _ A _ _ hxk hcc hA d1) ?_
  rintro ⟨u, h4⟩ ⟨t, cs', S', c', b', y1, d2, hx⟩
  simp only at y1 d2
  subst y1
  have d := Hs.back (D1 := [_]) (R1 := [_]) d d2 (imA rfl)
  obtain ⟨k1, k2, k3, k4, k5, rfl⟩ := (d.rs (i := 1) rfl : TmG base (f + 1) S' h4 t _).form
  clear d1 d2
  ((try simp only [n1, n2, n3, n4, n5, n6] at d); (with_reducible repeat first | refine W.a1 d ?_ | refine W.a2 ?_ | refine W.a3 ?_ | refine W.bo ?_ | refine W.a5 d fun hw d lw kw => ?_ | refine W.a6 d ?_ | refine W.a7 ?_ | refine W.a8 ?_); (refine W.nD d fun h6 d _ kh6 => ?_); (with_reducible repeat first | refine W.a1 d ?_ | refine W.a2 ?_ | refine W.a3 ?_ | refine W.bo ?_ | refine W.a5 d fun hw d lw kw => ?_ | refine W.a6 d ?_ | refine W.a7 ?_ | refine W.a8 ?_))
  obtain ⟨a5, h5, S5, e5, d, _, _, _⟩ := d.app1 (i := 2) (j := 1) (bytes := 56) (TmG.kp _ _) rfl rfl (by decide) (.head _) rfl (by decide) rfl (by omega) (by omega)
  refine W.bs e5 ?_
  ((try simp only [n1, n2, n3, n4, n5, n6] at d); (with_reducible repeat first | refine W.a1 d ?_ | refine W.a2 ?_ | refine W.a3 ?_ | refine W.bo ?_ | refine W.a5 d fun hw d lw kw => ?_ | refine W.a6 d ?_ | refine W.a7 ?_ | refine W.a8 ?_))
  have d := ((((d.tl).frontR (Del.at (i := 2) rfl)).frontR (Del.at (i := 1) rfl)).takeR 2)
  obtain ⟨ad2, ea2, g'⟩ := (sA _ (d.rs (i := 0) rfl)).int (i := 1) (by simp)
  injection ea2 with ea2
  subst ea2
  refine W.bs g' ?_
  exact W.ret ⟨t, a5, c', b', S5, rfl, rfl, d, hx⟩
end Go.Proofs.Ytjmkbglnjklbcaa.Am
set_option linter.unusedSimpArgs false
set_option linter.unusedVariables false
namespace Go.Proofs.Ytjmkbglnjklbcaa.Am
open Go Go.RowKit
theorem l6Cons_run {base rb f : Nat} {G : Gn} {oa ya aa : Option Addr} {ats : List ByteArray} {w c : Int} {m : Bool} {S V : Fp} {A : AH → Prop} {h0 h : AH} (hG : G.Ok) (ho : G.old.length ≤ 1000) (hwk : wOk w) (hf : f ≤ 6) (hc : 0 ≤ c ∧ c ≤ 100) (hA : ∀ y, A y → RdA base oa ya G aa ats y) (ih : GetS base oa ya G aa ats f) (d : Hs base V h0 h [(rb, 172, rdV oa ya G aa ats.length (100 - c) false)] [⟨S, m, A⟩]) :
  Wp (run (Et base) 178 [.pointer (at0 rb), .int .i64 w, .int .i64 ((f : Int) + 1)] h) fun o => ∃ t cs' S' c' b', o.1 = .agg cs'.toArray ∧ Hs base V h0 o.2 [(rb, 172, rdV oa ya G aa ats.length (100 - c') b')] [⟨S, m, A⟩, ⟨S', true, fun y => TmG base (f + 2) S' y t cs'⟩] ∧ (match rdL G (rdT chkT G ats f) 20 w c with
   | some y => t = .mk 5 0 ⟨#[]⟩ y.1 ∧ c' = y.2 ∧ b' = false
   | none => b' = true) := by
 refine W.of (fun r hx => Am.r178 hx) ?_
 ((try simp only [n1, n2, n3, n4, n5, n6] at d); (with_reducible repeat first | refine W.a1 d ?_ | refine W.a2 ?_ | refine W.a3 ?_ | refine W.bo ?_ | refine W.a5 d fun hw d lw kw => ?_ | refine W.a6 d ?_ | refine W.a7 ?_ | refine W.a8 ?_); (refine W.nD d fun h1 d _ kh1 => ?_); (with_reducible repeat first | refine W.a1 d ?_ | refine W.a2 ?_ | refine W.a3 ?_ | refine W.bo ?_ | refine W.a5 d fun hw d lw kw => ?_ | refine W.a6 d ?_ | refine W.a7 ?_ | refine W.a8 ?_); (refine W.nD d fun h2 d _ kh2 => ?_); (with_reducible repeat first | refine W.a1 d ?_ | refine W.a2 ?_ | refine W.a3 ?_ | refine W.bo ?_ | refine W.a5 d fun hw d lw kw => ?_ | refine W.a6 d ?_ | refine W.a7 ?_ | refine W.a8 ?_))
 have d := d.front (Del.at (i := 2) rfl)
 simp only [n5, n6] at d
 have d : Hs base V h0 hw [(rb, 172, rdV oa ya G aa ats.length (100 - c) false), (h1.length, 39, termV 5 0 ⟨#[]⟩ none 0), (h.length, 39, termV 0 0 ⟨#[]⟩ none 0)] [⟨S, m, A⟩] := d
 have d := d.call (KB.refl NoB _) (fun _ => False) (fun y => RowO base 39 4 (TmG base (f + 1)) (fun _ => False) y [] none) RowO.nil (fun U y y' k hs x => x.keep (TmG.kp _ _) k hs) (fun _ h => h.elim)
 refine W.wb (l6Cons_loop (base := base) hG ho hf hA ih 20 _ w [] none c false _ hwk (by simp) (fun _ => hc) d) ?_
 rintro ⟨o1, o2, h4⟩ ⟨l', a2, c', b', S', hl, hd, hx⟩
 have fin : ∀ {h' : AH}, Hs base V h0 h' [(rb, 172, rdV oa ya G aa ats.length (100 - c') b')] [⟨S, m, A⟩, rTs base (f + 1) S' l' a2] → ∃ t cs' S' c' b', Value.agg (termV 5 0 ⟨#[]⟩ a2 l'.length).toArray = .agg cs'.toArray ∧ Hs base V h0 h' [(rb, 172, rdV oa ya G aa ats.length (100 - c') b')] [⟨S, m, A⟩, ⟨S', true, fun y => TmG base (f + 2) S' y t cs'⟩] ∧ (match rdL G (rdT chkT G ats f) 20 w c with
   | some y => t = .mk 5 0 ⟨#[]⟩ y.1 ∧ c' = y.2 ∧ b' = false
   | none => b' = true) := by
  intro h' d
  have row : RowO base 39 4 (TmG base (f + 1)) S' h' l' a2 := d.rs (i := 1) rfl
  have d := d.re (r := rTs base (f + 1) S' l' a2) (r' := ⟨S', true, fun y => TmG base (f + 2) S' y (.mk 5 0 ⟨#[]⟩ l') (termV 5 0 ⟨#[]⟩ a2 l'.length)⟩) (Upd.at (i := 1) rfl) rfl rfl ⟨by decide, Nat.le_trans hl (by decide), a2, rfl, row⟩ (fun U y y' k hs x => TmG.kp _ _ _ U y y' _ _ k hs x) (fun b hb => hb)
  refine ⟨.mk 5 0 ⟨#[]⟩ l', termV 5 0 ⟨#[]⟩ a2 l'.length, S', c', b', rfl, d, ?_⟩
  unfold OutL at hx
  simp only [Bool.false_eq_true, if_false] at hx
  cases e1 : rdL G (rdT chkT G ats f) 20 w c with
  | none => rw [e1] at hx; exact hx
  | some y =>
   rw [e1] at hx
   obtain ⟨i1, i2, i3⟩ := hx
   exact ⟨by rw [i1]; rfl, i2, i3⟩
 simp only at hd
 rcases hd with ⟨e1, e2, d⟩ | ⟨e1, e2, d⟩
 ·subst e1; subst e2
  refine W.ifF (show ¬ (2 : Nat) = 1 by decide) (W.ifT rfl ?_)
  ((try simp only [n1, n2, n3, n4, n5, n6] at d); (with_reducible repeat first | refine W.a1 d ?_ | refine W.a2 ?_ | refine W.a3 ?_ | refine W.bo ?_ | refine W.a5 d fun hw d lw kw => ?_ | refine W.a6 d ?_ | refine W.a7 ?_ | refine W.a8 ?_))
  exact W.ret (fin (d.takeD 1))
 ·subst e1; subst e2
  refine W.ifT rfl ?_
  ((try simp only [n1, n2, n3, n4, n5, n6] at d); (with_reducible repeat first | refine W.a1 d ?_ | refine W.a2 ?_ | refine W.a3 ?_ | refine W.bo ?_ | refine W.a5 d fun hw d lw kw => ?_ | refine W.a6 d ?_ | refine W.a7 ?_ | refine W.a8 ?_))
  exact W.ret (fin (d.takeD 1))
abbrev l5V (aa : Option Addr) (n : Nat) (left : Int) (b : Bool) : List Value := [.slice none 0 0, .slice aa n n, .int .i64 left, .bool b]
def coreL (ats : List ByteArray) (w : Int) : Option Tm := if tagW w = 0 then (if valW w ≤ 2000000 then some (.mk 1 (valW w - 1000000) ⟨#[]⟩ []) else none) else if tagW w = 1 then (ats[(valW w).toNat]?).map fun s => .mk 2 0 s [] else if tagW w = 2 then some (.mk 3 (valW w) ⟨#[]⟩ []) else none
theorem l5Read_leaf {base pb f : Nat} {G : Gn} {oa ya aa : Option Addr} {ats : List ByteArray} {w : Int} {m : Bool} {S V : Fp} {A : AH → Prop} {h0 h : AH} (hs : ∀ s ∈ ats, s.size ≤ maxLen) (hal : ats.length ≤ 1048576) (hw : wOk w) (h0w : ¬ w < 0) (ht : tagW w ≠ 3 ∧ tagW w ≠ 4 ∧ tagW w ≠ 5 ∧ tagW w ≠ 6) (hA : ∀ y, A y → RdA base oa ya G aa ats y) (d : Hs base V h0 h [(pb, 195, l5V aa ats.length 1 false)] [⟨S, m, A⟩]) :
  Wp (run (Et base) 181 [.pointer (at0 pb), .int .i64 w, .int .i64 1] h) fun o => ∃ t cs' b', o.1 = .agg cs'.toArray ∧ Hs base V h0 o.2 [(pb, 195, l5V aa ats.length 0 b')] [⟨S, m, A⟩] ∧ (∀ y, TmG base (f + 1) (fun _ => False) y t cs') ∧ (match coreL ats w with
   | some y => t = y ∧ b' = false
   | none => b' = true) := by
 have vnn := valW_nn w
 have vle := valW_le hw
 refine W.of (fun r hx => Am.r181 hx) ?_
 ((try simp only [n1, n2, n3, n4, n5, n6] at d); (with_reducible repeat first | refine W.a1 d ?_ | refine W.a2 ?_ | refine W.a3 ?_ | refine W.bo ?_ | refine W.a5 d fun hw d lw kw => ?_ | refine W.a6 d ?_ | refine W.a7 ?_ | refine W.a8 ?_); (refine W.nD d fun h1 d _ kh1 => ?_); (with_reducible repeat first | refine W.a1 d ?_ | refine W.a2 ?_ | refine W.a3 ?_ | refine W.bo ?_ | refine W.a5 d fun hw d lw kw => ?_ | refine W.a6 d ?_ | refine W.a7 ?_ | refine W.a8 ?_))
 refine W.bs (specVal_run hw.2) ?_
 ((try simp only [n1, n2, n3, n4, n5, n6] at d); (with_reducible repeat first | refine W.a1 d ?_ | refine W.a2 ?_ | refine W.a3 ?_ | refine W.bo ?_ | refine W.a5 d fun hw d lw kw => ?_ | refine W.a6 d ?_ | refine W.a7 ?_ | refine W.a8 ?_))
 rw [show IntKind.i64.wrap ((1 : Int) - 1) = 0 from by decide] at d
 apply W.jb false d
 ·refine W.ifF (by simpa using h0w) (W.ifF (by decide) ?_)
  ((try simp only [n1, n2, n3, n4, n5, n6] at d); (with_reducible repeat first | refine W.a1 d ?_ | refine W.a2 ?_ | refine W.a3 ?_ | refine W.bo ?_ | refine W.a5 d fun hw d lw kw => ?_ | refine W.a6 d ?_ | refine W.a7 ?_ | refine W.a8 ?_))
  exact W.lb rfl rfl (KB.refl _ _)
 intro h2 d n2
 ((try simp only [n1, n2, n3, n4, n5, n6] at d); (with_reducible repeat first | refine W.a1 d ?_ | refine W.a2 ?_ | refine W.a3 ?_ | refine W.bo ?_ | refine W.a5 d fun hw d lw kw => ?_ | refine W.a6 d ?_ | refine W.a7 ?_ | refine W.a8 ?_))
 refine W.ifF (by decide) ?_
 have leafT : ∀ (k n : Int) (s : ByteArray), s.size ≤ maxLen → ∀ y, TmG base (f + 1) (fun _ => False) y (.mk k n s []) (termV k n s none 0) := fun k n s h y => ⟨h, by decide, none, rfl, RowO.nil⟩
 refine W.joinP (fun q => q.1 = [some (.pointer (at0 pb)), some (.pointer (at0 h.length))] ∧ Hs base V h0 q.2 [(h.length, 39, termV 0 0 ⟨#[]⟩ none 0), (pb, 195, l5V aa ats.length 0 false)] [⟨S, m, A⟩] ∧ coreL ats w = none) ?_ fun q hq => ?_
 ·refine W.bs specTag_run ?_
  ((try simp only [n1, n2, n3, n4, n5, n6] at d); (with_reducible repeat first | refine W.a1 d ?_ | refine W.a2 ?_ | refine W.a3 ?_ | refine W.bo ?_ | refine W.a5 d fun hw d lw kw => ?_ | refine W.a6 d ?_ | refine W.a7 ?_ | refine W.a8 ?_))
  refine W.ite (fun t0 => ?_) (fun t0 => ?_)
  ·have t0 : tagW w = 0 := by simpa using t0
   have hc : coreL ats w = if valW w ≤ 2000000 then some (.mk 1 (valW w - 1000000) ⟨#[]⟩ []) else none := by unfold coreL; rw [if_pos t0]
   ((try simp only [n1, n2, n3, n4, n5, n6] at d); (with_reducible repeat first | refine W.a1 d ?_ | refine W.a2 ?_ | refine W.a3 ?_ | refine W.bo ?_ | refine W.a5 d fun hw d lw kw => ?_ | refine W.a6 d ?_ | refine W.a7 ?_ | refine W.a8 ?_))
   refine W.joinP (fun q => q.1 = [some (.pointer (at0 h.length)), some (.int .i64 (valW w))] ∧ Hs base V h0 q.2 [(h.length, 39, termV 0 0 ⟨#[]⟩ none 0), (pb, 195, l5V aa ats.length 0 (decide (valW w > 2000000)))] [⟨S, m, A⟩]) ?_ fun q hq => ?_
   ·((try simp only [n1, n2, n3, n4, n5, n6] at d); (with_reducible repeat first | refine W.a1 d ?_ | refine W.a2 ?_ | refine W.a3 ?_ | refine W.bo ?_ | refine W.a5 d fun hw d lw kw => ?_ | refine W.a6 d ?_ | refine W.a7 ?_ | refine W.a8 ?_))
    refine W.ifF (by decide) ?_
    ((try simp only [n1, n2, n3, n4, n5, n6] at d); (with_reducible repeat first | refine W.a1 d ?_ | refine W.a2 ?_ | refine W.a3 ?_ | refine W.bo ?_ | refine W.a5 d fun hw d lw kw => ?_ | refine W.a6 d ?_ | refine W.a7 ?_ | refine W.a8 ?_))
    exact W.inl ⟨rfl, d⟩
   obtain ⟨q1, h3⟩ := q
   obtain ⟨e, d⟩ := hq
   simp only at e d
   subst e
   ((try simp only [n1, n2, n3, n4, n5, n6] at d); (with_reducible repeat first | refine W.a1 d ?_ | refine W.a2 ?_ | refine W.a3 ?_ | refine W.bo ?_ | refine W.a5 d fun hw d lw kw => ?_ | refine W.a6 d ?_ | refine W.a7 ?_ | refine W.a8 ?_))
   refine W.mp ?_
   ((try simp only [n1, n2, n3, n4, n5, n6] at d); (with_reducible repeat first | refine W.a1 d ?_ | refine W.a2 ?_ | refine W.a3 ?_ | refine W.bo ?_ | refine W.a5 d fun hw d lw kw => ?_ | refine W.a6 d ?_ | refine W.a7 ?_ | refine W.a8 ?_))
   rw [w64i (n := valW w - 1000000) (by omega) (by omega)]
   refine W.ret ⟨.mk 1 (valW w - 1000000) ⟨#[]⟩ [], _, _, rfl, d.tl, leafT _ _ _ (by decide), ?_⟩
   rw [hc]
   by_cases hv : valW w ≤ 2000000
   ·rw [if_pos hv]; exact ⟨rfl, by simp; omega⟩
   ·rw [if_neg hv]; simp; omega
  have t0 : ¬ tagW w = 0 := by simpa using t0
  refine W.ite (fun t1 => ?_) (fun t1 => ?_)
  ·have t1 : tagW w = 1 := by simpa using t1
   have hc : coreL ats w = (ats[(valW w).toNat]?).map fun s => .mk 2 0 s [] := by unfold coreL; rw [if_neg t0, if_pos t1]
   ((try simp only [n1, n2, n3, n4, n5, n6] at d); (with_reducible repeat first | refine W.a1 d ?_ | refine W.a2 ?_ | refine W.a3 ?_ | refine W.bo ?_ | refine W.a5 d fun hw d lw kw => ?_ | refine W.a6 d ?_ | refine W.a7 ?_ | refine W.a8 ?_))
   refine W.ite (fun c1 => ?_) (fun c1 => ?_)
   ·have c1 : valW w < (ats.length : Int) := by simpa using c1
    have hlt : (valW w).toNat < ats.length := by omega
    ((try simp only [n1, n2, n3, n4, n5, n6] at d); (with_reducible repeat first | refine W.a1 d ?_ | refine W.a2 ?_ | refine W.a3 ?_ | refine W.bo ?_ | refine W.a5 d fun hw d lw kw => ?_ | refine W.a6 d ?_ | refine W.a7 ?_ | refine W.a8 ?_))
    obtain ⟨ad, ea, g⟩ := (hA _ (d.rs (i := 0) rfl)).2.2.2.2.cell (i := (valW w).toNat) (v := .string ats[(valW w).toNat]) (by simp [hlt])
    subst ea
    refine W.bs rfl (W.bT (by rw [Nat.mul_one]; exact g) ?_)
    ((try simp only [n1, n2, n3, n4, n5, n6] at d); (with_reducible repeat first | refine W.a1 d ?_ | refine W.a2 ?_ | refine W.a3 ?_ | refine W.bo ?_ | refine W.a5 d fun hw d lw kw => ?_ | refine W.a6 d ?_ | refine W.a7 ?_ | refine W.a8 ?_))
    refine W.mp ?_
    ((try simp only [n1, n2, n3, n4, n5, n6] at d); (with_reducible repeat first | refine W.a1 d ?_ | refine W.a2 ?_ | refine W.a3 ?_ | refine W.bo ?_ | refine W.a5 d fun hw d lw kw => ?_ | refine W.a6 d ?_ | refine W.a7 ?_ | refine W.a8 ?_))
    refine W.ret ⟨.mk 2 0 ats[(valW w).toNat] [], _, _, rfl, d.tl, leafT _ _ _ (hs _ (List.getElem_mem _)), ?_⟩
    rw [hc, List.getElem?_eq_getElem hlt]
    exact ⟨rfl, rfl⟩
   ·have c1 : ¬ valW w < (ats.length : Int) := by simpa using c1
    refine W.inl ⟨rfl, d, ?_⟩
    rw [hc, List.getElem?_eq_none_iff.2 (by omega)]
    rfl
  have t1 : ¬ tagW w = 1 := by simpa using t1
  refine W.ite (fun t2 => ?_) (fun t2 => ?_)
  ·have t2 : tagW w = 2 := by simpa using t2
   have hc : coreL ats w = some (.mk 3 (valW w) ⟨#[]⟩ []) := by unfold coreL; rw [if_neg t0, if_neg t1, if_pos t2]
   ((try simp only [n1, n2, n3, n4, n5, n6] at d); (with_reducible repeat first | refine W.a1 d ?_ | refine W.a2 ?_ | refine W.a3 ?_ | refine W.bo ?_ | refine W.a5 d fun hw d lw kw => ?_ | refine W.a6 d ?_ | refine W.a7 ?_ | refine W.a8 ?_))
   refine W.mp ?_
   ((try simp only [n1, n2, n3, n4, n5, n6] at d); (with_reducible repeat first | refine W.a1 d ?_ | refine W.a2 ?_ | refine W.a3 ?_ | refine W.bo ?_ | refine W.a5 d fun hw d lw kw => ?_ | refine W.a6 d ?_ | refine W.a7 ?_ | refine W.a8 ?_))
   refine W.ret ⟨.mk 3 (valW w) ⟨#[]⟩ [], _, _, rfl, d.tl, leafT _ _ _ (by decide), ?_⟩
   rw [hc]
   exact ⟨rfl, rfl⟩
  have t2 : ¬ tagW w = 2 := by simpa using t2
  have hc : coreL ats w = none := by unfold coreL; rw [if_neg t0, if_neg t1, if_neg t2]
  obtain ⟨t3, t4, t5, t6⟩ := ht
  apply W.jb false d
  ·refine W.ifF (by simpa using t3) (W.lb rfl (by simp [t5]) (KB.refl _ _))
  intro h3 d n3
  ((try simp only [n1, n2, n3, n4, n5, n6] at d); (with_reducible repeat first | refine W.a1 d ?_ | refine W.a2 ?_ | refine W.a3 ?_ | refine W.bo ?_ | refine W.a5 d fun hw d lw kw => ?_ | refine W.a6 d ?_ | refine W.a7 ?_ | refine W.a8 ?_))
  refine W.ifF (by decide) (W.ifF (by simpa using t4) (W.ifF (by simpa using t6) ?_))
  exact W.inl ⟨rfl, d, hc⟩
 obtain ⟨q1, h3⟩ := q
 obtain ⟨e, d, hc⟩ := hq
 simp only at e d
 subst e
 ((try simp only [n1, n2, n3, n4, n5, n6] at d); (with_reducible repeat first | refine W.a1 d ?_ | refine W.a2 ?_ | refine W.a3 ?_ | refine W.bo ?_ | refine W.a5 d fun hw d lw kw => ?_ | refine W.a6 d ?_ | refine W.a7 ?_ | refine W.a8 ?_))
 refine W.ret ⟨.mk 0 0 ⟨#[]⟩ [], _, _, rfl, d.tl, leafT _ _ _ (by decide), ?_⟩
 rw [hc]
end Go.Proofs.Ytjmkbglnjklbcaa.Am
set_option linter.unusedSimpArgs false
set_option linter.unusedVariables false
namespace Go.Proofs.Ytjmkbglnjklbcaa.Am
open Go Go.RowKit
def coreT (G : Gn) (ats : List ByteArray) (f : Nat) (w c : Int) : Option (Tm × Int) :=
 if tagW w = 4 then (core4 G ats f (valW w) (c + 1)).bind fun y => some (Tm.mk 4 0 ⟨#[]⟩ y.1, y.2)
 else if tagW w = 6 then ((gwd G (valW w)).bind fun n => if inB n 0 40 = true then (rdB G n.toNat (valW w + 1)).bind fun y => some (Tm.mk 6 0 (bstr y) []) else none).bind fun y => some (y, c + 1)
 else if tagW w = 3 ∨ tagW w = 5 then (rdL G (rdT chkT G ats f) 20 w (c + 1)).bind fun y => some (Tm.mk 5 0 ⟨#[]⟩ y.1, y.2)
 else (coreL ats w).bind fun y => some (y, c + 1)
theorem rdT_coreT {G : Gn} {ats : List ByteArray} {f : Nat} {w c : Int} (h1 : ¬ w < 0) (h2 : c < 100) : rdT chkT G ats (f + 1) w c = coreT G ats f w c := by
 have hl := tagW_lt w
 rw [rdT, if_neg (by omega)]
 have hb : ∀ x : Option (Tm × Int), (x.bind fun y => if chkT y.1 = true then some y else none) = x := fun x => by cases x <;> rfl
 rw [hb]
 unfold coreT core4 coreL
 by_cases t0 : tagW w = 0
 ·rw [if_pos t0, if_neg (show ¬ tagW w = 4 by omega), if_neg (show ¬ tagW w = 6 by omega), if_neg (show ¬ (tagW w = 3 ∨ tagW w = 5) by omega), if_pos t0]
  split <;> rfl
 rw [if_neg t0]
 by_cases t1 : tagW w = 1
 ·rw [if_pos t1, if_neg (by omega), if_neg (by omega), if_neg (by omega), if_neg t0, if_pos t1]
  cases ats[(valW w).toNat]? <;> rfl
 rw [if_neg t1]
 by_cases t2 : tagW w = 2
 ·rw [if_pos t2, if_neg (by omega), if_neg (by omega), if_neg (by omega), if_neg t0, if_neg t1, if_pos t2]
  rfl
 rw [if_neg t2]
 by_cases t4 : tagW w = 4
 ·rw [if_pos t4, if_pos t4]
  cases gwd G (valW w) with
  | none => rfl
  | some n =>
   simp only [Option.bind_some]
   split
   ·rfl
   ·rfl
 rw [if_neg t4, if_neg t4]
 by_cases t6 : tagW w = 6
 ·rw [if_pos t6, if_pos t6]
  cases gwd G (valW w) with
  | none => rfl
  | some n =>
   simp only [Option.bind_some]
   split
   ·cases rdB G n.toNat (valW w + 1) <;> rfl
   ·rfl
 rw [if_neg t6, if_neg t6]
 by_cases t7 : tagW w = 7
 ·rw [if_pos t7, if_neg (by omega), if_neg t0, if_neg t1, if_neg t2]; rfl
 rw [if_neg t7, if_pos (by omega)]
theorem getS_zero {base : Nat} {oa ya : Option Addr} {G : Gn} {aa : Option Addr} {ats : List ByteArray} : GetS base oa ya G aa ats 0 := by
 intro rb w c m S V A h0 h hwk hc hA d
 refine W.of (fun r hx => Am.r141 hx) ?_
 ((try simp only [n1, n2, n3, n4, n5, n6] at d); (with_reducible repeat first | refine W.a1 d ?_ | refine W.a2 ?_ | refine W.a3 ?_ | refine W.bo ?_ | refine W.a5 d fun hw d lw kw => ?_ | refine W.a6 d ?_ | refine W.a7 ?_ | refine W.a8 ?_); (refine W.nD d fun h1 d _ kh1 => ?_); (with_reducible repeat first | refine W.a1 d ?_ | refine W.a2 ?_ | refine W.a3 ?_ | refine W.bo ?_ | refine W.a5 d fun hw d lw kw => ?_ | refine W.a6 d ?_ | refine W.a7 ?_ | refine W.a8 ?_))
 apply W.jb true d
 ·refine W.ite (fun c1 => W.lb rfl rfl (KB.refl _ _)) (fun c1 => ?_)
  exact W.ifT (by decide) (W.lb rfl rfl (KB.refl _ _))
 intro h2 d n2
 ((try simp only [n1, n2, n3, n4, n5, n6] at d); (with_reducible repeat first | refine W.a1 d ?_ | refine W.a2 ?_ | refine W.a3 ?_ | refine W.bo ?_ | refine W.a5 d fun hw d lw kw => ?_ | refine W.a6 d ?_ | refine W.a7 ?_ | refine W.a8 ?_))
 refine W.ifT (by decide) ?_
 ((try simp only [n1, n2, n3, n4, n5, n6] at d); (with_reducible repeat first | refine W.a1 d ?_ | refine W.a2 ?_ | refine W.a3 ?_ | refine W.bo ?_ | refine W.a5 d fun hw d lw kw => ?_ | refine W.a6 d ?_ | refine W.a7 ?_ | refine W.a8 ?_))
 rw [w64i (n := 100 - c - 1) (by omega) (by omega), show 100 - c - 1 = 100 - (c + 1) from by omega] at d
 have d := (d.tl).call (KB.refl NoB _) (fun _ => False) (fun y => TmG base (0 + 1) (fun _ => False) y tmZ (termV 0 0 ⟨#[]⟩ none 0)) tmZ_G (fun U y y' k hs x => TmG.kp _ _ _ U y y' _ _ k hs x) (fun _ h => h.elim)
 exact W.ret ⟨tmZ, termV 0 0 ⟨#[]⟩ none 0, _, _, true, rfl, d, by unfold OutT rdT; rfl⟩
theorem getS_succ {base f : Nat} {oa ya : Option Addr} {G : Gn} {aa : Option Addr} {ats : List ByteArray} (hG : G.Ok) (ho : G.old.length ≤ 1000) (ha : ats.length ≤ 1048576) (hs : ∀ s ∈ ats, s.size ≤ maxLen) (hf : f ≤ 5) (ih : GetS base oa ya G aa ats f) : GetS base oa ya G aa ats (f + 1) := by
 intro rb w c m S V A h0 h hwk hc hA d
 have vnn := valW_nn w
 have tlt := tagW_lt w
 rw [show ((f + 1 : Nat) : Int) = (f : Int) + 1 from by omega]
 refine W.of (fun r hx => Am.r141 hx) ?_
 ((try simp only [n1, n2, n3, n4, n5, n6] at d); (with_reducible repeat first | refine W.a1 d ?_ | refine W.a2 ?_ | refine W.a3 ?_ | refine W.bo ?_ | refine W.a5 d fun hw d lw kw => ?_ | refine W.a6 d ?_ | refine W.a7 ?_ | refine W.a8 ?_); (refine W.nD d fun h1 d _ kh1 => ?_); (with_reducible repeat first | refine W.a1 d ?_ | refine W.a2 ?_ | refine W.a3 ?_ | refine W.bo ?_ | refine W.a5 d fun hw d lw kw => ?_ | refine W.a6 d ?_ | refine W.a7 ?_ | refine W.a8 ?_))
 rw [w64i (n := 100 - c - 1) (by omega) (by omega), show 100 - c - 1 = 100 - (c + 1) from by omega] at d
 apply W.jb (decide (w < 0) || decide (100 ≤ c)) d
 ·refine W.ite (fun c1 => ?_) (fun c1 => ?_)
  ·refine W.lb rfl ?_ (KB.refl _ _)
   rw [c1]; rfl
  ·have c1 : decide (w < 0) = false := by simpa using c1
   refine W.ifF (by simp; omega) ?_
   ((try simp only [n1, n2, n3, n4, n5, n6] at d); (with_reducible repeat first | refine W.a1 d ?_ | refine W.a2 ?_ | refine W.a3 ?_ | refine W.bo ?_ | refine W.a5 d fun hw d lw kw => ?_ | refine W.a6 d ?_ | refine W.a7 ?_ | refine W.a8 ?_))
   refine W.lb rfl ?_ (KB.refl _ _)
   rw [c1]
   simp only [Bool.false_or, List.getLast?_cons_cons, List.getLast?_singleton]
   congr 3
   exact decide_eq_decide.2 (by omega)
 intro h2 d n2
 ((try simp only [n1, n2, n3, n4, n5, n6] at d); (with_reducible repeat first | refine W.a1 d ?_ | refine W.a2 ?_ | refine W.a3 ?_ | refine W.bo ?_ | refine W.a5 d fun hw d lw kw => ?_ | refine W.a6 d ?_ | refine W.a7 ?_ | refine W.a8 ?_))
 refine W.ite (fun cb => ?_) (fun cb => ?_)
 ·((try simp only [n1, n2, n3, n4, n5, n6] at d); (with_reducible repeat first | refine W.a1 d ?_ | refine W.a2 ?_ | refine W.a3 ?_ | refine W.bo ?_ | refine W.a5 d fun hw d lw kw => ?_ | refine W.a6 d ?_ | refine W.a7 ?_ | refine W.a8 ?_))
  have d := (d.tl).call (KB.refl NoB _) (fun _ => False) (fun y => TmG base (f + 1 + 1) (fun _ => False) y tmZ (termV 0 0 ⟨#[]⟩ none 0)) tmZ_G (fun U y y' k hs x => TmG.kp _ _ _ U y y' _ _ k hs x) (fun _ h => h.elim)
  refine W.ret ⟨tmZ, termV 0 0 ⟨#[]⟩ none 0, _, _, true, rfl, d, ?_⟩
  have cb : w < 0 ∨ 100 ≤ c := by simpa using cb
  unfold OutT
  rw [rdT, if_pos cb]
  simp
 have cb : ¬ w < 0 ∧ c < 100 := by
  have : decide (w < 0) = false ∧ decide (100 ≤ c) = false := by simpa using cb
  have h1 := of_decide_eq_false this.1
  have h2 := of_decide_eq_false this.2
  omega
 obtain ⟨h1w, h3w⟩ := cb
 refine W.bs specTag_run ?_
 ((try simp only [n1, n2, n3, n4, n5, n6] at d); (with_reducible repeat first | refine W.a1 d ?_ | refine W.a2 ?_ | refine W.a3 ?_ | refine W.bo ?_ | refine W.a5 d fun hw d lw kw => ?_ | refine W.a6 d ?_ | refine W.a7 ?_ | refine W.a8 ?_))
 apply W.jb (decide (tagW w = 3 ∨ tagW w = 5)) d
 ·refine W.ite (fun c1 => ?_) (fun c1 => ?_)
  ·have c1 : tagW w = 3 := by simpa using c1
   exact W.lb rfl (by simp [c1]) (KB.refl _ _)
  ·have c1 : ¬ tagW w = 3 := by simpa using c1
   refine W.lb rfl ?_ (KB.refl _ _)
   by_cases c5 : tagW w = 5
   ·simp [c5]
   ·simp [c1, c5]
 intro h3 d n3
 ((try simp only [n1, n2, n3, n4, n5, n6] at d); (with_reducible repeat first | refine W.a1 d ?_ | refine W.a2 ?_ | refine W.a3 ?_ | refine W.bo ?_ | refine W.a5 d fun hw d lw kw => ?_ | refine W.a6 d ?_ | refine W.a7 ?_ | refine W.a8 ?_))
 have d := d.front (Del.at (i := 1) rfl)
 simp only [n5, n6] at d
 refine W.ite (fun t3 => ?_) (fun t3 => ?_)
 ·have t3 : tagW w = 3 ∨ tagW w = 5 := by simpa using t3
  have d1 := Hs.part (D1 := [_]) (R1 := [_]) d
  refine W.wb (l6Cons_run (c := c + 1) hG ho hwk (by omega) (by omega) hA ih d1) ?_
  rintro ⟨u, h4⟩ ⟨t, cs', S', c', b', y1, d2, hx⟩
  simp only at y1 d2
  subst y1
  have d := Hs.back (D1 := [_]) (R1 := [_]) d d2 (imA rfl)
  obtain ⟨k1, k2, k3, k4, k5, rfl⟩ := (d.rs (i := 1) rfl : TmG base (f + 2) S' h4 t _).form
  clear d1 d2
  ((try simp only [n1, n2, n3, n4, n5, n6] at d); (with_reducible repeat first | refine W.a1 d ?_ | refine W.a2 ?_ | refine W.a3 ?_ | refine W.bo ?_ | refine W.a5 d fun hw d lw kw => ?_ | refine W.a6 d ?_ | refine W.a7 ?_ | refine W.a8 ?_))
  refine W.ret ⟨t, _, S', c', b', rfl, d.takeD 1, ?_⟩
  unfold OutT
  rw [if_neg (by decide), rdT_coreT h1w h3w, show coreT G ats f w c = (rdL G (rdT chkT G ats f) 20 w (c + 1)).bind fun y => some (Tm.mk 5 0 ⟨#[]⟩ y.1, y.2) from by unfold coreT; rw [if_neg (by omega), if_neg (by omega), if_pos t3]]
  cases e1 : rdL G (rdT chkT G ats f) 20 w (c + 1) with
  | none => rw [e1] at hx; exact hx
  | some y => rw [e1] at hx; exact hx
 have t3 : ¬ (tagW w = 3 ∨ tagW w = 5) := by simpa using t3
 refine W.ite (fun t4 => ?_) (fun t4 => ?_)
 ·have t4 : tagW w = 4 := by simpa using t4
  refine W.bs (specVal_run hwk.2) ?_
  ((try simp only [n1, n2, n3, n4, n5, n6] at d); (with_reducible repeat first | refine W.a1 d ?_ | refine W.a2 ?_ | refine W.a3 ?_ | refine W.bo ?_ | refine W.a5 d fun hw d lw kw => ?_ | refine W.a6 d ?_ | refine W.a7 ?_ | refine W.a8 ?_))
  have d1 := Hs.part (D1 := [_]) (R1 := [_]) d
  refine W.wb (l6Tuple_run (c := c + 1) hG ho ⟨vnn, valW_ok hwk⟩ (by omega) (by omega) hA ih d1) ?_
  rintro ⟨u, h4⟩ ⟨t, cs', S', c', b', y1, d2, hx⟩
  simp only at y1 d2
  subst y1
  have d := Hs.back (D1 := [_]) (R1 := [_]) d d2 (imA rfl)
  obtain ⟨k1, k2, k3, k4, k5, rfl⟩ := (d.rs (i := 1) rfl : TmG base (f + 2) S' h4 t _).form
  clear d1 d2
  ((try simp only [n1, n2, n3, n4, n5, n6] at d); (with_reducible repeat first | refine W.a1 d ?_ | refine W.a2 ?_ | refine W.a3 ?_ | refine W.bo ?_ | refine W.a5 d fun hw d lw kw => ?_ | refine W.a6 d ?_ | refine W.a7 ?_ | refine W.a8 ?_))
  refine W.ret ⟨t, _, S', c', b', rfl, d.takeD 1, ?_⟩
  unfold OutT
  rw [if_neg (by decide), rdT_coreT h1w h3w, show coreT G ats f w c = (core4 G ats f (valW w) (c + 1)).bind fun y => some (Tm.mk 4 0 ⟨#[]⟩ y.1, y.2) from by unfold coreT; rw [if_pos t4]]
  cases e1 : core4 G ats f (valW w) (c + 1) with
  | none => rw [e1] at hx; exact hx
  | some y => rw [e1] at hx; exact hx
 have t4 : ¬ tagW w = 4 := by simpa using t4
 refine W.ite (fun t6 => ?_) (fun t6 => ?_)
 ·have t6 : tagW w = 6 := by simpa using t6
  refine W.bs (specVal_run hwk.2) ?_
  ((try simp only [n1, n2, n3, n4, n5, n6] at d); (with_reducible repeat first | refine W.a1 d ?_ | refine W.a2 ?_ | refine W.a3 ?_ | refine W.bo ?_ | refine W.a5 d fun hw d lw kw => ?_ | refine W.a6 d ?_ | refine W.a7 ?_ | refine W.a8 ?_))
  have d1 := Hs.part (D1 := [_]) (R1 := [_]) d
  refine W.wb (l6Bin_run (f := f + 1) hG ho ⟨vnn, valW_ok hwk⟩ hA d1) ?_
  rintro ⟨u, h4⟩ ⟨t, cs', S', b', y1, d2, hx⟩
  simp only at y1 d2
  subst y1
  have d := Hs.back (D1 := [_]) (R1 := [_]) d d2 (imA rfl)
  obtain ⟨k1, k2, k3, k4, k5, rfl⟩ := (d.rs (i := 1) rfl : TmG base (f + 2) S' h4 t _).form
  clear d1 d2
  ((try simp only [n1, n2, n3, n4, n5, n6] at d); (with_reducible repeat first | refine W.a1 d ?_ | refine W.a2 ?_ | refine W.a3 ?_ | refine W.bo ?_ | refine W.a5 d fun hw d lw kw => ?_ | refine W.a6 d ?_ | refine W.a7 ?_ | refine W.a8 ?_))
  refine W.ret ⟨t, _, S', c + 1, b', rfl, d.takeD 1, ?_⟩
  unfold OutT
  rw [if_neg (by decide), rdT_coreT h1w h3w, show coreT G ats f w c = ((gwd G (valW w)).bind fun n => if inB n 0 40 = true then (rdB G n.toNat (valW w + 1)).bind fun y => some (Tm.mk 6 0 (bstr y) []) else none).bind fun y => some (y, c + 1) from by unfold coreT; rw [if_neg t4, if_pos t6]]
  cases e1 : (gwd G (valW w)).bind fun n => if inB n 0 40 = true then (rdB G n.toNat (valW w + 1)).bind fun y => some (Tm.mk 6 0 (bstr y) []) else none with
  | none => rw [e1] at hx; exact hx
  | some y => rw [e1] at hx; exact ⟨hx.1, rfl, hx.2⟩
 have t6 : ¬ tagW w = 6 := by simpa using t6
 ((try simp only [n1, n2, n3, n4, n5, n6] at d); (with_reducible repeat first | refine W.a1 d ?_ | refine W.a2 ?_ | refine W.a3 ?_ | refine W.bo ?_ | refine W.a5 d fun hw d lw kw => ?_ | refine W.a6 d ?_ | refine W.a7 ?_ | refine W.a8 ?_); (refine W.nD d fun h4 d _ kh4 => ?_); (with_reducible repeat first | refine W.a1 d ?_ | refine W.a2 ?_ | refine W.a3 ?_ | refine W.bo ?_ | refine W.a5 d fun hw d lw kw => ?_ | refine W.a6 d ?_ | refine W.a7 ?_ | refine W.a8 ?_))
 have d1 := Hs.part (D1 := [_]) (R1 := [_]) d
 refine W.wb (l5Read_leaf (f := f + 1) hs ha hwk h1w ⟨by omega, by omega, by omega, by omega⟩ hA d1) ?_
 rintro ⟨u, h5⟩ ⟨t, cs', b', y1, d2, tg, hx⟩
 simp only at y1 d2
 subst y1
 have d := Hs.back (D1 := [_]) (R1 := [_]) d d2 (fun r hr hm => ⟨r, hr, hm, rfl⟩)
 obtain ⟨k1, k2, k3, k4, k5, rfl⟩ := (tg h5).form
 clear d1 d2
 ((try simp only [n1, n2, n3, n4, n5, n6] at d); (with_reducible repeat first | refine W.a1 d ?_ | refine W.a2 ?_ | refine W.a3 ?_ | refine W.bo ?_ | refine W.a5 d fun hw d lw kw => ?_ | refine W.a6 d ?_ | refine W.a7 ?_ | refine W.a8 ?_); (refine W.nD d fun h6 d _ kh6 => ?_); (with_reducible repeat first | refine W.a1 d ?_ | refine W.a2 ?_ | refine W.a3 ?_ | refine W.bo ?_ | refine W.a5 d fun hw d lw kw => ?_ | refine W.a6 d ?_ | refine W.a7 ?_ | refine W.a8 ?_))
 have d : Hs base V h0 hw [(h5.length, 39, termV k1 k2 k3 k4 k5), (h3.length, 195, l5V aa ats.length 0 b'), (rb, 172, rdV oa ya G aa ats.length (100 - (c + 1)) false), (h.length, 39, termV 0 0 ⟨#[]⟩ none 0)] [⟨S, m, A⟩] := d
 refine W.joinP (fun q => q.1 = [some (.pointer (at0 h.length)), some (.pointer (at0 h5.length))] ∧ Hs base V h0 q.2 [(h5.length, 39, termV k1 k2 k3 k4 k5), (h3.length, 195, l5V aa ats.length 0 b'), (rb, 172, rdV oa ya G aa ats.length (100 - (c + 1)) b'), (h.length, 39, termV 0 0 ⟨#[]⟩ none 0)] [⟨S, m, A⟩]) ?_ fun q hq => ?_
 ·((try simp only [n1, n2, n3, n4, n5, n6] at d); (with_reducible repeat first | refine W.a1 d ?_ | refine W.a2 ?_ | refine W.a3 ?_ | refine W.bo ?_ | refine W.a5 d fun hw d lw kw => ?_ | refine W.a6 d ?_ | refine W.a7 ?_ | refine W.a8 ?_))
  refine W.ifF (by decide) ?_
  ((try simp only [n1, n2, n3, n4, n5, n6] at d); (with_reducible repeat first | refine W.a1 d ?_ | refine W.a2 ?_ | refine W.a3 ?_ | refine W.bo ?_ | refine W.a5 d fun hw d lw kw => ?_ | refine W.a6 d ?_ | refine W.a7 ?_ | refine W.a8 ?_))
  exact W.inl ⟨rfl, d⟩
 obtain ⟨q1, h7⟩ := q
 obtain ⟨e, d⟩ := hq
 simp only at e d
 subst e
 ((try simp only [n1, n2, n3, n4, n5, n6] at d); (with_reducible repeat first | refine W.a1 d ?_ | refine W.a2 ?_ | refine W.a3 ?_ | refine W.bo ?_ | refine W.a5 d fun hw d lw kw => ?_ | refine W.a6 d ?_ | refine W.a7 ?_ | refine W.a8 ?_))
 have d := (((d.tl).tl).takeD 1).call (KB.refl NoB _) (fun _ => False) (fun y => TmG base (f + 2) (fun _ => False) y t (termV k1 k2 k3 k4 k5)) (tg _) (fun U y y' k hs x => TmG.kp _ _ _ U y y' _ _ k hs x) (fun _ h => h.elim)
 refine W.ret ⟨t, termV k1 k2 k3 k4 k5, _, c + 1, b', rfl, d, ?_⟩
 unfold OutT
 rw [if_neg (by decide), rdT_coreT h1w h3w, show coreT G ats f w c = (coreL ats w).bind fun y => some (y, c + 1) from by unfold coreT; rw [if_neg t4, if_neg t6, if_neg t3]]
 cases e1 : coreL ats w with
 | none => rw [e1] at hx; exact hx
 | some y => rw [e1] at hx; exact ⟨hx.1, rfl, hx.2⟩
theorem getS_all {base : Nat} {oa ya : Option Addr} {G : Gn} {aa : Option Addr} {ats : List ByteArray} (hG : G.Ok) (ho : G.old.length ≤ 1000) (ha : ats.length ≤ 1048576) (hs : ∀ s ∈ ats, s.size ≤ maxLen) : ∀ f, f ≤ 6 → GetS base oa ya G aa ats f
 | 0, _ => getS_zero
 | f + 1, hf => getS_succ hG ho ha hs (by omega) (getS_all hG ho ha hs f (by omega))
def gRs (G : Gn) (ats : List ByteArray) (w : Int) : Tm × Bool := match rdT chkT G ats 6 w 0 with
 | some y => if tOk 7 y.1 = true then (y.1, true) else (tmZ, false)
 | none => (tmZ, false)
theorem specGensRead_run {base : Nat} {h : AH} {oa ya : Option Addr} {G : Gn} {aa : Option Addr} {ats : List ByteArray} {w : Int} (hG : G.Ok) (hol : G.old.length ≤ 1000) (ha : ats.length ≤ 1048576) (hs : ∀ s ∈ ats, s.size ≤ maxLen) (hwk : wOk w) (x : RdA base oa ya G aa ats h) (hb : base ≤ h.length) :
  ∃ cs' h', run (Et base) 85 [.agg (gensV oa ya G).toArray, .slice aa ats.length ats.length, .int .i64 w] h = some (.tuple #[.agg cs'.toArray, .bool (gRs G ats w).2], h') ∧ TmG base 7 (iS h.length h'.length) h' (gRs G ats w).1 cs' ∧ KB NoB h h' := by
 have xlt := x.lt
 have d := (Hs.start hb).inp (fun b => b < h.length) (fun y => RdA base oa ya G aa ats y) x (fun U y y' k hS q => q.keep k fun i hi => hS i (xlt i hi)) (fun b hb => hb) (fun x hx => nomatch hx) rfl
 suffices W : Wp (run (Et base) 85 [.agg (gensV oa ya G).toArray, .slice aa ats.length ats.length, .int .i64 w] h) fun o => ∃ cs', o.1 = .tuple #[.agg cs'.toArray, .bool (gRs G ats w).2] ∧ TmG base 7 (iS h.length o.2.length) o.2 (gRs G ats w).1 cs' ∧ KB NoB h o.2 by
  obtain ⟨⟨o1, o2⟩, e, cs', y1, y2, y3⟩ := W
  simp only at y1 y2 y3
  subst y1
  exact ⟨cs', o2, e, y2, y3⟩
 refine W.of (fun r hx => Am.r85 hx) ?_
 ((try simp only [n1, n2, n3, n4, n5, n6] at d); (with_reducible repeat first | refine W.a1 d ?_ | refine W.a2 ?_ | refine W.a3 ?_ | refine W.bo ?_ | refine W.a5 d fun hw d lw kw => ?_ | refine W.a6 d ?_ | refine W.a7 ?_ | refine W.a8 ?_); (refine W.nD d fun p1 d _ kp1 => ?_); (with_reducible repeat first | refine W.a1 d ?_ | refine W.a2 ?_ | refine W.a3 ?_ | refine W.bo ?_ | refine W.a5 d fun hw d lw kw => ?_ | refine W.a6 d ?_ | refine W.a7 ?_ | refine W.a8 ?_); (refine W.nD d fun p2 d _ kp2 => ?_); (with_reducible repeat first | refine W.a1 d ?_ | refine W.a2 ?_ | refine W.a3 ?_ | refine W.bo ?_ | refine W.a5 d fun hw d lw kw => ?_ | refine W.a6 d ?_ | refine W.a7 ?_ | refine W.a8 ?_); (refine W.nD d fun p3 d _ kp3 => ?_); (with_reducible repeat first | refine W.a1 d ?_ | refine W.a2 ?_ | refine W.a3 ?_ | refine W.bo ?_ | refine W.a5 d fun hw d lw kw => ?_ | refine W.a6 d ?_ | refine W.a7 ?_ | refine W.a8 ?_))
 have d1 := Hs.part (D1 := [_]) (R1 := [_]) d
 refine W.wb (getS_all (base := base) hG hol ha hs 6 (Nat.le_refl _) p2.length w 0 _ _ _ _ _ _ hwk (by omega) (fun y hy => hy) d1) ?_
 rintro ⟨u, h4⟩ ⟨t, cs', S', c', b', y1, d2, ho⟩
 simp only at y1 d2
 subst y1
 have d := Hs.back (D1 := [_]) (R1 := [_]) d d2 (imA rfl)
 have tg : TmG base 7 S' h4 t _ := d.rs (i := 1) rfl
 obtain ⟨k1, k2, k3, k4, k5, rfl⟩ := tg.form
 clear d1 d2
 ((try simp only [n1, n2, n3, n4, n5, n6] at d); (with_reducible repeat first | refine W.a1 d ?_ | refine W.a2 ?_ | refine W.a3 ?_ | refine W.bo ?_ | refine W.a5 d fun hw d lw kw => ?_ | refine W.a6 d ?_ | refine W.a7 ?_ | refine W.a8 ?_); (refine W.nD d fun h9 d _ kh9 => ?_); (with_reducible repeat first | refine W.a1 d ?_ | refine W.a2 ?_ | refine W.a3 ?_ | refine W.bo ?_ | refine W.a5 d fun hw d lw kw => ?_ | refine W.a6 d ?_ | refine W.a7 ?_ | refine W.a8 ?_))
 apply W.jb (b' || !tOk 7 t) d
 ·((try simp only [n1, n2, n3, n4, n5, n6] at d); (with_reducible repeat first | refine W.a1 d ?_ | refine W.a2 ?_ | refine W.a3 ?_ | refine W.bo ?_ | refine W.a5 d fun hw d lw kw => ?_ | refine W.a6 d ?_ | refine W.a7 ?_ | refine W.a8 ?_))
  refine W.ite (fun c => ?_) (fun c => ?_)
  ·rw [c]; exact W.lb rfl rfl (KB.refl _ _)
  ·have c : b' = false := by simpa using c
   rw [c]
   ((try simp only [n1, n2, n3, n4, n5, n6] at d); (with_reducible repeat first | refine W.a1 d ?_ | refine W.a2 ?_ | refine W.a3 ?_ | refine W.bo ?_ | refine W.a5 d fun hw d lw kw => ?_ | refine W.a6 d ?_ | refine W.a7 ?_ | refine W.a8 ?_))
   obtain ⟨h5, e5, k5'⟩ := specTermOk_run (base := base) (d.rs (i := 1) rfl : TmG base 7 S' hw t _).tmR d.ge
   have d := d.kN k5'
   refine W.bs e5 ?_
   ((try simp only [n1, n2, n3, n4, n5, n6] at d); (with_reducible repeat first | refine W.a1 d ?_ | refine W.a2 ?_ | refine W.a3 ?_ | refine W.bo ?_ | refine W.a5 d fun hw d lw kw => ?_ | refine W.a6 d ?_ | refine W.a7 ?_ | refine W.a8 ?_))
   exact W.lb rfl rfl k5'
 intro h11 d n11
 ((try simp only [n1, n2, n3, n4, n5, n6] at d); (with_reducible repeat first | refine W.a1 d ?_ | refine W.a2 ?_ | refine W.a3 ?_ | refine W.bo ?_ | refine W.a5 d fun hw d lw kw => ?_ | refine W.a6 d ?_ | refine W.a7 ?_ | refine W.a8 ?_))
 have hgr : gRs G ats w = if (b' || !tOk 7 t) = true then (tmZ, false) else (t, true) := by
  unfold gRs
  unfold OutT at ho
  rw [if_neg (by decide)] at ho
  cases e1 : rdT chkT G ats 6 w 0 with
  | none => rw [e1] at ho; rw [ho]; rfl
  | some y =>
   rw [e1] at ho
   obtain ⟨i1, i2, i3⟩ := ho
   rw [i3, i1]
   simp only [Bool.false_or]
   cases tOk 7 y.1 <;> rfl
 refine W.ite (fun c => ?_) (fun c => ?_)
 ·rw [hgr, if_pos c]
  ((try simp only [n1, n2, n3, n4, n5, n6] at d); (with_reducible repeat first | refine W.a1 d ?_ | refine W.a2 ?_ | refine W.a3 ?_ | refine W.bo ?_ | refine W.a5 d fun hw d lw kw => ?_ | refine W.a6 d ?_ | refine W.a7 ?_ | refine W.a8 ?_))
  exact W.ret ⟨_, rfl, tmZ_G, d.kb⟩
 ·rw [hgr, if_neg c]
  ((try simp only [n1, n2, n3, n4, n5, n6] at d); (with_reducible repeat first | refine W.a1 d ?_ | refine W.a2 ?_ | refine W.a3 ?_ | refine W.bo ?_ | refine W.a5 d fun hw d lw kw => ?_ | refine W.a6 d ?_ | refine W.a7 ?_ | refine W.a8 ?_))
  exact W.ret ⟨_, rfl, d.out (TmG.mo _ _) (i := 1) rfl, d.kb⟩
theorem gRs_gRd (G : Gn) (ats : List ByteArray) (w : Int) : gRs G ats w = gRd G ats w := by
 unfold gRs gRd
 cases e : rdT chkI G ats 6 w 0 with
 | some y => rw [rdT_T e]
 | none =>
  cases e2 : rdT chkT G ats 6 w 0 with
  | none => rfl
  | some y =>
   simp only
   cases e3 : tOk 7 y.1 with
   | false => rfl
   | true => rw [rdT_I e2 7 e3] at e; cases e
theorem gRd_ok {G : Gn} {ats : List ByteArray} {w : Int} (h : (gRd G ats w).2 = true) : ∃ y, rdT chkI G ats 6 w 0 = some y ∧ tOk 7 y.1 = true := by
 unfold gRd at h
 cases e : rdT chkI G ats 6 w 0 with
 | none => rw [e] at h; cases h
 | some y =>
  rw [e] at h
  simp only at h
  cases e3 : tOk 7 y.1 with
  | false => rw [e3] at h; cases h
  | true => exact ⟨y, rfl, e3⟩
end Go.Proofs.Ytjmkbglnjklbcaa.Am
set_option linter.unusedSimpArgs false
set_option linter.unusedVariables false
namespace Go.Proofs.Ytjmkbglnjklbcaa.Am
open Go Go.RowKit
def GmB (base gb : Nat) (oa ya : Option Addr) (G : Gn) (h : AH) : Prop :=
 Am.cell h gb 0 = some (.slice oa G.old.length G.old.length) ∧ Am.cell h gb 1 = some (.slice ya G.young.length G.young.length) ∧ Am.cell h gb 2 = some (.int .i64 G.mark) ∧ GnO base h oa ya G
theorem GmB.keepN {base gb : Nat} {oa ya : Option Addr} {G : Gn} {h h' : AH} (x : GmB base gb oa ya G h) (k : KB NoB h h') : GmB base gb oa ya G h' :=
 ⟨cell_keepU x.1 k (fun h => h), cell_keepU x.2.1 k (fun h => h), cell_keepU x.2.2.1 k (fun h => h), x.2.2.2.keepN k⟩
theorem wordAt_run {base gb : Nat} {h : AH} {G : Gn} {oa ya : Option Addr} {p : Int} (hG : G.Ok) (hp : p ≤ 9223372036854775807) (x : GmB base gb oa ya G h) :
  run (Et base) 149 [.pointer (at0 gb), .int .i64 p] h = some (Value.tuple #[.int .i64 ((gwd G p).getD 0), .bool (gwd G p).isSome], h) :=
 implWord_run hG hp x.1 x.2.1 x.2.2.2.2.2
theorem part_run {base gb : Nat} {h : AH} {G : Gn} {oa ya : Option Addr} {p : Int} (hp : wOk p) (x : GmB base gb oa ya G h) :
  run (Et base) 151 [.pointer (at0 gb), .int .i64 p] h = some (.int .i64 (prt G p), h) := by
 refine Am.r151 ?_
 obtain ⟨p1, p2⟩ := hp
 unfold prt
 by_cases c : p < 100000
 ·rw [if_pos (decide_eq_true c), if_pos c]
 ·rw [if_neg (by simpa using c), if_neg c]
  rw [w64i (n := p - 100000) (by omega) (by omega)]
  refine bI (by rw [x.2.2.1]) ?_
  by_cases c2 : p - 100000 < G.mark
  ·rw [if_pos (decide_eq_true c2), if_pos c2]
  ·rw [if_neg (by simpa using c2), if_neg c2]
theorem leads_run {base : Nat} {h : AH} {w : Int} : run (Et base) 150 [.int .i64 w] h = some (.bool (leadW w), h) := by
 refine Am.r150 ?_
 rw [implTag_run]
 simp only [Option.bind_some, getI, if_true]
 rw [in_run]
 rfl
def wid (G : Gn) (w : Int) : Int := if tagW w = 5 then 2 else (gwd G (valW w)).getD 0 + 1
theorem widthOf_run {base gb : Nat} {h : AH} {G : Gn} {oa ya : Option Addr} {w : Int} (hG : G.Ok) (hw : wOk w) (hn : tagW w ≠ 5 → 0 ≤ (gwd G (valW w)).getD 0 ∧ (gwd G (valW w)).getD 0 ≤ 1000) (x : GmB base gb oa ya G h) :
  run (Et base) 186 [.pointer (at0 gb), .int .i64 w] h = some (.int .i64 (wid G w), h) := by
 have vle := valW_le hw
 suffices W : Wp (run (Et base) 186 [.pointer (at0 gb), .int .i64 w] h) fun o => o = (.int .i64 (wid G w), h) by
  obtain ⟨o, e, rfl⟩ := W
  exact e
 refine W.of (fun r hx => Am.r186 hx) ?_
 refine W.bs implTag_run (W.bI rfl ?_)
 unfold wid
 refine W.ite (fun c => ?_) (fun c => ?_)
 ·have c : tagW w = 5 := by simpa using c
  rw [if_pos c]
  exact W.ret rfl
 ·have c : ¬ tagW w = 5 := by simpa using c
  rw [if_neg c]
  have hn := hn c
  refine W.bs (implVal_run hw.2) (W.bI rfl ?_)
  refine W.bs (wordAt_run hG (by omega) x) ?_
  refine W.bs rfl (W.bI rfl (W.bB rfl (W.ret ?_)))
  rw [w64i (by omega) (by omega)]
abbrev rIs (base : Nat) (S : Fp) (l : List Int) (a : Option Addr) : Rs := ⟨S, true, fun y => Own base 3 y a (iv .i64 l)⟩
theorem wordsOf_loop {base gb : Nat} {G : Gn} {oa ya : Option Addr} {w : Int} {S V : Fp} {m : Bool} {A : AH → Prop} {h0 : AH} (hG : G.Ok) (hw : wOk w) (hn : tagW w ≠ 5 → 0 ≤ (gwd G (valW w)).getD 0 ∧ (gwd G (valW w)).getD 0 ≤ 1000) (hA : ∀ y, A y → GmB base gb oa ya G y) : ∀ (r i : Nat) (h : AH) (l : List Int) (ao : Option Addr) (S2 : Fp), (i : Int) + r = wid G w → l.length ≤ i → (∀ x, blk ao x → S2 x) → Hs base V h0 h [] [⟨S, m, A⟩, rIs base S2 l ao] →
  Wp (loopL (B153_0 base) [some (.pointer (at0 gb)), some (.int .i64 w), some (.int .i64 (valW w)), some (.slice ao l.length l.length), some (.int .i64 (i : Int))] h) fun o => ∃ l' a2 S', o.1 = 3 ∧ o.2.1 = [some (.slice a2 l'.length l'.length)] ∧ l' = l ++ (List.range r).map (fun (k : Nat) => (gwd G (valW w + (i : Int) + (k : Int))).getD 0) ∧ Hs base V h0 o.2.2 [] [⟨S, m, A⟩, rIs base S' l' a2] := by
 have vle := valW_le hw
 have vnn := valW_nn w
 have hwd : wid G w ≤ 1001 := by
  unfold wid
  split
  ·omega
  ·rename_i h; have := hn h; omega
 intro r
 induction r with
 | zero =>
  intro i h l ao S2 hi hl hS d
  suffices w1 : Wp (B153_0 base [some (.pointer (at0 gb)), some (.int .i64 w), some (.int .i64 (valW w)), some (.slice ao l.length l.length), some (.int .i64 (i : Int))] h) fun o => o = (3, [some (.slice ao l.length l.length)], h) by
   obtain ⟨o, e, rfl⟩ := w1
   exact ⟨_, loop_off (by decide) e, l, ao, S2, rfl, rfl, by simp, d⟩
  rw [B153_0_eq]
  refine W.bs (widthOf_run hG hw hn (hA _ (d.rs (i := 0) rfl))) ?_
  ((try simp only [n1, n2, n3, n4, n5, n6] at d); (with_reducible repeat first | refine W.a1 d ?_ | refine W.a2 ?_ | refine W.a3 ?_ | refine W.bo ?_ | refine W.a5 d fun hw d lw kw => ?_ | refine W.a6 d ?_ | refine W.a7 ?_ | refine W.a8 ?_))
  exact W.ifF (by simp; omega) (W.ret rfl)
 | succ r ihr =>
  intro i h l ao S2 hi hl hS d
  suffices w1 : Wp (B153_0 base [some (.pointer (at0 gb)), some (.int .i64 w), some (.int .i64 (valW w)), some (.slice ao l.length l.length), some (.int .i64 (i : Int))] h) fun o => ∃ a2 S', o.1 = 0 ∧ o.2.1 = [some (.pointer (at0 gb)), some (.int .i64 w), some (.int .i64 (valW w)), some (.slice a2 (l.length + 1) (l.length + 1)), some (.int .i64 ((i : Int) + 1))] ∧ (∀ x, blk a2 x → S' x) ∧ Hs base V h0 o.2.2 [] [⟨S, m, A⟩, rIs base S' (l ++ [(gwd G (valW w + (i : Int))).getD 0]) a2] by
   obtain ⟨⟨o1, o2, h'⟩, e, a2, S', y1, y2, hS', d'⟩ := w1
   simp only at y1 y2 d'
   subst y1; subst y2
   have el : (l ++ [(gwd G (valW w + (i : Int))).getD 0]).length = l.length + 1 := by simp
   have q := ihr (i + 1) h' (l ++ [(gwd G (valW w + (i : Int))).getD 0]) a2 S' (by omega) (by omega) hS' d'
   rw [el] at q
   obtain ⟨o, eo, l2, a3, S3, z1, z2, z3, z4⟩ := q
   refine ⟨o, loop_on e eo, l2, a3, S3, z1, z2, ?_, z4⟩
   rw [z3, List.range_succ_eq_map, List.map_cons, List.map_map, List.append_assoc]
   congr 1
   rw [List.singleton_append]
   congr 1
   ·rw [show valW w + (i : Int) + ((0 : Nat) : Int) = valW w + (i : Int) from by omega]
   ·apply List.map_congr_left
    intro k _
    simp only [Function.comp]
    rw [show valW w + ((i + 1 : Nat) : Int) + (k : Int) = valW w + (i : Int) + (k.succ : Int) from by omega]
  rw [B153_0_eq]
  refine W.bs (widthOf_run hG hw hn (hA _ (d.rs (i := 0) rfl))) ?_
  ((try simp only [n1, n2, n3, n4, n5, n6] at d); (with_reducible repeat first | refine W.a1 d ?_ | refine W.a2 ?_ | refine W.a3 ?_ | refine W.bo ?_ | refine W.a5 d fun hw d lw kw => ?_ | refine W.a6 d ?_ | refine W.a7 ?_ | refine W.a8 ?_))
  refine W.ifT (decide_eq_true (by omega)) ?_
  rw [w64i (n := valW w + (i : Int)) (by omega) (by omega)]
  refine W.bs (wordAt_run hG (by omega) (hA _ (d.rs (i := 0) rfl))) ?_
  ((try simp only [n1, n2, n3, n4, n5, n6] at d); (with_reducible repeat first | refine W.a1 d ?_ | refine W.a2 ?_ | refine W.a3 ?_ | refine W.bo ?_ | refine W.a5 d fun hw d lw kw => ?_ | refine W.a6 d ?_ | refine W.a7 ?_ | refine W.a8 ?_); (refine W.nD d fun h3 d _ kh3 => ?_); (with_reducible repeat first | refine W.a1 d ?_ | refine W.a2 ?_ | refine W.a3 ?_ | refine W.bo ?_ | refine W.a5 d fun hw d lw kw => ?_ | refine W.a6 d ?_ | refine W.a7 ?_ | refine W.a8 ?_))
  obtain ⟨a5, h5, e5, d, q5, k5, _⟩ := d.app1O (w := 1) (i := 1) (n := l.length) (bytes := 8) rfl hS (.head _) rfl (by decide) (by simp) rfl (by omega) (by omega)
  refine W.bs e5 ?_
  ((try simp only [n1, n2, n3, n4, n5, n6] at d); (with_reducible repeat first | refine W.a1 d ?_ | refine W.a2 ?_ | refine W.a3 ?_ | refine W.bo ?_ | refine W.a5 d fun hw d lw kw => ?_ | refine W.a6 d ?_ | refine W.a7 ?_ | refine W.a8 ?_))
  rw [w64i (n := (i : Int) + 1) (by omega) (by omega)]
  have d := d.tl
  rw [show iv .i64 l ++ [Value.int .i64 ((gwd G (valW w + (i : Int))).getD 0)] = iv .i64 (l ++ [(gwd G (valW w + (i : Int))).getD 0]) from by rw [← iv_append]; rfl] at d
  exact W.ret ⟨a5, _, rfl, rfl, fun x hx => hx, d⟩
theorem wordsOf_run {base gb : Nat} {h : AH} {G : Gn} {oa ya : Option Addr} {w : Int} (hG : G.Ok) (hwk : wOk w) (hl : leadW w = true) (hn : Nd G w) (hgb : gb < h.length) (x : GmB base gb oa ya G h) (hb : base ≤ h.length) :
  ∃ a' h', run (Et base) 153 [.pointer (at0 gb), .int .i64 w] h = some (.slice a' (chW G w).length (chW G w).length, h') ∧ Sl h' a' (iv .i64 (chW G w)) ∧ KB NoB h h' := by
 have hw4 : tagW w = 4 ∨ tagW w = 5 ∨ tagW w = 6 := by
  unfold leadW inB at hl
  simp only [Bool.and_eq_true, decide_eq_true_eq] at hl
  omega
 have hn5 : tagW w ≠ 5 → 0 ≤ (gwd G (valW w)).getD 0 ∧ (gwd G (valW w)).getD 0 ≤ 1000 := by
  intro h5
  rcases hw4 with h | h | h
  ·obtain ⟨v, e, a, b, _⟩ := hn.2.1 h; rw [e]; exact ⟨a, by simp; omega⟩
  ·exact absurd h h5
  ·obtain ⟨v, e, a, b⟩ := hn.1 h; rw [e]; exact ⟨a, by simp; omega⟩
 have xlt := x.2.2.2.lt
 have d := (Hs.start hb).inp (fun b => b < h.length) (fun y => GmB base gb oa ya G y) x (fun U y y' k hS q => ⟨cell_keepU q.1 k (hS _ hgb), cell_keepU q.2.1 k (hS _ hgb), cell_keepU q.2.2.1 k (hS _ hgb), q.2.2.2.keep k fun i hi => hS i (xlt i hi)⟩) (fun b hb => hb) (fun x hx => nomatch hx) rfl
 suffices W : Wp (run (Et base) 153 [.pointer (at0 gb), .int .i64 w] h) fun o => ∃ a', o.1 = .slice a' (chW G w).length (chW G w).length ∧ Sl o.2 a' (iv .i64 (chW G w)) ∧ KB NoB h o.2 by
  obtain ⟨⟨o1, o2⟩, e, a', y1, y2, y3⟩ := W
  simp only at y1 y2 y3
  subst y1
  exact ⟨a', o2, e, y2, y3⟩
 refine W.of (fun r hx => Am.r153 hx) ?_
 refine W.bs (implVal_run hwk.2) ?_
 ((try simp only [n1, n2, n3, n4, n5, n6] at d); (with_reducible repeat first | refine W.a1 d ?_ | refine W.a2 ?_ | refine W.a3 ?_ | refine W.bo ?_ | refine W.a5 d fun hw d lw kw => ?_ | refine W.a6 d ?_ | refine W.a7 ?_ | refine W.a8 ?_))
 by_cases t6 : tagW w = 6
 ·have ec : chW G w = [] := by unfold chW; rw [if_neg (by omega), if_neg (by omega)]
  rw [ec]
  refine W.join ?_
  refine W.bs implTag_run ?_
  ((try simp only [n1, n2, n3, n4, n5, n6] at d); (with_reducible repeat first | refine W.a1 d ?_ | refine W.a2 ?_ | refine W.a3 ?_ | refine W.bo ?_ | refine W.a5 d fun hw d lw kw => ?_ | refine W.a6 d ?_ | refine W.a7 ?_ | refine W.a8 ?_))
  refine W.ifT (by simp [t6]) ?_
  exact W.mp (W.ret ⟨none, rfl, .inl rfl, KB.refl _ _⟩)
 have fin : ∀ (i r : Nat), (i : Int) + r = wid G w → chW G w = (List.range r).map (fun (k : Nat) => (gwd G (valW w + (i : Int) + (k : Int))).getD 0) → Wp ((loopL (B153_0 base) [some (.pointer (at0 gb)), some (.int .i64 w), some (.int .i64 (valW w)), some (.slice none 0 0), some (.int .i64 (i : Int))] h).bind fun q10 => (if q10.1 = 3 then ((sget q10.2.1 0).bind getS).bind fun l11 => some ((Value.slice l11.1 l11.2 l11.2), q10.2.2) else none)) fun o => ∃ a', o.1 = .slice a' (chW G w).length (chW G w).length ∧ Sl o.2 a' (iv .i64 (chW G w)) ∧ KB NoB h o.2 := by
  intro i r hi he
  have d := d.call (KB.refl NoB _) (fun _ => False) (fun y => Own base 3 y none (iv .i64 [])) (.inl ⟨rfl, rfl⟩) (fun U y y' k hs x => Own.keep x k fun b hb => by obtain ⟨_, e, _⟩ := hb; cases e) (fun _ h => h.elim)
  refine W.wb (wordsOf_loop (base := base) hG hwk hn5 (fun y hy => hy) r i h [] none _ hi (by simp) (fun x hx => by obtain ⟨_, e, _⟩ := hx; cases e) d) ?_
  rintro ⟨o1, o2, h3⟩ ⟨l', a2, S', z1, z2, z3, z4⟩
  simp only at z1 z2 z4
  subst z1; subst z2
  refine W.ifT rfl ?_
  refine W.bS rfl (W.ret ⟨a2, ?_, ?_, z4.kb⟩)
  ·rw [he, z3]; rfl
  ·rw [he]
   have := Own.sl (z4.rs (i := 1) rfl)
   rw [z3] at this
   simpa using this
 by_cases t5 : tagW w = 5
 ·refine W.joinP (fun q => q = ([some (.pointer (at0 gb)), some (.int .i64 w), some (.int .i64 (valW w)), some (.int .i64 ((0 : Nat) : Int))], h)) ?_ fun q hq => ?_
  ·refine W.bs implTag_run ?_
   ((try simp only [n1, n2, n3, n4, n5, n6] at d); (with_reducible repeat first | refine W.a1 d ?_ | refine W.a2 ?_ | refine W.a3 ?_ | refine W.bo ?_ | refine W.a5 d fun hw d lw kw => ?_ | refine W.a6 d ?_ | refine W.a7 ?_ | refine W.a8 ?_))
   refine W.ifF (by simp [t5]) (W.ifT (by simp [t5]) (W.inl rfl))
  subst hq
  ((try simp only [n1, n2, n3, n4, n5, n6] at d); (with_reducible repeat first | refine W.a1 d ?_ | refine W.a2 ?_ | refine W.a3 ?_ | refine W.bo ?_ | refine W.a5 d fun hw d lw kw => ?_ | refine W.a6 d ?_ | refine W.a7 ?_ | refine W.a8 ?_))
  refine fin 0 2 (by unfold wid; rw [if_pos t5]; rfl) ?_
  unfold chW
  rw [if_pos t5]
  simp only [List.range_succ, List.range_zero, List.nil_append, List.map_append, List.map_cons, List.map_nil, List.cons_append, Int.natCast_zero, Int.add_zero]
  rfl
 ·have t4 : tagW w = 4 := by omega
  refine W.joinP (fun q => q = ([some (.pointer (at0 gb)), some (.int .i64 w), some (.int .i64 (valW w)), some (.int .i64 ((1 : Nat) : Int))], h)) ?_ fun q hq => ?_
  ·refine W.bs implTag_run ?_
   ((try simp only [n1, n2, n3, n4, n5, n6] at d); (with_reducible repeat first | refine W.a1 d ?_ | refine W.a2 ?_ | refine W.a3 ?_ | refine W.bo ?_ | refine W.a5 d fun hw d lw kw => ?_ | refine W.a6 d ?_ | refine W.a7 ?_ | refine W.a8 ?_))
   refine W.ifF (by simp [t4]) (W.ifF (by simp [t4]) (W.inl rfl))
  subst hq
  ((try simp only [n1, n2, n3, n4, n5, n6] at d); (with_reducible repeat first | refine W.a1 d ?_ | refine W.a2 ?_ | refine W.a3 ?_ | refine W.bo ?_ | refine W.a5 d fun hw d lw kw => ?_ | refine W.a6 d ?_ | refine W.a7 ?_ | refine W.a8 ?_))
  have := hn5 t5
  refine fin 1 ((gwd G (valW w)).getD 0).toNat (by unfold wid; rw [if_neg t5]; omega) ?_
  unfold chW
  rw [if_neg t5, if_pos t4]
  rfl
end Go.Proofs.Ytjmkbglnjklbcaa.Am
set_option linter.unusedSimpArgs false
set_option linter.unusedVariables false
namespace Go.Proofs.Ytjmkbglnjklbcaa.Am
open Go Go.RowKit
theorem chW_ok {G : Gn} (hG : G.Ok) {w x : Int} (h : x ∈ chW G w) : wOk x := by
 unfold chW at h
 split at h
 ·simp only [List.mem_cons, List.not_mem_nil, or_false] at h
  rcases h with rfl | rfl <;> exact gwd_getD hG _
 ·split at h
  ·obtain ⟨i, _, rfl⟩ := List.mem_map.1 h
   exact gwd_getD hG _
  ·cases h
def chkD (G : Gn) (n : Nat) (own : Int) (x : Int) : Bool := !(leadW x && decide (prt G (valW x) > own)) && dnW G n x
def DnR (base gb : Nat) (oa ya : Option Addr) (G : Gn) (n : Nat) : Prop := ∀ (h : AH) (w : Int), wOk w → Fue G n w → gb < h.length → GmB base gb oa ya G h → base ≤ h.length →
 ∃ h', run (Et base) 90 [.pointer (at0 gb), .int .i64 w] h = some (.bool (dnW G n w), h') ∧ KB NoB h h'
theorem downward_loop {base gb n : Nat} {G : Gn} {oa ya a' : Option Addr} {own : Int} {L : List Int} (hG : G.Ok) (hL : ∀ x ∈ L, wOk x ∧ Fue G n x) (hLl : L.length ≤ 9223372036854775807) (ih : DnR base gb oa ya G n) : ∀ (r i : Nat) (h : AH), i + r = L.length → gb < h.length → GmB base gb oa ya G h → Sl h a' (iv .i64 L) → base ≤ h.length →
  Wp (loopL (B90_0 base) [some (.pointer (at0 gb)), some (.int .i64 own), some (.slice a' L.length L.length), some (.int .i64 (L.length : Int)), some (.int .i64 (i : Int))] h) fun o => (if (L.drop i).all (chkD G n own) = true then o.1 = 2 else o.1 = 1 ∧ o.2.1 = [some (.bool false)]) ∧ KB NoB h o.2.2 := by
 intro r
 induction r with
 | zero =>
  intro i h hi hgb x hs hb
  suffices w1 : Wp (B90_0 base [some (.pointer (at0 gb)), some (.int .i64 own), some (.slice a' L.length L.length), some (.int .i64 (L.length : Int)), some (.int .i64 (i : Int))] h) fun o => o = (2, [], h) by
   obtain ⟨o, e, rfl⟩ := w1
   refine ⟨_, loop_off (by decide) e, ?_, KB.refl _ _⟩
   rw [List.drop_of_length_le (by omega)]
   rfl
  rw [B90_0_eq]
  exact W.ifF (by simp; omega) (W.ret rfl)
 | succ r ihr =>
  intro i h hi hgb x hs hb
  have hlt : i < L.length := by omega
  have hx := hL L[i] (List.getElem_mem _)
  have ed : L.drop i = L[i] :: L.drop (i + 1) := List.drop_eq_getElem_cons hlt
  suffices w1 : Wp (B90_0 base [some (.pointer (at0 gb)), some (.int .i64 own), some (.slice a' L.length L.length), some (.int .i64 (L.length : Int)), some (.int .i64 (i : Int))] h) fun o => (if chkD G n own L[i] = true then o.1 = 0 ∧ o.2.1 = [some (.pointer (at0 gb)), some (.int .i64 own), some (.slice a' L.length L.length), some (.int .i64 (L.length : Int)), some (.int .i64 ((i : Int) + 1))] else o.1 = 1 ∧ o.2.1 = [some (.bool false)]) ∧ KB NoB h o.2.2 by
   obtain ⟨⟨o1, o2, h'⟩, e, y1, k⟩ := w1
   simp only at y1 k
   cases hc : chkD G n own L[i] with
   | true =>
    rw [hc, if_pos rfl] at y1
    obtain ⟨y1, y2⟩ := y1
    subst y1; subst y2
    obtain ⟨o, eo, z1, z2⟩ := ihr (i + 1) h' (by omega) (Nat.lt_of_lt_of_le hgb k.1) (x.keepN k) (hs.keepN k) (Nat.le_trans hb k.1)
    refine ⟨o, loop_on e eo, ?_, kN k z2⟩
    rw [ed, List.all_cons, hc, Bool.true_and]
    exact z1
   | false =>
    rw [hc, if_neg (by decide)] at y1
    obtain ⟨y1, y2⟩ := y1
    subst y1; subst y2
    refine ⟨_, loop_off (by decide) e, ?_, k⟩
    rw [ed, List.all_cons, hc, Bool.false_and, if_neg (by decide)]
    exact ⟨rfl, rfl⟩
  rw [B90_0_eq]
  refine W.ifT (decide_eq_true (by omega)) (W.ifT (by omega) ?_)
  obtain ⟨ad, rfl, g⟩ := hs.int hlt
  refine W.bs rfl (W.bs (by rw [show Int.toNat (i : Int) * 1 = i from by simp]; exact g) ?_)
  have rr : ∃ h', run (Et base) 90 [.pointer (at0 gb), .int .i64 L[i]] h = some (.bool (dnW G n L[i]), h') ∧ KB NoB h h' := ih h L[i] hx.1 hx.2 hgb x hb
  obtain ⟨h1, e1, k1⟩ := rr
  refine W.joinP (fun q => q.1 = [some (.pointer (at0 gb)), some (.int .i64 own), some (.slice (some ad) L.length L.length), some (.int .i64 (L.length : Int)), some (.int .i64 (i : Int)), some (.bool (!chkD G n own L[i]))] ∧ KB NoB h q.2) ?_ fun q hq => ?_
  ·refine W.bs leads_run (W.bB rfl ?_)
   refine W.ite (fun c => ?_) (fun c => ?_)
   ·refine W.bs (implVal_run hx.1.2) (W.bI rfl ?_)
    refine W.bs (part_run (valW_ok hx.1) x) (W.bI rfl ?_)
    refine W.ite (fun c2 => ?_) (fun c2 => ?_)
    ·refine W.inl ⟨?_, KB.refl _ _⟩
     unfold chkD
     rw [c, c2]
     rfl
    ·have c2 : decide (prt G (valW L[i]) > own) = false := by simpa using c2
     refine W.bs e1 (W.bB rfl (W.inl ⟨?_, k1⟩))
     unfold chkD
     rw [c, c2]
     rfl
   ·have c : leadW L[i] = false := by simpa using c
    refine W.bs e1 (W.bB rfl (W.inl ⟨?_, k1⟩))
    unfold chkD
    rw [c]
    rfl
  obtain ⟨q1, q2⟩ := q
  obtain ⟨e, k⟩ := hq
  simp only at e k
  subst e
  cases hc : chkD G n own L[i] with
  | true =>
   simp only [Bool.not_true]
   refine W.bs rfl (W.bs rfl (W.bs rfl (W.bs rfl (W.bs rfl (W.bs rfl (W.ifF (by decide) (W.ret ⟨?_, k⟩)))))))
   rw [w64i (n := (i : Int) + 1) (by omega) (by omega), if_pos trivial]
   exact ⟨rfl, rfl⟩
  | false =>
   simp only [Bool.not_false]
   refine W.bs rfl (W.bs rfl (W.bs rfl (W.bs rfl (W.bs rfl (W.bs rfl (W.ifT rfl (W.ret ⟨?_, k⟩)))))))
   rw [if_neg (by decide)]
   exact ⟨rfl, rfl⟩
theorem downward_all {base gb : Nat} {G : Gn} {oa ya : Option Addr} (hG : G.Ok) : ∀ n, DnR base gb oa ya G n
 | 0 => fun h w _ hf => hf.elim
 | n + 1 => by
  intro h w hw hf hgb x hb
  have ih := downward_all (base := base) (gb := gb) (oa := oa) (ya := ya) hG n
  suffices W : Wp (run (Et base) 90 [.pointer (at0 gb), .int .i64 w] h) fun o => o.1 = .bool (dnW G (n + 1) w) ∧ KB NoB h o.2 by
   obtain ⟨⟨o1, o2⟩, e, y1, y2⟩ := W
   simp only at y1 y2
   subst y1
   exact ⟨o2, e, y2⟩
  refine W.of (fun r hx => Am.r90 hx) ?_
  refine W.bs leads_run (W.bB rfl ?_)
  refine W.ite (fun c => ?_) (fun c => ?_)
  ·have c : leadW w = false := by simpa using c
   refine W.ret ⟨?_, KB.refl _ _⟩
   rw [dnW, c]; rfl
  ·have c : leadW w = true := by simpa using c
   refine W.bs (implVal_run hw.2) (W.bI rfl ?_)
   refine W.bs (part_run (valW_ok hw) x) (W.bI rfl ?_)
   obtain ⟨a', h1, e1, s1, k1⟩ := wordsOf_run (base := base) hG hw c hf.1 hgb x hb
   refine W.bs e1 (W.bS rfl ?_)
   have hlen : (chW G w).length ≤ 8 := by
    unfold chW
    split
    ·show 2 ≤ 8; decide
    ·split
     ·rename_i t5 t4
      obtain ⟨v, e, a, b, _⟩ := hf.1.2.1 t4
      rw [e]; simp; omega
     ·simp
   refine W.wb (downward_loop (base := base) (own := prt G (valW w)) (L := chW G w) hG (fun y hy => ⟨chW_ok hG hy, hf.2 y hy⟩) (by omega) ih (chW G w).length 0 h1 (by omega) (Nat.lt_of_lt_of_le hgb k1.1) (x.keepN k1) s1 (Nat.le_trans hb k1.1)) ?_
   rintro ⟨o1, o2, h2⟩ ⟨y1, k2⟩
   simp only at y1 k2
   rw [List.drop_zero] at y1
   have ed : dnW G (n + 1) w = (chW G w).all (chkD G n (prt G (valW w))) := by rw [dnW, c]; rfl
   rw [ed]
   cases ha : (chW G w).all (chkD G n (prt G (valW w))) with
   | true =>
    rw [ha, if_pos rfl] at y1
    subst y1
    exact W.ifF (show ¬ (2 : Nat) = 1 by decide) (W.ifT rfl (W.ret ⟨rfl, kN k1 k2⟩))
   | false =>
    rw [ha, if_neg (by decide)] at y1
    obtain ⟨y1, y2⟩ := y1
    subst y1; subst y2
    exact W.ifT rfl (W.bB rfl (W.ret ⟨rfl, kN k1 k2⟩))
end Go.Proofs.Ytjmkbglnjklbcaa.Am
