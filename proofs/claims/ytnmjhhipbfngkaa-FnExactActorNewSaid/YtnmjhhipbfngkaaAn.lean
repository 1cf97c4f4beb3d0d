/- ActorNew: the reference's and the program's; the law FnExactActorNew.
Conditions: none. -/
import Derived.Test.YtnmjhhipbfngkaaAc
import Derived.Test.YtnmjhhipbfngkaaOk2
import Derived.Test.YtnmjhhipbfngkaaCp2
import Derived.Test.YtnmjhhipbfngkaaEnT
set_option linter.unusedSimpArgs false
set_option linter.unusedVariables false
namespace Go.Proofs.Ytnmjhhipbfngkaa.Am
open Go Go.RowKit

/-- The number nought. -/
abbrev tm0 : Tm := .mk 1 0 ⟨#[]⟩ []
theorem tm0D {f : Nat} {S : Fp} {h : AH} : TmD (f + 1) S h tm0 (termV 1 0 ⟨#[]⟩ none 0) := ⟨by decide, by decide, none, rfl, RowD.nil⟩
def newOk (f : Nat) (pid pc : Int) (t : Tm) : Bool := inB pid 1 99999 && (!decide (pc < 0) && tOk f t)
def newRegs (t : Tm) : Nat → List Tm
  | 0 => [t]
  | n + 1 => newRegs t n ++ [tm0]
theorem newRegs_len (t : Tm) : ∀ n, (newRegs t n).length = n + 1
  | 0 => rfl
  | n + 1 => by simp [newRegs, newRegs_len t n]
def newA (f : Nat) (pid pc : Int) (t : Tm) : Ac := if newOk f pid pc t = true then ⟨pid, pc, newRegs t 7, [], []⟩ else ⟨0, 0, [], [], []⟩

theorem q5 {base t n : Nat} {h : AH} {p c : Int} {a b g : Option Addr} {x y z : Nat} (o : Own base t h (at0 n) (acV p c a x b y g z)) {β : Type} {f : Int → Int → Option Addr × Nat → Option Addr × Nat → Option Addr × Nat → Option β} {r : Option β} (hf : f p c (a, x) (b, y) (g, z) = r) :
    (((Am.cell h n 0).bind (getI .i64)).bind fun n1 => ((Am.cell h n 1).bind (getI .i64)).bind fun n2 => ((Am.cell h n 2).bind getS).bind fun l3 => ((Am.cell h n 3).bind getS).bind fun l4 => ((Am.cell h n 4).bind getS).bind fun l5 => f n1 n2 l3 l4 l5) = r :=
  bI (o.at0 (i := 0) rfl) (bI (o.at0 (i := 1) rfl) (bS (o.at0 (i := 2) rfl) (bS (o.at0 (i := 3) rfl) (bS (o.at0 (i := 4) rfl) hf))))

theorem implNew_loop {base f b0 b1 : Nat} {t : Tm} {pid pc : Int} {lo : Nat} (hlo : base ≤ lo) (h1 : lo ≤ b1) : ∀ (d i : Nat) (h : AH) (ao : Option Addr) (vs : List Value) (T : Fp), i + d = 7 → b1 < h.length → Own base 29 h (at0 b1) (acV pid pc ao (i + 1) none 0 none 0) → Own base 32 h ao vs → vs.length = (i + 1) * 4 → Chunks 4 (TmD (f + 1)) T h (newRegs t i) vs → (∀ b, T b → lo ≤ b ∧ b < h.length ∧ b ≠ b1) → (∀ b, blk ao b → ¬ T b ∧ lo ≤ b ∧ b ≠ b1) →
    ∃ h' ao' vs' T', loopL (B14_0 base) [some (.pointer (at0 b0)), some (.pointer (at0 b1))] h = some (2, [some (.pointer (at0 b0)), some (.pointer (at0 b1))], h') ∧ Own base 29 h' (at0 b1) (acV pid pc ao' 8 none 0 none 0) ∧ Own base 32 h' ao' vs' ∧ vs'.length = 8 * 4 ∧ Chunks 4 (TmD (f + 1)) T' h' (newRegs t 7) vs' ∧
      (∀ b, T' b → lo ≤ b ∧ b < h'.length ∧ b ≠ b1) ∧ (∀ b, blk ao' b → ¬ T' b ∧ lo ≤ b ∧ b ≠ b1) ∧ KB (fun b => lo ≤ b ∧ (b = b1 ∨ blk ao b ∨ h.length ≤ b)) h h' := by
  intro d
  induction d with
  | zero =>
    intro i h ao vs T hi hb1 oa ow hv hc hT ha
    have hi' : i = 7 := by omega
    subst hi'
    refine ⟨h, ao, vs, T, ?_, oa, ow, hv, hc, hT, ha, KB.refl _ _⟩
    refine loop_off (by decide) ?_
    rw [B14_0_eq]
    exact bS (oa.at0 (i := 2) rfl) (ifF (by simp) rfl)
  | succ d ihd =>
    intro i h ao vs T hi hb1 oa ow hv hc hT ha
    obtain ⟨a3, h3, e3, o3, k3, b3, n3⟩ := app1 (bytes := 56) ow (n := i + 1) (sz := 4) (cs := termV 1 0 ⟨#[]⟩ none 0) hv rfl (by decide) rfl (by omega) (by omega) (by omega)
    have oa3 := oa.keep k3 fun b hb hk => by rw [blk_at0] at hb; exact (ha b hk).2.2 hb
    obtain ⟨h4, w4, oa4, k4, l4⟩ := oa3.wr0 (i := 2) (new := [.slice a3 (i + 1 + 1) (i + 1 + 1)]) (by simp) (by simp)
    have hset : setAt (acV pid pc ao (i + 1) none 0 none 0) 2 [.slice a3 (i + 1 + 1) (i + 1 + 1)] = acV pid pc a3 (i + 1 + 1) none 0 none 0 := rfl
    rw [hset] at oa4
    have hao : ∀ b, blk ao b → b < h.length := fun b hb => (ow.lt hb).2
    have ch := ((hc.snoc (vs' := vs ++ termV 1 0 ⟨#[]⟩ none 0) (S' := T) (T := fun _ => False) (tm0D (f := f)) (fun _ h => h.elim) (fun b hb => hb) (fun _ h => h.elim) (fun q hq => chunk_app_other (by rw [newRegs_len] at hq; have := mul_le' (w := 4) hq; omega)) (by
      rw [newRegs_len]
      exact chunk_app_self rfl hv)).keep (TmD.kp _) k3 (fun b hb hk => (ha b hk).1 hb)).keep (TmD.kp _) k4 (fun b hb hk => (hT b hb).2.2 hk)
    have o4 := o3.keepB k4 fun b hb => by have := b3 b hb; omega
    have k04 : KB (fun b => blk ao b ∨ b = b1) h h4 := KB.trans k3 k4 (fun _ _ h => .inl h) (fun _ _ h => .inr h)
    obtain ⟨h5, a5, vs5, T5, y1, y2, y3, y4, y5, y6, y7, y8⟩ := ihd (i + 1) h4 a3 (vs ++ termV 1 0 ⟨#[]⟩ none 0) T (by omega) (by omega) oa4 o4 (by simp; omega) ch (fun b hb => by have := hT b hb; exact ⟨this.1, by omega, this.2.2⟩) (fun b hb => by
      have := b3 b hb
      subst this
      exact ⟨fun hb => by have := hT _ hb; omega, by omega, by omega⟩)
    refine ⟨h5, a5, vs5, T5, ?_, y2, y3, y4, y5, y6, y7, KB.trans k04 y8 (fun b _ hb => ?_) (fun b hbl hb => ?_)⟩
    · refine loop_on ?_ y1
      rw [B14_0_eq]
      refine bS (oa.at0 (i := 2) rfl) (ifT (decide_eq_true (by simp; omega)) (bS (oa.at0 (i := 2) rfl) (lets fun y ey => ?_)))
      subst ey
      exact bs e3 (bS rfl (bs w4 rfl))
    · rcases hb with hb | hb
      · exact ⟨(ha b hb).2.1, .inr (.inl hb)⟩
      · exact ⟨by omega, .inl hb⟩
    · refine ⟨hb.1, ?_⟩
      rcases hb.2 with hb | hb | hb
      · exact .inl hb
      · have := b3 b hb; omega
      · omega
theorem specNew_loop {base f b0 b1 : Nat} {t : Tm} {pid pc : Int} {lo : Nat} (hlo : base ≤ lo) (h1 : lo ≤ b1) : ∀ (d i : Nat) (h : AH) (ao : Option Addr) (vs : List Value) (T : Fp), i + d = 7 → b1 < h.length → Own base 29 h (at0 b1) (acV pid pc ao (i + 1) none 0 none 0) → Own base 32 h ao vs → vs.length = (i + 1) * 4 → Chunks 4 (TmD (f + 1)) T h (newRegs t i) vs → (∀ b, T b → lo ≤ b ∧ b < h.length ∧ b ≠ b1) → (∀ b, blk ao b → ¬ T b ∧ lo ≤ b ∧ b ≠ b1) →
    ∃ h' ao' vs' T', loopL (B12_0 base) [some (.pointer (at0 b0)), some (.pointer (at0 b1)), some (.int .i64 ((i + 1 : Nat) : Int))] h = some (2, [some (.pointer (at0 b0)), some (.pointer (at0 b1))], h') ∧ Own base 29 h' (at0 b1) (acV pid pc ao' 8 none 0 none 0) ∧ Own base 32 h' ao' vs' ∧ vs'.length = 8 * 4 ∧ Chunks 4 (TmD (f + 1)) T' h' (newRegs t 7) vs' ∧
      (∀ b, T' b → lo ≤ b ∧ b < h'.length ∧ b ≠ b1) ∧ (∀ b, blk ao' b → ¬ T' b ∧ lo ≤ b ∧ b ≠ b1) ∧ KB (fun b => lo ≤ b ∧ (b = b1 ∨ blk ao b ∨ h.length ≤ b)) h h' := by
  intro d
  induction d with
  | zero =>
    intro i h ao vs T hi hb1 oa ow hv hc hT ha
    have hi' : i = 7 := by omega
    subst hi'
    refine ⟨h, ao, vs, T, ?_, oa, ow, hv, hc, hT, ha, KB.refl _ _⟩
    refine loop_off (by decide) ?_
    rw [B12_0_eq]
    exact ifF (by decide) rfl
  | succ d ihd =>
    intro i h ao vs T hi hb1 oa ow hv hc hT ha
    obtain ⟨oz, kz, nz⟩ := box_own (base := base) (t := 32) (h := h) (cs := termV 1 0 ⟨#[]⟩ none 0) (by omega) rfl
    generalize hhz : h ++ [some (⟨termV 1 0 ⟨#[]⟩ none 0, 32⟩ : Blk)] = hz at oz kz nz
    have ez : run (Et base) 65 [.int .i64 0] h = some (.agg (termV 1 0 ⟨#[]⟩ none 0).toArray, hz) := by
      refine r65 (nw (by omega) rfl fun y ey => ?_)
      rw [hhz] at ey
      subst ey
      exact q4 oz rfl
    have oaz := oa.keepN kz
    obtain ⟨a3, h3, e3, o3, k3, b3, n3⟩ := app1 (bytes := 56) (ow.keepN kz) (n := i + 1) (sz := 4) (cs := termV 1 0 ⟨#[]⟩ none 0) hv rfl (by decide) rfl (by omega) (by omega) (by omega)
    have oa3 := oaz.keep k3 fun b hb hk => by rw [blk_at0] at hb; exact (ha b hk).2.2 hb
    obtain ⟨h4, w4, oa4, k4, l4⟩ := oa3.wr0 (i := 2) (new := [.slice a3 (i + 1 + 1) (i + 1 + 1)]) (by simp) (by simp)
    have hset : setAt (acV pid pc ao (i + 1) none 0 none 0) 2 [.slice a3 (i + 1 + 1) (i + 1 + 1)] = acV pid pc a3 (i + 1 + 1) none 0 none 0 := rfl
    rw [hset] at oa4
    have hao : ∀ b, blk ao b → b < h.length := fun b hb => (ow.lt hb).2
    have ch := (((hc.keep (TmD.kp _) kz fun _ _ h => h).snoc (vs' := vs ++ termV 1 0 ⟨#[]⟩ none 0) (S' := T) (T := fun _ => False) (tm0D (f := f)) (fun _ h => h.elim) (fun b hb => hb) (fun _ h => h.elim) (fun q hq => chunk_app_other (by rw [newRegs_len] at hq; have := mul_le' (w := 4) hq; omega)) (by
      rw [newRegs_len]
      exact chunk_app_self rfl hv)).keep (TmD.kp _) k3 (fun b hb hk => (ha b hk).1 hb)).keep (TmD.kp _) k4 (fun b hb hk => (hT b hb).2.2 hk)
    have o4 := o3.keepB k4 fun b hb => by have := b3 b hb; omega
    have k04 : KB (fun b => blk ao b ∨ b = b1) h h4 := KB.trans (KB.trans kz k3 (fun _ _ h => h.elim) (fun _ _ h => h)) k4 (fun _ _ h => .inl h) (fun _ _ h => .inr h)
    obtain ⟨h5, a5, vs5, T5, y1, y2, y3, y4, y5, y6, y7, y8⟩ := ihd (i + 1) h4 a3 (vs ++ termV 1 0 ⟨#[]⟩ none 0) T (by omega) (by omega) oa4 o4 (by simp; omega) ch (fun b hb => by have := hT b hb; exact ⟨this.1, by omega, this.2.2⟩) (fun b hb => by
      have := b3 b hb
      subst this
      exact ⟨fun hb => by have := hT _ hb; omega, by omega, by omega⟩)
    refine ⟨h5, a5, vs5, T5, ?_, y2, y3, y4, y5, y6, y7, KB.trans k04 y8 (fun b _ hb => ?_) (fun b hbl hb => ?_)⟩
    · refine loop_on ?_ y1
      rw [B12_0_eq]
      refine ifT (decide_eq_true (by omega)) (bS (oa.at0 (i := 2) rfl) (bs ez (bs (v := termV 1 0 ⟨#[]⟩ none 0) rfl (bI rfl (bI rfl (bT rfl (bS rfl ?_)))))))
      rw [gate_pos (same_keep kz (oa.at0 (i := 2) rfl)), gate_pos (by
        intro x hx
        injection hx with hx
        subst hx
        show b1 ≠ hz.length
        omega)]
      refine lets fun y ey => ?_
      subst ey
      refine bs e3 (bS rfl (bs w4 ?_))
      rw [w64i (n := ((i + 1 : Nat) : Int) + 1) (by omega) (by omega)]
      rfl
    · rcases hb with hb | hb
      · exact ⟨(ha b hb).2.1, .inr (.inl hb)⟩
      · exact ⟨by omega, .inl hb⟩
    · refine ⟨hb.1, ?_⟩
      rcases hb.2 with hb | hb | hb
      · exact .inl hb
      · have := b3 b hb; omega
      · omega

theorem newOk_join {base f b0 b1 F : Nat} (hF : ∀ (h : AH) (p : Nat → Prop) (k n : Int) (s : ByteArray) (a : Option Addr) (m : Nat) (t : Tm), TmR h p f t (termV k n s a m) → base ≤ h.length → ∃ h', run (Et base) F [.agg (termV k n s a m).toArray] h = some (.bool (tOk f t), h') ∧ KB NoB h h') {h : AH} {p : Nat → Prop} {t : Tm} {pid pc k n : Int} {s : ByteArray} {a : Option Addr} {m : Nat} (hb : base ≤ h.length) (o : Own base 32 h (at0 b0) (termV k n s a m)) (ht : TmR h p f t (termV k n s a m)) :
    ∃ h', (if (!inB pid 1 99999) = true then
some (.inl ([some (.int .i64 pid), some (.int .i64 pc), some (.pointer (at0 b0)), some (.pointer (at0 b1)), some (.bool true)], h))
else
(if (decide (pc < (0 : Int))) = true then
some (.inl ([some (.int .i64 pid), some (.int .i64 pc), some (.pointer (at0 b0)), some (.pointer (at0 b1)), some (.bool true)], h))
else
((cell h b0 0).bind (getI .i64)).bind fun n6 =>
((cell h b0 1).bind (getI .i64)).bind fun n7 =>
((cell h b0 2).bind getStr).bind fun s8 =>
((cell h b0 3).bind getS).bind fun l9 =>
(run (Et base) F [(.agg #[(.int .i64 n6), (.int .i64 n7), (.string s8), (.slice l9.1 l9.2 l9.2)])] h).bind fun r10 =>
((some r10.1).bind getB).bind fun b11 =>
some (.inl ([some (.int .i64 pid), some (.int .i64 pc), some (.pointer (at0 b0)), some (.pointer (at0 b1)), some (.bool (!b11))], r10.2)))) = some (Sum.inl (([some (.int .i64 pid), some (.int .i64 pc), some (.pointer (at0 b0)), some (.pointer (at0 b1)), some (.bool (!newOk f pid pc t))], h') : Slots × AH) : Sum (Slots × AH) (Value × AH)) ∧ KB NoB h h' := by
  unfold newOk
  cases c1 : inB pid 1 99999 with
  | false => exact ⟨h, ifT rfl rfl, KB.refl _ _⟩
  | true =>
    cases c2 : decide (pc < 0) with
    | true => exact ⟨h, ifF (by decide) (ifT rfl rfl), KB.refl _ _⟩
    | false =>
      obtain ⟨h', e, k⟩ := hF h p k n s a m t ht hb
      refine ⟨h', ifF (by decide) (ifF (by decide) (q4 o (bs e (bB rfl ?_)))), k⟩
      simp

theorem newTail {base f : Nat} {h h1 : AH} {t : Tm} {pid pc : Int} {a : Option Addr} {n : Nat} (hb : base ≤ h.length) (hk : KB NoB h h1) {ad : Option Addr} {vs : List Value} {T : Fp} (hn : n = (newRegs t 7).length) (ow : Own base 32 h1 ad vs) (hv : vs.length = 8 * 4) (hc : Chunks 4 (TmD (f + 1)) T h1 (newRegs t 7) vs) (hT : ∀ b, T b → h.length ≤ b ∧ b < h1.length) (ha : ∀ b, blk ad b → ¬ T b ∧ h.length ≤ b) :
    AcD base (f + 1) (iS h.length h1.length) h1 ⟨pid, pc, newRegs t 7, [], []⟩ (acV pid pc ad 8 none 0 none 0) := by
  have hl := newRegs_len t 7
  refine ⟨ad, none, none, iS h.length h1.length, fun _ => False, fun _ => False, by simp only [hl]; rfl, ⟨vs, T, ow.sl, by rw [hl]; exact hv, .inr fun b hb' => ⟨⟨(ha b hb').2, (ow.lt hb').2⟩, (ha b hb').1⟩, fun b hb' => hT b hb', hc⟩, RowD.nil, .inl ⟨rfl, rfl⟩, fun x hx => ?_, fun _ h => h, fun _ h => h.elim, fun _ h => h.elim, fun _ _ h => h, fun _ _ h => h, fun _ _ h => h⟩
  obtain ⟨_, e, _⟩ := hx
  cases e

def NewRun (base f F : Nat) : Prop := ∀ (h : AH) (p : Nat → Prop) (t : Tm) (cs : List Value) (pid pc : Int), TmR h p (f + 1) t cs → TmB (f + 1) t → base ≤ h.length → (∀ b, p b → b < h.length) →
    ∃ cs' h', run (Et base) F [.int .i64 pid, .int .i64 pc, .agg cs.toArray] h = some (.agg cs'.toArray, h') ∧ AcD base (f + 1) (iS h.length h'.length) h' (newA (f + 1) pid pc t) cs' ∧ KB NoB h h'

theorem zeroD {base f : Nat} {S : Fp} {h : AH} : AcD base f S h ⟨0, 0, [], [], []⟩ (acV 0 0 none 0 none 0 none 0) := by
  refine ⟨none, none, none, fun _ => False, fun _ => False, fun _ => False, rfl, RowD.nil, RowD.nil, .inl ⟨rfl, rfl⟩, fun x hx => ?_, fun _ h => h.elim, fun _ h => h.elim, fun _ h => h.elim, fun _ _ h => h, fun _ _ h => h, fun _ _ h => h⟩
  obtain ⟨_, e, _⟩ := hx
  cases e
end Go.Proofs.Ytnmjhhipbfngkaa.Am
