/- The law FnExactPutCode.
Conditions: none. -/
import Derived.Test.YtnmjhhipbfngkaaPc
import Derived.Test.YtnmjhhipbfngkaaEnI
set_option linter.unusedSimpArgs false
set_option linter.unusedVariables false
namespace Go.Proofs.Ytnmjhhipbfngkaa.Am
open Go Go.RowKit

theorem putCode_law {base : Nat} {h : AH} {l : List In} {a : Option Addr} (hL : ∀ x ∈ l, x.s.size ≤ 9223372036854775807) (hl : l.length ≤ 9223372036854775807) (hs : Sl h a (insR l)) (hb : base ≤ h.length) :
    ∃ h', run (Et base) 4 [.slice a l.length l.length] h = some (.bool true, h') := by
  obtain ⟨z, h1, e1, k1, hz⟩ := szInsS_run (base := base) hL hl hs hb
  have n1 := k1.1
  by_cases hneg : z < 0
  · exact ⟨h1, r4 (bs e1 (bI rfl (ifT (decide_eq_true hneg) rfl)))⟩
  obtain ⟨hlen, _⟩ := hz hneg
  have hpl := pcB_len l
  obtain ⟨h3, e3, o3, k3, m3⟩ := toInsS_run (base := base) hlen (hs.keepN k1) (by omega)
  have n3 := k3.1
  obtain ⟨aw, h5, e5, ow, fw, k5⟩ := specPutCode_run (base := base) hL hl o3.sl (by omega)
  have n5 := k5.1
  have k05 := kN (kN k1 k3) k5
  obtain ⟨h7, e7, ox, k7, m7⟩ := toInsS_run (base := base) hlen (hs.keepN k05) (by omega)
  have n7 := k7.1
  obtain ⟨ag, h9, e9, og, fg, k9⟩ := implPutCode_run (base := base) hL hl ox.sl (by omega)
  have n9 := k9.1
  have ow9 := (ow.keepN k7).keepN k9
  have e11 := eqByteS_run (base := base) og.sl ow9.sl (by omega)
  rw [decide_eq_true rfl] at e11
  have k09 := kN (kN k05 k7) k9
  obtain ⟨h13, e13, oy, k13, m13⟩ := toInsS_run (base := base) hlen (hs.keepN k09) (by omega)
  have n13 := k13.1
  have ox13 := (ox.keepN k9).keepN k13
  obtain ⟨h15, e15, k15⟩ := eqInsS_run (base := base) hl ox13.sl oy.sl (by omega)
  have n15 := k15.1
  obtain ⟨ys, h17, e17, ox17, _, _, k17⟩ := markInsS_run (base := base) (k := 1) hlen (ox13.keepN k15) (by decide) (by omega)
  have n17 := k17.1
  have xb : ∀ b, blk (at0 h5.length) b → b = h5.length := fun b hb => blk_at0.1 hb
  have glo : ∀ b, blk ag b → h7.length ≤ b ∧ b < h9.length := fun b hb' => ⟨fg b hb', (og.lt hb').2⟩
  have wlo : ∀ b, blk aw b → b < h5.length := fun b hb' => (ow.lt hb').2
  have k915 := kN k13 k15
  have og17 := (og.keepN k915).keep k17 fun b h1 h2 => by have := xb b h2; have := glo b h1; omega
  have ow17 := (ow9.keepN k915).keep k17 fun b h1 h2 => by have := xb b h2; have := wlo b h1; omega
  have e20 := eqByteS_run (base := base) og17.sl ow17.sl (by omega)
  rw [decide_eq_true rfl] at e20
  obtain ⟨h26, e26, og26, k26⟩ := markByteS_run (k := 1) og17 (by omega) (by omega)
  have n26 := k26.1
  have e28 := heldByteS_run (base := base) (k := 1) og26.sl (by omega) (by omega)
  have k0 : KB (fun b => h5.length ≤ b) h h26 := KB.trans (KB.trans (KB.mono (kN k09 k915) fun _ _ h => h.elim) k17 (fun _ _ h => h) (fun b _ hb => by have := xb b hb; omega)) k26 (fun _ _ h => h) (fun b _ hb => by have := glo b hb; omega)
  have s26 : Sl h26 a (insR l) := by
    by_cases hne : insR l = []
    · exact .inl hne
    · exact hs.keep k0 fun b hb' hk => by have := sl_lt hs hne hb'; omega
  obtain ⟨h30, e30, oz, k30, m30⟩ := toInsS_run (base := base) hlen s26 (by omega)
  have n30 := k30.1
  obtain ⟨av, h32, e32, ov, fv, k32⟩ := implPutCode_run (base := base) hL hl oz.sl (by omega)
  have ow32 := ((ow17.keep k26 fun b h1 h2 => by have := glo b h2; have := wlo b h1; omega).keepN k30).keepN k32
  have e34 := eqByteS_run (base := base) ov.sl ow32.sl (by omega)
  rw [decide_eq_true rfl] at e34
  have e36 := heldByteS_run (base := base) (k := 1) ((og26.keepN k30).keepN k32).sl (by omega) (by omega)
  refine ⟨h32, r4 (bs e1 (bI rfl (ifF (by simpa using hneg) ?_)))⟩
  refine bs e3 (bS rfl (bs e5 (bS rfl (bs e7 (bS rfl (bs e9 (bS rfl (bs e11 (bB rfl (ifF (by decide) ?_))))))))))
  refine bs e13 (bS rfl (bs e15 (bB rfl (ifF (by decide) (bs e17 (bI rfl ?_))))))
  refine bj (q := ([some (.slice a l.length l.length), some (.slice aw (pcB l).length (pcB l).length), some (.slice ag (pcB l).length (pcB l).length), some (.bool false)], h17)) ?_ ?_
  · exact ifF (by simp; omega) (bs e20 (bB rfl rfl))
  · refine bS rfl (bS rfl (bS rfl (bB rfl (ifF (by decide) ?_))))
    refine bs e26 (bI rfl (bs e28 (bI rfl (ifF (by simp; omega) (ifF (by simp) ?_)))))
    refine bs e30 (bS rfl (bs e32 (bS rfl (bs e34 (bB rfl (ifF (by decide) ?_))))))
    exact bs e36 (bI rfl (ifF (by simp; omega) (ifF (by simp) rfl)))
theorem putCode_entry {base : Nat} {h : AH} {f : Nat} {u : Value} (x : Rd Try.prog h f 39 [u]) (hb : base ≤ h.length) : ∃ h', run (Et base) 4 [u] h = some (.bool true, h') := by
  obtain ⟨a, l, rfl, hl, hs, hL⟩ := rd_ins x
  simp only [maxLen] at hl hL
  exact putCode_law (fun x hx => by have := hL x hx; omega) (by omega) hs hb
end Go.Proofs.Ytnmjhhipbfngkaa.Am
