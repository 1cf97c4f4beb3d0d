/- The law FnExactGetCode.
Conditions: none. -/
import Derived.Test.YtnmjhhipbfngkaaGg
import Derived.DataShut
set_option linter.unusedSimpArgs false
set_option linter.unusedVariables false
namespace Go.Proofs.Ytnmjhhipbfngkaa.Am
open Go Go.RowKit

theorem getCode_law {base : Nat} {h : AH} {a : Option Addr} {zs : List Int} (hs : Sl h a (iv .u8 zs)) (hw : ∀ n ∈ zs, (Lit.int .u8 n).wf = true) (hb : base ≤ h.length) :
    ∃ h', run (Et base) 5 [.slice a zs.length zs.length] h = some (.bool true, h') := by
  by_cases hbig : ((zs.length : Nat) : Int) > 1048576
  · exact ⟨h, r5 (ifT (decide_eq_true hbig) rfl)⟩
  have hl : zs.length ≤ 1048576 := by omega
  have hz : ∀ z ∈ zs, 0 ≤ z ∧ z ≤ 255 := fun z hz' => by
    have := (Lit.wf_int_iff .u8 z).1 (hw z hz')
    simp only [IntKind.min, IntKind.max, IntKind.signed, IntKind.bits] at this
    simp at this
    omega
  have hss : ∀ {h' : AH} {S : Nat → Prop}, KB S h h' → (∀ b, S b → h.length ≤ b) → Sl h' a (iv .u8 zs) := fun k hS => by
    by_cases hne : iv .u8 zs = []
    · exact .inl hne
    · exact hs.keep k fun b hb' hk => by have := sl_lt hs hne hb'; have := hS b hk; omega
  obtain ⟨a1, h1, e1, o1, k1, f1⟩ := toByteS_run (base := base) hs hl hb
  have n1 := k1.1
  obtain ⟨aw, h3, e3, ow, fw, k3⟩ := specGetCode_run (base := base) hz hl o1.sl (TyOk.own o1) (by omega)
  have n3 := k3.1
  have k03 := kN k1 k3
  obtain ⟨ax, h7, e7, ox, k7, fx⟩ := toByteS_run (base := base) (hss k03 fun _ h => h.elim) hl (by omega)
  have n7 := k7.1
  obtain ⟨ag, h9, e9, og, fg, l200, k9⟩ := implGetCode_run (base := base) hz hl ox.sl (TyOk.own ox) (by omega)
  have n9 := k9.1
  rw [res_eq hz] at e9 og l200
  generalize hres : resS zs = res at e3 ow e9 og l200
  obtain ⟨l, ok⟩ := res
  simp only at e3 ow e9 og l200
  have ow9 := (ow.keepN k7).keepN k9
  have k09 := kN (kN k03 k7) k9
  obtain ⟨h14, e14, k14⟩ := eqInsS_run (base := base) (by omega) og.sl ow9.sl (by omega)
  have n14 := k14.1
  obtain ⟨ay, h23, e23, oy, k23, fy⟩ := toByteS_run (base := base) (hss (kN k09 k14) fun _ h => h.elim) hl (by omega)
  have n23 := k23.1
  have k923 := kN k14 k23
  have ox23 := (ox.keepN k9).keepN k923
  have e25 := eqByteS_run (base := base) ox23.sl oy.sl (by omega)
  rw [decide_eq_true rfl] at e25
  obtain ⟨h27, e27, ox27, k27⟩ := markByteS_run (k := 1) ox23 (by omega) (by omega)
  have n27 := k27.1
  have xlo : ∀ b, blk ax b → h3.length ≤ b ∧ b < h7.length := fun b hb' => ⟨fx b hb', (ox.lt hb').2⟩
  have glo : ∀ b, blk ag b → h7.length ≤ b ∧ b < h9.length := fun b hb' => ⟨fg b hb', (og.lt hb').2⟩
  have wlo : ∀ b, blk aw b → b < h3.length := fun b hb' => (ow.lt hb').2
  have og27 := (og.keepN k923).keep k27 fun b h1 h2 => by have := xlo b h2; have := glo b h1; omega
  have ow27 := (ow9.keepN k923).keep k27 fun b h1 h2 => by have := xlo b h2; have := wlo b h1; omega
  obtain ⟨h30, e30, k30⟩ := eqInsS_run (base := base) (by omega) og27.sl ow27.sl (by omega)
  have n30 := k30.1
  obtain ⟨ys, h37, e37, og37, len37, m37, k37⟩ := markInsS_run (base := base) (k := 1) (by omega) (og27.keepN k30) (by decide) (by omega)
  have n37 := k37.1
  have hm : ∀ j : Nat, j < ys.length → ys[j]? = some (markI (1 + 6 * (j : Int))) := fun j hj => m37 j (by omega)
  obtain ⟨h39, e39, k39⟩ := heldInsS_run (base := base) (k := 1) (by decide) (by omega) hm og37.sl (by omega)
  have n39 := k39.1
  rw [len37] at e39
  have ow37 := (ow27.keepN k30).keep k37 fun b h1 h2 => by have := glo b h2; have := wlo b h1; omega
  have k039 : KB (fun b => h3.length ≤ b) h h39 := KB.trans (KB.trans (KB.trans (KB.mono (kN k09 k923) fun _ _ h => h.elim) k27 (fun _ _ h => h) (fun b _ hb => (xlo b hb).1)) (kNB k30 k37) (fun _ _ h => h) (fun b _ hb => by have := glo b hb; omega)) k39 (fun _ _ h => h) (fun _ _ h => h.elim)
  obtain ⟨az, h41, e41, oz, k41, fz⟩ := toByteS_run (base := base) (hss k039 fun b hb' => by omega) hl (by omega)
  have n41 := k41.1
  obtain ⟨av, h43, e43, ov, fv, _, k43⟩ := implGetCode_run (base := base) hz hl oz.sl (TyOk.own oz) (by omega)
  have n43 := k43.1
  rw [res_eq hz, hres] at e43 ov
  simp only at e43 ov
  have ow43 := ((ow37.keepN k39).keepN k41).keepN k43
  obtain ⟨h48, e48, k48⟩ := eqInsS_run (base := base) (by omega) ov.sl ow43.sl (by omega)
  have n48 := k48.1
  have og48 := ((((og37.keepN k39).keepN k41).keepN k43).keepN k48)
  obtain ⟨h53, e53, k53⟩ := heldInsS_run (base := base) (k := 1) (by decide) (by omega) hm og48.sl (by omega)
  rw [len37] at e53
  refine ⟨h53, r5 (ifF (by simpa using hbig) (bs e1 (bS rfl (bs e3 (bs rfl (bS rfl (bB rfl (bs e7 (bS rfl (bs e9 (bs rfl (bS rfl (bB rfl ?_)))))))))))))⟩
  refine bj (q := ([some (.slice a zs.length zs.length), some (.slice aw l.length l.length), some (.bool ok), some (.slice ax zs.length zs.length), some (.slice ag l.length l.length), some (.bool ok), some (.bool false)], h14)) ?_ ?_
  · refine bs e14 (bB rfl (ifF (by decide) ?_))
    simp
  · refine bS rfl (bS rfl (bB rfl (bS rfl (bS rfl (bB rfl (bB rfl (ifF (by decide) ?_)))))))
    refine bs e23 (bS rfl (bs e25 (bB rfl (ifF (by decide) (bs e27 (bI rfl ?_))))))
    refine bj (q := ([some (.slice a zs.length zs.length), some (.slice aw l.length l.length), some (.bool ok), some (.slice ag l.length l.length), some (.bool false)], h30)) ?_ ?_
    · refine ifF (by simp; omega) (bs e30 (bB rfl (ifF (by decide) ?_)))
      simp
    · refine bS rfl (bS rfl (bB rfl (bS rfl (bB rfl (ifF (by decide) ?_)))))
      refine bs e37 (bI rfl (bs e39 (bI rfl (ifF (by simp; omega) (ifF (by simp) ?_)))))
      refine bs e41 (bS rfl (bs e43 (bs rfl (bS rfl (bB rfl ?_)))))
      refine bj (q := ([some (.slice ag l.length l.length), some (.int .i64 (1 + 6 * (l.length : Int))), some (.bool false)], h48)) ?_ ?_
      · refine bs e48 (bB rfl (ifF (by decide) ?_))
        simp
      · refine bS rfl (bI rfl (bB rfl (ifF (by decide) ?_)))
        exact bs e53 (bI rfl (ifF (by simp; omega) (ifF (by simp) rfl)))
end Go.Proofs.Ytnmjhhipbfngkaa.Am
