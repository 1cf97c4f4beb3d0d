/- Appends, calls, and all operations in one.
Conditions: the tables tell the program's types; what a called function does is given. -/
import Derived.Test.YtgigdaijailfkaaAm10
import Derived.Laws.BytesString
set_option linter.unusedSimpArgs false
set_option linter.unusedVariables false
namespace Go.Proofs.Ytgigdaijailfkaa.Am
open Go Go.RowKit

/-- What a call's recursion must bear. -/
def RecOk (E : Env) (w0 : World) (rec : Rec) : Prop :=
  ∀ f args h v h', rec f args h = some (v, h') → ∀ φ w (args' : List Value), HR E.P E.base w0 φ h w → args.length = args'.length →
    (∀ (i : Nat) (x y : Value), args[i]? = some x → args'[i]? = some y → VR E.P E.base φ h.length w x y) →
    Calls E.P f args'.toArray w fun e w' => ∃ u φ', e = .returned u ∧ Ext φ h w φ' h' w' ∧ HR E.P E.base w0 φ' h' w' ∧ VR E.P E.base φ' h'.length w' v u

theorem getAgg_some {n : Nat} {v : Value} {l : List Value} (h : getAgg n v = some l) : v = .agg l.toArray ∧ l.length = n := by
  cases v <;> simp only [getAgg] at h <;> first | (cases h; done) | skip
  rename_i cs
  cases hb : Nat.beq cs.toList.length n with
  | false => rw [hb] at h; cases h
  | true => rw [hb] at h; injection h with h; subst h; exact ⟨rfl, Nat.eq_of_beq_eq_true hb⟩
theorem getTup_some {n : Nat} {v : Value} {l : List Value} (h : getTup n v = some l) : v = .tuple l.toArray ∧ l.length = n := by
  cases v <;> simp only [getTup] at h <;> first | (cases h; done) | skip
  rename_i cs
  cases hb : Nat.beq cs.toList.length n with
  | false => rw [hb] at h; cases h
  | true => rw [hb] at h; injection h with h; subst h; exact ⟨rfl, Nat.eq_of_beq_eq_true hb⟩

theorem viewV_some {R : Type} {sh : Bool × List K} {v : Option Value} {c : Value → Option R} {r : R} (h : viewV sh v c = some r) :
    ∃ x y, v = some x ∧ c y = some r ∧ ∀ P base φ n w u, VR P base φ n w x u → VR P base φ n w y u := by
  obtain ⟨b, ks⟩ := sh
  cases b with
  | false =>
    match ks, h with
    | [k], h =>
      obtain ⟨x, y, h1, h2, h3⟩ := viewO_some h
      exact ⟨x, y, h1, h2, fun P base φ n w u hr => h3 P base φ n w u fun _ => hr⟩
    | [], h => simp [viewV] at h
    | _ :: _ :: _, h => simp [viewV] at h
  | true =>
    simp only [viewV] at h
    cases v with
    | none => cases h
    | some x =>
      simp only [Option.bind_some] at h
      cases hl : getAgg ks.length x with
      | none => rw [hl] at h; cases h
      | some l =>
        rw [hl] at h
        simp only [Option.bind_some] at h
        obtain ⟨rfl, hlen⟩ := getAgg_some hl
        obtain ⟨vs, h1, h2, h3⟩ := viewMany_some h
        refine ⟨_, _, rfl, h2, fun P base φ n w u hr => ?_⟩
        obtain ⟨ys, rfl, hs, hr'⟩ := hr.agg_inv
        refine .agg _ _ (by simp at hs ⊢; omega) fun i y z hy hz => ?_
        obtain ⟨x', hx', hr2⟩ := h3 i y (by simpa using hy)
        rw [Nat.zero_add] at hx'
        exact hr2 _ _ _ _ _ _ fun _ => hr' i x' z (by simpa using hx') hz

theorem viewTup_some {R : Type} {l : List Value} : ∀ {shs : List (Bool × List K)} {o : Nat} {c : List Value → Option R} {r : R}, viewTup l o shs c = some r →
    ∃ vs, vs.length = shs.length ∧ c vs = some r ∧ ∀ (i : Nat) (y : Value), vs[i]? = some y → ∃ x, l[o + i]? = some x ∧ ∀ P base φ n w u, VR P base φ n w x u → VR P base φ n w y u
  | [], o, c, r, h => ⟨[], rfl, h, fun i y hy => by simp at hy⟩
  | k :: ks, o, c, r, h => by
    simp only [viewTup] at h
    obtain ⟨x, y, hx, hc, hr⟩ := viewV_some h
    obtain ⟨vs, hl, hc2, hv⟩ := viewTup_some hc
    refine ⟨y :: vs, by simp [hl], hc2, fun i z hz => ?_⟩
    cases i with
    | zero => simp at hz; subst hz; exact ⟨x, hx, hr⟩
    | succ i =>
      simp only [List.getElem?_cons_succ] at hz
      obtain ⟨x', hx', hr'⟩ := hv i z hz
      exact ⟨x', by rw [← hx']; congr 1; omega, hr'⟩

theorem viewRes_some {R : Type} {rs : List (Bool × List K)} {v : Value} {c : Value → Option R} {r : R} (h : viewRes rs v c = some r) :
    ∃ y, c y = some r ∧ ∀ P base φ n w u, VR P base φ n w v u → VR P base φ n w y u := by
  rcases rs with _ | ⟨sh, _ | ⟨sh2, rr⟩⟩
  · simp only [viewRes] at h
    cases hl : getTup 0 v with
    | none => rw [hl] at h; cases h
    | some l =>
      rw [hl] at h
      obtain ⟨rfl, hlen⟩ := getTup_some hl
      have : l = [] := List.eq_nil_of_length_eq_zero hlen
      subst this
      exact ⟨undef, h, fun P base φ n w u hr => hr⟩
  · obtain ⟨x, y, hx, hc, hr⟩ := viewV_some (show viewV sh (some v) c = some r from h)
    injection hx with hx
    subst hx
    exact ⟨y, hc, hr⟩
  · simp only [viewRes] at h
    cases hl : getTup (sh :: sh2 :: rr).length v with
    | none => rw [hl] at h; cases h
    | some l =>
      rw [hl] at h
      simp only [Option.bind_some] at h
      obtain ⟨rfl, hlen⟩ := getTup_some hl
      obtain ⟨vs, h1, h2, h3⟩ := viewTup_some h
      refine ⟨_, h2, fun P base φ n w u hr => ?_⟩
      obtain ⟨ys, rfl, hs, hr'⟩ := hr.tup_inv
      refine .tup _ _ (by simp at hs ⊢; omega) fun i y z hy hz => ?_
      obtain ⟨x', hx', hr2⟩ := h3 i y (by simpa using hy)
      rw [Nat.zero_add] at hx'
      exact hr2 _ _ _ _ _ _ (hr' i x' z (by simpa using hx') hz)

section
variable {R : Type} {E : Env} {w0 w : World} {φ : Nat → Nat × Nat} {h : AH} {s : Slots} {a : Act} {next : Act → World → Prop} {Q : Exit → Act → World → Prop} {r : R} {c : Value → AH → Option R}
  {rec : Rec} {dst : Option Tmp} {ty : TypeId} {pos : String} {after : Array Edge} {guard : Option (Nat × Bool)}

theorem VR.recap {P : Program} {base n : Nat} {ad : Option Addr} {m c0 c1 : Nat} {u : Value} (hv : VR P base φ n w (.slice ad m c0) u) : VR P base φ n w (.slice ad m c1) u := by
  cases hv with
  | empty a c a' ha => exact .empty _ _ _ ha
  | slice b o _ _ c' hb hm hr => exact .slice b o _ _ c' hb hm hr

theorem raw_some {ad : Option Addr} {n : Nat} {new : List Value} (hn : 0 < n) (hx : rawAt h ad n = some new) : ∃ x k, ad = some x ∧ hget h x.block = some k ∧ x.off + n ≤ k.cs.length ∧ new = (k.cs.drop x.off).take n ∧ new.all leaf = true := by
  unfold rawAt at hx
  rw [if_neg (by omega)] at hx
  cases ad with
  | none => cases hx
  | some x =>
    simp only [Option.bind_some] at hx
    cases hk : hget h x.block with
    | none => rw [hk] at hx; cases hx
    | some k =>
      rw [hk] at hx
      simp only [Option.bind_some] at hx
      split at hx
      · rename_i hc
        injection hx with hx
        exact ⟨x, k, rfl, hk, hc.1, hx.symm, by rw [← hx]; exact hc.2⟩
      · cases hx

theorem op_append (hE : EnvOk E) (xs : Array Operand) (ts : Array TypeId) (vs : List Value) (hev : evs s xs.toList = some vs) (hx : exAppend E ts.toList vs h c = some r) (hs : SR E.P E.base φ h.length w s a) (hh : HR E.P E.base w0 φ h w) (hn : Cont E w0 φ h w dst a next c r) :
    (⟨dst, .call { callee := .builtin .append, args := xs, argTypes := ts }, ty, pos, after, guard⟩ : Oper).wp E.P a w next Q := by
  unfold exAppend at hx
  split at hx
  · rename_i v y t u ht
    obtain ⟨xa, ya, rfl, hv, hy⟩ := args_two hs hev
    obtain rfl := arr_of ht
    split at hx
    · rename_i i l hi hl
      split at hx
      · rename_i j hj
        cases hb : (isSl i && Nat.blt 0 j.ks.length) with
        | false => rw [hb] at hx; cases hx
        | true =>
          rw [hb] at hx
          simp only [cond_true] at hx
          simp only [Bool.and_eq_true, Nat.blt_eq] at hb
          obtain ⟨hb0, hb1⟩ := hb
          have F := hE.ti i.elem j hj
          have hu := (hE.ti t i hi).slice hb0
          obtain ⟨inf, z, hinf, hisz, hby, hz, hzc, hzl, hzf⟩ := F.inf
          have hzs : z.cells.size = inf.size := by rw [hisz, ← hzl, ← hzc]; simp
          have hzs' : z.cells.size = j.ks.length := by rw [hzs, hisz]
          have fin : ∀ (p : Value × AH), (viewO .slice (some p.1) fun v => c v p.2) = some r → (∃ v' w' φ', (Builtin.append_ #[t, u] ty #[a.eval xa, a.eval ya]).run E.P w = .ok v' w' ∧ Ext φ h w φ' p.2 w' ∧ HR E.P E.base w0 φ' p.2 w' ∧ VR E.P E.base φ' p.2.length w' p.1 v') →
              (⟨dst, .call { callee := .builtin .append, args := #[xa, ya], argTypes := #[t, u] }, ty, pos, after, guard⟩ : Oper).wp E.P a w next Q := by
            intro p hc hex
            obtain ⟨v', w', φ', hrun, e1, e2, e3⟩ := hex
            unfold Oper.wp
            have : (execOp a.eval (⟨dst, .call { callee := .builtin .append, args := #[xa, ya], argTypes := #[t, u] }, ty, pos, after, guard⟩ : Oper)).run E.P w = .ok (.value v') w' := by
              simp [execOp, resolve, invoke, builtin, hrun]
            rw [this]
            obtain ⟨x1, y1, hx1, hc1, hr1⟩ := viewO_some hc
            injection hx1 with hx1
            subst hx1
            exact hn _ _ φ' _ _ hc1 e1 e2 (hr1 _ _ _ _ _ _ fun _ => e3)
          have emptyCase : ∀ (ad : Option Addr) (n c0 : Nat), VR E.P E.base φ h.length w (.slice ad n c0) (a.eval xa) → (viewO .slice (some (.slice ad n n)) fun v => c v h) = some r → (∀ ba cap, n ≤ cap → (Builtin.append_ #[t, u] ty #[.slice ba n cap, a.eval ya]).run E.P w = .ok (.slice ba n cap) w) →
              (⟨dst, .call { callee := .builtin .append, args := #[xa, ya], argTypes := #[t, u] }, ty, pos, after, guard⟩ : Oper).wp E.P a w next Q := by
            intro ad n c0 hv hc hrun
            obtain ⟨a', cap, e, hm, _⟩ := hv.slice_inv
            refine fin (.slice ad n n, h) hc ⟨a.eval xa, w, φ, ?_, Ext.refl .., hh, hv.recap⟩
            rw [e]
            exact hrun a' cap hm
          split at hx
          · rename_i ad n c0
            split at hx
            · rename_i a2 m c2
              cases htu : Nat.beq t u with
              | false => rw [htu] at hx; cases hx
              | true =>
                rw [htu] at hx
                simp only [cond_true] at hx
                have := Nat.eq_of_beq_eq_true htu
                subst this
                obtain ⟨ya', ycap, ey, hym, hyor⟩ := hy.slice_inv
                unfold app at hx
                split at hx
                · rename_i hm0
                  subst hm0
                  refine emptyCase ad n c0 hv (by simpa using hx) fun ba cap hc => ?_
                  rw [ey]
                  have hst : ∀ b, (storeCells b []).run E.P w = .ok () w := fun b => rfl
                  cases ba <;> cases ya' <;> simp [Builtin.append_, run_underlying hu, sizeOf, typeInfo, hinf, Builtin.lenOf, Builtin.firstCells, loadCells, loadCellsFrom, hc, hst]
                · rename_i hm0
                  cases hraw : rawAt h a2 (m * j.ks.length) with
                  | none => rw [hraw] at hx; cases hx
                  | some new =>
                    rw [hraw] at hx
                    simp only [Option.bind_some] at hx
                    cases hg : grow E.base h i.elem j.ks.length j.bytes ad n new m with
                    | none => rw [hg] at hx; cases hx
                    | some p =>
                      rw [hg] at hx
                      simp only [Option.bind_some] at hx
                      have hmp : 0 < m := by omega
                      obtain ⟨x2, k2, rfl, hk2, ho2, hnew, hleaf⟩ := raw_some (Nat.mul_pos hmp hb1) hraw
                      rcases hyor with ⟨h0, _⟩ | ⟨x3, hx3, hsp, hlt, hya, _⟩
                      · omega
                      · injection hx3 with hx3
                        subst hx3
                        subst hya
                        have hnl : new.length = m * j.ks.length := by rw [hnew]; simp; omega
                        have hcell : ∀ q, q < m * j.ks.length → ∃ uu, w.cell? ((⟨(φ x2.block).1, (φ x2.block).2 + x2.off, none⟩ : Addr).add q) = some uu ∧ ∀ vv, new[q]? = some vv → VR E.P E.base φ h.length w vv uu := by
                          intro q hq
                          have hq' : x2.off + q < k2.cs.length := by omega
                          obtain ⟨uu, hu1, hu2⟩ := hh.cell (b := x2.block) (o := x2.off + q) (v := k2.cs[x2.off + q]) (by simp [Am.cell, hk2, List.getElem?_eq_getElem hq'])
                          refine ⟨uu, by rw [addr_add, Nat.add_assoc]; exact hu1, fun vv hvv => ?_⟩
                          have hvv0 := hvv
                          rw [hnew, List.getElem?_take_of_lt hq, List.getElem?_drop, List.getElem?_eq_getElem hq'] at hvv
                          injection hvv with hvv
                          have hlf : leaf vv = true := List.all_eq_true.1 hleaf vv (List.mem_of_getElem? hvv0)
                          have hne : vv ≠ .nilIface := fun e => by rw [e] at hlf; cases hlf
                          rw [← hvv] at hne ⊢; exact hu2 hne
                        let f : Nat → Value := fun q => if hq : q < m * j.ks.length then (hcell q hq).choose else undef
                        have hf : ∀ q, q < m * j.ks.length → w.cell? ((⟨(φ x2.block).1, (φ x2.block).2 + x2.off, none⟩ : Addr).add q) = some (f q) ∧ ∀ vv, new[q]? = some vv → VR E.P E.base φ h.length w vv (f q) := by
                          intro q hq
                          simp only [f, hq, dite_true]
                          exact (hcell q hq).choose_spec
                        have hnews : ∀ q v, ((List.range (m * j.ks.length)).map f)[q]? = some v → w.cell? ((⟨(φ x2.block).1, (φ x2.block).2 + x2.off, none⟩ : Addr).add q) = some v := by
                          intro q v hv
                          have hq : q < m * j.ks.length := by have := (List.getElem?_eq_some_iff.1 hv).1; simpa using this
                          simp [hq] at hv
                          rw [← hv]; exact (hf q hq).1
                        have hpl := app_plain (w := w) (ty := ty) hu (.inl hu) hinf hz (x := .slice (some ⟨(φ x2.block).1, (φ x2.block).2 + x2.off, none⟩) m ycap) (m := m) (news := (List.range (m * j.ks.length)).map f) rfl
                          (by rw [hisz]; exact run_firstCells_some (P := E.P) w j.ks.length m _ m ycap _ (by simp) hnews)
                          (by rw [hisz]; exact run_firstCells_some (P := E.P) w.drew j.ks.length m _ m ycap _ (by simp) (fun q v hq => by have := hnews q v hq; simpa using this))
                        rw [hisz, hby] at hpl
                        refine fin p hx ?_
                        rw [ey]
                        refine app_sound hE hh hj rfl hzs' hb1 hmp hnl (by simp) (fun q pp qq hp hq => ?_) (fun v hv => ?_) hpl.1 hpl.2 hv hg
                        · have hlt' : q < m * j.ks.length := by have := (List.getElem?_eq_some_iff.1 hp).1; omega
                          simp [hlt'] at hq
                          rw [← hq]; exact (hf q hlt').2 pp hp
                        · obtain ⟨q, hq, rfl⟩ := List.mem_iff_getElem.1 hv
                          have hlt' : q < m * j.ks.length := by simpa using hq
                          simp only [List.getElem_map, List.getElem_range]
                          have hq2 : q < new.length := by omega
                          exact ((hf q hlt').2 new[q] (List.getElem?_eq_getElem hq2)).oneCell (List.all_eq_true.1 hleaf _ (List.getElem_mem hq2))
            · rename_i str
              cases hb2 : (isK .str l && isK (.int .u8) j) with
              | false => rw [hb2] at hx; cases hx
              | true =>
                rw [hb2] at hx
                simp only [cond_true] at hx
                simp only [Bool.and_eq_true] at hb2
                have hul := (hE.ti u l hl).str hb2.1
                obtain ⟨_, hks⟩ := isK_spec hb2.2
                have hk1 : j.ks.length = 1 := by rw [hks]; rfl
                have ey := hy.str_inv
                unfold app at hx
                split at hx
                · rename_i hm0
                  refine emptyCase ad n c0 hv (by simpa using hx) fun ba cap hc => ?_
                  rw [ey]
                  have hst : ∀ b, (storeCells b []).run E.P w = .ok () w := fun b => rfl
                  have hex : str.extract 0 0 = ByteArray.empty := by
                    apply ByteArray.ext
                    simp
                  cases ba <;> simp [Builtin.append_, run_underlying hu, run_underlying hul, sizeOf, typeInfo, hinf, Builtin.lenOf, Builtin.firstCells, hm0, hc, hst, hex]
                · rename_i hm0
                  simp only [Option.bind_some] at hx
                  cases hg : grow E.base h i.elem 1 j.bytes ad n (bytesV str) str.size with
                  | none => rw [hg] at hx; cases hx
                  | some p =>
                    rw [hg] at hx
                    simp only [Option.bind_some] at hx
                    have hbl : (bytesV str).length = str.size := by simp [bytesV]
                    have hfc : ∀ w', (Builtin.firstCells 1 str.size (.string str)).run E.P w' = .ok (bytesV str).toArray w' := by
                      intro w'
                      have hx2 : str.extract 0 str.size = str := by
                        apply ByteArray.ext
                        simp
                      simp only [Builtin.firstCells, hx2, Sem.run_pure]
                      congr 1
                      apply Array.ext'
                      simp [bytesV]
                    have hisz1 : inf.size = 1 := by rw [hisz, hk1]
                    have hpl := app_plain (w := w) (ty := ty) hu (.inr hul) hinf hz (x := .string str) (m := str.size) (news := bytesV str) rfl (by rw [hisz1]; exact hfc w) (by rw [hisz1]; exact hfc w.drew)
                    rw [hisz1, hby] at hpl
                    refine fin p hx ?_
                    rw [ey]
                    refine app_sound hE hh hj hk1 (by rw [hzs', hk1]) (by omega) (by omega) (by omega) (by omega) (fun q pp qq hp hq => ?_) (fun v hv => ?_) hpl.1 hpl.2 hv hg
                    · rw [hp] at hq
                      injection hq with hq
                      subst hq
                      simp only [bytesV, List.getElem?_map] at hp
                      cases hd : str.data.toList[q]? with
                      | none => rw [hd] at hp; cases hp
                      | some d => rw [hd] at hp; injection hp with hp; rw [← hp]; exact .int _ _
                    · simp only [bytesV, List.mem_map] at hv
                      obtain ⟨d, _, rfl⟩ := hv
                      rfl
            · rename_i m
              cases hb2 : isK (.int .i64) l with
              | false => rw [hb2] at hx; cases hx
              | true =>
                rw [hb2] at hx
                simp only [cond_true] at hx
                have hul := (hE.ti u l hl).int hb2
                have ey := hy.int_inv
                split at hx
                · rename_i hmr
                  unfold app at hx
                  split at hx
                  · rename_i hm00
                    have hm0 : m = 0 := by omega
                    subst hm0
                    refine emptyCase ad n c0 hv (by simpa using hx) fun ba cap hc => ?_
                    rw [ey]
                    have hst : ∀ b, (storeCells b []).run E.P w = .ok () w := fun b => rfl
                    have hw : IntKind.i64.wrap 0 = 0 := IntWalk.i64_in 0 (by omega)
                    cases ba <;> simp [Builtin.append_, run_underlying hu, run_underlying hul, sizeOf, typeInfo, hinf, hc, hst, asInt, asIntOf, hw]
                  · rename_i hm0
                    simp only [Option.bind_some] at hx
                    cases hg : grow E.base h i.elem j.ks.length j.bytes ad n (rep j.zero m.toNat) m.toNat with
                    | none => rw [hg] at hx; cases hx
                    | some p =>
                      rw [hg] at hx
                      simp only [Option.bind_some] at hx
                      have hgb := (grow_some hg).1
                      have hmb : m.toNat * inf.bytes ≤ 140737488355328 := by
                        rw [hby]
                        have : m.toNat * j.bytes ≤ (n + m.toNat) * j.bytes := Nat.mul_le_mul_right _ (by omega)
                        omega
                      have hpl := app_zeros (w := w) (ty := ty) hu hul hinf hz (m := m) (by omega) hmr.2 hmb (by rw [hisz]; exact hb1)
                      rw [hisz, hby] at hpl
                      refine fin p hx ?_
                      rw [ey]
                      have hzget : ∀ (q : Nat) (v : Value), (Builtin.zeroCells z.cells m.toNat).toList[q]? = some v → q < m.toNat * j.ks.length ∧ z.cells[q % z.cells.size]? = some v := by
                        intro q v hq
                        have hlt' : q < m.toNat * z.cells.size := by
                          have := (List.getElem?_eq_some_iff.1 hq).1
                          simpa [Builtin.zeroCells] using this
                        refine ⟨by rw [← hzs']; exact hlt', ?_⟩
                        have := zerosArr z.cells (m.toNat * z.cells.size) q (by omega) hlt'
                        rw [← this]
                        rw [Array.getElem?_toList] at hq
                        exact hq
                      refine app_sound hE hh hj rfl hzs' hb1 (by omega) (by rw [rep_length, hzl]) (by simp [Builtin.zeroCells, hzs']) (fun q pp qq hp hq => ?_) (fun v hv => ?_) hpl.1 hpl.2 hv hg
                      · obtain ⟨h1, h2⟩ := hzget q qq hq
                        rw [rep_get _ _ _ (by rw [hzl]; exact h1), hzl, ← hzc] at hp
                        rw [hzs'] at h2
                        have : pp = qq := by
                          have := hp.symm.trans (by simpa using h2)
                          injection this
                        subst this
                        exact VR.flat (List.all_eq_true.1 hzf _ (by rw [← hzc]; exact List.mem_of_getElem? hp))
                      · obtain ⟨q, hq⟩ := List.mem_iff_getElem?.1 hv
                        obtain ⟨h1, h2⟩ := hzget q v hq
                        have hfl := List.all_eq_true.1 hzf v (by rw [← hzc]; exact List.mem_of_getElem? (by simpa using h2))
                        cases v <;> first | rfl | (simp [flatZ] at hfl)
                · cases hx
            · cases hx
          · cases hx
      · cases hx
    · cases hx
  · cases hx
theorem u8s_spec : ∀ {new : List Value} {ns : List Int}, u8s new = some ns → new = ns.map (Value.int .u8)
  | [], ns, h => by simp only [u8s] at h; injection h with h; subst h; rfl
  | .int .u8 n :: r, ns, h => by
    simp only [u8s] at h
    cases hr : u8s r with
    | none => rw [hr] at h; cases h
    | some m =>
      rw [hr] at h
      injection h with h
      subst h
      simp [u8s_spec hr]
theorem op_convert (hE : EnvOk E) (src t : TypeId) (x : Operand) (hx : exOp E rec (.convert src t x) s h c = some r) (hs : SR E.P E.base φ h.length w s a) (hh : HR E.P E.base w0 φ h w) (hn : Cont E w0 φ h w dst a next c r) :
    (⟨dst, .convert src t x, ty, pos, after, guard⟩ : Oper).wp E.P a w next Q := by
  simp only [exOp] at hx
  split at hx
  · rename_i k0 n i0 i h1 h0 h2
    have e := (ev_rel hs h1).int_inv
    cases hag : i.agg with
    | true => rw [hag] at hx; cases hx
    | false =>
      rw [hag] at hx
      simp only [cond_false] at hx
      split at hx
      · rename_i k hk
        have hu := ((hE.ti t i h2).of_ks hag hk).1 k rfl
        obtain ⟨d, hd, _⟩ := (hE.ti src i0 h0).und
        exact done_pure (o := ⟨dst, .convert src t x, ty, pos, after, guard⟩) hn hh hx (.int _ _) (by
          simp [execOp, e, convert, TFact.under hu, TFact.under hd, Conv.intToInt])
      · cases hx
  · rename_i ad n c0 i0 i h1 h0 h2
    cases hb : (Nat.beq t 9 && isK .str i && isSl i0) with
    | false => rw [hb] at hx; cases hx
    | true =>
      rw [hb] at hx
      simp only [cond_true] at hx
      simp only [Bool.and_eq_true] at hb
      obtain ⟨⟨_, hb1⟩, hb2⟩ := hb
      split at hx
      · rename_i j hj
        cases hb3 : isK (.int .u8) j with
        | false => rw [hb3] at hx; cases hx
        | true =>
          rw [hb3] at hx
          simp only [cond_true] at hx
          cases hraw : rawAt h ad n with
          | none => rw [hraw] at hx; cases hx
          | some new =>
            rw [hraw] at hx
            simp only [Option.bind_some] at hx
            cases hns : u8s new with
            | none => rw [hns] at hx; cases hx
            | some ns =>
              rw [hns] at hx
              simp only [Option.bind_some] at hx
              have hd := (hE.ti t i h2).str hb1
              have hsr := (hE.ti src i0 h0).slice hb2
              have he := (hE.ti i0.elem j hj).int hb3
              obtain ⟨a', c', e, hm, hor⟩ := (ev_rel hs h1).slice_inv
              have hnew := u8s_spec hns
              have key : (Conv.bytesToString (.slice a' n c')).run E.P w = .ok (.string (bstr ns)) w := by
                by_cases hn0 : n = 0
                · subst hn0
                  simp only [rawAt, if_true] at hraw
                  injection hraw with hraw
                  subst hraw
                  simp only [u8s] at hns
                  injection hns with hns
                  subst hns
                  cases a' with
                  | none => simp [Conv.bytesToString, bstr, Sem.run_pure]
                  | some x => exact run_bytesToString w x 0 c' [] (by simp [loadCells, loadCellsFrom])
                · obtain ⟨x, k, rfl, hk, ho, hnw, hleaf⟩ := raw_some (by omega) hraw
                  rcases hor with ⟨h0', _⟩ | ⟨x3, hx3, hsp, hlt, hya, _⟩
                  · exact absurd h0' hn0
                  · injection hx3 with hx3
                    subst hx3
                    subst hya
                    have hlen : new.length = n := by rw [hnw]; simp; omega
                    refine run_bytesToString w _ n c' ns ?_
                    have hll : (ns.map (Value.int .u8)).length = n := by rw [← hnew]; exact hlen
                    have := run_loadCells_list (P := E.P) w (⟨(φ x.block).1, (φ x.block).2 + x.off, none⟩ : Addr) (ns.map (Value.int .u8)) (fun q v hq => by
                      have hql : q < n := by have := (List.getElem?_eq_some_iff.1 hq).1; omega
                      rw [← hnew, hnw, List.getElem?_take_of_lt hql, List.getElem?_drop] at hq
                      obtain ⟨uu, hu1, hu2⟩ := hh.cell (b := x.block) (o := x.off + q) (v := v) (by simp [Am.cell, hk, hq])
                      have hvv : ∃ z, v = .int .u8 z := by
                        have hq2 : (ns.map (Value.int .u8))[q]? = some v := by rw [← hnew, hnw, List.getElem?_take_of_lt hql, List.getElem?_drop]; exact hq
                        simp only [List.getElem?_map, Option.map_eq_some_iff] at hq2
                        obtain ⟨z, _, rfl⟩ := hq2
                        exact ⟨z, rfl⟩
                      obtain ⟨z, rfl⟩ := hvv
                      have := (hu2 (by simp)).int_inv
                      subst this
                      rw [addr_add, Nat.add_assoc]
                      exact hu1)
                    rw [hll] at this
                    exact this
              refine done_pure (o := ⟨dst, .convert src t x, ty, pos, after, guard⟩) hn hh hx (.str _) ?_
              simp only [execOp, e]
              have cv := run_convert_bytes_string (P := E.P) w src t i0.elem a' n c' hsr he hd
              simp [cv, key]
      · cases hx
  · cases hx

end
end Go.Proofs.Ytgigdaijailfkaa.Am
