/- What each of these functions comes to on the abstract machine, one equation a function and one a loop.
Conditions: none. -/
import Derived.Test.YtnmjhhipbfngkaaTb
set_option linter.unusedVariables false
namespace Go.Proofs.Ytnmjhhipbfngkaa.Am
open Go Go.RowKit
/-! laws.szActor (gates 0) -/
theorem f36_eq (base : Nat) (v0_0 : Int) (v0_1 : Int) (v0_2 : Option Addr) (v0_2n : Nat) (v0_3 : Option Addr) (v0_3n : Nat) (v0_4 : Option Addr) (v0_4n : Nat) (v1 : Int) (h : AH) : exFun (Et base) (run (Et base)) loopL a36 Try.f36 [(.agg #[(.int .i64 v0_0), (.int .i64 v0_1), (.slice v0_2 v0_2n v0_2n), (.slice v0_3 v0_3n v0_3n), (.slice v0_4 v0_4n v0_4n)]), (.int .i64 v1)] h =
((some (h ++ [some ⟨[(.int .i64 v0_0), (.int .i64 v0_1), (.slice v0_2 v0_2n v0_2n), (.slice v0_3 v0_3n v0_3n), (.slice v0_4 v0_4n v0_4n)], 56⟩])).bind fun h1 =>
((cell h1 (List.length h) 2).bind getS).bind fun l2 =>
(run (Et base) 61 [(.slice l2.1 l2.2 l2.2), (.int .i64 v1)] h1).bind fun r3 =>
((some r3.1).bind (getI .i64)).bind fun n4 =>
(if (decide (n4 < (0 : Int))) = true then
some ((.int .i64 (-1 : Int)), r3.2)
else
((cell r3.2 (List.length h) 3).bind getS).bind fun l5 =>
(run (Et base) 61 [(.slice l5.1 l5.2 l5.2), (.int .i64 n4)] r3.2).bind fun r6 =>
((some r6.1).bind (getI .i64)).bind fun n7 =>
(if (decide (n7 < (0 : Int))) = true then
some ((.int .i64 (-1 : Int)), r6.2)
else
((cell r6.2 (List.length h) 4).bind getS).bind fun l8 =>
(run (Et base) 89 [(.slice l8.1 l8.2 l8.2), (.int .i64 n7)] r6.2).bind fun r9 =>
((some r9.1).bind (getI .i64)).bind fun n10 =>
(if (decide (n10 < (0 : Int))) = true then
some ((.int .i64 (-1 : Int)), r9.2)
else
some ((.int .i64 n10), r9.2)))) : Option (Value × AH)) := by kernel_rfl
theorem r36 {base : Nat} {v0_0 : Int} {v0_1 : Int} {v0_2 : Option Addr} {v0_2n : Nat} {v0_3 : Option Addr} {v0_3n : Nat} {v0_4 : Option Addr} {v0_4n : Nat} {v1 : Int} {h : AH} {r : Value × AH} (hx :
((some (h ++ [some ⟨[(.int .i64 v0_0), (.int .i64 v0_1), (.slice v0_2 v0_2n v0_2n), (.slice v0_3 v0_3n v0_3n), (.slice v0_4 v0_4n v0_4n)], 56⟩])).bind fun h1 =>
((cell h1 (List.length h) 2).bind getS).bind fun l2 =>
(run (Et base) 61 [(.slice l2.1 l2.2 l2.2), (.int .i64 v1)] h1).bind fun r3 =>
((some r3.1).bind (getI .i64)).bind fun n4 =>
(if (decide (n4 < (0 : Int))) = true then
some ((.int .i64 (-1 : Int)), r3.2)
else
((cell r3.2 (List.length h) 3).bind getS).bind fun l5 =>
(run (Et base) 61 [(.slice l5.1 l5.2 l5.2), (.int .i64 n4)] r3.2).bind fun r6 =>
((some r6.1).bind (getI .i64)).bind fun n7 =>
(if (decide (n7 < (0 : Int))) = true then
some ((.int .i64 (-1 : Int)), r6.2)
else
((cell r6.2 (List.length h) 4).bind getS).bind fun l8 =>
(run (Et base) 89 [(.slice l8.1 l8.2 l8.2), (.int .i64 n7)] r6.2).bind fun r9 =>
((some r9.1).bind (getI .i64)).bind fun n10 =>
(if (decide (n10 < (0 : Int))) = true then
some ((.int .i64 (-1 : Int)), r9.2)
else
some ((.int .i64 n10), r9.2))))) = some r) : run (Et base) 36 [(.agg #[(.int .i64 v0_0), (.int .i64 v0_1), (.slice v0_2 v0_2n v0_2n), (.slice v0_3 v0_3n v0_3n), (.slice v0_4 v0_4n v0_4n)]), (.int .i64 v1)] h = some r := run_i Try.func36 (by kernel_rfl) ((f36_eq base v0_0 v0_1 v0_2 v0_2n v0_3 v0_3n v0_4 v0_4n v1 h).trans hx)
/-! spec.ActorOk (gates 0) -/
theorem f37_eq (base : Nat) (v0 : Option Addr) (v0n : Nat) (v1_0 : Int) (v1_1 : Int) (v1_2 : Option Addr) (v1_2n : Nat) (v1_3 : Option Addr) (v1_3n : Nat) (v1_4 : Option Addr) (v1_4n : Nat) (h : AH) : exFun (Et base) (run (Et base)) loopL a37 Try.f37 [(.slice v0 v0n v0n), (.agg #[(.int .i64 v1_0), (.int .i64 v1_1), (.slice v1_2 v1_2n v1_2n), (.slice v1_3 v1_3n v1_3n), (.slice v1_4 v1_4n v1_4n)])] h =
((some (h ++ [some ⟨[(.int .i64 v1_0), (.int .i64 v1_1), (.slice v1_2 v1_2n v1_2n), (.slice v1_3 v1_3n v1_3n), (.slice v1_4 v1_4n v1_4n)], 29⟩])).bind fun h1 =>
((run (Et base) 77 [(.slice v0 v0n v0n)] h1).bind fun r3 =>
((some r3.1).bind getB).bind fun b4 =>
(if (!b4) = true then
some (.inl ([some (.pointer (some ⟨(List.length h), 0, none⟩)), some (.bool true)], r3.2))
else
((cell r3.2 (List.length h) 0).bind (getI .i64)).bind fun n5 =>
(run (Et base) 62 [(.int .i64 n5), (.int .i64 (1 : Int)), (.int .i64 (99999 : Int))] r3.2).bind fun r6 =>
((some r6.1).bind getB).bind fun b7 =>
(if (!b7) = true then
some (.inl ([some (.pointer (some ⟨(List.length h), 0, none⟩)), some (.bool true)], r6.2))
else
((cell r6.2 (List.length h) 1).bind (getI .i64)).bind fun n8 =>
(run (Et base) 62 [(.int .i64 n8), (.int .i64 (0 : Int)), (.int .i64 (IntKind.wrap .i64 (((v0n : Nat) : Int) - (1 : Int))))] r6.2).bind fun r9 =>
((some r9.1).bind getB).bind fun b10 =>
(if (!b10) = true then
some (.inl ([some (.pointer (some ⟨(List.length h), 0, none⟩)), some (.bool true)], r9.2))
else
((cell r9.2 (List.length h) 2).bind getS).bind fun l11 =>
(if (((l11.2 : Nat) : Int) != (8 : Int)) = true then
some (.inl ([some (.pointer (some ⟨(List.length h), 0, none⟩)), some (.bool true)], r9.2))
else
((cell r9.2 (List.length h) 3).bind getS).bind fun l12 =>
some (.inl ([some (.pointer (some ⟨(List.length h), 0, none⟩)), some (.bool (decide (((l12.2 : Nat) : Int) > (30 : Int))))], r9.2))))))).bind fun j2 => joinK j2 fun j2 =>
((sget j2.1 0).bind getA).bind fun d13 =>
((sget (j2.1.tail) 0).bind getB).bind fun b14 =>
(if b14 = true then
some ((.bool false), j2.2)
else
((cell j2.2 d13.block (d13.off + 2)).bind getS).bind fun l15 =>
(run (Et base) 90 [(.slice l15.1 l15.2 l15.2)] j2.2).bind fun r16 =>
((some r16.1).bind getB).bind fun b17 =>
(if b17 = true then
((cell r16.2 d13.block (d13.off + 3)).bind getS).bind fun l18 =>
(run (Et base) 90 [(.slice l18.1 l18.2 l18.2)] r16.2).bind fun r19 =>
((some r19.1).bind getB).bind fun b20 =>
(if b20 = true then
((cell r19.2 d13.block (d13.off + 4)).bind getS).bind fun l21 =>
((cell r19.2 d13.block (d13.off + 0)).bind (getI .i64)).bind fun n22 =>
(run (Et base) 91 [(.slice l21.1 l21.2 l21.2), (.int .i64 n22)] r19.2).bind fun r23 =>
((some r23.1).bind getB).bind fun b24 =>
some ((.bool b24), r23.2)
else
some ((.bool false), r19.2))
else
some ((.bool false), r16.2))) : Option (Value × AH)) := by kernel_rfl
theorem r37 {base : Nat} {v0 : Option Addr} {v0n : Nat} {v1_0 : Int} {v1_1 : Int} {v1_2 : Option Addr} {v1_2n : Nat} {v1_3 : Option Addr} {v1_3n : Nat} {v1_4 : Option Addr} {v1_4n : Nat} {h : AH} {r : Value × AH} (hx :
((some (h ++ [some ⟨[(.int .i64 v1_0), (.int .i64 v1_1), (.slice v1_2 v1_2n v1_2n), (.slice v1_3 v1_3n v1_3n), (.slice v1_4 v1_4n v1_4n)], 29⟩])).bind fun h1 =>
((run (Et base) 77 [(.slice v0 v0n v0n)] h1).bind fun r3 =>
((some r3.1).bind getB).bind fun b4 =>
(if (!b4) = true then
some (.inl ([some (.pointer (some ⟨(List.length h), 0, none⟩)), some (.bool true)], r3.2))
else
((cell r3.2 (List.length h) 0).bind (getI .i64)).bind fun n5 =>
(run (Et base) 62 [(.int .i64 n5), (.int .i64 (1 : Int)), (.int .i64 (99999 : Int))] r3.2).bind fun r6 =>
((some r6.1).bind getB).bind fun b7 =>
(if (!b7) = true then
some (.inl ([some (.pointer (some ⟨(List.length h), 0, none⟩)), some (.bool true)], r6.2))
else
((cell r6.2 (List.length h) 1).bind (getI .i64)).bind fun n8 =>
(run (Et base) 62 [(.int .i64 n8), (.int .i64 (0 : Int)), (.int .i64 (IntKind.wrap .i64 (((v0n : Nat) : Int) - (1 : Int))))] r6.2).bind fun r9 =>
((some r9.1).bind getB).bind fun b10 =>
(if (!b10) = true then
some (.inl ([some (.pointer (some ⟨(List.length h), 0, none⟩)), some (.bool true)], r9.2))
else
((cell r9.2 (List.length h) 2).bind getS).bind fun l11 =>
(if (((l11.2 : Nat) : Int) != (8 : Int)) = true then
some (.inl ([some (.pointer (some ⟨(List.length h), 0, none⟩)), some (.bool true)], r9.2))
else
((cell r9.2 (List.length h) 3).bind getS).bind fun l12 =>
some (.inl ([some (.pointer (some ⟨(List.length h), 0, none⟩)), some (.bool (decide (((l12.2 : Nat) : Int) > (30 : Int))))], r9.2))))))).bind fun j2 => joinK j2 fun j2 =>
((sget j2.1 0).bind getA).bind fun d13 =>
((sget (j2.1.tail) 0).bind getB).bind fun b14 =>
(if b14 = true then
some ((.bool false), j2.2)
else
((cell j2.2 d13.block (d13.off + 2)).bind getS).bind fun l15 =>
(run (Et base) 90 [(.slice l15.1 l15.2 l15.2)] j2.2).bind fun r16 =>
((some r16.1).bind getB).bind fun b17 =>
(if b17 = true then
((cell r16.2 d13.block (d13.off + 3)).bind getS).bind fun l18 =>
(run (Et base) 90 [(.slice l18.1 l18.2 l18.2)] r16.2).bind fun r19 =>
((some r19.1).bind getB).bind fun b20 =>
(if b20 = true then
((cell r19.2 d13.block (d13.off + 4)).bind getS).bind fun l21 =>
((cell r19.2 d13.block (d13.off + 0)).bind (getI .i64)).bind fun n22 =>
(run (Et base) 91 [(.slice l21.1 l21.2 l21.2), (.int .i64 n22)] r19.2).bind fun r23 =>
((some r23.1).bind getB).bind fun b24 =>
some ((.bool b24), r23.2)
else
some ((.bool false), r19.2))
else
some ((.bool false), r16.2)))) = some r) : run (Et base) 37 [(.slice v0 v0n v0n), (.agg #[(.int .i64 v1_0), (.int .i64 v1_1), (.slice v1_2 v1_2n v1_2n), (.slice v1_3 v1_3n v1_3n), (.slice v1_4 v1_4n v1_4n)])] h = some r := run_i Try.func37 (by kernel_rfl) ((f37_eq base v0 v0n v1_0 v1_1 v1_2 v1_2n v1_3 v1_3n v1_4 v1_4n h).trans hx)
/-! laws.toActor (gates 0) -/
theorem f38_eq (base : Nat) (v0_0 : Int) (v0_1 : Int) (v0_2 : Option Addr) (v0_2n : Nat) (v0_3 : Option Addr) (v0_3n : Nat) (v0_4 : Option Addr) (v0_4n : Nat) (h : AH) : exFun (Et base) (run (Et base)) loopL a38 Try.f38 [(.agg #[(.int .i64 v0_0), (.int .i64 v0_1), (.slice v0_2 v0_2n v0_2n), (.slice v0_3 v0_3n v0_3n), (.slice v0_4 v0_4n v0_4n)])] h =
((some (h ++ [some ⟨[(.int .i64 v0_0), (.int .i64 v0_1), (.slice v0_2 v0_2n v0_2n), (.slice v0_3 v0_3n v0_3n), (.slice v0_4 v0_4n v0_4n)], 56⟩])).bind fun h1 =>
(some (h1 ++ [some ⟨[(.int .i64 0), (.int .i64 0), (.slice none 0 0), (.slice none 0 0), (.slice none 0 0)], 29⟩])).bind fun h2 =>
(some (h2 ++ [some ⟨[(.int .i64 0), (.int .i64 0), (.slice none 0 0), (.slice none 0 0), (.slice none 0 0)], 29⟩])).bind fun h3 =>
((cell h3 (List.length h) 0).bind (getI .i64)).bind fun n4 =>
(wr base h3 (List.length h2) 0 [(.int .i64 n4)]).bind fun h5 =>
((cell h5 (List.length h) 1).bind (getI .i64)).bind fun n6 =>
(wr base h5 (List.length h2) 1 [(.int .i64 n6)]).bind fun h7 =>
((cell h7 (List.length h) 2).bind getS).bind fun l8 =>
(run (Et base) 66 [(.slice l8.1 l8.2 l8.2)] h7).bind fun r9 =>
((some r9.1).bind getS).bind fun l10 =>
(wr base r9.2 (List.length h2) 2 [(.slice l10.1 l10.2 l10.2)]).bind fun h11 =>
((cell h11 (List.length h) 3).bind getS).bind fun l12 =>
(run (Et base) 66 [(.slice l12.1 l12.2 l12.2)] h11).bind fun r13 =>
((some r13.1).bind getS).bind fun l14 =>
(wr base r13.2 (List.length h2) 3 [(.slice l14.1 l14.2 l14.2)]).bind fun h15 =>
((cell h15 (List.length h) 4).bind getS).bind fun l16 =>
(run (Et base) 92 [(.slice l16.1 l16.2 l16.2)] h15).bind fun r17 =>
((some r17.1).bind getS).bind fun l18 =>
(wr base r17.2 (List.length h2) 4 [(.slice l18.1 l18.2 l18.2)]).bind fun h19 =>
((cell h19 (List.length h2) 0).bind (getI .i64)).bind fun n20 =>
((cell h19 (List.length h2) 1).bind (getI .i64)).bind fun n21 =>
((cell h19 (List.length h2) 2).bind getS).bind fun l22 =>
((cell h19 (List.length h2) 3).bind getS).bind fun l23 =>
((cell h19 (List.length h2) 4).bind getS).bind fun l24 =>
(wr base h19 (List.length h1) 0 [(.int .i64 n20), (.int .i64 n21), (.slice l22.1 l22.2 l22.2), (.slice l23.1 l23.2 l23.2), (.slice l24.1 l24.2 l24.2)]).bind fun h25 =>
((cell h25 (List.length h1) 0).bind (getI .i64)).bind fun n26 =>
((cell h25 (List.length h1) 1).bind (getI .i64)).bind fun n27 =>
((cell h25 (List.length h1) 2).bind getS).bind fun l28 =>
((cell h25 (List.length h1) 3).bind getS).bind fun l29 =>
((cell h25 (List.length h1) 4).bind getS).bind fun l30 =>
some ((.agg #[(.int .i64 n26), (.int .i64 n27), (.slice l28.1 l28.2 l28.2), (.slice l29.1 l29.2 l29.2), (.slice l30.1 l30.2 l30.2)]), h25) : Option (Value × AH)) := by kernel_rfl
theorem r38 {base : Nat} {v0_0 : Int} {v0_1 : Int} {v0_2 : Option Addr} {v0_2n : Nat} {v0_3 : Option Addr} {v0_3n : Nat} {v0_4 : Option Addr} {v0_4n : Nat} {h : AH} {r : Value × AH} (hx :
((some (h ++ [some ⟨[(.int .i64 v0_0), (.int .i64 v0_1), (.slice v0_2 v0_2n v0_2n), (.slice v0_3 v0_3n v0_3n), (.slice v0_4 v0_4n v0_4n)], 56⟩])).bind fun h1 =>
(some (h1 ++ [some ⟨[(.int .i64 0), (.int .i64 0), (.slice none 0 0), (.slice none 0 0), (.slice none 0 0)], 29⟩])).bind fun h2 =>
(some (h2 ++ [some ⟨[(.int .i64 0), (.int .i64 0), (.slice none 0 0), (.slice none 0 0), (.slice none 0 0)], 29⟩])).bind fun h3 =>
((cell h3 (List.length h) 0).bind (getI .i64)).bind fun n4 =>
(wr base h3 (List.length h2) 0 [(.int .i64 n4)]).bind fun h5 =>
((cell h5 (List.length h) 1).bind (getI .i64)).bind fun n6 =>
(wr base h5 (List.length h2) 1 [(.int .i64 n6)]).bind fun h7 =>
((cell h7 (List.length h) 2).bind getS).bind fun l8 =>
(run (Et base) 66 [(.slice l8.1 l8.2 l8.2)] h7).bind fun r9 =>
((some r9.1).bind getS).bind fun l10 =>
(wr base r9.2 (List.length h2) 2 [(.slice l10.1 l10.2 l10.2)]).bind fun h11 =>
((cell h11 (List.length h) 3).bind getS).bind fun l12 =>
(run (Et base) 66 [(.slice l12.1 l12.2 l12.2)] h11).bind fun r13 =>
((some r13.1).bind getS).bind fun l14 =>
(wr base r13.2 (List.length h2) 3 [(.slice l14.1 l14.2 l14.2)]).bind fun h15 =>
((cell h15 (List.length h) 4).bind getS).bind fun l16 =>
(run (Et base) 92 [(.slice l16.1 l16.2 l16.2)] h15).bind fun r17 =>
((some r17.1).bind getS).bind fun l18 =>
(wr base r17.2 (List.length h2) 4 [(.slice l18.1 l18.2 l18.2)]).bind fun h19 =>
((cell h19 (List.length h2) 0).bind (getI .i64)).bind fun n20 =>
((cell h19 (List.length h2) 1).bind (getI .i64)).bind fun n21 =>
((cell h19 (List.length h2) 2).bind getS).bind fun l22 =>
((cell h19 (List.length h2) 3).bind getS).bind fun l23 =>
((cell h19 (List.length h2) 4).bind getS).bind fun l24 =>
(wr base h19 (List.length h1) 0 [(.int .i64 n20), (.int .i64 n21), (.slice l22.1 l22.2 l22.2), (.slice l23.1 l23.2 l23.2), (.slice l24.1 l24.2 l24.2)]).bind fun h25 =>
((cell h25 (List.length h1) 0).bind (getI .i64)).bind fun n26 =>
((cell h25 (List.length h1) 1).bind (getI .i64)).bind fun n27 =>
((cell h25 (List.length h1) 2).bind getS).bind fun l28 =>
((cell h25 (List.length h1) 3).bind getS).bind fun l29 =>
((cell h25 (List.length h1) 4).bind getS).bind fun l30 =>
some ((.agg #[(.int .i64 n26), (.int .i64 n27), (.slice l28.1 l28.2 l28.2), (.slice l29.1 l29.2 l29.2), (.slice l30.1 l30.2 l30.2)]), h25)) = some r) : run (Et base) 38 [(.agg #[(.int .i64 v0_0), (.int .i64 v0_1), (.slice v0_2 v0_2n v0_2n), (.slice v0_3 v0_3n v0_3n), (.slice v0_4 v0_4n v0_4n)])] h = some r := run_i Try.func38 (by kernel_rfl) ((f38_eq base v0_0 v0_1 v0_2 v0_2n v0_3 v0_3n v0_4 v0_4n h).trans hx)
/-! impl.ActorOk (gates 0) -/
theorem f39_eq (base : Nat) (v0 : Option Addr) (v0n : Nat) (v1_0 : Int) (v1_1 : Int) (v1_2 : Option Addr) (v1_2n : Nat) (v1_3 : Option Addr) (v1_3n : Nat) (v1_4 : Option Addr) (v1_4n : Nat) (h : AH) : exFun (Et base) (run (Et base)) loopL a39 Try.f39 [(.slice v0 v0n v0n), (.agg #[(.int .i64 v1_0), (.int .i64 v1_1), (.slice v1_2 v1_2n v1_2n), (.slice v1_3 v1_3n v1_3n), (.slice v1_4 v1_4n v1_4n)])] h =
((some (h ++ [some ⟨[(.int .i64 v1_0), (.int .i64 v1_1), (.slice v1_2 v1_2n v1_2n), (.slice v1_3 v1_3n v1_3n), (.slice v1_4 v1_4n v1_4n)], 29⟩])).bind fun h1 =>
(run (Et base) 80 [(.slice v0 v0n v0n)] h1).bind fun r2 =>
((some r2.1).bind getB).bind fun b3 =>
(if b3 = true then
((cell r2.2 (List.length h) 0).bind (getI .i64)).bind fun n4 =>
(run (Et base) 67 [(.int .i64 n4), (.int .i64 (1 : Int)), (.int .i64 (99999 : Int))] r2.2).bind fun r5 =>
((some r5.1).bind getB).bind fun b6 =>
(if b6 = true then
((cell r5.2 (List.length h) 1).bind (getI .i64)).bind fun n7 =>
(run (Et base) 67 [(.int .i64 n7), (.int .i64 (0 : Int)), (.int .i64 (IntKind.wrap .i64 (((v0n : Nat) : Int) - (1 : Int))))] r5.2).bind fun r8 =>
((some r8.1).bind getB).bind fun b9 =>
(if b9 = true then
((cell r8.2 (List.length h) 2).bind getS).bind fun l10 =>
(if (((l10.2 : Nat) : Int) == (8 : Int)) = true then
((cell r8.2 (List.length h) 2).bind getS).bind fun l11 =>
(run (Et base) 93 [(.slice l11.1 l11.2 l11.2)] r8.2).bind fun r12 =>
((some r12.1).bind getB).bind fun b13 =>
(if b13 = true then
((cell r12.2 (List.length h) 3).bind getS).bind fun l14 =>
(if (decide (((l14.2 : Nat) : Int) ≤ (30 : Int))) = true then
((cell r12.2 (List.length h) 3).bind getS).bind fun l15 =>
(run (Et base) 93 [(.slice l15.1 l15.2 l15.2)] r12.2).bind fun r16 =>
((some r16.1).bind getB).bind fun b17 =>
(if b17 = true then
((cell r16.2 (List.length h) 4).bind getS).bind fun l18 =>
((cell r16.2 (List.length h) 0).bind (getI .i64)).bind fun n19 =>
(run (Et base) 94 [(.slice l18.1 l18.2 l18.2), (.int .i64 n19)] r16.2).bind fun r20 =>
((some r20.1).bind getB).bind fun b21 =>
some ((.bool b21), r20.2)
else
some ((.bool false), r16.2))
else
some ((.bool false), r12.2))
else
some ((.bool false), r12.2))
else
some ((.bool false), r8.2))
else
some ((.bool false), r8.2))
else
some ((.bool false), r5.2))
else
some ((.bool false), r2.2)) : Option (Value × AH)) := by kernel_rfl
theorem r39 {base : Nat} {v0 : Option Addr} {v0n : Nat} {v1_0 : Int} {v1_1 : Int} {v1_2 : Option Addr} {v1_2n : Nat} {v1_3 : Option Addr} {v1_3n : Nat} {v1_4 : Option Addr} {v1_4n : Nat} {h : AH} {r : Value × AH} (hx :
((some (h ++ [some ⟨[(.int .i64 v1_0), (.int .i64 v1_1), (.slice v1_2 v1_2n v1_2n), (.slice v1_3 v1_3n v1_3n), (.slice v1_4 v1_4n v1_4n)], 29⟩])).bind fun h1 =>
(run (Et base) 80 [(.slice v0 v0n v0n)] h1).bind fun r2 =>
((some r2.1).bind getB).bind fun b3 =>
(if b3 = true then
((cell r2.2 (List.length h) 0).bind (getI .i64)).bind fun n4 =>
(run (Et base) 67 [(.int .i64 n4), (.int .i64 (1 : Int)), (.int .i64 (99999 : Int))] r2.2).bind fun r5 =>
((some r5.1).bind getB).bind fun b6 =>
(if b6 = true then
((cell r5.2 (List.length h) 1).bind (getI .i64)).bind fun n7 =>
(run (Et base) 67 [(.int .i64 n7), (.int .i64 (0 : Int)), (.int .i64 (IntKind.wrap .i64 (((v0n : Nat) : Int) - (1 : Int))))] r5.2).bind fun r8 =>
((some r8.1).bind getB).bind fun b9 =>
(if b9 = true then
((cell r8.2 (List.length h) 2).bind getS).bind fun l10 =>
(if (((l10.2 : Nat) : Int) == (8 : Int)) = true then
((cell r8.2 (List.length h) 2).bind getS).bind fun l11 =>
(run (Et base) 93 [(.slice l11.1 l11.2 l11.2)] r8.2).bind fun r12 =>
((some r12.1).bind getB).bind fun b13 =>
(if b13 = true then
((cell r12.2 (List.length h) 3).bind getS).bind fun l14 =>
(if (decide (((l14.2 : Nat) : Int) ≤ (30 : Int))) = true then
((cell r12.2 (List.length h) 3).bind getS).bind fun l15 =>
(run (Et base) 93 [(.slice l15.1 l15.2 l15.2)] r12.2).bind fun r16 =>
((some r16.1).bind getB).bind fun b17 =>
(if b17 = true then
((cell r16.2 (List.length h) 4).bind getS).bind fun l18 =>
((cell r16.2 (List.length h) 0).bind (getI .i64)).bind fun n19 =>
(run (Et base) 94 [(.slice l18.1 l18.2 l18.2), (.int .i64 n19)] r16.2).bind fun r20 =>
((some r20.1).bind getB).bind fun b21 =>
some ((.bool b21), r20.2)
else
some ((.bool false), r16.2))
else
some ((.bool false), r12.2))
else
some ((.bool false), r12.2))
else
some ((.bool false), r8.2))
else
some ((.bool false), r8.2))
else
some ((.bool false), r5.2))
else
some ((.bool false), r2.2))) = some r) : run (Et base) 39 [(.slice v0 v0n v0n), (.agg #[(.int .i64 v1_0), (.int .i64 v1_1), (.slice v1_2 v1_2n v1_2n), (.slice v1_3 v1_3n v1_3n), (.slice v1_4 v1_4n v1_4n)])] h = some r := run_i Try.func39 (by kernel_rfl) ((f39_eq base v0 v0n v1_0 v1_1 v1_2 v1_2n v1_3 v1_3n v1_4 v1_4n h).trans hx)
/-! spec.l9Terms (gates 0) -/
noncomputable def B90_0 (base : Nat) : Body := fun l h => lay s90_0 l fun s => exCode (Et base) (run (Et base)) loopL a90_0 (subC [1, 0, 1, 0, 0] (bodyC Try.f90)) s h (keepK s90_0 e90_0)
theorem B90_0_eq (base : Nat) (v0 : Option Addr) (v0n : Nat) (v3 : Int) (h : AH) : B90_0 base [some (.slice v0 v0n v0n), some (.int .i64 v3)] h =
((if (decide (v3 < ((v0n : Nat) : Int))) = true then
(if 0 ≤ v3 ∧ v3 < ((v0n : Nat) : Int) then
((v0 : Option Addr)).bind fun a1 =>
((cell h a1.block (a1.off + Int.toNat v3 * 4)).bind (getI .i64)).bind fun n2 =>
((cell h a1.block ((a1.off + Int.toNat v3 * 4) + 1)).bind (getI .i64)).bind fun n3 =>
((cell h a1.block (((a1.off + Int.toNat v3 * 4) + 1) + 1)).bind getStr).bind fun s4 =>
((cell h a1.block ((((a1.off + Int.toNat v3 * 4) + 1) + 1) + 1)).bind getS).bind fun l5 =>
(run (Et base) 63 [(.agg #[(.int .i64 n2), (.int .i64 n3), (.string s4), (.slice l5.1 l5.2 l5.2)])] h).bind fun r6 =>
((some r6.1).bind getB).bind fun b7 =>
(if (!b7) = true then
some (1, [some (.bool false)], r6.2)
else
some (0, [some (.slice v0 v0n v0n), some (.int .i64 (IntKind.wrap .i64 (v3 + (1 : Int))))], r6.2))
else none)
else
some (2, [], h)) : Option (Nat × Slots × AH)) := by kernel_rfl
theorem f90_eq (base : Nat) (v0 : Option Addr) (v0n : Nat) (h : AH) : exFun (Et base) (run (Et base)) loopL a90 Try.f90 [(.slice v0 v0n v0n)] h =
((loopL (B90_0 base) [some (.slice v0 v0n v0n), some (.int .i64 (0 : Int))] h).bind fun q1 =>
(if q1.1 = 1 then
((sget q1.2.1 0).bind getB).bind fun b2 =>
some ((.bool b2), q1.2.2)
else
(if q1.1 = 2 then
some ((.bool true), q1.2.2)
else
none)) : Option (Value × AH)) := by kernel_rfl
theorem r90 {base : Nat} {v0 : Option Addr} {v0n : Nat} {h : AH} {r : Value × AH} (hx :
((loopL (B90_0 base) [some (.slice v0 v0n v0n), some (.int .i64 (0 : Int))] h).bind fun q1 =>
(if q1.1 = 1 then
((sget q1.2.1 0).bind getB).bind fun b2 =>
some ((.bool b2), q1.2.2)
else
(if q1.1 = 2 then
some ((.bool true), q1.2.2)
else
none))) = some r) : run (Et base) 90 [(.slice v0 v0n v0n)] h = some r := run_i Try.func90 (by kernel_rfl) ((f90_eq base v0 v0n h).trans hx)
/-! spec.l9Links (gates 0) -/
noncomputable def B91_0 (base : Nat) : Body := fun l h => lay s91_0 l fun s => exCode (Et base) (run (Et base)) loopL a91_0 (subC [1, 0, 1, 0, 0] (bodyC Try.f91)) s h (keepK s91_0 e91_0)
theorem B91_0_eq (base : Nat) (v0 : Option Addr) (v0n : Nat) (v1 : Int) (v5 : Int) (h : AH) : B91_0 base [some (.slice v0 v0n v0n), some (.int .i64 v1), some (.int .i64 v5)] h =
((if (decide (v5 < ((v0n : Nat) : Int))) = true then
((if 0 ≤ v5 ∧ v5 < ((v0n : Nat) : Int) then
((v0 : Option Addr)).bind fun a2 =>
((cell h a2.block (a2.off + Int.toNat v5 * 1)).bind (getI .i64)).bind fun n3 =>
(run (Et base) 62 [(.int .i64 n3), (.int .i64 (1 : Int)), (.int .i64 (99999 : Int))] h).bind fun r4 =>
((some r4.1).bind getB).bind fun b5 =>
(if (!b5) = true then
some (.inl ([some (.slice v0 v0n v0n), some (.int .i64 v1), some (.int .i64 v5), some (.bool true)], r4.2))
else
(if 0 ≤ v5 ∧ v5 < ((v0n : Nat) : Int) then
((v0 : Option Addr)).bind fun a6 =>
((cell r4.2 a6.block (a6.off + Int.toNat v5 * 1)).bind (getI .i64)).bind fun n7 =>
(if (n7 == v1) = true then
some (.inl ([some (.slice v0 v0n v0n), some (.int .i64 v1), some (.int .i64 v5), some (.bool true)], r4.2))
else
(if (decide (v5 > (0 : Int))) = true then
(if 0 ≤ (IntKind.wrap .i64 (v5 - (1 : Int))) ∧ (IntKind.wrap .i64 (v5 - (1 : Int))) < ((v0n : Nat) : Int) then
((v0 : Option Addr)).bind fun a8 =>
((cell r4.2 a8.block (a8.off + Int.toNat (IntKind.wrap .i64 (v5 - (1 : Int))) * 1)).bind (getI .i64)).bind fun n9 =>
(if 0 ≤ v5 ∧ v5 < ((v0n : Nat) : Int) then
((v0 : Option Addr)).bind fun a10 =>
((cell r4.2 a10.block (a10.off + Int.toNat v5 * 1)).bind (getI .i64)).bind fun n11 =>
some (.inl ([some (.slice v0 v0n v0n), some (.int .i64 v1), some (.int .i64 v5), some (.bool (decide (n9 ≥ n11)))], r4.2))
else none)
else none)
else
some (.inl ([some (.slice v0 v0n v0n), some (.int .i64 v1), some (.int .i64 v5), some (.bool false)], r4.2))))
else none))
else none)).bind fun j1 => joinK j1 fun j1 =>
((sget j1.1 0).bind getS).bind fun l12 =>
((sget (j1.1.tail) 0).bind (getI .i64)).bind fun n13 =>
((sget (j1.1.tail.tail) 0).bind (getI .i64)).bind fun n14 =>
((sget (j1.1.tail.tail.tail) 0).bind getB).bind fun b15 =>
(if b15 = true then
some (1, [some (.bool false)], j1.2)
else
some (0, [some (.slice l12.1 l12.2 l12.2), some (.int .i64 n13), some (.int .i64 (IntKind.wrap .i64 (n14 + (1 : Int))))], j1.2))
else
some (2, [some (.slice v0 v0n v0n)], h)) : Option (Nat × Slots × AH)) := by kernel_rfl
theorem f91_eq (base : Nat) (v0 : Option Addr) (v0n : Nat) (v1 : Int) (h : AH) : exFun (Et base) (run (Et base)) loopL a91 Try.f91 [(.slice v0 v0n v0n), (.int .i64 v1)] h =
((loopL (B91_0 base) [some (.slice v0 v0n v0n), some (.int .i64 v1), some (.int .i64 (0 : Int))] h).bind fun q1 =>
(if q1.1 = 1 then
((sget q1.2.1 0).bind getB).bind fun b2 =>
some ((.bool b2), q1.2.2)
else
(if q1.1 = 2 then
((sget q1.2.1 0).bind getS).bind fun l3 =>
some ((.bool (decide (((l3.2 : Nat) : Int) ≤ (50 : Int)))), q1.2.2)
else
none)) : Option (Value × AH)) := by kernel_rfl
theorem r91 {base : Nat} {v0 : Option Addr} {v0n : Nat} {v1 : Int} {h : AH} {r : Value × AH} (hx :
((loopL (B91_0 base) [some (.slice v0 v0n v0n), some (.int .i64 v1), some (.int .i64 (0 : Int))] h).bind fun q1 =>
(if q1.1 = 1 then
((sget q1.2.1 0).bind getB).bind fun b2 =>
some ((.bool b2), q1.2.2)
else
(if q1.1 = 2 then
((sget q1.2.1 0).bind getS).bind fun l3 =>
some ((.bool (decide (((l3.2 : Nat) : Int) ≤ (50 : Int)))), q1.2.2)
else
none))) = some r) : run (Et base) 91 [(.slice v0 v0n v0n), (.int .i64 v1)] h = some r := run_i Try.func91 (by kernel_rfl) ((f91_eq base v0 v0n v1 h).trans hx)
/-! impl.termsOk (gates 0) -/
noncomputable def B93_0 (base : Nat) : Body := fun l h => lay s93_0 l fun s => exCode (Et base) (run (Et base)) loopL a93_0 (subC [1, 0, 1, 0, 0] (bodyC Try.f93)) s h (keepK s93_0 e93_0)
theorem B93_0_eq (base : Nat) (v5 : Option Addr) (v5n : Nat) (v6 : Int) (v7 : Int) (h : AH) : B93_0 base [some (.slice v5 v5n v5n), some (.int .i64 v6), some (.int .i64 v7)] h =
((if (decide (v7 < v6)) = true then
(if 0 ≤ v7 ∧ v7 < ((v5n : Nat) : Int) then
((v5 : Option Addr)).bind fun a1 =>
((cell h a1.block (a1.off + Int.toNat v7 * 4)).bind (getI .i64)).bind fun n2 =>
((cell h a1.block ((a1.off + Int.toNat v7 * 4) + 1)).bind (getI .i64)).bind fun n3 =>
((cell h a1.block (((a1.off + Int.toNat v7 * 4) + 1) + 1)).bind getStr).bind fun s4 =>
((cell h a1.block ((((a1.off + Int.toNat v7 * 4) + 1) + 1) + 1)).bind getS).bind fun l5 =>
(some (h ++ [some ⟨[(.int .i64 0), (.int .i64 0), (.string ⟨#[]⟩), (.slice none 0 0)], 32⟩])).bind fun h6 =>
(wr base h6 (List.length h) 0 [(.int .i64 n2), (.int .i64 n3), (.string s4), (.slice l5.1 l5.2 l5.2)]).bind fun h7 =>
((cell h7 (List.length h) 0).bind (getI .i64)).bind fun n8 =>
((cell h7 (List.length h) 1).bind (getI .i64)).bind fun n9 =>
((cell h7 (List.length h) 2).bind getStr).bind fun s10 =>
((cell h7 (List.length h) 3).bind getS).bind fun l11 =>
(run (Et base) 68 [(.agg #[(.int .i64 n8), (.int .i64 n9), (.string s10), (.slice l11.1 l11.2 l11.2)])] h7).bind fun r12 =>
((some r12.1).bind getB).bind fun b13 =>
(if (!b13) = true then
some (1, [some (.bool false)], r12.2)
else
some (0, [some (.slice v5 v5n v5n), some (.int .i64 v6), some (.int .i64 (IntKind.wrap .i64 (v7 + (1 : Int))))], r12.2))
else none)
else
some (2, [], h)) : Option (Nat × Slots × AH)) := by kernel_rfl
theorem f93_eq (base : Nat) (v0 : Option Addr) (v0n : Nat) (h : AH) : exFun (Et base) (run (Et base)) loopL a93 Try.f93 [(.slice v0 v0n v0n)] h =
((loopL (B93_0 base) [some (.slice v0 v0n v0n), some (.int .i64 ((v0n : Nat) : Int)), some (.int .i64 (0 : Int))] h).bind fun q1 =>
(if q1.1 = 1 then
((sget q1.2.1 0).bind getB).bind fun b2 =>
some ((.bool b2), q1.2.2)
else
(if q1.1 = 2 then
some ((.bool true), q1.2.2)
else
none)) : Option (Value × AH)) := by kernel_rfl
theorem r93 {base : Nat} {v0 : Option Addr} {v0n : Nat} {h : AH} {r : Value × AH} (hx :
((loopL (B93_0 base) [some (.slice v0 v0n v0n), some (.int .i64 ((v0n : Nat) : Int)), some (.int .i64 (0 : Int))] h).bind fun q1 =>
(if q1.1 = 1 then
((sget q1.2.1 0).bind getB).bind fun b2 =>
some ((.bool b2), q1.2.2)
else
(if q1.1 = 2 then
some ((.bool true), q1.2.2)
else
none))) = some r) : run (Et base) 93 [(.slice v0 v0n v0n)] h = some r := run_i Try.func93 (by kernel_rfl) ((f93_eq base v0 v0n h).trans hx)
/-! impl.linksOk (gates 0) -/
noncomputable def B94_0 (base : Nat) : Body := fun l h => lay s94_0 l fun s => exCode (Et base) (run (Et base)) loopL a94_0 (subC [1, 0, 1, 0, 0] (bodyC Try.f94)) s h (keepK s94_0 e94_0)
theorem B94_0_eq (base : Nat) (v0 : Option Addr) (v0n : Nat) (v1 : Int) (v7 : Option Addr) (v7n : Nat) (v8 : Int) (v9 : Int) (h : AH) : B94_0 base [some (.slice v0 v0n v0n), some (.int .i64 v1), some (.slice v7 v7n v7n), some (.int .i64 v8), some (.int .i64 v9)] h =
((if (decide (v9 < v8)) = true then
(if 0 ≤ v9 ∧ v9 < ((v7n : Nat) : Int) then
((v7 : Option Addr)).bind fun a1 =>
((cell h a1.block (a1.off + Int.toNat v9 * 1)).bind (getI .i64)).bind fun n2 =>
((run (Et base) 67 [(.int .i64 n2), (.int .i64 (1 : Int)), (.int .i64 (99999 : Int))] h).bind fun r4 =>
((some r4.1).bind getB).bind fun b5 =>
(if (!b5) = true then
some (.inl ([some (.slice v0 v0n v0n), some (.int .i64 v1), some (.slice v7 v7n v7n), some (.int .i64 v8), some (.int .i64 v9), some (.bool true)], r4.2))
else
(if (n2 == v1) = true then
some (.inl ([some (.slice v0 v0n v0n), some (.int .i64 v1), some (.slice v7 v7n v7n), some (.int .i64 v8), some (.int .i64 v9), some (.bool true)], r4.2))
else
(if (decide (v9 > (0 : Int))) = true then
(if 0 ≤ (IntKind.wrap .i64 (v9 - (1 : Int))) ∧ (IntKind.wrap .i64 (v9 - (1 : Int))) < ((v0n : Nat) : Int) then
((v0 : Option Addr)).bind fun a6 =>
((cell r4.2 a6.block (a6.off + Int.toNat (IntKind.wrap .i64 (v9 - (1 : Int))) * 1)).bind (getI .i64)).bind fun n7 =>
some (.inl ([some (.slice v0 v0n v0n), some (.int .i64 v1), some (.slice v7 v7n v7n), some (.int .i64 v8), some (.int .i64 v9), some (.bool (decide (n7 ≥ n2)))], r4.2))
else none)
else
some (.inl ([some (.slice v0 v0n v0n), some (.int .i64 v1), some (.slice v7 v7n v7n), some (.int .i64 v8), some (.int .i64 v9), some (.bool false)], r4.2)))))).bind fun j3 => joinK j3 fun j3 =>
((sget j3.1 0).bind getS).bind fun l8 =>
((sget (j3.1.tail) 0).bind (getI .i64)).bind fun n9 =>
((sget (j3.1.tail.tail) 0).bind getS).bind fun l10 =>
((sget (j3.1.tail.tail.tail) 0).bind (getI .i64)).bind fun n11 =>
((sget (j3.1.tail.tail.tail.tail) 0).bind (getI .i64)).bind fun n12 =>
((sget (j3.1.tail.tail.tail.tail.tail) 0).bind getB).bind fun b13 =>
(if b13 = true then
some (1, [some (.bool false)], j3.2)
else
some (0, [some (.slice l8.1 l8.2 l8.2), some (.int .i64 n9), some (.slice l10.1 l10.2 l10.2), some (.int .i64 n11), some (.int .i64 (IntKind.wrap .i64 (n12 + (1 : Int))))], j3.2))
else none)
else
some (2, [some (.slice v0 v0n v0n)], h)) : Option (Nat × Slots × AH)) := by kernel_rfl
theorem f94_eq (base : Nat) (v0 : Option Addr) (v0n : Nat) (v1 : Int) (h : AH) : exFun (Et base) (run (Et base)) loopL a94 Try.f94 [(.slice v0 v0n v0n), (.int .i64 v1)] h =
((loopL (B94_0 base) [some (.slice v0 v0n v0n), some (.int .i64 v1), some (.slice v0 v0n v0n), some (.int .i64 ((v0n : Nat) : Int)), some (.int .i64 (0 : Int))] h).bind fun q1 =>
(if q1.1 = 1 then
((sget q1.2.1 0).bind getB).bind fun b2 =>
some ((.bool b2), q1.2.2)
else
(if q1.1 = 2 then
((sget q1.2.1 0).bind getS).bind fun l3 =>
some ((.bool (decide (((l3.2 : Nat) : Int) ≤ (50 : Int)))), q1.2.2)
else
none)) : Option (Value × AH)) := by kernel_rfl
theorem r94 {base : Nat} {v0 : Option Addr} {v0n : Nat} {v1 : Int} {h : AH} {r : Value × AH} (hx :
((loopL (B94_0 base) [some (.slice v0 v0n v0n), some (.int .i64 v1), some (.slice v0 v0n v0n), some (.int .i64 ((v0n : Nat) : Int)), some (.int .i64 (0 : Int))] h).bind fun q1 =>
(if q1.1 = 1 then
((sget q1.2.1 0).bind getB).bind fun b2 =>
some ((.bool b2), q1.2.2)
else
(if q1.1 = 2 then
((sget q1.2.1 0).bind getS).bind fun l3 =>
some ((.bool (decide (((l3.2 : Nat) : Int) ≤ (50 : Int)))), q1.2.2)
else
none))) = some r) : run (Et base) 94 [(.slice v0 v0n v0n), (.int .i64 v1)] h = some r := run_i Try.func94 (by kernel_rfl) ((f94_eq base v0 v0n v1 h).trans hx)
/-! laws.FnExactActorOk (gates 2) -/
theorem f7_eq (base : Nat) (v0 : Option Addr) (v0n : Nat) (v1_0 : Int) (v1_1 : Int) (v1_2 : Option Addr) (v1_2n : Nat) (v1_3 : Option Addr) (v1_3n : Nat) (v1_4 : Option Addr) (v1_4n : Nat) (h : AH) : exFun (Et base) (run (Et base)) loopL a7 Try.f7 [(.slice v0 v0n v0n), (.agg #[(.int .i64 v1_0), (.int .i64 v1_1), (.slice v1_2 v1_2n v1_2n), (.slice v1_3 v1_3n v1_3n), (.slice v1_4 v1_4n v1_4n)])] h =
((some (h ++ [some ⟨[(.int .i64 v1_0), (.int .i64 v1_1), (.slice v1_2 v1_2n v1_2n), (.slice v1_3 v1_3n v1_3n), (.slice v1_4 v1_4n v1_4n)], 56⟩])).bind fun h1 =>
(run (Et base) 20 [(.slice v0 v0n v0n), (.int .i64 (1048576 : Int))] h1).bind fun r2 =>
((some r2.1).bind (getI .i64)).bind fun n3 =>
(if (decide (n3 < (0 : Int))) = true then
some ((.bool true), r2.2)
else
((cell r2.2 (List.length h) 0).bind (getI .i64)).bind fun n4 =>
((cell r2.2 (List.length h) 1).bind (getI .i64)).bind fun n5 =>
((cell r2.2 (List.length h) 2).bind getS).bind fun l6 =>
((cell r2.2 (List.length h) 3).bind getS).bind fun l7 =>
((cell r2.2 (List.length h) 4).bind getS).bind fun l8 =>
(run (Et base) 36 [(.agg #[(.int .i64 n4), (.int .i64 n5), (.slice l6.1 l6.2 l6.2), (.slice l7.1 l7.2 l7.2), (.slice l8.1 l8.2 l8.2)]), (.int .i64 n3)] r2.2).bind fun r9 =>
((some r9.1).bind (getI .i64)).bind fun n10 =>
(if (decide (n10 < (0 : Int))) = true then
some ((.bool true), r9.2)
else
(run (Et base) 22 [(.slice v0 v0n v0n)] r9.2).bind fun r11 =>
((some r11.1).bind getS).bind fun l12 =>
(gate (sameA r9.2 r11.2 (some ⟨(List.length h), 0, none⟩) 5)
(((cell r11.2 (List.length h) 0).bind (getI .i64)).bind fun n13 =>
((cell r11.2 (List.length h) 1).bind (getI .i64)).bind fun n14 =>
((cell r11.2 (List.length h) 2).bind getS).bind fun l15 =>
((cell r11.2 (List.length h) 3).bind getS).bind fun l16 =>
((cell r11.2 (List.length h) 4).bind getS).bind fun l17 =>
(run (Et base) 38 [(.agg #[(.int .i64 n13), (.int .i64 n14), (.slice l15.1 l15.2 l15.2), (.slice l16.1 l16.2 l16.2), (.slice l17.1 l17.2 l17.2)])] r11.2).bind fun r18 =>
((some r18.1).bind (getAgg 5)).bind fun l19 =>
((l19[0]?).bind (getI .i64)).bind fun n20 =>
((l19[1]?).bind (getI .i64)).bind fun n21 =>
((l19[2]?).bind getS).bind fun l22 =>
((l19[3]?).bind getS).bind fun l23 =>
((l19[4]?).bind getS).bind fun l24 =>
(run (Et base) 37 [(.slice l12.1 l12.2 l12.2), (.agg #[(.int .i64 n20), (.int .i64 n21), (.slice l22.1 l22.2 l22.2), (.slice l23.1 l23.2 l23.2), (.slice l24.1 l24.2 l24.2)])] r18.2).bind fun r25 =>
((some r25.1).bind getB).bind fun b26 =>
(run (Et base) 22 [(.slice v0 v0n v0n)] r25.2).bind fun r27 =>
((some r27.1).bind getS).bind fun l28 =>
((cell r27.2 (List.length h) 0).bind (getI .i64)).bind fun n29 =>
((cell r27.2 (List.length h) 1).bind (getI .i64)).bind fun n30 =>
((cell r27.2 (List.length h) 2).bind getS).bind fun l31 =>
((cell r27.2 (List.length h) 3).bind getS).bind fun l32 =>
((cell r27.2 (List.length h) 4).bind getS).bind fun l33 =>
(run (Et base) 38 [(.agg #[(.int .i64 n29), (.int .i64 n30), (.slice l31.1 l31.2 l31.2), (.slice l32.1 l32.2 l32.2), (.slice l33.1 l33.2 l33.2)])] r27.2).bind fun r34 =>
((some r34.1).bind (getAgg 5)).bind fun l35 =>
((l35[0]?).bind (getI .i64)).bind fun n36 =>
((l35[1]?).bind (getI .i64)).bind fun n37 =>
((l35[2]?).bind getS).bind fun l38 =>
((l35[3]?).bind getS).bind fun l39 =>
((l35[4]?).bind getS).bind fun l40 =>
(some (r34.2 ++ [some ⟨[(.int .i64 0), (.int .i64 0), (.slice none 0 0), (.slice none 0 0), (.slice none 0 0)], 29⟩])).bind fun h41 =>
(wr base h41 (List.length r34.2) 0 [(.int .i64 n36), (.int .i64 n37), (.slice l38.1 l38.2 l38.2), (.slice l39.1 l39.2 l39.2), (.slice l40.1 l40.2 l40.2)]).bind fun h42 =>
((cell h42 (List.length r34.2) 0).bind (getI .i64)).bind fun n43 =>
((cell h42 (List.length r34.2) 1).bind (getI .i64)).bind fun n44 =>
((cell h42 (List.length r34.2) 2).bind getS).bind fun l45 =>
((cell h42 (List.length r34.2) 3).bind getS).bind fun l46 =>
((cell h42 (List.length r34.2) 4).bind getS).bind fun l47 =>
(run (Et base) 39 [(.slice l28.1 l28.2 l28.2), (.agg #[(.int .i64 n43), (.int .i64 n44), (.slice l45.1 l45.2 l45.2), (.slice l46.1 l46.2 l46.2), (.slice l47.1 l47.2 l47.2)])] h42).bind fun r48 =>
((some r48.1).bind getB).bind fun b49 =>
(if (!(b49 == b26)) = true then
some ((.bool false), r48.2)
else
(run (Et base) 22 [(.slice v0 v0n v0n)] r48.2).bind fun r50 =>
((some r50.1).bind getS).bind fun l51 =>
(run (Et base) 25 [(.slice l28.1 l28.2 l28.2), (.slice l51.1 l51.2 l51.2)] r50.2).bind fun r52 =>
((some r52.1).bind getB).bind fun b53 =>
(if (!b53) = true then
some ((.bool false), r52.2)
else
((cell r52.2 (List.length r34.2) 0).bind (getI .i64)).bind fun n54 =>
((cell r52.2 (List.length r34.2) 1).bind (getI .i64)).bind fun n55 =>
((cell r52.2 (List.length r34.2) 2).bind getS).bind fun l56 =>
((cell r52.2 (List.length r34.2) 3).bind getS).bind fun l57 =>
((cell r52.2 (List.length r34.2) 4).bind getS).bind fun l58 =>
((cell r52.2 (List.length h) 0).bind (getI .i64)).bind fun n59 =>
((cell r52.2 (List.length h) 1).bind (getI .i64)).bind fun n60 =>
((cell r52.2 (List.length h) 2).bind getS).bind fun l61 =>
((cell r52.2 (List.length h) 3).bind getS).bind fun l62 =>
((cell r52.2 (List.length h) 4).bind getS).bind fun l63 =>
(run (Et base) 38 [(.agg #[(.int .i64 n59), (.int .i64 n60), (.slice l61.1 l61.2 l61.2), (.slice l62.1 l62.2 l62.2), (.slice l63.1 l63.2 l63.2)])] r52.2).bind fun r64 =>
((some r64.1).bind (getAgg 5)).bind fun l65 =>
((l65[0]?).bind (getI .i64)).bind fun n66 =>
((l65[1]?).bind (getI .i64)).bind fun n67 =>
((l65[2]?).bind getS).bind fun l68 =>
((l65[3]?).bind getS).bind fun l69 =>
((l65[4]?).bind getS).bind fun l70 =>
(gate (sameA r52.2 r64.2 (some ⟨(List.length r34.2), 0, none⟩) 5)
((run (Et base) 15 [(.agg #[(.int .i64 n54), (.int .i64 n55), (.slice l56.1 l56.2 l56.2), (.slice l57.1 l57.2 l57.2), (.slice l58.1 l58.2 l58.2)]), (.agg #[(.int .i64 n66), (.int .i64 n67), (.slice l68.1 l68.2 l68.2), (.slice l69.1 l69.2 l69.2), (.slice l70.1 l70.2 l70.2)])] r64.2).bind fun r71 =>
((some r71.1).bind getB).bind fun b72 =>
(if (!b72) = true then
some ((.bool false), r71.2)
else
some ((.bool true), r71.2)))))))))) : Option (Value × AH)) := by kernel_rfl
theorem r7 {base : Nat} {v0 : Option Addr} {v0n : Nat} {v1_0 : Int} {v1_1 : Int} {v1_2 : Option Addr} {v1_2n : Nat} {v1_3 : Option Addr} {v1_3n : Nat} {v1_4 : Option Addr} {v1_4n : Nat} {h : AH} {r : Value × AH} (hx :
((some (h ++ [some ⟨[(.int .i64 v1_0), (.int .i64 v1_1), (.slice v1_2 v1_2n v1_2n), (.slice v1_3 v1_3n v1_3n), (.slice v1_4 v1_4n v1_4n)], 56⟩])).bind fun h1 =>
(run (Et base) 20 [(.slice v0 v0n v0n), (.int .i64 (1048576 : Int))] h1).bind fun r2 =>
((some r2.1).bind (getI .i64)).bind fun n3 =>
(if (decide (n3 < (0 : Int))) = true then
some ((.bool true), r2.2)
else
((cell r2.2 (List.length h) 0).bind (getI .i64)).bind fun n4 =>
((cell r2.2 (List.length h) 1).bind (getI .i64)).bind fun n5 =>
((cell r2.2 (List.length h) 2).bind getS).bind fun l6 =>
((cell r2.2 (List.length h) 3).bind getS).bind fun l7 =>
((cell r2.2 (List.length h) 4).bind getS).bind fun l8 =>
(run (Et base) 36 [(.agg #[(.int .i64 n4), (.int .i64 n5), (.slice l6.1 l6.2 l6.2), (.slice l7.1 l7.2 l7.2), (.slice l8.1 l8.2 l8.2)]), (.int .i64 n3)] r2.2).bind fun r9 =>
((some r9.1).bind (getI .i64)).bind fun n10 =>
(if (decide (n10 < (0 : Int))) = true then
some ((.bool true), r9.2)
else
(run (Et base) 22 [(.slice v0 v0n v0n)] r9.2).bind fun r11 =>
((some r11.1).bind getS).bind fun l12 =>
(gate (sameA r9.2 r11.2 (some ⟨(List.length h), 0, none⟩) 5)
(((cell r11.2 (List.length h) 0).bind (getI .i64)).bind fun n13 =>
((cell r11.2 (List.length h) 1).bind (getI .i64)).bind fun n14 =>
((cell r11.2 (List.length h) 2).bind getS).bind fun l15 =>
((cell r11.2 (List.length h) 3).bind getS).bind fun l16 =>
((cell r11.2 (List.length h) 4).bind getS).bind fun l17 =>
(run (Et base) 38 [(.agg #[(.int .i64 n13), (.int .i64 n14), (.slice l15.1 l15.2 l15.2), (.slice l16.1 l16.2 l16.2), (.slice l17.1 l17.2 l17.2)])] r11.2).bind fun r18 =>
((some r18.1).bind (getAgg 5)).bind fun l19 =>
((l19[0]?).bind (getI .i64)).bind fun n20 =>
((l19[1]?).bind (getI .i64)).bind fun n21 =>
((l19[2]?).bind getS).bind fun l22 =>
((l19[3]?).bind getS).bind fun l23 =>
((l19[4]?).bind getS).bind fun l24 =>
(run (Et base) 37 [(.slice l12.1 l12.2 l12.2), (.agg #[(.int .i64 n20), (.int .i64 n21), (.slice l22.1 l22.2 l22.2), (.slice l23.1 l23.2 l23.2), (.slice l24.1 l24.2 l24.2)])] r18.2).bind fun r25 =>
((some r25.1).bind getB).bind fun b26 =>
(run (Et base) 22 [(.slice v0 v0n v0n)] r25.2).bind fun r27 =>
((some r27.1).bind getS).bind fun l28 =>
((cell r27.2 (List.length h) 0).bind (getI .i64)).bind fun n29 =>
((cell r27.2 (List.length h) 1).bind (getI .i64)).bind fun n30 =>
((cell r27.2 (List.length h) 2).bind getS).bind fun l31 =>
((cell r27.2 (List.length h) 3).bind getS).bind fun l32 =>
((cell r27.2 (List.length h) 4).bind getS).bind fun l33 =>
(run (Et base) 38 [(.agg #[(.int .i64 n29), (.int .i64 n30), (.slice l31.1 l31.2 l31.2), (.slice l32.1 l32.2 l32.2), (.slice l33.1 l33.2 l33.2)])] r27.2).bind fun r34 =>
((some r34.1).bind (getAgg 5)).bind fun l35 =>
((l35[0]?).bind (getI .i64)).bind fun n36 =>
((l35[1]?).bind (getI .i64)).bind fun n37 =>
((l35[2]?).bind getS).bind fun l38 =>
((l35[3]?).bind getS).bind fun l39 =>
((l35[4]?).bind getS).bind fun l40 =>
(some (r34.2 ++ [some ⟨[(.int .i64 0), (.int .i64 0), (.slice none 0 0), (.slice none 0 0), (.slice none 0 0)], 29⟩])).bind fun h41 =>
(wr base h41 (List.length r34.2) 0 [(.int .i64 n36), (.int .i64 n37), (.slice l38.1 l38.2 l38.2), (.slice l39.1 l39.2 l39.2), (.slice l40.1 l40.2 l40.2)]).bind fun h42 =>
((cell h42 (List.length r34.2) 0).bind (getI .i64)).bind fun n43 =>
((cell h42 (List.length r34.2) 1).bind (getI .i64)).bind fun n44 =>
((cell h42 (List.length r34.2) 2).bind getS).bind fun l45 =>
((cell h42 (List.length r34.2) 3).bind getS).bind fun l46 =>
((cell h42 (List.length r34.2) 4).bind getS).bind fun l47 =>
(run (Et base) 39 [(.slice l28.1 l28.2 l28.2), (.agg #[(.int .i64 n43), (.int .i64 n44), (.slice l45.1 l45.2 l45.2), (.slice l46.1 l46.2 l46.2), (.slice l47.1 l47.2 l47.2)])] h42).bind fun r48 =>
((some r48.1).bind getB).bind fun b49 =>
(if (!(b49 == b26)) = true then
some ((.bool false), r48.2)
else
(run (Et base) 22 [(.slice v0 v0n v0n)] r48.2).bind fun r50 =>
((some r50.1).bind getS).bind fun l51 =>
(run (Et base) 25 [(.slice l28.1 l28.2 l28.2), (.slice l51.1 l51.2 l51.2)] r50.2).bind fun r52 =>
((some r52.1).bind getB).bind fun b53 =>
(if (!b53) = true then
some ((.bool false), r52.2)
else
((cell r52.2 (List.length r34.2) 0).bind (getI .i64)).bind fun n54 =>
((cell r52.2 (List.length r34.2) 1).bind (getI .i64)).bind fun n55 =>
((cell r52.2 (List.length r34.2) 2).bind getS).bind fun l56 =>
((cell r52.2 (List.length r34.2) 3).bind getS).bind fun l57 =>
((cell r52.2 (List.length r34.2) 4).bind getS).bind fun l58 =>
((cell r52.2 (List.length h) 0).bind (getI .i64)).bind fun n59 =>
((cell r52.2 (List.length h) 1).bind (getI .i64)).bind fun n60 =>
((cell r52.2 (List.length h) 2).bind getS).bind fun l61 =>
((cell r52.2 (List.length h) 3).bind getS).bind fun l62 =>
((cell r52.2 (List.length h) 4).bind getS).bind fun l63 =>
(run (Et base) 38 [(.agg #[(.int .i64 n59), (.int .i64 n60), (.slice l61.1 l61.2 l61.2), (.slice l62.1 l62.2 l62.2), (.slice l63.1 l63.2 l63.2)])] r52.2).bind fun r64 =>
((some r64.1).bind (getAgg 5)).bind fun l65 =>
((l65[0]?).bind (getI .i64)).bind fun n66 =>
((l65[1]?).bind (getI .i64)).bind fun n67 =>
((l65[2]?).bind getS).bind fun l68 =>
((l65[3]?).bind getS).bind fun l69 =>
((l65[4]?).bind getS).bind fun l70 =>
(gate (sameA r52.2 r64.2 (some ⟨(List.length r34.2), 0, none⟩) 5)
((run (Et base) 15 [(.agg #[(.int .i64 n54), (.int .i64 n55), (.slice l56.1 l56.2 l56.2), (.slice l57.1 l57.2 l57.2), (.slice l58.1 l58.2 l58.2)]), (.agg #[(.int .i64 n66), (.int .i64 n67), (.slice l68.1 l68.2 l68.2), (.slice l69.1 l69.2 l69.2), (.slice l70.1 l70.2 l70.2)])] r64.2).bind fun r71 =>
((some r71.1).bind getB).bind fun b72 =>
(if (!b72) = true then
some ((.bool false), r71.2)
else
some ((.bool true), r71.2))))))))))) = some r) : run (Et base) 7 [(.slice v0 v0n v0n), (.agg #[(.int .i64 v1_0), (.int .i64 v1_1), (.slice v1_2 v1_2n v1_2n), (.slice v1_3 v1_3n v1_3n), (.slice v1_4 v1_4n v1_4n)])] h = some r := run_i Try.func7 (by kernel_rfl) ((f7_eq base v0 v0n v1_0 v1_1 v1_2 v1_2n v1_3 v1_3n v1_4 v1_4n h).trans hx)
end Go.Proofs.Ytnmjhhipbfngkaa.Am
