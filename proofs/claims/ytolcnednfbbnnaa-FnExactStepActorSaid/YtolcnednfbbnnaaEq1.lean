/- What each of these functions comes to on the abstract machine, one equation a function and one a loop.
Conditions: none. -/
import Derived.Test.YtolcnednfbbnnaaTb
set_option linter.unusedVariables false
set_option maxRecDepth 100000
namespace Go.Proofs.Ytolcnednfbbnnaa.Am
open Go Go.RowKit
/-! laws.FnExactStepActor (gates 7) -/
noncomputable abbrev qf4 (base : Nat) (v0 : Option Addr) (v0n : Nat) (v1_0 : Int) (v1_1 : Int) (v1_2 : Option Addr) (v1_2n : Nat) (v1_3 : Option Addr) (v1_3n : Nat) (v1_4 : Option Addr) (v1_4n : Nat) (v2 : Int) (h : AH) : Option (Value × AH) :=
nw1 h 49 [(vI v1_0), (vI v1_1), (vL v1_2 v1_2n), (vL v1_3 v1_3n), (vL v1_4 v1_4n)] fun h1 =>
(run (Et base) 7 [(vL v0 v0n), (vI (1048576 : Int))] h1).bind fun r2 =>
((some r2.1).bind (getI .i64)).bind fun n3 =>
(if (decide (n3 < (0 : Int))) = true then
some ((.bool true), r2.2)
else
c_IILLL r2.2 (List.length h) 0 fun n4 n5 l6 l7 l8 =>
(run (Et base) 20 [(.agg #[(vI n4), (vI n5), (vL l6.1 l6.2), (vL l7.1 l7.2), (vL l8.1 l8.2)]), (vI n3)] r2.2).bind fun r9 =>
((some r9.1).bind (getI .i64)).bind fun n10 =>
(if (decide (n10 < (0 : Int))) = true then
some ((.bool true), r9.2)
else
(run (Et base) 10 [(vL v0 v0n)] r9.2).bind fun r11 =>
((some r11.1).bind getS).bind fun l12 =>
(gate (sameA r9.2 r11.2 (some ⟨(List.length h), 0, none⟩) 5)
(c_IILLL r11.2 (List.length h) 0 fun n13 n14 l15 l16 l17 =>
(run (Et base) 22 [(.agg #[(vI n13), (vI n14), (vL l15.1 l15.2), (vL l16.1 l16.2), (vL l17.1 l17.2)])] r11.2).bind fun r18 =>
gG (some r18.1) 5 fun l19 =>
l_IILLL l19 fun n20 n21 l22 l23 l24 =>
(run (Et base) 21 [(vL l12.1 l12.2), (.agg #[(vI n20), (vI n21), (vL l22.1 l22.2), (vL l23.1 l23.2), (vL l24.1 l24.2)]), (vI v2)] r18.2).bind fun r25 =>
(getTup 2 r25.1).bind fun l26 =>
gG (l26[0]?) 5 fun l27 =>
l_IILLL l27 fun n28 n29 l30 l31 l32 =>
gG (l26[1]?) 7 fun l33 =>
l_IIIIITL l33 fun n34 n35 n36 n37 n38 s39 l40 =>
(gate (neA (some ⟨(List.length h), 0, none⟩) (List.length r25.2))
(nw1 r25.2 52 [(vI 0), (vI 0), (vL none 0), (vL none 0), (vL none 0)] fun h41 =>
(gate (neA (some ⟨(List.length h), 0, none⟩) (List.length h41))
(nw1 h41 54 [(vI 0), (vI 0), (vI 0), (vI 0), (vI 0), (vT ⟨#[]⟩), (vL none 0)] fun h42 =>
(wr base h42 (List.length r25.2) 0 [(vI n28), (vI n29), (vL l30.1 l30.2), (vL l31.1 l31.2), (vL l32.1 l32.2)]).bind fun h43 =>
(wr base h43 (List.length h41) 0 [(vI n34), (vI n35), (vI n36), (vI n37), (vI n38), (vT s39), (vL l40.1 l40.2)]).bind fun h44 =>
(run (Et base) 10 [(vL v0 v0n)] h44).bind fun r45 =>
((some r45.1).bind getS).bind fun l46 =>
c_IILLL r45.2 (List.length h) 0 fun n47 n48 l49 l50 l51 =>
(run (Et base) 22 [(.agg #[(vI n47), (vI n48), (vL l49.1 l49.2), (vL l50.1 l50.2), (vL l51.1 l51.2)])] r45.2).bind fun r52 =>
gG (some r52.1) 5 fun l53 =>
l_IILLL l53 fun n54 n55 l56 l57 l58 =>
nw1 r52.2 52 [(vI 0), (vI 0), (vL none 0), (vL none 0), (vL none 0)] fun h59 =>
(wr base h59 (List.length r52.2) 0 [(vI n54), (vI n55), (vL l56.1 l56.2), (vL l57.1 l57.2), (vL l58.1 l58.2)]).bind fun h60 =>
c_IILLL h60 (List.length r52.2) 0 fun n61 n62 l63 l64 l65 =>
(run (Et base) 23 [(vL l46.1 l46.2), (.agg #[(vI n61), (vI n62), (vL l63.1 l63.2), (vL l64.1 l64.2), (vL l65.1 l65.2)]), (vI v2)] h60).bind fun r66 =>
(getTup 2 r66.1).bind fun l67 =>
gG (l67[0]?) 5 fun l68 =>
l_IILLL l68 fun n69 n70 l71 l72 l73 =>
gG (l67[1]?) 7 fun l74 =>
l_IIIIITL l74 fun n75 n76 n77 n78 n79 s80 l81 =>
nw1 r66.2 52 [(vI 0), (vI 0), (vL none 0), (vL none 0), (vL none 0)] fun h82 =>
nw1 h82 54 [(vI 0), (vI 0), (vI 0), (vI 0), (vI 0), (vT ⟨#[]⟩), (vL none 0)] fun h83 =>
(wr base h83 (List.length r66.2) 0 [(vI n69), (vI n70), (vL l71.1 l71.2), (vL l72.1 l72.2), (vL l73.1 l73.2)]).bind fun h84 =>
(wr base h84 (List.length h82) 0 [(vI n75), (vI n76), (vI n77), (vI n78), (vI n79), (vT s80), (vL l81.1 l81.2)]).bind fun h85 =>
(c_IILLL h85 (List.length r66.2) 0 fun n87 n88 l89 l90 l91 =>
c_IILLL h85 (List.length r25.2) 0 fun n92 n93 l94 l95 l96 =>
(run (Et base) 24 [(.agg #[(vI n87), (vI n88), (vL l89.1 l89.2), (vL l90.1 l90.2), (vL l91.1 l91.2)]), (.agg #[(vI n92), (vI n93), (vL l94.1 l94.2), (vL l95.1 l95.2), (vL l96.1 l96.2)])] h85).bind fun r97 =>
((some r97.1).bind getB).bind fun b98 =>
(if (!b98) = true then
some (.inl ([some (vL v0 v0n), some (vI v2), some (vP (List.length h)), some (vP (List.length r25.2)), some (vP (List.length h41)), some (vL l46.1 l46.2), some (vP (List.length r52.2)), some (vP (List.length r66.2)), some (vP (List.length h82)), some (.bool true)], r97.2))
else
c_IIIIITL r97.2 (List.length h82) 0 fun n99 n100 n101 n102 n103 s104 l105 =>
c_IIIIITL r97.2 (List.length h41) 0 fun n106 n107 n108 n109 n110 s111 l112 =>
(run (Et base) 25 [(.agg #[(vI n99), (vI n100), (vI n101), (vI n102), (vI n103), (vT s104), (vL l105.1 l105.2)]), (.agg #[(vI n106), (vI n107), (vI n108), (vI n109), (vI n110), (vT s111), (vL l112.1 l112.2)])] r97.2).bind fun r113 =>
((some r113.1).bind getB).bind fun b114 =>
some (.inl ([some (vL v0 v0n), some (vI v2), some (vP (List.length h)), some (vP (List.length r25.2)), some (vP (List.length h41)), some (vL l46.1 l46.2), some (vP (List.length r52.2)), some (vP (List.length r66.2)), some (vP (List.length h82)), some (.bool (!b114))], r113.2)))).bind fun j86 => joinK j86 fun j86 =>
j_LIAAALAAAB j86.1 fun l115 n116 d117 d118 d119 l120 d121 d122 d123 b124 =>
(if b124 = true then
some ((.bool false), j86.2)
else
(run (Et base) 10 [(vL l115.1 l115.2)] j86.2).bind fun r125 =>
((some r125.1).bind getS).bind fun l126 =>
(run (Et base) 14 [(vL l120.1 l120.2), (vL l126.1 l126.2)] r125.2).bind fun r127 =>
((some r127.1).bind getB).bind fun b128 =>
(if (!b128) = true then
some ((.bool false), r127.2)
else
c_IILLL r127.2 d121.block d121.off fun n129 n130 l131 l132 l133 =>
c_IILLL r127.2 d117.block d117.off fun n134 n135 l136 l137 l138 =>
(run (Et base) 22 [(.agg #[(vI n134), (vI n135), (vL l136.1 l136.2), (vL l137.1 l137.2), (vL l138.1 l138.2)])] r127.2).bind fun r139 =>
gG (some r139.1) 5 fun l140 =>
l_IILLL l140 fun n141 n142 l143 l144 l145 =>
(gate (sameA r127.2 r139.2 (some d121) 5)
((run (Et base) 24 [(.agg #[(vI n129), (vI n130), (vL l131.1 l131.2), (vL l132.1 l132.2), (vL l133.1 l133.2)]), (.agg #[(vI n141), (vI n142), (vL l143.1 l143.2), (vL l144.1 l144.2), (vL l145.1 l145.2)])] r139.2).bind fun r146 =>
((some r146.1).bind getB).bind fun b147 =>
(if (!b147) = true then
some ((.bool false), r146.2)
else
(run (Et base) 16 [(vL l120.1 l120.2), (vI (1 : Int))] r146.2).bind fun r148 =>
((some r148.1).bind (getI .i64)).bind fun n149 =>
c_IILLL r148.2 d121.block d121.off fun n150 n151 l152 l153 l154 =>
(run (Et base) 26 [(.agg #[(vI n150), (vI n151), (vL l152.1 l152.2), (vL l153.1 l153.2), (vL l154.1 l154.2)]), (vI n149)] r148.2).bind fun r155 =>
((some r155.1).bind (getI .i64)).bind fun n156 =>
((if (decide (n156 < (0 : Int))) = true then
some (.inl ([some (vL l115.1 l115.2), some (vI n116), some (vA d117), some (vA d118), some (vA d119), some (vA d122), some (vA d123), some (.bool true)], r155.2))
else
c_IILLL r155.2 d122.block d122.off fun n158 n159 l160 l161 l162 =>
c_IILLL r155.2 d118.block d118.off fun n163 n164 l165 l166 l167 =>
(run (Et base) 24 [(.agg #[(vI n158), (vI n159), (vL l160.1 l160.2), (vL l161.1 l161.2), (vL l162.1 l162.2)]), (.agg #[(vI n163), (vI n164), (vL l165.1 l165.2), (vL l166.1 l166.2), (vL l167.1 l167.2)])] r155.2).bind fun r168 =>
((some r168.1).bind getB).bind fun b169 =>
(if (!b169) = true then
some (.inl ([some (vL l115.1 l115.2), some (vI n116), some (vA d117), some (vA d118), some (vA d119), some (vA d122), some (vA d123), some (.bool true)], r168.2))
else
c_IIIIITL r168.2 d123.block d123.off fun n170 n171 n172 n173 n174 s175 l176 =>
c_IIIIITL r168.2 d119.block d119.off fun n177 n178 n179 n180 n181 s182 l183 =>
(run (Et base) 25 [(.agg #[(vI n170), (vI n171), (vI n172), (vI n173), (vI n174), (vT s175), (vL l176.1 l176.2)]), (.agg #[(vI n177), (vI n178), (vI n179), (vI n180), (vI n181), (vT s182), (vL l183.1 l183.2)])] r168.2).bind fun r184 =>
((some r184.1).bind getB).bind fun b185 =>
some (.inl ([some (vL l115.1 l115.2), some (vI n116), some (vA d117), some (vA d118), some (vA d119), some (vA d122), some (vA d123), some (.bool (!b185))], r184.2))))).bind fun j157 => joinK j157 fun j157 =>
j_LIAAAAAB j157.1 fun l186 n187 d188 d189 d190 d191 d192 b193 =>
(if b193 = true then
some ((.bool false), j157.2)
else
c_IILLL j157.2 d191.block d191.off fun n194 n195 l196 l197 l198 =>
(run (Et base) 26 [(.agg #[(vI n194), (vI n195), (vL l196.1 l196.2), (vL l197.1 l197.2), (vL l198.1 l198.2)]), (vI (1 : Int))] j157.2).bind fun r199 =>
((some r199.1).bind (getI .i64)).bind fun n200 =>
c_IIIIITL r199.2 d192.block d192.off fun n201 n202 n203 n204 n205 s206 l207 =>
(run (Et base) 27 [(.agg #[(vI n201), (vI n202), (vI n203), (vI n204), (vI n205), (vT s206), (vL l207.1 l207.2)]), (vI n200)] r199.2).bind fun r208 =>
((some r208.1).bind (getI .i64)).bind fun n209 =>
c_IILLL r208.2 d191.block d191.off fun n210 n211 l212 l213 l214 =>
(run (Et base) 28 [(.agg #[(vI n210), (vI n211), (vL l212.1 l212.2), (vL l213.1 l213.2), (vL l214.1 l214.2)]), (vI (1 : Int))] r208.2).bind fun r215 =>
((some r215.1).bind (getI .i64)).bind fun n216 =>
(if (decide (n216 < (0 : Int))) = true then
some ((.bool false), r215.2)
else
c_IIIIITL r215.2 d192.block d192.off fun n217 n218 n219 n220 n221 s222 l223 =>
(run (Et base) 29 [(.agg #[(vI n217), (vI n218), (vI n219), (vI n220), (vI n221), (vT s222), (vL l223.1 l223.2)]), (vI n216)] r215.2).bind fun r224 =>
((some r224.1).bind (getI .i64)).bind fun n225 =>
(if (decide (n225 < (0 : Int))) = true then
some ((.bool false), r224.2)
else
(if (n225 != n209) = true then
some ((.bool false), r224.2)
else
(run (Et base) 10 [(vL l186.1 l186.2)] r224.2).bind fun r226 =>
((some r226.1).bind getS).bind fun l227 =>
(gate (sameA r224.2 r226.2 (some d188) 5)
(c_IILLL r226.2 d188.block d188.off fun n228 n229 l230 l231 l232 =>
(run (Et base) 22 [(.agg #[(vI n228), (vI n229), (vL l230.1 l230.2), (vL l231.1 l231.2), (vL l232.1 l232.2)])] r226.2).bind fun r233 =>
gG (some r233.1) 5 fun l234 =>
l_IILLL l234 fun n235 n236 l237 l238 l239 =>
(run (Et base) 23 [(vL l227.1 l227.2), (.agg #[(vI n235), (vI n236), (vL l237.1 l237.2), (vL l238.1 l238.2), (vL l239.1 l239.2)]), (vI n187)] r233.2).bind fun r240 =>
(getTup 2 r240.1).bind fun l241 =>
gG (l241[0]?) 5 fun l242 =>
l_IILLL l242 fun n243 n244 l245 l246 l247 =>
gG (l241[1]?) 7 fun l248 =>
l_IIIIITL l248 fun n249 n250 n251 n252 n253 s254 l255 =>
(gate (neA (some d188) (List.length r240.2))
(nw1 r240.2 52 [(vI 0), (vI 0), (vL none 0), (vL none 0), (vL none 0)] fun h256 =>
(gate (neA (some d188) (List.length h256))
(nw1 h256 54 [(vI 0), (vI 0), (vI 0), (vI 0), (vI 0), (vT ⟨#[]⟩), (vL none 0)] fun h257 =>
(wr base h257 (List.length r240.2) 0 [(vI n243), (vI n244), (vL l245.1 l245.2), (vL l246.1 l246.2), (vL l247.1 l247.2)]).bind fun h258 =>
(wr base h258 (List.length h256) 0 [(vI n249), (vI n250), (vI n251), (vI n252), (vI n253), (vT s254), (vL l255.1 l255.2)]).bind fun h259 =>
(c_IILLL h259 (List.length r240.2) 0 fun n261 n262 l263 l264 l265 =>
c_IILLL h259 d189.block d189.off fun n266 n267 l268 l269 l270 =>
(run (Et base) 24 [(.agg #[(vI n261), (vI n262), (vL l263.1 l263.2), (vL l264.1 l264.2), (vL l265.1 l265.2)]), (.agg #[(vI n266), (vI n267), (vL l268.1 l268.2), (vL l269.1 l269.2), (vL l270.1 l270.2)])] h259).bind fun r271 =>
((some r271.1).bind getB).bind fun b272 =>
(if (!b272) = true then
some (.inl ([some (vA d191), some (vA d192), some (vI n209), some (.bool true)], r271.2))
else
c_IIIIITL r271.2 (List.length h256) 0 fun n273 n274 n275 n276 n277 s278 l279 =>
c_IIIIITL r271.2 d190.block d190.off fun n280 n281 n282 n283 n284 s285 l286 =>
(run (Et base) 25 [(.agg #[(vI n273), (vI n274), (vI n275), (vI n276), (vI n277), (vT s278), (vL l279.1 l279.2)]), (.agg #[(vI n280), (vI n281), (vI n282), (vI n283), (vI n284), (vT s285), (vL l286.1 l286.2)])] r271.2).bind fun r287 =>
((some r287.1).bind getB).bind fun b288 =>
some (.inl ([some (vA d191), some (vA d192), some (vI n209), some (.bool (!b288))], r287.2)))).bind fun j260 => joinK j260 fun j260 =>
j_AAIB j260.1 fun d289 d290 n291 b292 =>
(if b292 = true then
some ((.bool false), j260.2)
else
c_IILLL j260.2 d289.block d289.off fun n293 n294 l295 l296 l297 =>
(run (Et base) 28 [(.agg #[(vI n293), (vI n294), (vL l295.1 l295.2), (vL l296.1 l296.2), (vL l297.1 l297.2)]), (vI (1 : Int))] j260.2).bind fun r298 =>
((some r298.1).bind (getI .i64)).bind fun n299 =>
(if (decide (n299 < (0 : Int))) = true then
some ((.bool false), r298.2)
else
c_IIIIITL r298.2 d290.block d290.off fun n300 n301 n302 n303 n304 s305 l306 =>
(run (Et base) 29 [(.agg #[(vI n300), (vI n301), (vI n302), (vI n303), (vI n304), (vT s305), (vL l306.1 l306.2)]), (vI n299)] r298.2).bind fun r307 =>
((some r307.1).bind (getI .i64)).bind fun n308 =>
(if (decide (n308 < (0 : Int))) = true then
some ((.bool false), r307.2)
else
(if (n308 != n291) = true then
some ((.bool false), r307.2)
else
some ((.bool true), r307.2))))))))))))))))))))))))))))
theorem f4_eq (base : Nat) (v0 : Option Addr) (v0n : Nat) (v1_0 : Int) (v1_1 : Int) (v1_2 : Option Addr) (v1_2n : Nat) (v1_3 : Option Addr) (v1_3n : Nat) (v1_4 : Option Addr) (v1_4n : Nat) (v2 : Int) (h : AH) : exFun (Et base) (run (Et base)) loopL a4 Try.f4 [(vL v0 v0n), (.agg #[(vI v1_0), (vI v1_1), (vL v1_2 v1_2n), (vL v1_3 v1_3n), (vL v1_4 v1_4n)]), (vI v2)] h = qf4 base v0 v0n v1_0 v1_1 v1_2 v1_2n v1_3 v1_3n v1_4 v1_4n v2 h := by kernel_rfl
theorem r4 {base : Nat} {v0 : Option Addr} {v0n : Nat} {v1_0 : Int} {v1_1 : Int} {v1_2 : Option Addr} {v1_2n : Nat} {v1_3 : Option Addr} {v1_3n : Nat} {v1_4 : Option Addr} {v1_4n : Nat} {v2 : Int} {h : AH} {r : Value × AH} (hx : qf4 base v0 v0n v1_0 v1_1 v1_2 v1_2n v1_3 v1_3n v1_4 v1_4n v2 h = some r) : run (Et base) 4 [(vL v0 v0n), (.agg #[(vI v1_0), (vI v1_1), (vL v1_2 v1_2n), (vL v1_3 v1_3n), (vL v1_4 v1_4n)]), (vI v2)] h = some r := run_i Try.func4 (by kernel_rfl) ((f4_eq base v0 v0n v1_0 v1_1 v1_2 v1_2n v1_3 v1_3n v1_4 v1_4n v2 h).trans hx)
/-! laws.szInsS (gates 0) -/
noncomputable def B7_0 (base : Nat) : Body := fun l h => lay s7_0 l fun s => exCode (Et base) (run (Et base)) loopL a7_0 (subC [1, 1, 1, 0, 1, 0, 0] (bodyC Try.f7)) s h (keepK s7_0 e7_0)
theorem B7_0_eq (base : Nat) (v0 : Option Addr) (v0n : Nat) (v1 : Int) (v5 : Int) (h : AH) : B7_0 base [some (vL v0 v0n), some (vI v1), some (vI v5)] h =
((if (decide (v5 < ((v0n : Nat) : Int))) = true then
(if 0 ≤ v5 ∧ v5 < ((v0n : Nat) : Int) then
((v0 : Option Addr)).bind fun a1 =>
((cell h a1.block (a1.off + Int.toNat v5 * 6)).bind (getI .i64)).bind fun n2 =>
((cell h a1.block ((a1.off + Int.toNat v5 * 6) + 1)).bind (getI .i64)).bind fun n3 =>
((cell h a1.block (((a1.off + Int.toNat v5 * 6) + 1) + 1)).bind (getI .i64)).bind fun n4 =>
((cell h a1.block ((((a1.off + Int.toNat v5 * 6) + 1) + 1) + 1)).bind (getI .i64)).bind fun n5 =>
((cell h a1.block (((((a1.off + Int.toNat v5 * 6) + 1) + 1) + 1) + 1)).bind (getI .i64)).bind fun n6 =>
((cell h a1.block ((((((a1.off + Int.toNat v5 * 6) + 1) + 1) + 1) + 1) + 1)).bind getStr).bind fun s7 =>
(run (Et base) 40 [(.agg #[(.int .i64 n2), (.int .i64 n3), (.int .i64 n4), (.int .i64 n5), (.int .i64 n6), (.string s7)]), (.int .i64 v1)] h).bind fun r8 =>
((some r8.1).bind (getI .i64)).bind fun n9 =>
(if (decide (n9 < (0 : Int))) = true then
some (1, [some (.int .i64 (-1 : Int))], r8.2)
else
some (0, [some (.slice v0 v0n v0n), some (.int .i64 n9), some (.int .i64 (IntKind.wrap .i64 (v5 + (1 : Int))))], r8.2))
else none)
else
some (2, [some (.int .i64 v1)], h)) : Option (Nat × Slots × AH)) := by kernel_rfl
theorem f7_eq (base : Nat) (v0 : Option Addr) (v0n : Nat) (v1 : Int) (h : AH) : exFun (Et base) (run (Et base)) loopL a7 Try.f7 [(vL v0 v0n), (vI v1)] h =
((if (decide ((IntKind.wrap .i64 (v1 - ((v0n : Nat) : Int))) < (0 : Int))) = true then
some ((.int .i64 (-1 : Int)), h)
else
(loopL (B7_0 base) [some (.slice v0 v0n v0n), some (.int .i64 (IntKind.wrap .i64 (v1 - ((v0n : Nat) : Int)))), some (.int .i64 (0 : Int))] h).bind fun q1 =>
(if q1.1 = 1 then
((sget q1.2.1 0).bind (getI .i64)).bind fun n2 =>
some ((.int .i64 n2), q1.2.2)
else
(if q1.1 = 2 then
((sget q1.2.1 0).bind (getI .i64)).bind fun n3 =>
some ((.int .i64 n3), q1.2.2)
else
none))) : Option (Value × AH)) := by kernel_rfl
theorem r7 {base : Nat} {v0 : Option Addr} {v0n : Nat} {v1 : Int} {h : AH} {r : Value × AH} (hx : ((if (decide ((IntKind.wrap .i64 (v1 - ((v0n : Nat) : Int))) < (0 : Int))) = true then
some ((.int .i64 (-1 : Int)), h)
else
(loopL (B7_0 base) [some (.slice v0 v0n v0n), some (.int .i64 (IntKind.wrap .i64 (v1 - ((v0n : Nat) : Int)))), some (.int .i64 (0 : Int))] h).bind fun q1 =>
(if q1.1 = 1 then
((sget q1.2.1 0).bind (getI .i64)).bind fun n2 =>
some ((.int .i64 n2), q1.2.2)
else
(if q1.1 = 2 then
((sget q1.2.1 0).bind (getI .i64)).bind fun n3 =>
some ((.int .i64 n3), q1.2.2)
else
none)))) = some r) : run (Et base) 7 [(vL v0 v0n), (vI v1)] h = some r := run_i Try.func7 (by kernel_rfl) ((f7_eq base v0 v0n v1 h).trans hx)
/-! laws.szTerm (gates 0) -/
theorem f8_eq (base : Nat) (v0_0 : Int) (v0_1 : Int) (v0_2 : ByteArray) (v0_3 : Option Addr) (v0_3n : Nat) (v1 : Int) (h : AH) : exFun (Et base) (run (Et base)) loopL a8 Try.f8 [(.agg #[(vI v0_0), (vI v0_1), (vT v0_2), (vL v0_3 v0_3n)]), (vI v1)] h =
((some (h ++ [some ⟨[(.int .i64 v0_0), (.int .i64 v0_1), (.string v0_2), (.slice v0_3 v0_3n v0_3n)], 25⟩])).bind fun h1 =>
((cell h1 (List.length h) 2).bind getStr).bind fun s2 =>
(if (decide ((IntKind.wrap .i64 (v1 - (s2.size : Int))) < (0 : Int))) = true then
some ((.int .i64 (-1 : Int)), h1)
else
((cell h1 (List.length h) 3).bind getS).bind fun l3 =>
(run (Et base) 41 [(.slice l3.1 l3.2 l3.2), (.int .i64 (IntKind.wrap .i64 (v1 - (s2.size : Int))))] h1).bind fun r4 =>
((some r4.1).bind (getI .i64)).bind fun n5 =>
(if (decide (n5 < (0 : Int))) = true then
some ((.int .i64 (-1 : Int)), r4.2)
else
some ((.int .i64 n5), r4.2))) : Option (Value × AH)) := by kernel_rfl
theorem r8 {base : Nat} {v0_0 : Int} {v0_1 : Int} {v0_2 : ByteArray} {v0_3 : Option Addr} {v0_3n : Nat} {v1 : Int} {h : AH} {r : Value × AH} (hx : ((some (h ++ [some ⟨[(.int .i64 v0_0), (.int .i64 v0_1), (.string v0_2), (.slice v0_3 v0_3n v0_3n)], 25⟩])).bind fun h1 =>
((cell h1 (List.length h) 2).bind getStr).bind fun s2 =>
(if (decide ((IntKind.wrap .i64 (v1 - (s2.size : Int))) < (0 : Int))) = true then
some ((.int .i64 (-1 : Int)), h1)
else
((cell h1 (List.length h) 3).bind getS).bind fun l3 =>
(run (Et base) 41 [(.slice l3.1 l3.2 l3.2), (.int .i64 (IntKind.wrap .i64 (v1 - (s2.size : Int))))] h1).bind fun r4 =>
((some r4.1).bind (getI .i64)).bind fun n5 =>
(if (decide (n5 < (0 : Int))) = true then
some ((.int .i64 (-1 : Int)), r4.2)
else
some ((.int .i64 n5), r4.2)))) = some r) : run (Et base) 8 [(.agg #[(vI v0_0), (vI v0_1), (vT v0_2), (vL v0_3 v0_3n)]), (vI v1)] h = some r := run_i Try.func8 (by kernel_rfl) ((f8_eq base v0_0 v0_1 v0_2 v0_3 v0_3n v1 h).trans hx)
/-! laws.toInsS (gates 0) -/
noncomputable def B10_0 (base : Nat) : Body := fun l h => lay s10_0 l fun s => exCode (Et base) (run (Et base)) loopL a10_0 (subC [1, 1, 0, 1, 0, 0] (bodyC Try.f10)) s h (keepK s10_0 e10_0)
theorem B10_0_eq (base : Nat) (v0 : Option Addr) (v0n : Nat) (v3 : Option Addr) (v3n : Nat) (v4 : Int) (h : AH) : B10_0 base [some (vL v0 v0n), some (vL v3 v3n), some (vI v4)] h =
((if (decide (v4 < ((v0n : Nat) : Int))) = true then
(if 0 ≤ v4 ∧ v4 < ((v0n : Nat) : Int) then
((v0 : Option Addr)).bind fun a1 =>
c_IIIIIT h a1.block (a1.off + Int.toNat v4 * 6) fun n2 n3 n4 n5 n6 s7 =>
(run (Et base) 44 [(.agg #[(vI n2), (vI n3), (vI n4), (vI n5), (vI n6), (vT s7)])] h).bind fun r8 =>
gG (some r8.1) 6 fun l9 =>
l_IIIIIT l9 fun n10 n11 n12 n13 n14 s15 =>
(if 0 ≤ v4 ∧ v4 < ((v3n : Nat) : Int) then
((v3 : Option Addr)).bind fun a16 =>
(wr base r8.2 a16.block (a16.off + Int.toNat v4 * 6) [(vI n10), (vI n11), (vI n12), (vI n13), (vI n14), (vT s15)]).bind fun h17 =>
some (0, [some (vL v0 v0n), some (vL v3 v3n), some (vI (IntKind.wrap .i64 (v4 + (1 : Int))))], h17)
else none)
else none)
else
some (2, [some (vL v3 v3n)], h)) : Option (Nat × Slots × AH)) := by kernel_rfl
theorem f10_eq (base : Nat) (v0 : Option Addr) (v0n : Nat) (h : AH) : exFun (Et base) (run (Et base)) loopL a10 Try.f10 [(vL v0 v0n)] h =
((if ((v0n : Nat) : Int) = ((v0n : Nat) : Int) ∧ 0 ≤ ((v0n : Nat) : Int) ∧ ((v0n : Nat) : Int) * 56 ≤ 140737488355328 ∧ ((v0n : Nat) : Int) ≤ 140737488355328 then
(some (h ++ [some ⟨rep [(.int .i64 0), (.int .i64 0), (.int .i64 0), (.int .i64 0), (.int .i64 0), (.string ⟨#[]⟩)] (Int.toNat ((v0n : Nat) : Int)), 82⟩])).bind fun h1 =>
(loopL (B10_0 base) [some (.slice v0 v0n v0n), some (.slice (some ⟨(List.length h), 0, none⟩) (Int.toNat ((v0n : Nat) : Int)) (Int.toNat ((v0n : Nat) : Int))), some (.int .i64 (0 : Int))] h1).bind fun q2 =>
(if q2.1 = 2 then
((sget q2.2.1 0).bind getS).bind fun l3 =>
some ((.slice l3.1 l3.2 l3.2), q2.2.2)
else
none)
else none) : Option (Value × AH)) := by kernel_rfl
theorem r10 {base : Nat} {v0 : Option Addr} {v0n : Nat} {h : AH} {r : Value × AH} (hx : ((if ((v0n : Nat) : Int) = ((v0n : Nat) : Int) ∧ 0 ≤ ((v0n : Nat) : Int) ∧ ((v0n : Nat) : Int) * 56 ≤ 140737488355328 ∧ ((v0n : Nat) : Int) ≤ 140737488355328 then
(some (h ++ [some ⟨rep [(.int .i64 0), (.int .i64 0), (.int .i64 0), (.int .i64 0), (.int .i64 0), (.string ⟨#[]⟩)] (Int.toNat ((v0n : Nat) : Int)), 82⟩])).bind fun h1 =>
(loopL (B10_0 base) [some (.slice v0 v0n v0n), some (.slice (some ⟨(List.length h), 0, none⟩) (Int.toNat ((v0n : Nat) : Int)) (Int.toNat ((v0n : Nat) : Int))), some (.int .i64 (0 : Int))] h1).bind fun q2 =>
(if q2.1 = 2 then
((sget q2.2.1 0).bind getS).bind fun l3 =>
some ((.slice l3.1 l3.2 l3.2), q2.2.2)
else
none)
else none)) = some r) : run (Et base) 10 [(vL v0 v0n)] h = some r := run_i Try.func10 (by kernel_rfl) ((f10_eq base v0 v0n h).trans hx)
/-! laws.toTerm (gates 0) -/
theorem f11_eq (base : Nat) (v0_0 : Int) (v0_1 : Int) (v0_2 : ByteArray) (v0_3 : Option Addr) (v0_3n : Nat) (h : AH) : exFun (Et base) (run (Et base)) loopL a11 Try.f11 [(.agg #[(vI v0_0), (vI v0_1), (vT v0_2), (vL v0_3 v0_3n)])] h =
(nw1 h 25 [(vI v0_0), (vI v0_1), (vT v0_2), (vL v0_3 v0_3n)] fun h1 =>
nw1 h1 38 [(vI 0), (vI 0), (vT ⟨#[]⟩), (vL none 0)] fun h2 =>
nw1 h2 38 [(vI 0), (vI 0), (vT ⟨#[]⟩), (vL none 0)] fun h3 =>
((cell h3 (List.length h) 0).bind (getI .i64)).bind fun n4 =>
(wr base h3 (List.length h2) 0 [(vI n4)]).bind fun h5 =>
((cell h5 (List.length h) 1).bind (getI .i64)).bind fun n6 =>
(wr base h5 (List.length h2) 1 [(vI n6)]).bind fun h7 =>
((cell h7 (List.length h) 2).bind getStr).bind fun s8 =>
(wr base h7 (List.length h2) 2 [(vT s8)]).bind fun h9 =>
((cell h9 (List.length h) 3).bind getS).bind fun l10 =>
(run (Et base) 45 [(vL l10.1 l10.2)] h9).bind fun r11 =>
((some r11.1).bind getS).bind fun l12 =>
(wr base r11.2 (List.length h2) 3 [(vL l12.1 l12.2)]).bind fun h13 =>
c_IITL h13 (List.length h2) 0 fun n14 n15 s16 l17 =>
(wr base h13 (List.length h1) 0 [(vI n14), (vI n15), (vT s16), (vL l17.1 l17.2)]).bind fun h18 =>
c_IITL h18 (List.length h1) 0 fun n19 n20 s21 l22 =>
some ((.agg #[(vI n19), (vI n20), (vT s21), (vL l22.1 l22.2)]), h18) : Option (Value × AH)) := by kernel_rfl
theorem r11 {base : Nat} {v0_0 : Int} {v0_1 : Int} {v0_2 : ByteArray} {v0_3 : Option Addr} {v0_3n : Nat} {h : AH} {r : Value × AH} (hx : (nw1 h 25 [(vI v0_0), (vI v0_1), (vT v0_2), (vL v0_3 v0_3n)] fun h1 =>
nw1 h1 38 [(vI 0), (vI 0), (vT ⟨#[]⟩), (vL none 0)] fun h2 =>
nw1 h2 38 [(vI 0), (vI 0), (vT ⟨#[]⟩), (vL none 0)] fun h3 =>
((cell h3 (List.length h) 0).bind (getI .i64)).bind fun n4 =>
(wr base h3 (List.length h2) 0 [(vI n4)]).bind fun h5 =>
((cell h5 (List.length h) 1).bind (getI .i64)).bind fun n6 =>
(wr base h5 (List.length h2) 1 [(vI n6)]).bind fun h7 =>
((cell h7 (List.length h) 2).bind getStr).bind fun s8 =>
(wr base h7 (List.length h2) 2 [(vT s8)]).bind fun h9 =>
((cell h9 (List.length h) 3).bind getS).bind fun l10 =>
(run (Et base) 45 [(vL l10.1 l10.2)] h9).bind fun r11 =>
((some r11.1).bind getS).bind fun l12 =>
(wr base r11.2 (List.length h2) 3 [(vL l12.1 l12.2)]).bind fun h13 =>
c_IITL h13 (List.length h2) 0 fun n14 n15 s16 l17 =>
(wr base h13 (List.length h1) 0 [(vI n14), (vI n15), (vT s16), (vL l17.1 l17.2)]).bind fun h18 =>
c_IITL h18 (List.length h1) 0 fun n19 n20 s21 l22 =>
some ((.agg #[(vI n19), (vI n20), (vT s21), (vL l22.1 l22.2)]), h18)) = some r) : run (Et base) 11 [(.agg #[(vI v0_0), (vI v0_1), (vT v0_2), (vL v0_3 v0_3n)])] h = some r := run_i Try.func11 (by kernel_rfl) ((f11_eq base v0_0 v0_1 v0_2 v0_3 v0_3n h).trans hx)
/-! laws.eqInsS (gates 0) -/
noncomputable def B14_0 (base : Nat) : Body := fun l h => lay s14_0 l fun s => exCode (Et base) (run (Et base)) loopL a14_0 (subC [1, 1, 0, 1, 0, 0] (bodyC Try.f14)) s h (keepK s14_0 e14_0)
theorem B14_0_eq (base : Nat) (v0 : Option Addr) (v0n : Nat) (v1 : Option Addr) (v1n : Nat) (v5 : Int) (h : AH) : B14_0 base [some (vL v0 v0n), some (vL v1 v1n), some (vI v5)] h =
((if (decide (v5 < ((v0n : Nat) : Int))) = true then
(if 0 ≤ v5 ∧ v5 < ((v0n : Nat) : Int) then
((v0 : Option Addr)).bind fun a1 =>
c_IIIIIT h a1.block (a1.off + Int.toNat v5 * 6) fun n2 n3 n4 n5 n6 s7 =>
(if 0 ≤ v5 ∧ v5 < ((v1n : Nat) : Int) then
((v1 : Option Addr)).bind fun a8 =>
c_IIIIIT h a8.block (a8.off + Int.toNat v5 * 6) fun n9 n10 n11 n12 n13 s14 =>
(run (Et base) 50 [(.agg #[(vI n2), (vI n3), (vI n4), (vI n5), (vI n6), (vT s7)]), (.agg #[(vI n9), (vI n10), (vI n11), (vI n12), (vI n13), (vT s14)])] h).bind fun r15 =>
((some r15.1).bind getB).bind fun b16 =>
(if (!b16) = true then
some (1, [some (.bool false)], r15.2)
else
some (0, [some (vL v0 v0n), some (vL v1 v1n), some (vI (IntKind.wrap .i64 (v5 + (1 : Int))))], r15.2))
else none)
else none)
else
some (2, [], h)) : Option (Nat × Slots × AH)) := by kernel_rfl
theorem f14_eq (base : Nat) (v0 : Option Addr) (v0n : Nat) (v1 : Option Addr) (v1n : Nat) (h : AH) : exFun (Et base) (run (Et base)) loopL a14 Try.f14 [(vL v0 v0n), (vL v1 v1n)] h =
((if (((v0n : Nat) : Int) != ((v1n : Nat) : Int)) = true then
some ((.bool false), h)
else
(loopL (B14_0 base) [some (.slice v0 v0n v0n), some (.slice v1 v1n v1n), some (.int .i64 (0 : Int))] h).bind fun q1 =>
(if q1.1 = 1 then
((sget q1.2.1 0).bind getB).bind fun b2 =>
some ((.bool b2), q1.2.2)
else
(if q1.1 = 2 then
some ((.bool true), q1.2.2)
else
none))) : Option (Value × AH)) := by kernel_rfl
theorem r14 {base : Nat} {v0 : Option Addr} {v0n : Nat} {v1 : Option Addr} {v1n : Nat} {h : AH} {r : Value × AH} (hx : ((if (((v0n : Nat) : Int) != ((v1n : Nat) : Int)) = true then
some ((.bool false), h)
else
(loopL (B14_0 base) [some (.slice v0 v0n v0n), some (.slice v1 v1n v1n), some (.int .i64 (0 : Int))] h).bind fun q1 =>
(if q1.1 = 1 then
((sget q1.2.1 0).bind getB).bind fun b2 =>
some ((.bool b2), q1.2.2)
else
(if q1.1 = 2 then
some ((.bool true), q1.2.2)
else
none)))) = some r) : run (Et base) 14 [(vL v0 v0n), (vL v1 v1n)] h = some r := run_i Try.func14 (by kernel_rfl) ((f14_eq base v0 v0n v1 v1n h).trans hx)
/-! laws.eqTerm (gates 0) -/
theorem f15_eq (base : Nat) (v0_0 : Int) (v0_1 : Int) (v0_2 : ByteArray) (v0_3 : Option Addr) (v0_3n : Nat) (v1_0 : Int) (v1_1 : Int) (v1_2 : ByteArray) (v1_3 : Option Addr) (v1_3n : Nat) (h : AH) : exFun (Et base) (run (Et base)) loopL a15 Try.f15 [(.agg #[(vI v0_0), (vI v0_1), (vT v0_2), (vL v0_3 v0_3n)]), (.agg #[(vI v1_0), (vI v1_1), (vT v1_2), (vL v1_3 v1_3n)])] h =
((some (h ++ [some ⟨[(.int .i64 v0_0), (.int .i64 v0_1), (.string v0_2), (.slice v0_3 v0_3n v0_3n)], 38⟩])).bind fun h1 =>
(some (h1 ++ [some ⟨[(.int .i64 v1_0), (.int .i64 v1_1), (.string v1_2), (.slice v1_3 v1_3n v1_3n)], 38⟩])).bind fun h2 =>
((cell h2 (List.length h) 0).bind (getI .i64)).bind fun n3 =>
((cell h2 (List.length h1) 0).bind (getI .i64)).bind fun n4 =>
(if (n3 != n4) = true then
some ((.bool false), h2)
else
((cell h2 (List.length h) 1).bind (getI .i64)).bind fun n5 =>
((cell h2 (List.length h1) 1).bind (getI .i64)).bind fun n6 =>
(if (n5 != n6) = true then
some ((.bool false), h2)
else
((cell h2 (List.length h) 2).bind getStr).bind fun s7 =>
((cell h2 (List.length h1) 2).bind getStr).bind fun s8 =>
(if (!(s7.toList == s8.toList)) = true then
some ((.bool false), h2)
else
((cell h2 (List.length h) 3).bind getS).bind fun l9 =>
((cell h2 (List.length h1) 3).bind getS).bind fun l10 =>
(run (Et base) 51 [(.slice l9.1 l9.2 l9.2), (.slice l10.1 l10.2 l10.2)] h2).bind fun r11 =>
((some r11.1).bind getB).bind fun b12 =>
(if (!b12) = true then
some ((.bool false), r11.2)
else
some ((.bool true), r11.2))))) : Option (Value × AH)) := by kernel_rfl
theorem r15 {base : Nat} {v0_0 : Int} {v0_1 : Int} {v0_2 : ByteArray} {v0_3 : Option Addr} {v0_3n : Nat} {v1_0 : Int} {v1_1 : Int} {v1_2 : ByteArray} {v1_3 : Option Addr} {v1_3n : Nat} {h : AH} {r : Value × AH} (hx : ((some (h ++ [some ⟨[(.int .i64 v0_0), (.int .i64 v0_1), (.string v0_2), (.slice v0_3 v0_3n v0_3n)], 38⟩])).bind fun h1 =>
(some (h1 ++ [some ⟨[(.int .i64 v1_0), (.int .i64 v1_1), (.string v1_2), (.slice v1_3 v1_3n v1_3n)], 38⟩])).bind fun h2 =>
((cell h2 (List.length h) 0).bind (getI .i64)).bind fun n3 =>
((cell h2 (List.length h1) 0).bind (getI .i64)).bind fun n4 =>
(if (n3 != n4) = true then
some ((.bool false), h2)
else
((cell h2 (List.length h) 1).bind (getI .i64)).bind fun n5 =>
((cell h2 (List.length h1) 1).bind (getI .i64)).bind fun n6 =>
(if (n5 != n6) = true then
some ((.bool false), h2)
else
((cell h2 (List.length h) 2).bind getStr).bind fun s7 =>
((cell h2 (List.length h1) 2).bind getStr).bind fun s8 =>
(if (!(s7.toList == s8.toList)) = true then
some ((.bool false), h2)
else
((cell h2 (List.length h) 3).bind getS).bind fun l9 =>
((cell h2 (List.length h1) 3).bind getS).bind fun l10 =>
(run (Et base) 51 [(.slice l9.1 l9.2 l9.2), (.slice l10.1 l10.2 l10.2)] h2).bind fun r11 =>
((some r11.1).bind getB).bind fun b12 =>
(if (!b12) = true then
some ((.bool false), r11.2)
else
some ((.bool true), r11.2)))))) = some r) : run (Et base) 15 [(.agg #[(vI v0_0), (vI v0_1), (vT v0_2), (vL v0_3 v0_3n)]), (.agg #[(vI v1_0), (vI v1_1), (vT v1_2), (vL v1_3 v1_3n)])] h = some r := run_i Try.func15 (by kernel_rfl) ((f15_eq base v0_0 v0_1 v0_2 v0_3 v0_3n v1_0 v1_1 v1_2 v1_3 v1_3n h).trans hx)
/-! laws.markInsS (gates 0) -/
noncomputable def B16_0 (base : Nat) : Body := fun l h => lay s16_0 l fun s => exCode (Et base) (run (Et base)) loopL a16_0 (subC [1, 0, 1, 0, 0] (bodyC Try.f16)) s h (keepK s16_0 e16_0)
theorem B16_0_eq (base : Nat) (v0 : Option Addr) (v0n : Nat) (v1 : Int) (v5 : Int) (h : AH) : B16_0 base [some (vL v0 v0n), some (vI v1), some (vI v5)] h =
((if (decide (v5 < ((v0n : Nat) : Int))) = true then
(if 0 ≤ v5 ∧ v5 < ((v0n : Nat) : Int) then
((v0 : Option Addr)).bind fun a1 =>
(wr base h a1.block ((a1.off + Int.toNat v5 * 6) + 0) [(vI v1)]).bind fun h2 =>
(if 0 ≤ v5 ∧ v5 < ((v0n : Nat) : Int) then
((v0 : Option Addr)).bind fun a3 =>
(wr base h2 a3.block ((a3.off + Int.toNat v5 * 6) + 1) [(vI (IntKind.wrap .i64 (v1 + (1 : Int))))]).bind fun h4 =>
(if 0 ≤ v5 ∧ v5 < ((v0n : Nat) : Int) then
((v0 : Option Addr)).bind fun a5 =>
(wr base h4 a5.block ((a5.off + Int.toNat v5 * 6) + 2) [(vI (IntKind.wrap .i64 ((IntKind.wrap .i64 (v1 + (1 : Int))) + (1 : Int))))]).bind fun h6 =>
(if 0 ≤ v5 ∧ v5 < ((v0n : Nat) : Int) then
((v0 : Option Addr)).bind fun a7 =>
(wr base h6 a7.block ((a7.off + Int.toNat v5 * 6) + 3) [(vI (IntKind.wrap .i64 ((IntKind.wrap .i64 ((IntKind.wrap .i64 (v1 + (1 : Int))) + (1 : Int))) + (1 : Int))))]).bind fun h8 =>
(if 0 ≤ v5 ∧ v5 < ((v0n : Nat) : Int) then
((v0 : Option Addr)).bind fun a9 =>
(wr base h8 a9.block ((a9.off + Int.toNat v5 * 6) + 4) [(vI (IntKind.wrap .i64 ((IntKind.wrap .i64 ((IntKind.wrap .i64 ((IntKind.wrap .i64 (v1 + (1 : Int))) + (1 : Int))) + (1 : Int))) + (1 : Int))))]).bind fun h10 =>
(run (Et base) 52 [(vI (IntKind.wrap .i64 ((IntKind.wrap .i64 ((IntKind.wrap .i64 ((IntKind.wrap .i64 ((IntKind.wrap .i64 (v1 + (1 : Int))) + (1 : Int))) + (1 : Int))) + (1 : Int))) + (1 : Int))))] h10).bind fun r11 =>
((some r11.1).bind getStr).bind fun s12 =>
(if 0 ≤ v5 ∧ v5 < ((v0n : Nat) : Int) then
((v0 : Option Addr)).bind fun a13 =>
(wr base r11.2 a13.block ((a13.off + Int.toNat v5 * 6) + 5) [(vT s12)]).bind fun h14 =>
some (0, [some (vL v0 v0n), some (vI (IntKind.wrap .i64 ((IntKind.wrap .i64 ((IntKind.wrap .i64 ((IntKind.wrap .i64 ((IntKind.wrap .i64 ((IntKind.wrap .i64 (v1 + (1 : Int))) + (1 : Int))) + (1 : Int))) + (1 : Int))) + (1 : Int))) + (1 : Int)))), some (vI (IntKind.wrap .i64 (v5 + (1 : Int))))], h14)
else none)
else none)
else none)
else none)
else none)
else none)
else
some (2, [some (vI v1)], h)) : Option (Nat × Slots × AH)) := by kernel_rfl
theorem f16_eq (base : Nat) (v0 : Option Addr) (v0n : Nat) (v1 : Int) (h : AH) : exFun (Et base) (run (Et base)) loopL a16 Try.f16 [(vL v0 v0n), (vI v1)] h =
((loopL (B16_0 base) [some (.slice v0 v0n v0n), some (.int .i64 v1), some (.int .i64 (0 : Int))] h).bind fun q1 =>
(if q1.1 = 2 then
((sget q1.2.1 0).bind (getI .i64)).bind fun n2 =>
some ((.int .i64 n2), q1.2.2)
else
none) : Option (Value × AH)) := by kernel_rfl
theorem r16 {base : Nat} {v0 : Option Addr} {v0n : Nat} {v1 : Int} {h : AH} {r : Value × AH} (hx : ((loopL (B16_0 base) [some (.slice v0 v0n v0n), some (.int .i64 v1), some (.int .i64 (0 : Int))] h).bind fun q1 =>
(if q1.1 = 2 then
((sget q1.2.1 0).bind (getI .i64)).bind fun n2 =>
some ((.int .i64 n2), q1.2.2)
else
none)) = some r) : run (Et base) 16 [(vL v0 v0n), (vI v1)] h = some r := run_i Try.func16 (by kernel_rfl) ((f16_eq base v0 v0n v1 h).trans hx)
/-! laws.markTerm (gates 0) -/
theorem f17_eq (base : Nat) (v0_0 : Int) (v0_1 : Int) (v0_2 : ByteArray) (v0_3 : Option Addr) (v0_3n : Nat) (v1 : Int) (h : AH) : exFun (Et base) (run (Et base)) loopL a17 Try.f17 [(.agg #[(vI v0_0), (vI v0_1), (vT v0_2), (vL v0_3 v0_3n)]), (vI v1)] h =
((some (h ++ [some ⟨[(.int .i64 v0_0), (.int .i64 v0_1), (.string v0_2), (.slice v0_3 v0_3n v0_3n)], 38⟩])).bind fun h1 =>
((cell h1 (List.length h) 3).bind getS).bind fun l2 =>
(run (Et base) 53 [(.slice l2.1 l2.2 l2.2), (.int .i64 v1)] h1).bind fun r3 =>
((some r3.1).bind (getI .i64)).bind fun n4 =>
some ((.int .i64 n4), r3.2) : Option (Value × AH)) := by kernel_rfl
theorem r17 {base : Nat} {v0_0 : Int} {v0_1 : Int} {v0_2 : ByteArray} {v0_3 : Option Addr} {v0_3n : Nat} {v1 : Int} {h : AH} {r : Value × AH} (hx : ((some (h ++ [some ⟨[(.int .i64 v0_0), (.int .i64 v0_1), (.string v0_2), (.slice v0_3 v0_3n v0_3n)], 38⟩])).bind fun h1 =>
((cell h1 (List.length h) 3).bind getS).bind fun l2 =>
(run (Et base) 53 [(.slice l2.1 l2.2 l2.2), (.int .i64 v1)] h1).bind fun r3 =>
((some r3.1).bind (getI .i64)).bind fun n4 =>
some ((.int .i64 n4), r3.2)) = some r) : run (Et base) 17 [(.agg #[(vI v0_0), (vI v0_1), (vT v0_2), (vL v0_3 v0_3n)]), (vI v1)] h = some r := run_i Try.func17 (by kernel_rfl) ((f17_eq base v0_0 v0_1 v0_2 v0_3 v0_3n v1 h).trans hx)
/-! laws.szActor (gates 0) -/
theorem f20_eq (base : Nat) (v0_0 : Int) (v0_1 : Int) (v0_2 : Option Addr) (v0_2n : Nat) (v0_3 : Option Addr) (v0_3n : Nat) (v0_4 : Option Addr) (v0_4n : Nat) (v1 : Int) (h : AH) : exFun (Et base) (run (Et base)) loopL a20 Try.f20 [(.agg #[(vI v0_0), (vI v0_1), (vL v0_2 v0_2n), (vL v0_3 v0_3n), (vL v0_4 v0_4n)]), (vI v1)] h =
((some (h ++ [some ⟨[(.int .i64 v0_0), (.int .i64 v0_1), (.slice v0_2 v0_2n v0_2n), (.slice v0_3 v0_3n v0_3n), (.slice v0_4 v0_4n v0_4n)], 49⟩])).bind fun h1 =>
((cell h1 (List.length h) 2).bind getS).bind fun l2 =>
(run (Et base) 41 [(.slice l2.1 l2.2 l2.2), (.int .i64 v1)] h1).bind fun r3 =>
((some r3.1).bind (getI .i64)).bind fun n4 =>
(if (decide (n4 < (0 : Int))) = true then
some ((.int .i64 (-1 : Int)), r3.2)
else
((cell r3.2 (List.length h) 3).bind getS).bind fun l5 =>
(run (Et base) 41 [(.slice l5.1 l5.2 l5.2), (.int .i64 n4)] r3.2).bind fun r6 =>
((some r6.1).bind (getI .i64)).bind fun n7 =>
(if (decide (n7 < (0 : Int))) = true then
some ((.int .i64 (-1 : Int)), r6.2)
else
((cell r6.2 (List.length h) 4).bind getS).bind fun l8 =>
(run (Et base) 59 [(.slice l8.1 l8.2 l8.2), (.int .i64 n7)] r6.2).bind fun r9 =>
((some r9.1).bind (getI .i64)).bind fun n10 =>
(if (decide (n10 < (0 : Int))) = true then
some ((.int .i64 (-1 : Int)), r9.2)
else
some ((.int .i64 n10), r9.2)))) : Option (Value × AH)) := by kernel_rfl
theorem r20 {base : Nat} {v0_0 : Int} {v0_1 : Int} {v0_2 : Option Addr} {v0_2n : Nat} {v0_3 : Option Addr} {v0_3n : Nat} {v0_4 : Option Addr} {v0_4n : Nat} {v1 : Int} {h : AH} {r : Value × AH} (hx : ((some (h ++ [some ⟨[(.int .i64 v0_0), (.int .i64 v0_1), (.slice v0_2 v0_2n v0_2n), (.slice v0_3 v0_3n v0_3n), (.slice v0_4 v0_4n v0_4n)], 49⟩])).bind fun h1 =>
((cell h1 (List.length h) 2).bind getS).bind fun l2 =>
(run (Et base) 41 [(.slice l2.1 l2.2 l2.2), (.int .i64 v1)] h1).bind fun r3 =>
((some r3.1).bind (getI .i64)).bind fun n4 =>
(if (decide (n4 < (0 : Int))) = true then
some ((.int .i64 (-1 : Int)), r3.2)
else
((cell r3.2 (List.length h) 3).bind getS).bind fun l5 =>
(run (Et base) 41 [(.slice l5.1 l5.2 l5.2), (.int .i64 n4)] r3.2).bind fun r6 =>
((some r6.1).bind (getI .i64)).bind fun n7 =>
(if (decide (n7 < (0 : Int))) = true then
some ((.int .i64 (-1 : Int)), r6.2)
else
((cell r6.2 (List.length h) 4).bind getS).bind fun l8 =>
(run (Et base) 59 [(.slice l8.1 l8.2 l8.2), (.int .i64 n7)] r6.2).bind fun r9 =>
((some r9.1).bind (getI .i64)).bind fun n10 =>
(if (decide (n10 < (0 : Int))) = true then
some ((.int .i64 (-1 : Int)), r9.2)
else
some ((.int .i64 n10), r9.2))))) = some r) : run (Et base) 20 [(.agg #[(vI v0_0), (vI v0_1), (vL v0_2 v0_2n), (vL v0_3 v0_3n), (vL v0_4 v0_4n)]), (vI v1)] h = some r := run_i Try.func20 (by kernel_rfl) ((f20_eq base v0_0 v0_1 v0_2 v0_2n v0_3 v0_3n v0_4 v0_4n v1 h).trans hx)
/-! spec.StepActor (gates 0) -/
noncomputable abbrev qf21 (base : Nat) (v0 : Option Addr) (v0n : Nat) (v1_0 : Int) (v1_1 : Int) (v1_2 : Option Addr) (v1_2n : Nat) (v1_3 : Option Addr) (v1_3n : Nat) (v1_4 : Option Addr) (v1_4n : Nat) (v2 : Int) (h : AH) : Option (Value × AH) :=
nw1 h 52 [(vI v1_0), (vI v1_1), (vL v1_2 v1_2n), (vL v1_3 v1_3n), (vL v1_4 v1_4n)] fun h1 =>
nw1 h1 52 [(vI 0), (vI 0), (vL none 0), (vL none 0), (vL none 0)] fun h2 =>
nw1 h2 54 [(vI 0), (vI 0), (vI 0), (vI 0), (vI 0), (vT ⟨#[]⟩), (vL none 0)] fun h3 =>
(c_IILLL h3 (List.length h) 0 fun n5 n6 l7 l8 l9 =>
(run (Et base) 60 [(vL v0 v0n), (.agg #[(vI n5), (vI n6), (vL l7.1 l7.2), (vL l8.1 l8.2), (vL l9.1 l9.2)])] h3).bind fun r10 =>
((some r10.1).bind getB).bind fun b11 =>
(if (!b11) = true then
some (.inl ([some (vL v0 v0n), some (vI v2), some (vP (List.length h)), some (vP (List.length h1)), some (vP (List.length h2)), some (.bool true)], r10.2))
else
(run (Et base) 61 [(vI v2), (vI (1 : Int)), (vI (99999 : Int))] r10.2).bind fun r12 =>
((some r12.1).bind getB).bind fun b13 =>
some (.inl ([some (vL v0 v0n), some (vI v2), some (vP (List.length h)), some (vP (List.length h1)), some (vP (List.length h2)), some (.bool (!b13))], r12.2)))).bind fun j4 => joinK j4 fun j4 =>
j_LIAAAB j4.1 fun l14 n15 d16 d17 d18 b19 =>
(if b19 = true then
c_IILLL j4.2 d16.block d16.off fun n20 n21 l22 l23 l24 =>
(run (Et base) 62 [(.agg #[(vI n20), (vI n21), (vL l22.1 l22.2), (vL l23.1 l23.2), (vL l24.1 l24.2)])] j4.2).bind fun r25 =>
gG (some r25.1) 5 fun l26 =>
l_IILLL l26 fun n27 n28 l29 l30 l31 =>
(wr base r25.2 d17.block d17.off [(vI n27), (vI n28), (vL l29.1 l29.2), (vL l30.1 l30.2), (vL l31.1 l31.2)]).bind fun h32 =>
(wr base h32 d18.block d18.off [(vI (0 : Int)), (vI (0 : Int)), (vI (0 : Int)), (vI (0 : Int)), (vI (0 : Int)), (vT (⟨#[]⟩ : ByteArray)), (vL none 0)]).bind fun h33 =>
c_IILLL h33 d17.block d17.off fun n34 n35 l36 l37 l38 =>
c_IIIIITL h33 d18.block d18.off fun n39 n40 n41 n42 n43 s44 l45 =>
some ((.tuple #[(.agg #[(vI n34), (vI n35), (vL l36.1 l36.2), (vL l37.1 l37.2), (vL l38.1 l38.2)]), (.agg #[(vI n39), (vI n40), (vI n41), (vI n42), (vI n43), (vT s44), (vL l45.1 l45.2)])]), h33)
else
c_IILLL j4.2 d16.block d16.off fun n46 n47 l48 l49 l50 =>
(run (Et base) 63 [(vL l14.1 l14.2), (.agg #[(vI n46), (vI n47), (vL l48.1 l48.2), (vL l49.1 l49.2), (vL l50.1 l50.2)]), (vI n15)] j4.2).bind fun r51 =>
(getTup 2 r51.1).bind fun l52 =>
gG (l52[0]?) 5 fun l53 =>
l_IILLL l53 fun n54 n55 l56 l57 l58 =>
gG (l52[1]?) 7 fun l59 =>
l_IIIIITL l59 fun n60 n61 n62 n63 n64 s65 l66 =>
(wr base r51.2 d17.block d17.off [(vI n54), (vI n55), (vL l56.1 l56.2), (vL l57.1 l57.2), (vL l58.1 l58.2)]).bind fun h67 =>
(wr base h67 d18.block d18.off [(vI n60), (vI n61), (vI n62), (vI n63), (vI n64), (vT s65), (vL l66.1 l66.2)]).bind fun h68 =>
c_IILLL h68 d17.block d17.off fun n69 n70 l71 l72 l73 =>
c_IIIIITL h68 d18.block d18.off fun n74 n75 n76 n77 n78 s79 l80 =>
some ((.tuple #[(.agg #[(vI n69), (vI n70), (vL l71.1 l71.2), (vL l72.1 l72.2), (vL l73.1 l73.2)]), (.agg #[(vI n74), (vI n75), (vI n76), (vI n77), (vI n78), (vT s79), (vL l80.1 l80.2)])]), h68))
theorem f21_eq (base : Nat) (v0 : Option Addr) (v0n : Nat) (v1_0 : Int) (v1_1 : Int) (v1_2 : Option Addr) (v1_2n : Nat) (v1_3 : Option Addr) (v1_3n : Nat) (v1_4 : Option Addr) (v1_4n : Nat) (v2 : Int) (h : AH) : exFun (Et base) (run (Et base)) loopL a21 Try.f21 [(vL v0 v0n), (.agg #[(vI v1_0), (vI v1_1), (vL v1_2 v1_2n), (vL v1_3 v1_3n), (vL v1_4 v1_4n)]), (vI v2)] h = qf21 base v0 v0n v1_0 v1_1 v1_2 v1_2n v1_3 v1_3n v1_4 v1_4n v2 h := by kernel_rfl
theorem r21 {base : Nat} {v0 : Option Addr} {v0n : Nat} {v1_0 : Int} {v1_1 : Int} {v1_2 : Option Addr} {v1_2n : Nat} {v1_3 : Option Addr} {v1_3n : Nat} {v1_4 : Option Addr} {v1_4n : Nat} {v2 : Int} {h : AH} {r : Value × AH} (hx : qf21 base v0 v0n v1_0 v1_1 v1_2 v1_2n v1_3 v1_3n v1_4 v1_4n v2 h = some r) : run (Et base) 21 [(vL v0 v0n), (.agg #[(vI v1_0), (vI v1_1), (vL v1_2 v1_2n), (vL v1_3 v1_3n), (vL v1_4 v1_4n)]), (vI v2)] h = some r := run_i Try.func21 (by kernel_rfl) ((f21_eq base v0 v0n v1_0 v1_1 v1_2 v1_2n v1_3 v1_3n v1_4 v1_4n v2 h).trans hx)
/-! laws.toActor (gates 0) -/
theorem f22_eq (base : Nat) (v0_0 : Int) (v0_1 : Int) (v0_2 : Option Addr) (v0_2n : Nat) (v0_3 : Option Addr) (v0_3n : Nat) (v0_4 : Option Addr) (v0_4n : Nat) (h : AH) : exFun (Et base) (run (Et base)) loopL a22 Try.f22 [(.agg #[(vI v0_0), (vI v0_1), (vL v0_2 v0_2n), (vL v0_3 v0_3n), (vL v0_4 v0_4n)])] h =
(nw1 h 49 [(vI v0_0), (vI v0_1), (vL v0_2 v0_2n), (vL v0_3 v0_3n), (vL v0_4 v0_4n)] fun h1 =>
nw1 h1 52 [(vI 0), (vI 0), (vL none 0), (vL none 0), (vL none 0)] fun h2 =>
nw1 h2 52 [(vI 0), (vI 0), (vL none 0), (vL none 0), (vL none 0)] fun h3 =>
((cell h3 (List.length h) 0).bind (getI .i64)).bind fun n4 =>
(wr base h3 (List.length h2) 0 [(vI n4)]).bind fun h5 =>
((cell h5 (List.length h) 1).bind (getI .i64)).bind fun n6 =>
(wr base h5 (List.length h2) 1 [(vI n6)]).bind fun h7 =>
((cell h7 (List.length h) 2).bind getS).bind fun l8 =>
(run (Et base) 45 [(vL l8.1 l8.2)] h7).bind fun r9 =>
((some r9.1).bind getS).bind fun l10 =>
(wr base r9.2 (List.length h2) 2 [(vL l10.1 l10.2)]).bind fun h11 =>
((cell h11 (List.length h) 3).bind getS).bind fun l12 =>
(run (Et base) 45 [(vL l12.1 l12.2)] h11).bind fun r13 =>
((some r13.1).bind getS).bind fun l14 =>
(wr base r13.2 (List.length h2) 3 [(vL l14.1 l14.2)]).bind fun h15 =>
((cell h15 (List.length h) 4).bind getS).bind fun l16 =>
(run (Et base) 64 [(vL l16.1 l16.2)] h15).bind fun r17 =>
((some r17.1).bind getS).bind fun l18 =>
(wr base r17.2 (List.length h2) 4 [(vL l18.1 l18.2)]).bind fun h19 =>
c_IILLL h19 (List.length h2) 0 fun n20 n21 l22 l23 l24 =>
(wr base h19 (List.length h1) 0 [(vI n20), (vI n21), (vL l22.1 l22.2), (vL l23.1 l23.2), (vL l24.1 l24.2)]).bind fun h25 =>
c_IILLL h25 (List.length h1) 0 fun n26 n27 l28 l29 l30 =>
some ((.agg #[(vI n26), (vI n27), (vL l28.1 l28.2), (vL l29.1 l29.2), (vL l30.1 l30.2)]), h25) : Option (Value × AH)) := by kernel_rfl
theorem r22 {base : Nat} {v0_0 : Int} {v0_1 : Int} {v0_2 : Option Addr} {v0_2n : Nat} {v0_3 : Option Addr} {v0_3n : Nat} {v0_4 : Option Addr} {v0_4n : Nat} {h : AH} {r : Value × AH} (hx : (nw1 h 49 [(vI v0_0), (vI v0_1), (vL v0_2 v0_2n), (vL v0_3 v0_3n), (vL v0_4 v0_4n)] fun h1 =>
nw1 h1 52 [(vI 0), (vI 0), (vL none 0), (vL none 0), (vL none 0)] fun h2 =>
nw1 h2 52 [(vI 0), (vI 0), (vL none 0), (vL none 0), (vL none 0)] fun h3 =>
((cell h3 (List.length h) 0).bind (getI .i64)).bind fun n4 =>
(wr base h3 (List.length h2) 0 [(vI n4)]).bind fun h5 =>
((cell h5 (List.length h) 1).bind (getI .i64)).bind fun n6 =>
(wr base h5 (List.length h2) 1 [(vI n6)]).bind fun h7 =>
((cell h7 (List.length h) 2).bind getS).bind fun l8 =>
(run (Et base) 45 [(vL l8.1 l8.2)] h7).bind fun r9 =>
((some r9.1).bind getS).bind fun l10 =>
(wr base r9.2 (List.length h2) 2 [(vL l10.1 l10.2)]).bind fun h11 =>
((cell h11 (List.length h) 3).bind getS).bind fun l12 =>
(run (Et base) 45 [(vL l12.1 l12.2)] h11).bind fun r13 =>
((some r13.1).bind getS).bind fun l14 =>
(wr base r13.2 (List.length h2) 3 [(vL l14.1 l14.2)]).bind fun h15 =>
((cell h15 (List.length h) 4).bind getS).bind fun l16 =>
(run (Et base) 64 [(vL l16.1 l16.2)] h15).bind fun r17 =>
((some r17.1).bind getS).bind fun l18 =>
(wr base r17.2 (List.length h2) 4 [(vL l18.1 l18.2)]).bind fun h19 =>
c_IILLL h19 (List.length h2) 0 fun n20 n21 l22 l23 l24 =>
(wr base h19 (List.length h1) 0 [(vI n20), (vI n21), (vL l22.1 l22.2), (vL l23.1 l23.2), (vL l24.1 l24.2)]).bind fun h25 =>
c_IILLL h25 (List.length h1) 0 fun n26 n27 l28 l29 l30 =>
some ((.agg #[(vI n26), (vI n27), (vL l28.1 l28.2), (vL l29.1 l29.2), (vL l30.1 l30.2)]), h25)) = some r) : run (Et base) 22 [(.agg #[(vI v0_0), (vI v0_1), (vL v0_2 v0_2n), (vL v0_3 v0_3n), (vL v0_4 v0_4n)])] h = some r := run_i Try.func22 (by kernel_rfl) ((f22_eq base v0_0 v0_1 v0_2 v0_2n v0_3 v0_3n v0_4 v0_4n h).trans hx)
/-! impl.StepActor (gates 6) -/
noncomputable abbrev qf23 (base : Nat) (v0 : Option Addr) (v0n : Nat) (v1_0 : Int) (v1_1 : Int) (v1_2 : Option Addr) (v1_2n : Nat) (v1_3 : Option Addr) (v1_3n : Nat) (v1_4 : Option Addr) (v1_4n : Nat) (v2 : Int) (h : AH) : Option (Value × AH) :=
nw1 h 52 [(vI v1_0), (vI v1_1), (vL v1_2 v1_2n), (vL v1_3 v1_3n), (vL v1_4 v1_4n)] fun h1 =>
nw1 h1 52 [(vI 0), (vI 0), (vL none 0), (vL none 0), (vL none 0)] fun h2 =>
nw1 h2 54 [(vI 0), (vI 0), (vI 0), (vI 0), (vI 0), (vT ⟨#[]⟩), (vL none 0)] fun h3 =>
c_IILLL h3 (List.length h) 0 fun n4 n5 l6 l7 l8 =>
(run (Et base) 65 [(.agg #[(vI n4), (vI n5), (vL l6.1 l6.2), (vL l7.1 l7.2), (vL l8.1 l8.2)])] h3).bind fun r9 =>
gG (some r9.1) 5 fun l10 =>
l_IILLL l10 fun n11 n12 l13 l14 l15 =>
nw1 r9.2 52 [(vI 0), (vI 0), (vL none 0), (vL none 0), (vL none 0)] fun h16 =>
(wr base h16 (List.length r9.2) 0 [(vI n11), (vI n12), (vL l13.1 l13.2), (vL l14.1 l14.2), (vL l15.1 l15.2)]).bind fun h17 =>
(c_IILLL h17 (List.length h) 0 fun n19 n20 l21 l22 l23 =>
(run (Et base) 33 [(vL v0 v0n), (.agg #[(vI n19), (vI n20), (vL l21.1 l21.2), (vL l22.1 l22.2), (vL l23.1 l23.2)])] h17).bind fun r24 =>
((some r24.1).bind getB).bind fun b25 =>
(if (!b25) = true then
some (.inl ([some (vL v0 v0n), some (vI v2), some (vP (List.length h)), some (vP (List.length h1)), some (vP (List.length h2)), some (vP (List.length r9.2)), some (.bool true)], r24.2))
else
(run (Et base) 66 [(vI v2), (vI (1 : Int)), (vI (99999 : Int))] r24.2).bind fun r26 =>
((some r26.1).bind getB).bind fun b27 =>
some (.inl ([some (vL v0 v0n), some (vI v2), some (vP (List.length h)), some (vP (List.length h1)), some (vP (List.length h2)), some (vP (List.length r9.2)), some (.bool (!b27))], r26.2)))).bind fun j18 => joinK j18 fun j18 =>
j_LIAAAAB j18.1 fun l28 n29 d30 d31 d32 d33 b34 =>
(if b34 = true then
c_IILLL j18.2 d33.block d33.off fun n35 n36 l37 l38 l39 =>
(wr base j18.2 d31.block d31.off [(vI n35), (vI n36), (vL l37.1 l37.2), (vL l38.1 l38.2), (vL l39.1 l39.2)]).bind fun h40 =>
(wr base h40 d32.block d32.off [(vI (0 : Int)), (vI (0 : Int)), (vI (0 : Int)), (vI (0 : Int)), (vI (0 : Int)), (vT (⟨#[]⟩ : ByteArray)), (vL none 0)]).bind fun h41 =>
c_IILLL h41 d31.block d31.off fun n42 n43 l44 l45 l46 =>
c_IIIIITL h41 d32.block d32.off fun n47 n48 n49 n50 n51 s52 l53 =>
some ((.tuple #[(.agg #[(vI n42), (vI n43), (vL l44.1 l44.2), (vL l45.1 l45.2), (vL l46.1 l46.2)]), (.agg #[(vI n47), (vI n48), (vI n49), (vI n50), (vI n51), (vT s52), (vL l53.1 l53.2)])]), h41)
else
((cell j18.2 d30.block (d30.off + 1)).bind (getI .i64)).bind fun n54 =>
(if 0 ≤ n54 ∧ n54 < ((l28.2 : Nat) : Int) then
((l28.1 : Option Addr)).bind fun a55 =>
c_IIIIIT j18.2 a55.block (a55.off + Int.toNat n54 * 6) fun n56 n57 n58 n59 n60 s61 =>
nw1 j18.2 82 [(vI 0), (vI 0), (vI 0), (vI 0), (vI 0), (vT ⟨#[]⟩)] fun h62 =>
(wr base h62 (List.length j18.2) 0 [(vI n56), (vI n57), (vI n58), (vI n59), (vI n60), (vT s61)]).bind fun h63 =>
c_IIIIIT h63 (List.length j18.2) 0 fun n64 n65 n66 n67 n68 s69 =>
((cell h63 d30.block (d30.off + 2)).bind getS).bind fun l70 =>
(run (Et base) 67 [(.agg #[(vI n64), (vI n65), (vI n66), (vI n67), (vI n68), (vT s69)]), (vL l70.1 l70.2), (vI n29)] h63).bind fun r71 =>
(getTup 2 r71.1).bind fun l72 =>
gG (l72[0]?) 7 fun l73 =>
l_IIIIITL l73 fun n74 n75 n76 n77 n78 s79 l80 =>
((l72[1]?).bind getB).bind fun b81 =>
nw1 r71.2 54 [(vI 0), (vI 0), (vI 0), (vI 0), (vI 0), (vT ⟨#[]⟩), (vL none 0)] fun h82 =>
(wr base h82 (List.length r71.2) 0 [(vI n74), (vI n75), (vI n76), (vI n77), (vI n78), (vT s79), (vL l80.1 l80.2)]).bind fun h83 =>
((if (!b81) = true then
c_IILLL h83 d33.block d33.off fun n85 n86 l87 l88 l89 =>
(run (Et base) 68 [] h83).bind fun r90 =>
gG (some r90.1) 7 fun l91 =>
l_IIIIITL l91 fun n92 n93 n94 n95 n96 s97 l98 =>
(gate (sameA h83 r90.2 (some d33) 5)
((wr base r90.2 d31.block d31.off [(vI n85), (vI n86), (vL l87.1 l87.2), (vL l88.1 l88.2), (vL l89.1 l89.2)]).bind fun h99 =>
(wr base h99 d32.block d32.off [(vI n92), (vI n93), (vI n94), (vI n95), (vI n96), (vT s97), (vL l98.1 l98.2)]).bind fun h100 =>
(c_IILLL h100 d31.block d31.off fun n101 n102 l103 l104 l105 =>
c_IIIIITL h100 d32.block d32.off fun n106 n107 n108 n109 n110 s111 l112 =>
some ((.tuple #[(.agg #[(vI n101), (vI n102), (vL l103.1 l103.2), (vL l104.1 l104.2), (vL l105.1 l105.2)]), (.agg #[(vI n106), (vI n107), (vI n108), (vI n109), (vI n110), (vT s111), (vL l112.1 l112.2)])]), h100)).map .inr))
else
((cell h83 (List.length j18.2) 0).bind (getI .i64)).bind fun n113 =>
(if (n113 == (19 : Int)) = true then
c_IILLL h83 d33.block d33.off fun n114 n115 l116 l117 l118 =>
c_IIIIITL h83 (List.length r71.2) 0 fun n119 n120 n121 n122 n123 s124 l125 =>
(wr base h83 d31.block d31.off [(vI n114), (vI n115), (vL l116.1 l116.2), (vL l117.1 l117.2), (vL l118.1 l118.2)]).bind fun h126 =>
(gate (sameA h83 h126 (some ⟨(List.length r71.2), 0, none⟩) 7)
((wr base h126 d32.block d32.off [(vI n119), (vI n120), (vI n121), (vI n122), (vI n123), (vT s124), (vL l125.1 l125.2)]).bind fun h127 =>
(c_IILLL h127 d31.block d31.off fun n128 n129 l130 l131 l132 =>
c_IIIIITL h127 d32.block d32.off fun n133 n134 n135 n136 n137 s138 l139 =>
some ((.tuple #[(.agg #[(vI n128), (vI n129), (vL l130.1 l130.2), (vL l131.1 l131.2), (vL l132.1 l132.2)]), (.agg #[(vI n133), (vI n134), (vI n135), (vI n136), (vI n137), (vT s138), (vL l139.1 l139.2)])]), h127)).map .inr))
else
(((cell h83 (List.length j18.2) 0).bind (getI .i64)).bind fun n141 =>
(if (n141 == (14 : Int)) = true then
((cell h83 d30.block (d30.off + 3)).bind getS).bind fun l142 =>
some (.inl ([some (vI n29), some (vA d30), some (vA d31), some (vA d32), some (vA d33), some (vP (List.length j18.2)), some (vP (List.length r71.2)), some (.bool (((l142.2 : Nat) : Int) == (0 : Int)))], h83))
else
some (.inl ([some (vI n29), some (vA d30), some (vA d31), some (vA d32), some (vA d33), some (vP (List.length j18.2)), some (vP (List.length r71.2)), some (.bool false)], h83)))).bind fun j140 => joinK j140 fun j140 =>
j_IAAAAAAB j140.1 fun n143 d144 d145 d146 d147 d148 d149 b150 =>
(if b150 = true then
c_IILLL j140.2 d147.block d147.off fun n151 n152 l153 l154 l155 =>
(wr base j140.2 d145.block d145.off [(vI n151), (vI n152), (vL l153.1 l153.2), (vL l154.1 l154.2), (vL l155.1 l155.2)]).bind fun h156 =>
(wr base h156 d146.block d146.off [(vI (2 : Int)), (vI (0 : Int)), (vI (0 : Int)), (vI (0 : Int)), (vI (0 : Int)), (vT (⟨#[]⟩ : ByteArray)), (vL none 0)]).bind fun h157 =>
(c_IILLL h157 d145.block d145.off fun n158 n159 l160 l161 l162 =>
c_IIIIITL h157 d146.block d146.off fun n163 n164 n165 n166 n167 s168 l169 =>
some ((.tuple #[(.agg #[(vI n158), (vI n159), (vL l160.1 l160.2), (vL l161.1 l161.2), (vL l162.1 l162.2)]), (.agg #[(vI n163), (vI n164), (vI n165), (vI n166), (vI n167), (vT s168), (vL l169.1 l169.2)])]), h157)).map .inr
else
((cell j140.2 d148.block (d148.off + 0)).bind (getI .i64)).bind fun n170 =>
(if (n170 == (14 : Int)) = true then
((cell j140.2 d147.block (d147.off + 2)).bind getS).bind fun l171 =>
((cell j140.2 d148.block (d148.off + 1)).bind (getI .i64)).bind fun n172 =>
((cell j140.2 d147.block (d147.off + 3)).bind getS).bind fun l173 =>
(if 0 ≤ (0 : Int) ∧ (0 : Int) < ((l173.2 : Nat) : Int) then
((l173.1 : Option Addr)).bind fun a174 =>
c_IITL j140.2 a174.block (a174.off + Int.toNat (0 : Int) * 4) fun n175 n176 s177 l178 =>
(if 0 ≤ n172 ∧ n172 < ((l171.2 : Nat) : Int) then
((l171.1 : Option Addr)).bind fun a179 =>
(wr base j140.2 a179.block (a179.off + Int.toNat n172 * 4) [(vI n175), (vI n176), (vT s177), (vL l178.1 l178.2)]).bind fun h180 =>
((cell h180 d147.block (d147.off + 3)).bind getS).bind fun l181 =>
(if 0 ≤ (1 : Int) ∧ (1 : Int) ≤ ((l181.2 : Nat) : Int) ∧ ((l181.2 : Nat) : Int) ≤ ((l181.2 : Nat) : Int) ∧ okTy base h180 l181.1 38 (Int.toNat (1 : Int)) = true then
(wr base h180 d147.block (d147.off + 3) [(.slice (shiftA l181.1 (Int.toNat (1 : Int) * 4)) (Int.toNat ((l181.2 : Nat) : Int) - Int.toNat (1 : Int)) (Int.toNat ((l181.2 : Nat) : Int) - Int.toNat (1 : Int)))]).bind fun h182 =>
some (.inl ([some (vA d144), some (vA d145), some (vA d146), some (vA d147), some (vA d148), some (vA d149)], h182))
else none)
else none)
else none)
else
((cell j140.2 d148.block (d148.off + 0)).bind (getI .i64)).bind fun n183 =>
(run (Et base) 69 [(vI n183)] j140.2).bind fun r184 =>
((some r184.1).bind getB).bind fun b185 =>
(if b185 = true then
c_IIIIIT r184.2 d148.block d148.off fun n186 n187 n188 n189 n190 s191 =>
((cell r184.2 d144.block (d144.off + 2)).bind getS).bind fun l192 =>
((cell r184.2 d144.block (d144.off + 0)).bind (getI .i64)).bind fun n193 =>
(run (Et base) 70 [(.agg #[(vI n186), (vI n187), (vI n188), (vI n189), (vI n190), (vT s191)]), (vL l192.1 l192.2), (vI n193), (vI n143)] r184.2).bind fun r194 =>
(getTup 2 r194.1).bind fun l195 =>
gG (l195[0]?) 4 fun l196 =>
l_IITL l196 fun n197 n198 s199 l200 =>
((l195[1]?).bind getB).bind fun b201 =>
nw1 r194.2 38 [(vI 0), (vI 0), (vT ⟨#[]⟩), (vL none 0)] fun h202 =>
(wr base h202 (List.length r194.2) 0 [(vI n197), (vI n198), (vT s199), (vL l200.1 l200.2)]).bind fun h203 =>
((if (!b201) = true then
some (.inl ([some (vA d144), some (vA d145), some (vA d146), some (vA d147), some (vA d148), some (vA d149), some (vP (List.length r194.2)), some (.bool true)], h203))
else
c_IITL h203 (List.length r194.2) 0 fun n205 n206 s207 l208 =>
(run (Et base) 71 [(.agg #[(vI n205), (vI n206), (vT s207), (vL l208.1 l208.2)])] h203).bind fun r209 =>
((some r209.1).bind getB).bind fun b210 =>
some (.inl ([some (vA d144), some (vA d145), some (vA d146), some (vA d147), some (vA d148), some (vA d149), some (vP (List.length r194.2)), some (.bool (!b210))], r209.2)))).bind fun j204 => joinK j204 fun j204 =>
j_AAAAAAAB j204.1 fun d211 d212 d213 d214 d215 d216 d217 b218 =>
(if b218 = true then
c_IILLL j204.2 d214.block d214.off fun n219 n220 l221 l222 l223 =>
(run (Et base) 68 [] j204.2).bind fun r224 =>
gG (some r224.1) 7 fun l225 =>
l_IIIIITL l225 fun n226 n227 n228 n229 n230 s231 l232 =>
(gate (sameA j204.2 r224.2 (some d214) 5)
((wr base r224.2 d212.block d212.off [(vI n219), (vI n220), (vL l221.1 l221.2), (vL l222.1 l222.2), (vL l223.1 l223.2)]).bind fun h233 =>
(wr base h233 d213.block d213.off [(vI n226), (vI n227), (vI n228), (vI n229), (vI n230), (vT s231), (vL l232.1 l232.2)]).bind fun h234 =>
(c_IILLL h234 d212.block d212.off fun n235 n236 l237 l238 l239 =>
c_IIIIITL h234 d213.block d213.off fun n240 n241 n242 n243 n244 s245 l246 =>
some ((.tuple #[(.agg #[(vI n235), (vI n236), (vL l237.1 l237.2), (vL l238.1 l238.2), (vL l239.1 l239.2)]), (.agg #[(vI n240), (vI n241), (vI n242), (vI n243), (vI n244), (vT s245), (vL l246.1 l246.2)])]), h234)).map .inr))
else
((cell j204.2 d214.block (d214.off + 2)).bind getS).bind fun l247 =>
((cell j204.2 d215.block (d215.off + 1)).bind (getI .i64)).bind fun n248 =>
c_IITL j204.2 d217.block d217.off fun n249 n250 s251 l252 =>
(run (Et base) 72 [(.agg #[(vI n249), (vI n250), (vT s251), (vL l252.1 l252.2)])] j204.2).bind fun r253 =>
gG (some r253.1) 4 fun l254 =>
l_IITL l254 fun n255 n256 s257 l258 =>
(gate (sameA j204.2 r253.2 (some ⟨d215.block, (d215.off + 1), none⟩) 1)
((gate (sameA j204.2 r253.2 (some ⟨d214.block, (d214.off + 2), none⟩) 1)
((if 0 ≤ n248 ∧ n248 < ((l247.2 : Nat) : Int) then
((l247.1 : Option Addr)).bind fun a259 =>
(wr base r253.2 a259.block (a259.off + Int.toNat n248 * 4) [(vI n255), (vI n256), (vT s257), (vL l258.1 l258.2)]).bind fun h260 =>
some (.inl ([some (vA d211), some (vA d212), some (vA d213), some (vA d214), some (vA d215), some (vA d216)], h260))
else none))))))
else
some (.inl ([some (vA d144), some (vA d145), some (vA d146), some (vA d147), some (vA d148), some (vA d149)], r184.2)))))))).bind fun j84 => joinK j84 fun j84 =>
j_AAAAAA j84.1 fun d261 d262 d263 d264 d265 d266 =>
((cell j84.2 d264.block (d264.off + 1)).bind (getI .i64)).bind fun n267 =>
(wr base j84.2 d264.block (d264.off + 1) [(vI (IntKind.wrap .i64 (n267 + (1 : Int))))]).bind fun h268 =>
(c_IIIIIT h268 d265.block d265.off fun n270 n271 n272 n273 n274 s275 =>
((cell h268 d261.block (d261.off + 2)).bind getS).bind fun l276 =>
(run (Et base) 73 [(.agg #[(vI n270), (vI n271), (vI n272), (vI n273), (vI n274), (vT s275)]), (vL l276.1 l276.2)] h268).bind fun r277 =>
((some r277.1).bind getB).bind fun b278 =>
(if b278 = true then
((cell r277.2 d265.block (d265.off + 4)).bind (getI .i64)).bind fun n279 =>
(wr base r277.2 d264.block (d264.off + 1) [(vI n279)]).bind fun h280 =>
some (.inl ([some (vA d262), some (vA d263), some (vA d264), some (vA d266)], h280))
else
some (.inl ([some (vA d262), some (vA d263), some (vA d264), some (vA d266)], r277.2)))).bind fun j269 => joinK j269 fun j269 =>
j_AAAA j269.1 fun d281 d282 d283 d284 =>
c_IILLL j269.2 d283.block d283.off fun n285 n286 l287 l288 l289 =>
c_IIIIITL j269.2 d284.block d284.off fun n290 n291 n292 n293 n294 s295 l296 =>
(wr base j269.2 d281.block d281.off [(vI n285), (vI n286), (vL l287.1 l287.2), (vL l288.1 l288.2), (vL l289.1 l289.2)]).bind fun h297 =>
(gate (sameA j269.2 h297 (some d284) 7)
((wr base h297 d282.block d282.off [(vI n290), (vI n291), (vI n292), (vI n293), (vI n294), (vT s295), (vL l296.1 l296.2)]).bind fun h298 =>
c_IILLL h298 d281.block d281.off fun n299 n300 l301 l302 l303 =>
c_IIIIITL h298 d282.block d282.off fun n304 n305 n306 n307 n308 s309 l310 =>
some ((.tuple #[(.agg #[(vI n299), (vI n300), (vL l301.1 l301.2), (vL l302.1 l302.2), (vL l303.1 l303.2)]), (.agg #[(vI n304), (vI n305), (vI n306), (vI n307), (vI n308), (vT s309), (vL l310.1 l310.2)])]), h298)))
else none))
theorem f23_eq (base : Nat) (v0 : Option Addr) (v0n : Nat) (v1_0 : Int) (v1_1 : Int) (v1_2 : Option Addr) (v1_2n : Nat) (v1_3 : Option Addr) (v1_3n : Nat) (v1_4 : Option Addr) (v1_4n : Nat) (v2 : Int) (h : AH) : exFun (Et base) (run (Et base)) loopL a23 Try.f23 [(vL v0 v0n), (.agg #[(vI v1_0), (vI v1_1), (vL v1_2 v1_2n), (vL v1_3 v1_3n), (vL v1_4 v1_4n)]), (vI v2)] h = qf23 base v0 v0n v1_0 v1_1 v1_2 v1_2n v1_3 v1_3n v1_4 v1_4n v2 h := by kernel_rfl
theorem r23 {base : Nat} {v0 : Option Addr} {v0n : Nat} {v1_0 : Int} {v1_1 : Int} {v1_2 : Option Addr} {v1_2n : Nat} {v1_3 : Option Addr} {v1_3n : Nat} {v1_4 : Option Addr} {v1_4n : Nat} {v2 : Int} {h : AH} {r : Value × AH} (hx : qf23 base v0 v0n v1_0 v1_1 v1_2 v1_2n v1_3 v1_3n v1_4 v1_4n v2 h = some r) : run (Et base) 23 [(vL v0 v0n), (.agg #[(vI v1_0), (vI v1_1), (vL v1_2 v1_2n), (vL v1_3 v1_3n), (vL v1_4 v1_4n)]), (vI v2)] h = some r := run_i Try.func23 (by kernel_rfl) ((f23_eq base v0 v0n v1_0 v1_1 v1_2 v1_2n v1_3 v1_3n v1_4 v1_4n v2 h).trans hx)
/-! laws.eqActor (gates 0) -/
theorem f24_eq (base : Nat) (v0_0 : Int) (v0_1 : Int) (v0_2 : Option Addr) (v0_2n : Nat) (v0_3 : Option Addr) (v0_3n : Nat) (v0_4 : Option Addr) (v0_4n : Nat) (v1_0 : Int) (v1_1 : Int) (v1_2 : Option Addr) (v1_2n : Nat) (v1_3 : Option Addr) (v1_3n : Nat) (v1_4 : Option Addr) (v1_4n : Nat) (h : AH) : exFun (Et base) (run (Et base)) loopL a24 Try.f24 [(.agg #[(vI v0_0), (vI v0_1), (vL v0_2 v0_2n), (vL v0_3 v0_3n), (vL v0_4 v0_4n)]), (.agg #[(vI v1_0), (vI v1_1), (vL v1_2 v1_2n), (vL v1_3 v1_3n), (vL v1_4 v1_4n)])] h =
(nw1 h 52 [(vI v0_0), (vI v0_1), (vL v0_2 v0_2n), (vL v0_3 v0_3n), (vL v0_4 v0_4n)] fun h1 =>
nw1 h1 52 [(vI v1_0), (vI v1_1), (vL v1_2 v1_2n), (vL v1_3 v1_3n), (vL v1_4 v1_4n)] fun h2 =>
((cell h2 (List.length h) 0).bind (getI .i64)).bind fun n3 =>
((cell h2 (List.length h1) 0).bind (getI .i64)).bind fun n4 =>
(if (n3 != n4) = true then
some ((.bool false), h2)
else
((cell h2 (List.length h) 1).bind (getI .i64)).bind fun n5 =>
((cell h2 (List.length h1) 1).bind (getI .i64)).bind fun n6 =>
(if (n5 != n6) = true then
some ((.bool false), h2)
else
((cell h2 (List.length h) 2).bind getS).bind fun l7 =>
((cell h2 (List.length h1) 2).bind getS).bind fun l8 =>
(run (Et base) 51 [(vL l7.1 l7.2), (vL l8.1 l8.2)] h2).bind fun r9 =>
((some r9.1).bind getB).bind fun b10 =>
(if (!b10) = true then
some ((.bool false), r9.2)
else
((cell r9.2 (List.length h) 3).bind getS).bind fun l11 =>
((cell r9.2 (List.length h1) 3).bind getS).bind fun l12 =>
(run (Et base) 51 [(vL l11.1 l11.2), (vL l12.1 l12.2)] r9.2).bind fun r13 =>
((some r13.1).bind getB).bind fun b14 =>
(if (!b14) = true then
some ((.bool false), r13.2)
else
((cell r13.2 (List.length h) 4).bind getS).bind fun l15 =>
((cell r13.2 (List.length h1) 4).bind getS).bind fun l16 =>
(run (Et base) 74 [(vL l15.1 l15.2), (vL l16.1 l16.2)] r13.2).bind fun r17 =>
((some r17.1).bind getB).bind fun b18 =>
(if (!b18) = true then
some ((.bool false), r17.2)
else
some ((.bool true), r17.2)))))) : Option (Value × AH)) := by kernel_rfl
theorem r24 {base : Nat} {v0_0 : Int} {v0_1 : Int} {v0_2 : Option Addr} {v0_2n : Nat} {v0_3 : Option Addr} {v0_3n : Nat} {v0_4 : Option Addr} {v0_4n : Nat} {v1_0 : Int} {v1_1 : Int} {v1_2 : Option Addr} {v1_2n : Nat} {v1_3 : Option Addr} {v1_3n : Nat} {v1_4 : Option Addr} {v1_4n : Nat} {h : AH} {r : Value × AH} (hx : (nw1 h 52 [(vI v0_0), (vI v0_1), (vL v0_2 v0_2n), (vL v0_3 v0_3n), (vL v0_4 v0_4n)] fun h1 =>
nw1 h1 52 [(vI v1_0), (vI v1_1), (vL v1_2 v1_2n), (vL v1_3 v1_3n), (vL v1_4 v1_4n)] fun h2 =>
((cell h2 (List.length h) 0).bind (getI .i64)).bind fun n3 =>
((cell h2 (List.length h1) 0).bind (getI .i64)).bind fun n4 =>
(if (n3 != n4) = true then
some ((.bool false), h2)
else
((cell h2 (List.length h) 1).bind (getI .i64)).bind fun n5 =>
((cell h2 (List.length h1) 1).bind (getI .i64)).bind fun n6 =>
(if (n5 != n6) = true then
some ((.bool false), h2)
else
((cell h2 (List.length h) 2).bind getS).bind fun l7 =>
((cell h2 (List.length h1) 2).bind getS).bind fun l8 =>
(run (Et base) 51 [(vL l7.1 l7.2), (vL l8.1 l8.2)] h2).bind fun r9 =>
((some r9.1).bind getB).bind fun b10 =>
(if (!b10) = true then
some ((.bool false), r9.2)
else
((cell r9.2 (List.length h) 3).bind getS).bind fun l11 =>
((cell r9.2 (List.length h1) 3).bind getS).bind fun l12 =>
(run (Et base) 51 [(vL l11.1 l11.2), (vL l12.1 l12.2)] r9.2).bind fun r13 =>
((some r13.1).bind getB).bind fun b14 =>
(if (!b14) = true then
some ((.bool false), r13.2)
else
((cell r13.2 (List.length h) 4).bind getS).bind fun l15 =>
((cell r13.2 (List.length h1) 4).bind getS).bind fun l16 =>
(run (Et base) 74 [(vL l15.1 l15.2), (vL l16.1 l16.2)] r13.2).bind fun r17 =>
((some r17.1).bind getB).bind fun b18 =>
(if (!b18) = true then
some ((.bool false), r17.2)
else
some ((.bool true), r17.2))))))) = some r) : run (Et base) 24 [(.agg #[(vI v0_0), (vI v0_1), (vL v0_2 v0_2n), (vL v0_3 v0_3n), (vL v0_4 v0_4n)]), (.agg #[(vI v1_0), (vI v1_1), (vL v1_2 v1_2n), (vL v1_3 v1_3n), (vL v1_4 v1_4n)])] h = some r := run_i Try.func24 (by kernel_rfl) ((f24_eq base v0_0 v0_1 v0_2 v0_2n v0_3 v0_3n v0_4 v0_4n v1_0 v1_1 v1_2 v1_2n v1_3 v1_3n v1_4 v1_4n h).trans hx)
/-! laws.eqAct (gates 0) -/
theorem f25_eq (base : Nat) (v0_0 : Int) (v0_1 : Int) (v0_2 : Int) (v0_3 : Int) (v0_4 : Int) (v0_5 : ByteArray) (v0_6 : Option Addr) (v0_6n : Nat) (v1_0 : Int) (v1_1 : Int) (v1_2 : Int) (v1_3 : Int) (v1_4 : Int) (v1_5 : ByteArray) (v1_6 : Option Addr) (v1_6n : Nat) (h : AH) : exFun (Et base) (run (Et base)) loopL a25 Try.f25 [(.agg #[(vI v0_0), (vI v0_1), (vI v0_2), (vI v0_3), (vI v0_4), (vT v0_5), (vL v0_6 v0_6n)]), (.agg #[(vI v1_0), (vI v1_1), (vI v1_2), (vI v1_3), (vI v1_4), (vT v1_5), (vL v1_6 v1_6n)])] h =
(nw1 h 54 [(vI v0_0), (vI v0_1), (vI v0_2), (vI v0_3), (vI v0_4), (vT v0_5), (vL v0_6 v0_6n)] fun h1 =>
nw1 h1 54 [(vI v1_0), (vI v1_1), (vI v1_2), (vI v1_3), (vI v1_4), (vT v1_5), (vL v1_6 v1_6n)] fun h2 =>
((cell h2 (List.length h) 0).bind (getI .i64)).bind fun n3 =>
((cell h2 (List.length h1) 0).bind (getI .i64)).bind fun n4 =>
(if (n3 != n4) = true then
some ((.bool false), h2)
else
((cell h2 (List.length h) 1).bind (getI .i64)).bind fun n5 =>
((cell h2 (List.length h1) 1).bind (getI .i64)).bind fun n6 =>
(if (n5 != n6) = true then
some ((.bool false), h2)
else
((cell h2 (List.length h) 2).bind (getI .i64)).bind fun n7 =>
((cell h2 (List.length h1) 2).bind (getI .i64)).bind fun n8 =>
(if (n7 != n8) = true then
some ((.bool false), h2)
else
c_IITL h2 (List.length h) 3 fun n9 n10 s11 l12 =>
c_IITL h2 (List.length h1) 3 fun n13 n14 s15 l16 =>
(run (Et base) 15 [(.agg #[(vI n9), (vI n10), (vT s11), (vL l12.1 l12.2)]), (.agg #[(vI n13), (vI n14), (vT s15), (vL l16.1 l16.2)])] h2).bind fun r17 =>
((some r17.1).bind getB).bind fun b18 =>
(if (!b18) = true then
some ((.bool false), r17.2)
else
some ((.bool true), r17.2))))) : Option (Value × AH)) := by kernel_rfl
theorem r25 {base : Nat} {v0_0 : Int} {v0_1 : Int} {v0_2 : Int} {v0_3 : Int} {v0_4 : Int} {v0_5 : ByteArray} {v0_6 : Option Addr} {v0_6n : Nat} {v1_0 : Int} {v1_1 : Int} {v1_2 : Int} {v1_3 : Int} {v1_4 : Int} {v1_5 : ByteArray} {v1_6 : Option Addr} {v1_6n : Nat} {h : AH} {r : Value × AH} (hx : (nw1 h 54 [(vI v0_0), (vI v0_1), (vI v0_2), (vI v0_3), (vI v0_4), (vT v0_5), (vL v0_6 v0_6n)] fun h1 =>
nw1 h1 54 [(vI v1_0), (vI v1_1), (vI v1_2), (vI v1_3), (vI v1_4), (vT v1_5), (vL v1_6 v1_6n)] fun h2 =>
((cell h2 (List.length h) 0).bind (getI .i64)).bind fun n3 =>
((cell h2 (List.length h1) 0).bind (getI .i64)).bind fun n4 =>
(if (n3 != n4) = true then
some ((.bool false), h2)
else
((cell h2 (List.length h) 1).bind (getI .i64)).bind fun n5 =>
((cell h2 (List.length h1) 1).bind (getI .i64)).bind fun n6 =>
(if (n5 != n6) = true then
some ((.bool false), h2)
else
((cell h2 (List.length h) 2).bind (getI .i64)).bind fun n7 =>
((cell h2 (List.length h1) 2).bind (getI .i64)).bind fun n8 =>
(if (n7 != n8) = true then
some ((.bool false), h2)
else
c_IITL h2 (List.length h) 3 fun n9 n10 s11 l12 =>
c_IITL h2 (List.length h1) 3 fun n13 n14 s15 l16 =>
(run (Et base) 15 [(.agg #[(vI n9), (vI n10), (vT s11), (vL l12.1 l12.2)]), (.agg #[(vI n13), (vI n14), (vT s15), (vL l16.1 l16.2)])] h2).bind fun r17 =>
((some r17.1).bind getB).bind fun b18 =>
(if (!b18) = true then
some ((.bool false), r17.2)
else
some ((.bool true), r17.2)))))) = some r) : run (Et base) 25 [(.agg #[(vI v0_0), (vI v0_1), (vI v0_2), (vI v0_3), (vI v0_4), (vT v0_5), (vL v0_6 v0_6n)]), (.agg #[(vI v1_0), (vI v1_1), (vI v1_2), (vI v1_3), (vI v1_4), (vT v1_5), (vL v1_6 v1_6n)])] h = some r := run_i Try.func25 (by kernel_rfl) ((f25_eq base v0_0 v0_1 v0_2 v0_3 v0_4 v0_5 v0_6 v0_6n v1_0 v1_1 v1_2 v1_3 v1_4 v1_5 v1_6 v1_6n h).trans hx)
/-! laws.markActor (gates 0) -/
theorem f26_eq (base : Nat) (v0_0 : Int) (v0_1 : Int) (v0_2 : Option Addr) (v0_2n : Nat) (v0_3 : Option Addr) (v0_3n : Nat) (v0_4 : Option Addr) (v0_4n : Nat) (v1 : Int) (h : AH) : exFun (Et base) (run (Et base)) loopL a26 Try.f26 [(.agg #[(vI v0_0), (vI v0_1), (vL v0_2 v0_2n), (vL v0_3 v0_3n), (vL v0_4 v0_4n)]), (vI v1)] h =
((some (h ++ [some ⟨[(.int .i64 v0_0), (.int .i64 v0_1), (.slice v0_2 v0_2n v0_2n), (.slice v0_3 v0_3n v0_3n), (.slice v0_4 v0_4n v0_4n)], 52⟩])).bind fun h1 =>
((cell h1 (List.length h) 2).bind getS).bind fun l2 =>
(run (Et base) 53 [(.slice l2.1 l2.2 l2.2), (.int .i64 v1)] h1).bind fun r3 =>
((some r3.1).bind (getI .i64)).bind fun n4 =>
((cell r3.2 (List.length h) 3).bind getS).bind fun l5 =>
(run (Et base) 53 [(.slice l5.1 l5.2 l5.2), (.int .i64 n4)] r3.2).bind fun r6 =>
((some r6.1).bind (getI .i64)).bind fun n7 =>
((cell r6.2 (List.length h) 4).bind getS).bind fun l8 =>
(run (Et base) 75 [(.slice l8.1 l8.2 l8.2), (.int .i64 n7)] r6.2).bind fun r9 =>
((some r9.1).bind (getI .i64)).bind fun n10 =>
some ((.int .i64 n10), r9.2) : Option (Value × AH)) := by kernel_rfl
theorem r26 {base : Nat} {v0_0 : Int} {v0_1 : Int} {v0_2 : Option Addr} {v0_2n : Nat} {v0_3 : Option Addr} {v0_3n : Nat} {v0_4 : Option Addr} {v0_4n : Nat} {v1 : Int} {h : AH} {r : Value × AH} (hx : ((some (h ++ [some ⟨[(.int .i64 v0_0), (.int .i64 v0_1), (.slice v0_2 v0_2n v0_2n), (.slice v0_3 v0_3n v0_3n), (.slice v0_4 v0_4n v0_4n)], 52⟩])).bind fun h1 =>
((cell h1 (List.length h) 2).bind getS).bind fun l2 =>
(run (Et base) 53 [(.slice l2.1 l2.2 l2.2), (.int .i64 v1)] h1).bind fun r3 =>
((some r3.1).bind (getI .i64)).bind fun n4 =>
((cell r3.2 (List.length h) 3).bind getS).bind fun l5 =>
(run (Et base) 53 [(.slice l5.1 l5.2 l5.2), (.int .i64 n4)] r3.2).bind fun r6 =>
((some r6.1).bind (getI .i64)).bind fun n7 =>
((cell r6.2 (List.length h) 4).bind getS).bind fun l8 =>
(run (Et base) 75 [(.slice l8.1 l8.2 l8.2), (.int .i64 n7)] r6.2).bind fun r9 =>
((some r9.1).bind (getI .i64)).bind fun n10 =>
some ((.int .i64 n10), r9.2)) = some r) : run (Et base) 26 [(.agg #[(vI v0_0), (vI v0_1), (vL v0_2 v0_2n), (vL v0_3 v0_3n), (vL v0_4 v0_4n)]), (vI v1)] h = some r := run_i Try.func26 (by kernel_rfl) ((f26_eq base v0_0 v0_1 v0_2 v0_2n v0_3 v0_3n v0_4 v0_4n v1 h).trans hx)
/-! laws.markAct (gates 0) -/
theorem f27_eq (base : Nat) (v0_0 : Int) (v0_1 : Int) (v0_2 : Int) (v0_3 : Int) (v0_4 : Int) (v0_5 : ByteArray) (v0_6 : Option Addr) (v0_6n : Nat) (v1 : Int) (h : AH) : exFun (Et base) (run (Et base)) loopL a27 Try.f27 [(.agg #[(vI v0_0), (vI v0_1), (vI v0_2), (vI v0_3), (vI v0_4), (vT v0_5), (vL v0_6 v0_6n)]), (vI v1)] h =
((some (h ++ [some ⟨[(.int .i64 v0_0), (.int .i64 v0_1), (.int .i64 v0_2), (.int .i64 v0_3), (.int .i64 v0_4), (.string v0_5), (.slice v0_6 v0_6n v0_6n)], 54⟩])).bind fun h1 =>
((cell h1 (List.length h) 3).bind (getI .i64)).bind fun n2 =>
((cell h1 (List.length h) 4).bind (getI .i64)).bind fun n3 =>
((cell h1 (List.length h) 5).bind getStr).bind fun s4 =>
((cell h1 (List.length h) 6).bind getS).bind fun l5 =>
(run (Et base) 17 [(.agg #[(.int .i64 n2), (.int .i64 n3), (.string s4), (.slice l5.1 l5.2 l5.2)]), (.int .i64 v1)] h1).bind fun r6 =>
((some r6.1).bind (getI .i64)).bind fun n7 =>
some ((.int .i64 n7), r6.2) : Option (Value × AH)) := by kernel_rfl
theorem r27 {base : Nat} {v0_0 : Int} {v0_1 : Int} {v0_2 : Int} {v0_3 : Int} {v0_4 : Int} {v0_5 : ByteArray} {v0_6 : Option Addr} {v0_6n : Nat} {v1 : Int} {h : AH} {r : Value × AH} (hx : ((some (h ++ [some ⟨[(.int .i64 v0_0), (.int .i64 v0_1), (.int .i64 v0_2), (.int .i64 v0_3), (.int .i64 v0_4), (.string v0_5), (.slice v0_6 v0_6n v0_6n)], 54⟩])).bind fun h1 =>
((cell h1 (List.length h) 3).bind (getI .i64)).bind fun n2 =>
((cell h1 (List.length h) 4).bind (getI .i64)).bind fun n3 =>
((cell h1 (List.length h) 5).bind getStr).bind fun s4 =>
((cell h1 (List.length h) 6).bind getS).bind fun l5 =>
(run (Et base) 17 [(.agg #[(.int .i64 n2), (.int .i64 n3), (.string s4), (.slice l5.1 l5.2 l5.2)]), (.int .i64 v1)] h1).bind fun r6 =>
((some r6.1).bind (getI .i64)).bind fun n7 =>
some ((.int .i64 n7), r6.2)) = some r) : run (Et base) 27 [(.agg #[(vI v0_0), (vI v0_1), (vI v0_2), (vI v0_3), (vI v0_4), (vT v0_5), (vL v0_6 v0_6n)]), (vI v1)] h = some r := run_i Try.func27 (by kernel_rfl) ((f27_eq base v0_0 v0_1 v0_2 v0_3 v0_4 v0_5 v0_6 v0_6n v1 h).trans hx)
/-! laws.heldActor (gates 0) -/
theorem f28_eq (base : Nat) (v0_0 : Int) (v0_1 : Int) (v0_2 : Option Addr) (v0_2n : Nat) (v0_3 : Option Addr) (v0_3n : Nat) (v0_4 : Option Addr) (v0_4n : Nat) (v1 : Int) (h : AH) : exFun (Et base) (run (Et base)) loopL a28 Try.f28 [(.agg #[(vI v0_0), (vI v0_1), (vL v0_2 v0_2n), (vL v0_3 v0_3n), (vL v0_4 v0_4n)]), (vI v1)] h =
((some (h ++ [some ⟨[(.int .i64 v0_0), (.int .i64 v0_1), (.slice v0_2 v0_2n v0_2n), (.slice v0_3 v0_3n v0_3n), (.slice v0_4 v0_4n v0_4n)], 52⟩])).bind fun h1 =>
((cell h1 (List.length h) 2).bind getS).bind fun l2 =>
(run (Et base) 76 [(.slice l2.1 l2.2 l2.2), (.int .i64 v1)] h1).bind fun r3 =>
((some r3.1).bind (getI .i64)).bind fun n4 =>
(if (decide (n4 < (0 : Int))) = true then
some ((.int .i64 (-1 : Int)), r3.2)
else
((cell r3.2 (List.length h) 3).bind getS).bind fun l5 =>
(run (Et base) 76 [(.slice l5.1 l5.2 l5.2), (.int .i64 n4)] r3.2).bind fun r6 =>
((some r6.1).bind (getI .i64)).bind fun n7 =>
(if (decide (n7 < (0 : Int))) = true then
some ((.int .i64 (-1 : Int)), r6.2)
else
((cell r6.2 (List.length h) 4).bind getS).bind fun l8 =>
(run (Et base) 77 [(.slice l8.1 l8.2 l8.2), (.int .i64 n7)] r6.2).bind fun r9 =>
((some r9.1).bind (getI .i64)).bind fun n10 =>
(if (decide (n10 < (0 : Int))) = true then
some ((.int .i64 (-1 : Int)), r9.2)
else
some ((.int .i64 n10), r9.2)))) : Option (Value × AH)) := by kernel_rfl
theorem r28 {base : Nat} {v0_0 : Int} {v0_1 : Int} {v0_2 : Option Addr} {v0_2n : Nat} {v0_3 : Option Addr} {v0_3n : Nat} {v0_4 : Option Addr} {v0_4n : Nat} {v1 : Int} {h : AH} {r : Value × AH} (hx : ((some (h ++ [some ⟨[(.int .i64 v0_0), (.int .i64 v0_1), (.slice v0_2 v0_2n v0_2n), (.slice v0_3 v0_3n v0_3n), (.slice v0_4 v0_4n v0_4n)], 52⟩])).bind fun h1 =>
((cell h1 (List.length h) 2).bind getS).bind fun l2 =>
(run (Et base) 76 [(.slice l2.1 l2.2 l2.2), (.int .i64 v1)] h1).bind fun r3 =>
((some r3.1).bind (getI .i64)).bind fun n4 =>
(if (decide (n4 < (0 : Int))) = true then
some ((.int .i64 (-1 : Int)), r3.2)
else
((cell r3.2 (List.length h) 3).bind getS).bind fun l5 =>
(run (Et base) 76 [(.slice l5.1 l5.2 l5.2), (.int .i64 n4)] r3.2).bind fun r6 =>
((some r6.1).bind (getI .i64)).bind fun n7 =>
(if (decide (n7 < (0 : Int))) = true then
some ((.int .i64 (-1 : Int)), r6.2)
else
((cell r6.2 (List.length h) 4).bind getS).bind fun l8 =>
(run (Et base) 77 [(.slice l8.1 l8.2 l8.2), (.int .i64 n7)] r6.2).bind fun r9 =>
((some r9.1).bind (getI .i64)).bind fun n10 =>
(if (decide (n10 < (0 : Int))) = true then
some ((.int .i64 (-1 : Int)), r9.2)
else
some ((.int .i64 n10), r9.2))))) = some r) : run (Et base) 28 [(.agg #[(vI v0_0), (vI v0_1), (vL v0_2 v0_2n), (vL v0_3 v0_3n), (vL v0_4 v0_4n)]), (vI v1)] h = some r := run_i Try.func28 (by kernel_rfl) ((f28_eq base v0_0 v0_1 v0_2 v0_2n v0_3 v0_3n v0_4 v0_4n v1 h).trans hx)
/-! laws.heldAct (gates 0) -/
theorem f29_eq (base : Nat) (v0_0 : Int) (v0_1 : Int) (v0_2 : Int) (v0_3 : Int) (v0_4 : Int) (v0_5 : ByteArray) (v0_6 : Option Addr) (v0_6n : Nat) (v1 : Int) (h : AH) : exFun (Et base) (run (Et base)) loopL a29 Try.f29 [(.agg #[(vI v0_0), (vI v0_1), (vI v0_2), (vI v0_3), (vI v0_4), (vT v0_5), (vL v0_6 v0_6n)]), (vI v1)] h =
((some (h ++ [some ⟨[(.int .i64 v0_0), (.int .i64 v0_1), (.int .i64 v0_2), (.int .i64 v0_3), (.int .i64 v0_4), (.string v0_5), (.slice v0_6 v0_6n v0_6n)], 54⟩])).bind fun h1 =>
((cell h1 (List.length h) 3).bind (getI .i64)).bind fun n2 =>
((cell h1 (List.length h) 4).bind (getI .i64)).bind fun n3 =>
((cell h1 (List.length h) 5).bind getStr).bind fun s4 =>
((cell h1 (List.length h) 6).bind getS).bind fun l5 =>
(run (Et base) 78 [(.agg #[(.int .i64 n2), (.int .i64 n3), (.string s4), (.slice l5.1 l5.2 l5.2)]), (.int .i64 v1)] h1).bind fun r6 =>
((some r6.1).bind (getI .i64)).bind fun n7 =>
(if (decide (n7 < (0 : Int))) = true then
some ((.int .i64 (-1 : Int)), r6.2)
else
some ((.int .i64 n7), r6.2)) : Option (Value × AH)) := by kernel_rfl
theorem r29 {base : Nat} {v0_0 : Int} {v0_1 : Int} {v0_2 : Int} {v0_3 : Int} {v0_4 : Int} {v0_5 : ByteArray} {v0_6 : Option Addr} {v0_6n : Nat} {v1 : Int} {h : AH} {r : Value × AH} (hx : ((some (h ++ [some ⟨[(.int .i64 v0_0), (.int .i64 v0_1), (.int .i64 v0_2), (.int .i64 v0_3), (.int .i64 v0_4), (.string v0_5), (.slice v0_6 v0_6n v0_6n)], 54⟩])).bind fun h1 =>
((cell h1 (List.length h) 3).bind (getI .i64)).bind fun n2 =>
((cell h1 (List.length h) 4).bind (getI .i64)).bind fun n3 =>
((cell h1 (List.length h) 5).bind getStr).bind fun s4 =>
((cell h1 (List.length h) 6).bind getS).bind fun l5 =>
(run (Et base) 78 [(.agg #[(.int .i64 n2), (.int .i64 n3), (.string s4), (.slice l5.1 l5.2 l5.2)]), (.int .i64 v1)] h1).bind fun r6 =>
((some r6.1).bind (getI .i64)).bind fun n7 =>
(if (decide (n7 < (0 : Int))) = true then
some ((.int .i64 (-1 : Int)), r6.2)
else
some ((.int .i64 n7), r6.2))) = some r) : run (Et base) 29 [(.agg #[(vI v0_0), (vI v0_1), (vI v0_2), (vI v0_3), (vI v0_4), (vT v0_5), (vL v0_6 v0_6n)]), (vI v1)] h = some r := run_i Try.func29 (by kernel_rfl) ((f29_eq base v0_0 v0_1 v0_2 v0_3 v0_4 v0_5 v0_6 v0_6n v1 h).trans hx)
/-! impl.ActorOk (gates 0) -/
theorem f33_eq (base : Nat) (v0 : Option Addr) (v0n : Nat) (v1_0 : Int) (v1_1 : Int) (v1_2 : Option Addr) (v1_2n : Nat) (v1_3 : Option Addr) (v1_3n : Nat) (v1_4 : Option Addr) (v1_4n : Nat) (h : AH) : exFun (Et base) (run (Et base)) loopL a33 Try.f33 [(vL v0 v0n), (.agg #[(vI v1_0), (vI v1_1), (vL v1_2 v1_2n), (vL v1_3 v1_3n), (vL v1_4 v1_4n)])] h =
(nw1 h 52 [(vI v1_0), (vI v1_1), (vL v1_2 v1_2n), (vL v1_3 v1_3n), (vL v1_4 v1_4n)] fun h1 =>
(run (Et base) 83 [(vL v0 v0n)] h1).bind fun r2 =>
((some r2.1).bind getB).bind fun b3 =>
(if b3 = true then
((cell r2.2 (List.length h) 0).bind (getI .i64)).bind fun n4 =>
(run (Et base) 66 [(vI n4), (vI (1 : Int)), (vI (99999 : Int))] r2.2).bind fun r5 =>
((some r5.1).bind getB).bind fun b6 =>
(if b6 = true then
((cell r5.2 (List.length h) 1).bind (getI .i64)).bind fun n7 =>
(run (Et base) 66 [(vI n7), (vI (0 : Int)), (vI (IntKind.wrap .i64 (((v0n : Nat) : Int) - (1 : Int))))] r5.2).bind fun r8 =>
((some r8.1).bind getB).bind fun b9 =>
(if b9 = true then
((cell r8.2 (List.length h) 2).bind getS).bind fun l10 =>
(if (((l10.2 : Nat) : Int) == (8 : Int)) = true then
((cell r8.2 (List.length h) 2).bind getS).bind fun l11 =>
(run (Et base) 84 [(vL l11.1 l11.2)] r8.2).bind fun r12 =>
((some r12.1).bind getB).bind fun b13 =>
(if b13 = true then
((cell r12.2 (List.length h) 3).bind getS).bind fun l14 =>
(if (decide (((l14.2 : Nat) : Int) ≤ (30 : Int))) = true then
((cell r12.2 (List.length h) 3).bind getS).bind fun l15 =>
(run (Et base) 84 [(vL l15.1 l15.2)] r12.2).bind fun r16 =>
((some r16.1).bind getB).bind fun b17 =>
(if b17 = true then
((cell r16.2 (List.length h) 4).bind getS).bind fun l18 =>
((cell r16.2 (List.length h) 0).bind (getI .i64)).bind fun n19 =>
(run (Et base) 85 [(vL l18.1 l18.2), (vI n19)] r16.2).bind fun r20 =>
((some r20.1).bind getB).bind fun b21 =>
some ((.bool b21), r20.2)
else
some ((.bool false), r16.2))
else
some ((.bool false), r12.2))
else
some ((.bool false), r12.2))
else
some ((.bool false), r8.2))
else
some ((.bool false), r8.2))
else
some ((.bool false), r5.2))
else
some ((.bool false), r2.2)) : Option (Value × AH)) := by kernel_rfl
theorem r33 {base : Nat} {v0 : Option Addr} {v0n : Nat} {v1_0 : Int} {v1_1 : Int} {v1_2 : Option Addr} {v1_2n : Nat} {v1_3 : Option Addr} {v1_3n : Nat} {v1_4 : Option Addr} {v1_4n : Nat} {h : AH} {r : Value × AH} (hx : (nw1 h 52 [(vI v1_0), (vI v1_1), (vL v1_2 v1_2n), (vL v1_3 v1_3n), (vL v1_4 v1_4n)] fun h1 =>
(run (Et base) 83 [(vL v0 v0n)] h1).bind fun r2 =>
((some r2.1).bind getB).bind fun b3 =>
(if b3 = true then
((cell r2.2 (List.length h) 0).bind (getI .i64)).bind fun n4 =>
(run (Et base) 66 [(vI n4), (vI (1 : Int)), (vI (99999 : Int))] r2.2).bind fun r5 =>
((some r5.1).bind getB).bind fun b6 =>
(if b6 = true then
((cell r5.2 (List.length h) 1).bind (getI .i64)).bind fun n7 =>
(run (Et base) 66 [(vI n7), (vI (0 : Int)), (vI (IntKind.wrap .i64 (((v0n : Nat) : Int) - (1 : Int))))] r5.2).bind fun r8 =>
((some r8.1).bind getB).bind fun b9 =>
(if b9 = true then
((cell r8.2 (List.length h) 2).bind getS).bind fun l10 =>
(if (((l10.2 : Nat) : Int) == (8 : Int)) = true then
((cell r8.2 (List.length h) 2).bind getS).bind fun l11 =>
(run (Et base) 84 [(vL l11.1 l11.2)] r8.2).bind fun r12 =>
((some r12.1).bind getB).bind fun b13 =>
(if b13 = true then
((cell r12.2 (List.length h) 3).bind getS).bind fun l14 =>
(if (decide (((l14.2 : Nat) : Int) ≤ (30 : Int))) = true then
((cell r12.2 (List.length h) 3).bind getS).bind fun l15 =>
(run (Et base) 84 [(vL l15.1 l15.2)] r12.2).bind fun r16 =>
((some r16.1).bind getB).bind fun b17 =>
(if b17 = true then
((cell r16.2 (List.length h) 4).bind getS).bind fun l18 =>
((cell r16.2 (List.length h) 0).bind (getI .i64)).bind fun n19 =>
(run (Et base) 85 [(vL l18.1 l18.2), (vI n19)] r16.2).bind fun r20 =>
((some r20.1).bind getB).bind fun b21 =>
some ((.bool b21), r20.2)
else
some ((.bool false), r16.2))
else
some ((.bool false), r12.2))
else
some ((.bool false), r12.2))
else
some ((.bool false), r8.2))
else
some ((.bool false), r8.2))
else
some ((.bool false), r5.2))
else
some ((.bool false), r2.2))) = some r) : run (Et base) 33 [(vL v0 v0n), (.agg #[(vI v1_0), (vI v1_1), (vL v1_2 v1_2n), (vL v1_3 v1_3n), (vL v1_4 v1_4n)])] h = some r := run_i Try.func33 (by kernel_rfl) ((f33_eq base v0 v0n v1_0 v1_1 v1_2 v1_2n v1_3 v1_3n v1_4 v1_4n h).trans hx)
/-! laws.szIns (gates 0) -/
theorem f40_eq (base : Nat) (v0_0 : Int) (v0_1 : Int) (v0_2 : Int) (v0_3 : Int) (v0_4 : Int) (v0_5 : ByteArray) (v1 : Int) (h : AH) : exFun (Et base) (run (Et base)) loopL a40 Try.f40 [(.agg #[(vI v0_0), (vI v0_1), (vI v0_2), (vI v0_3), (vI v0_4), (vT v0_5)]), (vI v1)] h =
((some (h ++ [some ⟨[(.int .i64 v0_0), (.int .i64 v0_1), (.int .i64 v0_2), (.int .i64 v0_3), (.int .i64 v0_4), (.string v0_5)], 78⟩])).bind fun h1 =>
((cell h1 (List.length h) 5).bind getStr).bind fun s2 =>
(if (decide ((IntKind.wrap .i64 (v1 - (s2.size : Int))) < (0 : Int))) = true then
some ((.int .i64 (-1 : Int)), h1)
else
some ((.int .i64 (IntKind.wrap .i64 (v1 - (s2.size : Int)))), h1)) : Option (Value × AH)) := by kernel_rfl
theorem r40 {base : Nat} {v0_0 : Int} {v0_1 : Int} {v0_2 : Int} {v0_3 : Int} {v0_4 : Int} {v0_5 : ByteArray} {v1 : Int} {h : AH} {r : Value × AH} (hx : ((some (h ++ [some ⟨[(.int .i64 v0_0), (.int .i64 v0_1), (.int .i64 v0_2), (.int .i64 v0_3), (.int .i64 v0_4), (.string v0_5)], 78⟩])).bind fun h1 =>
((cell h1 (List.length h) 5).bind getStr).bind fun s2 =>
(if (decide ((IntKind.wrap .i64 (v1 - (s2.size : Int))) < (0 : Int))) = true then
some ((.int .i64 (-1 : Int)), h1)
else
some ((.int .i64 (IntKind.wrap .i64 (v1 - (s2.size : Int)))), h1))) = some r) : run (Et base) 40 [(.agg #[(vI v0_0), (vI v0_1), (vI v0_2), (vI v0_3), (vI v0_4), (vT v0_5)]), (vI v1)] h = some r := run_i Try.func40 (by kernel_rfl) ((f40_eq base v0_0 v0_1 v0_2 v0_3 v0_4 v0_5 v1 h).trans hx)
/-! laws.szTermS (gates 0) -/
noncomputable def B41_0 (base : Nat) : Body := fun l h => lay s41_0 l fun s => exCode (Et base) (run (Et base)) loopL a41_0 (subC [1, 1, 1, 0, 1, 0, 0] (bodyC Try.f41)) s h (keepK s41_0 e41_0)
theorem B41_0_eq (base : Nat) (v0 : Option Addr) (v0n : Nat) (v1 : Int) (v5 : Int) (h : AH) : B41_0 base [some (vL v0 v0n), some (vI v1), some (vI v5)] h =
((if (decide (v5 < ((v0n : Nat) : Int))) = true then
(if 0 ≤ v5 ∧ v5 < ((v0n : Nat) : Int) then
((v0 : Option Addr)).bind fun a1 =>
((cell h a1.block (a1.off + Int.toNat v5 * 4)).bind (getI .i64)).bind fun n2 =>
((cell h a1.block ((a1.off + Int.toNat v5 * 4) + 1)).bind (getI .i64)).bind fun n3 =>
((cell h a1.block (((a1.off + Int.toNat v5 * 4) + 1) + 1)).bind getStr).bind fun s4 =>
((cell h a1.block ((((a1.off + Int.toNat v5 * 4) + 1) + 1) + 1)).bind getS).bind fun l5 =>
(run (Et base) 8 [(.agg #[(.int .i64 n2), (.int .i64 n3), (.string s4), (.slice l5.1 l5.2 l5.2)]), (.int .i64 v1)] h).bind fun r6 =>
((some r6.1).bind (getI .i64)).bind fun n7 =>
(if (decide (n7 < (0 : Int))) = true then
some (1, [some (.int .i64 (-1 : Int))], r6.2)
else
some (0, [some (.slice v0 v0n v0n), some (.int .i64 n7), some (.int .i64 (IntKind.wrap .i64 (v5 + (1 : Int))))], r6.2))
else none)
else
some (2, [some (.int .i64 v1)], h)) : Option (Nat × Slots × AH)) := by kernel_rfl
theorem f41_eq (base : Nat) (v0 : Option Addr) (v0n : Nat) (v1 : Int) (h : AH) : exFun (Et base) (run (Et base)) loopL a41 Try.f41 [(vL v0 v0n), (vI v1)] h =
((if (decide ((IntKind.wrap .i64 (v1 - ((v0n : Nat) : Int))) < (0 : Int))) = true then
some ((.int .i64 (-1 : Int)), h)
else
(loopL (B41_0 base) [some (.slice v0 v0n v0n), some (.int .i64 (IntKind.wrap .i64 (v1 - ((v0n : Nat) : Int)))), some (.int .i64 (0 : Int))] h).bind fun q1 =>
(if q1.1 = 1 then
((sget q1.2.1 0).bind (getI .i64)).bind fun n2 =>
some ((.int .i64 n2), q1.2.2)
else
(if q1.1 = 2 then
((sget q1.2.1 0).bind (getI .i64)).bind fun n3 =>
some ((.int .i64 n3), q1.2.2)
else
none))) : Option (Value × AH)) := by kernel_rfl
theorem r41 {base : Nat} {v0 : Option Addr} {v0n : Nat} {v1 : Int} {h : AH} {r : Value × AH} (hx : ((if (decide ((IntKind.wrap .i64 (v1 - ((v0n : Nat) : Int))) < (0 : Int))) = true then
some ((.int .i64 (-1 : Int)), h)
else
(loopL (B41_0 base) [some (.slice v0 v0n v0n), some (.int .i64 (IntKind.wrap .i64 (v1 - ((v0n : Nat) : Int)))), some (.int .i64 (0 : Int))] h).bind fun q1 =>
(if q1.1 = 1 then
((sget q1.2.1 0).bind (getI .i64)).bind fun n2 =>
some ((.int .i64 n2), q1.2.2)
else
(if q1.1 = 2 then
((sget q1.2.1 0).bind (getI .i64)).bind fun n3 =>
some ((.int .i64 n3), q1.2.2)
else
none)))) = some r) : run (Et base) 41 [(vL v0 v0n), (vI v1)] h = some r := run_i Try.func41 (by kernel_rfl) ((f41_eq base v0 v0n v1 h).trans hx)
/-! laws.toIns (gates 0) -/
theorem f44_eq (base : Nat) (v0_0 : Int) (v0_1 : Int) (v0_2 : Int) (v0_3 : Int) (v0_4 : Int) (v0_5 : ByteArray) (h : AH) : exFun (Et base) (run (Et base)) loopL a44 Try.f44 [(.agg #[(vI v0_0), (vI v0_1), (vI v0_2), (vI v0_3), (vI v0_4), (vT v0_5)])] h =
(nw1 h 78 [(vI v0_0), (vI v0_1), (vI v0_2), (vI v0_3), (vI v0_4), (vT v0_5)] fun h1 =>
nw1 h1 82 [(vI 0), (vI 0), (vI 0), (vI 0), (vI 0), (vT ⟨#[]⟩)] fun h2 =>
nw1 h2 82 [(vI 0), (vI 0), (vI 0), (vI 0), (vI 0), (vT ⟨#[]⟩)] fun h3 =>
((cell h3 (List.length h) 0).bind (getI .i64)).bind fun n4 =>
(wr base h3 (List.length h2) 0 [(vI n4)]).bind fun h5 =>
((cell h5 (List.length h) 1).bind (getI .i64)).bind fun n6 =>
(wr base h5 (List.length h2) 1 [(vI n6)]).bind fun h7 =>
((cell h7 (List.length h) 2).bind (getI .i64)).bind fun n8 =>
(wr base h7 (List.length h2) 2 [(vI n8)]).bind fun h9 =>
((cell h9 (List.length h) 3).bind (getI .i64)).bind fun n10 =>
(wr base h9 (List.length h2) 3 [(vI n10)]).bind fun h11 =>
((cell h11 (List.length h) 4).bind (getI .i64)).bind fun n12 =>
(wr base h11 (List.length h2) 4 [(vI n12)]).bind fun h13 =>
((cell h13 (List.length h) 5).bind getStr).bind fun s14 =>
(wr base h13 (List.length h2) 5 [(vT s14)]).bind fun h15 =>
c_IIIIIT h15 (List.length h2) 0 fun n16 n17 n18 n19 n20 s21 =>
(wr base h15 (List.length h1) 0 [(vI n16), (vI n17), (vI n18), (vI n19), (vI n20), (vT s21)]).bind fun h22 =>
c_IIIIIT h22 (List.length h1) 0 fun n23 n24 n25 n26 n27 s28 =>
some ((.agg #[(vI n23), (vI n24), (vI n25), (vI n26), (vI n27), (vT s28)]), h22) : Option (Value × AH)) := by kernel_rfl
theorem r44 {base : Nat} {v0_0 : Int} {v0_1 : Int} {v0_2 : Int} {v0_3 : Int} {v0_4 : Int} {v0_5 : ByteArray} {h : AH} {r : Value × AH} (hx : (nw1 h 78 [(vI v0_0), (vI v0_1), (vI v0_2), (vI v0_3), (vI v0_4), (vT v0_5)] fun h1 =>
nw1 h1 82 [(vI 0), (vI 0), (vI 0), (vI 0), (vI 0), (vT ⟨#[]⟩)] fun h2 =>
nw1 h2 82 [(vI 0), (vI 0), (vI 0), (vI 0), (vI 0), (vT ⟨#[]⟩)] fun h3 =>
((cell h3 (List.length h) 0).bind (getI .i64)).bind fun n4 =>
(wr base h3 (List.length h2) 0 [(vI n4)]).bind fun h5 =>
((cell h5 (List.length h) 1).bind (getI .i64)).bind fun n6 =>
(wr base h5 (List.length h2) 1 [(vI n6)]).bind fun h7 =>
((cell h7 (List.length h) 2).bind (getI .i64)).bind fun n8 =>
(wr base h7 (List.length h2) 2 [(vI n8)]).bind fun h9 =>
((cell h9 (List.length h) 3).bind (getI .i64)).bind fun n10 =>
(wr base h9 (List.length h2) 3 [(vI n10)]).bind fun h11 =>
((cell h11 (List.length h) 4).bind (getI .i64)).bind fun n12 =>
(wr base h11 (List.length h2) 4 [(vI n12)]).bind fun h13 =>
((cell h13 (List.length h) 5).bind getStr).bind fun s14 =>
(wr base h13 (List.length h2) 5 [(vT s14)]).bind fun h15 =>
c_IIIIIT h15 (List.length h2) 0 fun n16 n17 n18 n19 n20 s21 =>
(wr base h15 (List.length h1) 0 [(vI n16), (vI n17), (vI n18), (vI n19), (vI n20), (vT s21)]).bind fun h22 =>
c_IIIIIT h22 (List.length h1) 0 fun n23 n24 n25 n26 n27 s28 =>
some ((.agg #[(vI n23), (vI n24), (vI n25), (vI n26), (vI n27), (vT s28)]), h22)) = some r) : run (Et base) 44 [(.agg #[(vI v0_0), (vI v0_1), (vI v0_2), (vI v0_3), (vI v0_4), (vT v0_5)])] h = some r := run_i Try.func44 (by kernel_rfl) ((f44_eq base v0_0 v0_1 v0_2 v0_3 v0_4 v0_5 h).trans hx)
end Go.Proofs.Ytolcnednfbbnnaa.Am
