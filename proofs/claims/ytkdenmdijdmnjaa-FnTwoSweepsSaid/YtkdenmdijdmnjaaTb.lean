/- The tables of the abstract machine for this program: its types, what its functions hand back, where their ways meet.
Conditions: none. -/
import Derived.Test.YtkdenmdijdmnjaaProg
import Derived.Test.YtkdenmdijdmnjaaMd
import Derived.WalkKit
set_option maxRecDepth 1000000
namespace Go.Proofs.Ytkdenmdijdmnjaa.Am
open Go Go.RowKit
def t3:TI:=⟨false,[(.int .i64)],0,[],[(.int .i64 0)],8,0⟩
theorem ti3:TFact Try.prog 3 t3:=TFact.of (z:=(.int .i64 0)) (by kernel_rfl) rfl rfl rfl Try.underlying3 ⟨rfl,rfl,rfl⟩ (fun h=>absurd h (Nat.lt_irrefl 0)) (fun _=>rfl)
def t4:TI:=⟨false,[.bool],0,[],[(.bool false)],1,0⟩
theorem ti4:TFact Try.prog 4 t4:=TFact.of (z:=(.bool false)) (by kernel_rfl) rfl rfl rfl Try.underlying4 ⟨rfl,rfl,rfl⟩ (fun h=>absurd h (Nat.lt_irrefl 0)) (fun h=>nomatch (show false=true from h))
def t5:TI:=⟨false,[(.int .u8)],0,[],[(.int .u8 0)],1,0⟩
theorem ti5:TFact Try.prog 5 t5:=TFact.of (z:=(.int .u8 0)) (by kernel_rfl) rfl rfl rfl Try.underlying5 ⟨rfl,rfl,rfl⟩ (fun h=>absurd h (Nat.lt_irrefl 0)) (fun h=>nomatch (show false=true from h))
def t9:TI:=⟨false,[.str],0,[],[(.string ⟨#[]⟩)],16,0⟩
theorem ti9:TFact Try.prog 9 t9:=TFact.of (z:=(.string ⟨#[]⟩)) (by kernel_rfl) rfl rfl rfl Try.underlying9 ⟨rfl,rfl,rfl⟩ (fun h=>absurd h (Nat.lt_irrefl 0)) (fun h=>nomatch (show false=true from h))
def t40:TI:=⟨false,[.slice],42,[],[(.slice none 0 0)],24,0⟩
theorem ti40:TFact Try.prog 40 t40:=TFact.of (z:=(.slice none 0 0)) (by kernel_rfl) rfl rfl rfl Try.underlying40 ⟨rfl,rfl,rfl,rfl⟩ (fun h=>absurd h (Nat.lt_irrefl 0)) (fun h=>nomatch (show false=true from h))
def t42:TI:=⟨true,[(.int .i64),(.int .i64),.str,.slice],0,[(0,3),(1,3),(2,9),(3,40)],[(.int .i64 0),(.int .i64 0),(.string ⟨#[]⟩),(.slice none 0 0)],56,0⟩
theorem ti42:TFact Try.prog 42 t42:=TFact.of (z:=.agg #[(.int .i64 0),(.int .i64 0),(.string ⟨#[]⟩),(.slice none 0 0)]) (by kernel_rfl) rfl rfl rfl Try.underlying42 ⟨rfl,rfl⟩ (fun h=>absurd h (Nat.lt_irrefl 0)) (fun h=>nomatch (show false=true from h))
def t49:TI:=⟨false,[.slice],5,[],[(.slice none 0 0)],24,0⟩
theorem ti49:TFact Try.prog 49 t49:=TFact.of (z:=(.slice none 0 0)) (by kernel_rfl) rfl rfl rfl Try.underlying49 ⟨rfl,rfl,rfl,rfl⟩ (fun h=>absurd h (Nat.lt_irrefl 0)) (fun h=>nomatch (show false=true from h))
def t52:TI:=⟨false,[.slice],3,[],[(.slice none 0 0)],24,0⟩
theorem ti52:TFact Try.prog 52 t52:=TFact.of (z:=(.slice none 0 0)) (by kernel_rfl) rfl rfl rfl Try.underlying52 ⟨rfl,rfl,rfl,rfl⟩ (fun h=>absurd h (Nat.lt_irrefl 0)) (fun h=>nomatch (show false=true from h))
def t59:TI:=⟨false,[.slice],9,[],[(.slice none 0 0)],24,0⟩
theorem ti59:TFact Try.prog 59 t59:=TFact.of (z:=(.slice none 0 0)) (by kernel_rfl) rfl rfl rfl Try.underlying59 ⟨rfl,rfl,rfl,rfl⟩ (fun h=>absurd h (Nat.lt_irrefl 0)) (fun h=>nomatch (show false=true from h))
def t63:TI:=⟨true,[.slice,.slice,(.int .i64)],0,[(0,52),(1,52),(2,3)],[(.slice none 0 0),(.slice none 0 0),(.int .i64 0)],56,0⟩
theorem ti63:TFact Try.prog 63 t63:=TFact.of (z:=.agg #[(.slice none 0 0),(.slice none 0 0),(.int .i64 0)]) (by kernel_rfl) rfl rfl rfl Try.underlying63 ⟨rfl,rfl⟩ (fun h=>absurd h (Nat.lt_irrefl 0)) (fun h=>nomatch (show false=true from h))
def t103:TI:=⟨false,[.ptr],0,[],[(.pointer none)],8,0⟩
theorem ti103:TFact Try.prog 103 t103:=TFact.of (z:=(.pointer none)) (by kernel_rfl) rfl rfl rfl Try.underlying103 ⟨rfl,rfl,rfl⟩ (fun h=>absurd h (Nat.lt_irrefl 0)) (fun h=>nomatch (show false=true from h))
def t116:TI:=⟨false,[.ptr],0,[],[(.pointer none)],8,0⟩
theorem ti116:TFact Try.prog 116 t116:=TFact.of (z:=(.pointer none)) (by kernel_rfl) rfl rfl rfl Try.underlying116 ⟨rfl,rfl,rfl⟩ (fun h=>absurd h (Nat.lt_irrefl 0)) (fun h=>nomatch (show false=true from h))
def t117:TI:=⟨false,[.map],3,[],[(.map none)],8,0⟩
theorem ti117:TFact Try.prog 117 t117:=TFact.of (z:=(.map none)) (by kernel_rfl) rfl rfl rfl Try.underlying117 ⟨rfl,rfl,rfl,rfl,rfl⟩ (fun h=>absurd h (Nat.lt_irrefl 0)) (fun h=>nomatch (show false=true from h))
def t119:TI:=⟨true,[.slice,.slice,(.int .i64),.bool,.slice,.slice,.map],0,[(0,63),(3,4),(4,52),(5,52),(6,117)],[(.slice none 0 0),(.slice none 0 0),(.int .i64 0),(.bool false),(.slice none 0 0),(.slice none 0 0),(.map none)],120,0⟩
theorem ti119:TFact Try.prog 119 t119:=TFact.of (z:=.agg #[(.slice none 0 0),(.slice none 0 0),(.int .i64 0),(.bool false),(.slice none 0 0),(.slice none 0 0),(.map none)]) (by kernel_rfl) rfl rfl rfl Try.underlying119 ⟨rfl,rfl⟩ (fun h=>absurd h (Nat.lt_irrefl 0)) (fun h=>nomatch (show false=true from h))
def t154:TI:=⟨true,[.slice,(.int .i64),(.int .i64)],0,[(0,49),(1,3),(2,3)],[(.slice none 0 0),(.int .i64 0),(.int .i64 0)],40,0⟩
theorem ti154:TFact Try.prog 154 t154:=TFact.of (z:=.agg #[(.slice none 0 0),(.int .i64 0),(.int .i64 0)]) (by kernel_rfl) rfl rfl rfl Try.underlying154 ⟨rfl,rfl⟩ (fun h=>absurd h (Nat.lt_irrefl 0)) (fun h=>nomatch (show false=true from h))
def t165:TI:=⟨false,[.ptr],0,[],[(.pointer none)],8,0⟩
theorem ti165:TFact Try.prog 165 t165:=TFact.of (z:=(.pointer none)) (by kernel_rfl) rfl rfl rfl Try.underlying165 ⟨rfl,rfl,rfl⟩ (fun h=>absurd h (Nat.lt_irrefl 0)) (fun h=>nomatch (show false=true from h))
def t168:TI:=⟨true,[.slice,.slice,(.int .i64),.slice,.slice,(.int .i64),.slice,.slice,.bool],0,[(0,63),(3,63),(6,52),(7,52),(8,4)],[(.slice none 0 0),(.slice none 0 0),(.int .i64 0),(.slice none 0 0),(.slice none 0 0),(.int .i64 0),(.slice none 0 0),(.slice none 0 0),(.bool false)],168,0⟩
theorem ti168:TFact Try.prog 168 t168:=TFact.of (z:=.agg #[(.slice none 0 0),(.slice none 0 0),(.int .i64 0),(.slice none 0 0),(.slice none 0 0),(.int .i64 0),(.slice none 0 0),(.slice none 0 0),(.bool false)]) (by kernel_rfl) rfl rfl rfl Try.underlying168 ⟨rfl,rfl⟩ (fun h=>absurd h (Nat.lt_irrefl 0)) (fun h=>nomatch (show false=true from h))
def t171:TI:=⟨false,[.func],0,[],[.nilFunc],8,0⟩
theorem ti171:TFact Try.prog 171 t171:=TFact.of (z:=.nilFunc) (by kernel_rfl) rfl rfl rfl Try.underlying171 ⟨rfl,rfl,rfl⟩ (fun h=>absurd h (Nat.lt_irrefl 0)) (fun h=>nomatch (show false=true from h))
def t178:TI:=⟨false,[.ptr],0,[],[(.pointer none)],8,0⟩
theorem ti178:TFact Try.prog 178 t178:=TFact.of (z:=(.pointer none)) (by kernel_rfl) rfl rfl rfl Try.underlying178 ⟨rfl,rfl,rfl⟩ (fun h=>absurd h (Nat.lt_irrefl 0)) (fun h=>nomatch (show false=true from h))
def t179:TI:=⟨false,[.ptr],0,[],[(.pointer none)],8,0⟩
theorem ti179:TFact Try.prog 179 t179:=TFact.of (z:=(.pointer none)) (by kernel_rfl) rfl rfl rfl Try.underlying179 ⟨rfl,rfl,rfl⟩ (fun h=>absurd h (Nat.lt_irrefl 0)) (fun h=>nomatch (show false=true from h))
def t181:TI:=⟨true,[.slice,.slice,(.int .i64),.slice,(.int .i64),.bool],0,[(0,63),(3,59),(4,3),(5,4)],[(.slice none 0 0),(.slice none 0 0),(.int .i64 0),(.slice none 0 0),(.int .i64 0),(.bool false)],96,0⟩
theorem ti181:TFact Try.prog 181 t181:=TFact.of (z:=.agg #[(.slice none 0 0),(.slice none 0 0),(.int .i64 0),(.slice none 0 0),(.int .i64 0),(.bool false)]) (by kernel_rfl) rfl rfl rfl Try.underlying181 ⟨rfl,rfl⟩ (fun h=>absurd h (Nat.lt_irrefl 0)) (fun h=>nomatch (show false=true from h))
def t204:TI:=⟨false,[.ptr],0,[],[(.pointer none)],8,0⟩
theorem ti204:TFact Try.prog 204 t204:=TFact.of (z:=(.pointer none)) (by kernel_rfl) rfl rfl rfl Try.underlying204 ⟨rfl,rfl,rfl⟩ (fun h=>absurd h (Nat.lt_irrefl 0)) (fun h=>nomatch (show false=true from h))
def t206:TI:=⟨false,[.ptr],0,[],[(.pointer none)],8,0⟩
theorem ti206:TFact Try.prog 206 t206:=TFact.of (z:=(.pointer none)) (by kernel_rfl) rfl rfl rfl Try.underlying206 ⟨rfl,rfl,rfl⟩ (fun h=>absurd h (Nat.lt_irrefl 0)) (fun h=>nomatch (show false=true from h))
def t208:TI:=⟨true,[.func,.slice,(.int .i64),.bool],0,[(0,171),(1,59),(2,3),(3,4)],[.nilFunc,(.slice none 0 0),(.int .i64 0),(.bool false)],48,0⟩
theorem ti208:TFact Try.prog 208 t208:=TFact.of (z:=.agg #[.nilFunc,(.slice none 0 0),(.int .i64 0),(.bool false)]) (by kernel_rfl) rfl rfl rfl Try.underlying208 ⟨rfl,rfl⟩ (fun h=>absurd h (Nat.lt_irrefl 0)) (fun h=>nomatch (show false=true from h))
def t211:TI:=⟨false,[.ptr],0,[],[(.pointer none)],8,0⟩
theorem ti211:TFact Try.prog 211 t211:=TFact.of (z:=(.pointer none)) (by kernel_rfl) rfl rfl rfl Try.underlying211 ⟨rfl,rfl,rfl⟩ (fun h=>absurd h (Nat.lt_irrefl 0)) (fun h=>nomatch (show false=true from h))
def t213:TI:=⟨true,[.slice,.slice,(.int .i64),.bool],0,[(0,52),(1,59),(2,3),(3,4)],[(.slice none 0 0),(.slice none 0 0),(.int .i64 0),(.bool false)],64,0⟩
theorem ti213:TFact Try.prog 213 t213:=TFact.of (z:=.agg #[(.slice none 0 0),(.slice none 0 0),(.int .i64 0),(.bool false)]) (by kernel_rfl) rfl rfl rfl Try.underlying213 ⟨rfl,rfl⟩ (fun h=>absurd h (Nat.lt_irrefl 0)) (fun h=>nomatch (show false=true from h))
def t230:TI:=⟨false,[.ptr],0,[],[(.pointer none)],8,0⟩
theorem ti230:TFact Try.prog 230 t230:=TFact.of (z:=(.pointer none)) (by kernel_rfl) rfl rfl rfl Try.underlying230 ⟨rfl,rfl,rfl⟩ (fun h=>absurd h (Nat.lt_irrefl 0)) (fun h=>nomatch (show false=true from h))
def tab:List (Nat×TI):=[(3,t3),(4,t4),(5,t5),(9,t9),(40,t40),(42,t42),(49,t49),(52,t52),(59,t59),(63,t63),(103,t103),(116,t116),(117,t117),(119,t119),(154,t154),(165,t165),(168,t168),(171,t171),(178,t178),(179,t179),(181,t181),(204,t204),(206,t206),(208,t208),(211,t211),(213,t213),(230,t230)]
theorem tabOk:∀ p∈tab,TFact Try.prog p.1 p.2:=List.forall_mem_cons.2 ⟨ti3,List.forall_mem_cons.2 ⟨ti4,List.forall_mem_cons.2 ⟨ti5,List.forall_mem_cons.2 ⟨ti9,List.forall_mem_cons.2 ⟨ti40,List.forall_mem_cons.2 ⟨ti42,List.forall_mem_cons.2 ⟨ti49,List.forall_mem_cons.2 ⟨ti52,List.forall_mem_cons.2 ⟨ti59,List.forall_mem_cons.2 ⟨ti63,List.forall_mem_cons.2 ⟨ti103,List.forall_mem_cons.2 ⟨ti116,List.forall_mem_cons.2 ⟨ti117,List.forall_mem_cons.2 ⟨ti119,List.forall_mem_cons.2 ⟨ti154,List.forall_mem_cons.2 ⟨ti165,List.forall_mem_cons.2 ⟨ti168,List.forall_mem_cons.2 ⟨ti171,List.forall_mem_cons.2 ⟨ti178,List.forall_mem_cons.2 ⟨ti179,List.forall_mem_cons.2 ⟨ti181,List.forall_mem_cons.2 ⟨ti204,List.forall_mem_cons.2 ⟨ti206,List.forall_mem_cons.2 ⟨ti208,List.forall_mem_cons.2 ⟨ti211,List.forall_mem_cons.2 ⟨ti213,List.forall_mem_cons.2 ⟨ti230,(fun _ h=>nomatch h)⟩⟩⟩⟩⟩⟩⟩⟩⟩⟩⟩⟩⟩⟩⟩⟩⟩⟩⟩⟩⟩⟩⟩⟩⟩⟩⟩
def fns:List (Nat×List (Bool×List K)):=[(10,[(false,[.bool])]),(22,[(false,[.bool])]),(38,[(true,[.slice,.slice,(.int .i64)]),(false,[.slice]),(false,[.bool])]),(45,[(true,[.slice,.slice,(.int .i64)]),(false,[.slice]),(false,[.bool])]),(46,[(true,[.slice,.slice,(.int .i64)]),(false,[.slice]),(false,[.bool])]),(49,[(true,[.slice,.slice,(.int .i64)]),(false,[.slice]),(false,[.slice])]),(50,[(false,[.bool])]),(51,[(false,[.bool])]),(52,[(false,[.slice])]),(58,[(false,[.bool])]),(65,[(false,[.bool])]),(78,[(false,[.ptr])]),(83,[(false,[.bool])]),(90,[(false,[.bool])]),(95,[(false,[.bool])]),(96,[(true,[.slice,.slice,(.int .i64)]),(false,[.slice])]),(97,[(false,[(.int .i64)])]),(98,[(true,[.slice,.slice,(.int .i64)]),(false,[.slice]),(false,[.bool])]),(99,[(true,[.slice,.slice,(.int .i64)]),(false,[.slice]),(false,[.bool])]),(101,[(true,[.slice,.slice,(.int .i64)])]),(103,[(true,[.slice,.slice,(.int .i64)])]),(104,[(false,[.slice])]),(106,[(true,[.slice,.slice,(.int .i64)]),(false,[.slice]),(false,[.slice])]),(107,[(false,[.bool])]),(108,[(true,[(.int .i64),(.int .i64),.str,.slice]),(false,[.bool])]),(109,[(false,[.bool])]),(110,[(false,[.bool])]),(111,[(true,[(.int .i64),(.int .i64),.str,.slice]),(false,[.bool])]),(117,[(false,[(.int .i64)])]),(124,[(false,[(.int .i64)]),(false,[.bool])]),(132,[(true,[(.int .i64),(.int .i64),.str,.slice])]),(133,[(false,[(.int .i64)])]),(135,[(false,[(.int .i64)])]),(144,[(false,[.bool])]),(145,[(false,[.bool])]),(146,[(false,[.slice])]),(147,[(false,[(.int .i64)])]),(148,[(false,[(.int .i64)])]),(149,[(false,[(.int .i64)])]),(150,[(false,[.bool])]),(151,[(false,[(.int .i64)])]),(152,[(false,[(.int .i64)])]),(153,[(false,[(.int .i64)])]),(154,[(false,[(.int .i64)]),(false,[.bool])]),(156,[(false,[.bool])]),(157,[(true,[.slice,.slice,(.int .i64)]),(false,[.slice]),(false,[(.int .i64)]),(false,[.bool])]),(158,[(false,[.bool])]),(159,[(false,[(.int .i64)])]),(160,[(true,[(.int .i64),(.int .i64),.str,.slice]),(false,[.bool])]),(161,[(false,[.slice])]),(162,[(true,[(.int .i64),(.int .i64),.str,.slice])]),(164,[(false,[.bool])]),(166,[(false,[.bool])]),(172,[(false,[.str])]),(173,[(false,[(.int .i64)])]),(183,[(false,[.bool])]),(185,[(false,[(.int .i64)])]),(186,[(false,[(.int .i64)])]),(187,[(false,[(.int .i64)])]),(188,[(false,[.slice]),(false,[.bool])]),(189,[(false,[(.int .i64)])]),(190,[(false,[.slice]),(false,[(.int .i64)])]),(191,[(false,[(.int .i64)])]),(192,[(false,[(.int .i64)])]),(193,[(false,[.slice]),(false,[(.int .i64)]),(false,[.bool])]),(194,[(false,[.bool])]),(195,[(false,[.bool])]),(196,[(true,[(.int .i64),(.int .i64),.str,.slice])]),(197,[(true,[(.int .i64),(.int .i64),.str,.slice])]),(198,[(true,[(.int .i64),(.int .i64),.str,.slice])]),(199,[(true,[(.int .i64),(.int .i64),.str,.slice])]),(200,[(true,[(.int .i64),(.int .i64),.str,.slice])]),(214,[(false,[(.int .i64)]),(false,[.bool])]),(215,[]),(216,[(false,[(.int .i64)])]),(217,[(false,[.slice])]),(218,[(false,[.slice])]),(219,[(false,[.str])]),(220,[(true,[(.int .i64),(.int .i64),.str,.slice])]),(221,[(true,[(.int .i64),(.int .i64),.str,.slice])]),(222,[(true,[(.int .i64),(.int .i64),.str,.slice])]),(230,[(false,[.slice]),(false,[(.int .i64)])]),(231,[(false,[(.int .i64)]),(false,[.bool])]),(232,[(false,[(.int .i64)])]),(233,[(false,[.slice])]),(234,[(false,[(.int .i64)])])]
theorem fnsOk:∀ p∈fns,∀ args w,(callFunc p.1 args).run Try.prog w = .ok (.enter p.1 args) w:=List.forall_mem_cons.2 ⟨fun a w=>Try.call10 a w,List.forall_mem_cons.2 ⟨fun a w=>Try.call22 a w,List.forall_mem_cons.2 ⟨fun a w=>Try.call38 a w,List.forall_mem_cons.2 ⟨fun a w=>Try.call45 a w,List.forall_mem_cons.2 ⟨fun a w=>Try.call46 a w,List.forall_mem_cons.2 ⟨fun a w=>Try.call49 a w,List.forall_mem_cons.2 ⟨fun a w=>Try.call50 a w,List.forall_mem_cons.2 ⟨fun a w=>Try.call51 a w,List.forall_mem_cons.2 ⟨fun a w=>Try.call52 a w,List.forall_mem_cons.2 ⟨fun a w=>Try.call58 a w,List.forall_mem_cons.2 ⟨fun a w=>Try.call65 a w,List.forall_mem_cons.2 ⟨fun a w=>Try.call78 a w,List.forall_mem_cons.2 ⟨fun a w=>Try.call83 a w,List.forall_mem_cons.2 ⟨fun a w=>Try.call90 a w,List.forall_mem_cons.2 ⟨fun a w=>Try.call95 a w,List.forall_mem_cons.2 ⟨fun a w=>Try.call96 a w,List.forall_mem_cons.2 ⟨fun a w=>Try.call97 a w,List.forall_mem_cons.2 ⟨fun a w=>Try.call98 a w,List.forall_mem_cons.2 ⟨fun a w=>Try.call99 a w,List.forall_mem_cons.2 ⟨fun a w=>Try.call101 a w,List.forall_mem_cons.2 ⟨fun a w=>Try.call103 a w,List.forall_mem_cons.2 ⟨fun a w=>Try.call104 a w,List.forall_mem_cons.2 ⟨fun a w=>Try.call106 a w,List.forall_mem_cons.2 ⟨fun a w=>Try.call107 a w,List.forall_mem_cons.2 ⟨fun a w=>Try.call108 a w,List.forall_mem_cons.2 ⟨fun a w=>Try.call109 a w,List.forall_mem_cons.2 ⟨fun a w=>Try.call110 a w,List.forall_mem_cons.2 ⟨fun a w=>Try.call111 a w,List.forall_mem_cons.2 ⟨fun a w=>Try.call117 a w,List.forall_mem_cons.2 ⟨fun a w=>Try.call124 a w,List.forall_mem_cons.2 ⟨fun a w=>Try.call132 a w,List.forall_mem_cons.2 ⟨fun a w=>Try.call133 a w,List.forall_mem_cons.2 ⟨fun a w=>Try.call135 a w,List.forall_mem_cons.2 ⟨fun a w=>Try.call144 a w,List.forall_mem_cons.2 ⟨fun a w=>Try.call145 a w,List.forall_mem_cons.2 ⟨fun a w=>Try.call146 a w,List.forall_mem_cons.2 ⟨fun a w=>Try.call147 a w,List.forall_mem_cons.2 ⟨fun a w=>Try.call148 a w,List.forall_mem_cons.2 ⟨fun a w=>Try.call149 a w,List.forall_mem_cons.2 ⟨fun a w=>Try.call150 a w,List.forall_mem_cons.2 ⟨fun a w=>Try.call151 a w,List.forall_mem_cons.2 ⟨fun a w=>Try.call152 a w,List.forall_mem_cons.2 ⟨fun a w=>Try.call153 a w,List.forall_mem_cons.2 ⟨fun a w=>Try.call154 a w,List.forall_mem_cons.2 ⟨fun a w=>Try.call156 a w,List.forall_mem_cons.2 ⟨fun a w=>Try.call157 a w,List.forall_mem_cons.2 ⟨fun a w=>Try.call158 a w,List.forall_mem_cons.2 ⟨fun a w=>Try.call159 a w,List.forall_mem_cons.2 ⟨fun a w=>Try.call160 a w,List.forall_mem_cons.2 ⟨fun a w=>Try.call161 a w,List.forall_mem_cons.2 ⟨fun a w=>Try.call162 a w,List.forall_mem_cons.2 ⟨fun a w=>Try.call164 a w,List.forall_mem_cons.2 ⟨fun a w=>Try.call166 a w,List.forall_mem_cons.2 ⟨fun a w=>Try.call172 a w,List.forall_mem_cons.2 ⟨fun a w=>Try.call173 a w,List.forall_mem_cons.2 ⟨fun a w=>Try.call183 a w,List.forall_mem_cons.2 ⟨fun a w=>Try.call185 a w,List.forall_mem_cons.2 ⟨fun a w=>Try.call186 a w,List.forall_mem_cons.2 ⟨fun a w=>Try.call187 a w,List.forall_mem_cons.2 ⟨fun a w=>Try.call188 a w,List.forall_mem_cons.2 ⟨fun a w=>Try.call189 a w,List.forall_mem_cons.2 ⟨fun a w=>Try.call190 a w,List.forall_mem_cons.2 ⟨fun a w=>Try.call191 a w,List.forall_mem_cons.2 ⟨fun a w=>Try.call192 a w,List.forall_mem_cons.2 ⟨fun a w=>Try.call193 a w,List.forall_mem_cons.2 ⟨fun a w=>Try.call194 a w,List.forall_mem_cons.2 ⟨fun a w=>Try.call195 a w,List.forall_mem_cons.2 ⟨fun a w=>Try.call196 a w,List.forall_mem_cons.2 ⟨fun a w=>Try.call197 a w,List.forall_mem_cons.2 ⟨fun a w=>Try.call198 a w,List.forall_mem_cons.2 ⟨fun a w=>Try.call199 a w,List.forall_mem_cons.2 ⟨fun a w=>Try.call200 a w,List.forall_mem_cons.2 ⟨fun a w=>Try.call214 a w,List.forall_mem_cons.2 ⟨fun a w=>Try.call215 a w,List.forall_mem_cons.2 ⟨fun a w=>Try.call216 a w,List.forall_mem_cons.2 ⟨fun a w=>Try.call217 a w,List.forall_mem_cons.2 ⟨fun a w=>Try.call218 a w,List.forall_mem_cons.2 ⟨fun a w=>Try.call219 a w,List.forall_mem_cons.2 ⟨fun a w=>Try.call220 a w,List.forall_mem_cons.2 ⟨fun a w=>Try.call221 a w,List.forall_mem_cons.2 ⟨fun a w=>Try.call222 a w,List.forall_mem_cons.2 ⟨fun a w=>Try.call230 a w,List.forall_mem_cons.2 ⟨fun a w=>Try.call231 a w,List.forall_mem_cons.2 ⟨fun a w=>Try.call232 a w,List.forall_mem_cons.2 ⟨fun a w=>Try.call233 a w,List.forall_mem_cons.2 ⟨fun a w=>Try.call234 a w,(fun _ h=>nomatch h)⟩⟩⟩⟩⟩⟩⟩⟩⟩⟩⟩⟩⟩⟩⟩⟩⟩⟩⟩⟩⟩⟩⟩⟩⟩⟩⟩⟩⟩⟩⟩⟩⟩⟩⟩⟩⟩⟩⟩⟩⟩⟩⟩⟩⟩⟩⟩⟩⟩⟩⟩⟩⟩⟩⟩⟩⟩⟩⟩⟩⟩⟩⟩⟩⟩⟩⟩⟩⟩⟩⟩⟩⟩⟩⟩⟩⟩⟩⟩⟩⟩⟩⟩⟩⟩⟩
abbrev zN:Option (Bool × List K):=none
abbrev zI:Option (Bool × List K):=some (false,[(.int .i64)])
abbrev zA:Option (Bool × List K):=some (false,[.addr])
abbrev zB:Option (Bool × List K):=some (false,[.bool])
abbrev zS:Option (Bool × List K):=some (false,[.slice])
abbrev zP:Option (Bool × List K):=some (false,[.ptr])
abbrev zT:Option (Bool × List K):=some (false,[.str])
abbrev zL:Ann:=.leaf
abbrev zq (a b:Ann):Ann:=.seq none a b
abbrev zr (n:Nat):List (Option (Bool × List K)):=List.replicate n none
def a10:Ann:=(zq zL (zq (zq zL (.cond (zq zL zL) zL)) (zq zL (zq zL (zq zL (zq zL zL))))))
def a22:Ann:=(zq zL (zq zL zL))
def a38:Ann:=(zq zL (zq zL zL))
def a45:Ann:=(zq zL (zq zL zL))
def a46:Ann:=(zq zL (zq zL zL))
def a49:Ann:=(zq zL (zq zL (zq zL zL)))
def s50_0:Shape:=([zN,zS,zN,zA]++zr 31++[zS,zI,zI]++zr 18)
def e50_0:List (Nat×Shape):=[(1,(zr 6++[zB]++zr 49)),(2,(zr 56))]
def a50_0:Ann:=(zq zL (zq (.cond zL zL) (zq (.block (zq zL (zq zL (.seq (some ([zN,zS,zN,zA]++zr 31++[zS,zI,zI]++zr 16++[zB,zN])) zL (.cond (zq zL zL) zL))))) zL)))
def a50:Ann:=(zq zL (zq (.seq (some ([zN,zS,zS,zA]++zr 30++[zB]++zr 21)) zL (.cond (zq zL zL) zL)) (zq (zq zL (.block (.loop s50_0 e50_0 a50_0))) (zq zL zL))))
def s51_0:Shape:=([zN,zS,zS,zS,zA,zN,zN,zN,zN,zI]++zr 34)
def e51_0:List (Nat×Shape):=[(1,(zr 8++[zB]++zr 35)),(2,(zr 44))]
def a51_0:Ann:=(zq (zq zL (.cond zL zL)) (zq (.block (zq zL (.seq (some ([zN,zS,zS,zS,zA,zN,zN,zN,zN,zI]++zr 33++[zB])) zL (.cond (zq zL zL) zL)))) zL))
def a51:Ann:=(zq zL (zq (zq zL (.cond (zq zL zL) zL)) (zq (zq zL (.block (.loop s51_0 e51_0 a51_0))) (zq zL zL))))
def s52_0:Shape:=([zN,zS,zS,zA,zN,zN,zN,zS,zI]++zr 24)
def e52_0:List (Nat×Shape):=[(2,(zr 7++[zS]++zr 25))]
def a52_0:Ann:=(zq (zq zL (.cond zL zL)) (zq (.block (zq zL zL)) zL))
def a52:Ann:=(zq zL (zq zL (zq (zq zL (.block (.loop s52_0 e52_0 a52_0))) (zq zL zL))))
def a58:Ann:=(zq zL (zq zL zL))
def a65:Ann:=(zq zL (zq zL (zq zL zL)))
def s78_0:Shape:=([zS,zN,zN,zI,zI]++zr 27)
def e78_0:List (Nat×Shape):=[(2,([zS,zN,zN,zI]++zr 28))]
def a78_0:Ann:=(zq (.seq (some ([zS,zN,zN,zI,zI]++zr 10++[zB]++zr 16)) zL (.cond zL zL)) (zq (.block zL) zL))
def a78:Ann:=(zq zL (zq zL (zq (zq zL (.block (.loop s78_0 e78_0 a78_0))) (zq zL zL))))
def a83:Ann:=(zq zL (zq zL zL))
def a90:Ann:=(zq zL (zq zL zL))
def s95_0:Shape:=([zN,zS,zS,zA,zN,zN,zN,zI]++zr 53)
def e95_0:List (Nat×Shape):=[(1,(zr 6++[zB]++zr 54)),(2,(zr 61))]
def a95_0:Ann:=(zq (zq zL (.cond zL zL)) (zq (.block (zq zL (.seq (some ([zN,zS,zS,zA,zN,zN,zN,zI]++zr 52++[zB])) zL (.cond (zq zL zL) zL)))) zL))
def a95:Ann:=(zq zL (zq (.seq (some ([zN,zS,zS,zA]++zr 29++[zB]++zr 27)) zL (.cond (zq zL zL) zL)) (zq (zq zL (.block (.loop s95_0 e95_0 a95_0))) (zq zL zL))))
def s96_0:Shape:=([zN,zS,zB,zN,zN,zN,zA,zN,zA,zS,zI]++zr 55)
def e96_0:List (Nat×Shape):=[(2,([zN,zN,zB,zN,zN,zN,zA,zN,zA,zS]++zr 56))]
def a96_0:Ann:=(zq (zq zL (.cond zL zL)) (zq (.block zL) zL))
def a96:Ann:=(zq zL (zq zL (.seq (some ([zN,zS,zB,zN,zN,zN,zA,zN,zA]++zr 57)) (zq zL (.cond zL zL)) (zq zL (zq (zq zL (.block (.loop s96_0 e96_0 a96_0))) (.seq (some (zr 6++[zA,zN,zA,zS]++zr 56)) (zq zL (.cond zL zL)) (zq zL zL)))))))
def s97_0:Shape:=([zP,zI]++zr 7++[zI,zB,zN,zI]++zr 97++[zI,zI]++zr 49)
def e97_0:List (Nat×Shape):=[(2,(zr 12++[zI]++zr 148))]
def a97_0:Ann:=(zq zL (zq (.cond zL zL) (zq (.block (zq zL (zq zL (.seq (some ([zP,zI]++zr 7++[zI,zB,zN,zI,zI,zI]++zr 95++[zI,zI]++zr 49)) (.seq (some ([zP,zI]++zr 7++[zI,zB,zN,zI,zI,zI]++zr 95++[zI,zI]++zr 24++[zB]++zr 24)) zL (.cond zL zL)) (zq zL (.cond zL zL)))))) zL)))
def a97:Ann:=(zq zL (zq zL (zq (.seq (some ([zP,zI,zN,zN,zN,zI]++zr 29++[zB]++zr 125)) zL (.cond (zq zL zL) zL)) (zq (zq zL (zq zL (.cond (zq zL zL) zL))) (zq zL (zq zL (.seq (some ([zP,zI]++zr 6++[zI,zN,zB]++zr 150)) zL (.seq (some ([zP,zI]++zr 6++[zI,zI,zB]++zr 150)) (zq zL (.cond (zq zL zL) (zq zL zL))) (zq zL (.seq (some ([zP,zI]++zr 6++[zI,zI,zB,zI]++zr 149)) (zq zL (.cond zL zL)) (zq zL (zq zL (zq (zq zL (.block (.loop s97_0 e97_0 a97_0))) (zq zL zL))))))))))))))
def a98:Ann:=(zq zL (.seq (some ([zN,zN,zS,zN,zA,zN,zN,zN,zA]++zr 26)) (zq zL (.cond (zq zL (zq zL (.cond (zq zL zL) zL))) zL)) (zq zL zL)))
def s99_0:Shape:=([zN,zN,zS,zN,zA,zN,zN,zN,zA,zN,zN,zA,zS]++zr 25++[zS,zI,zI]++zr 36)
def e99_0:List (Nat×Shape):=[(2,([zN,zN,zS,zN,zA,zN,zN,zN,zA,zN,zN,zA,zS]++zr 64))]
def a99_0:Ann:=(zq zL (zq (.cond zL zL) (zq (.block (zq zL (zq zL zL))) zL)))
def a99:Ann:=(zq zL (zq (zq zL (.cond (zq zL zL) zL)) (zq zL (.seq (some ([zN,zN,zS,zN,zA,zN,zN,zN,zA,zN,zN,zA]++zr 65)) (zq zL (.cond zL zL)) (zq zL (zq (zq zL (.block (.loop s99_0 e99_0 a99_0))) (zq (zq zL (.cond (zq zL zL) zL)) (zq zL zL))))))))
def a101:Ann:=(zq zL (zq zL zL))
def a103:Ann:=(zq zL (zq zL zL))
def a104:Ann:=(zq zL (zq zL zL))
def s106_0:Shape:=([zP,zN,zA,zN,zN,zA,zS,zS,zI]++zr 65)
def e106_0:List (Nat×Shape):=[(2,([zN,zN,zA,zN,zN,zA,zS,zS]++zr 66))]
def a106_0:Ann:=(zq (zq zL (.cond zL zL)) (.seq (some ([zP,zN,zA,zN,zN,zA,zS,zS,zI]++zr 65)) (.block (zq zL (.block (zq zL (.cond zL (zq zL (.cond (zq zL (.cond zL zL)) (zq zL (.cond (zq zL (.cond zL zL)) (zq zL (zq zL (.cond (zq zL (zq zL zL)) zL)))))))))))) zL))
def a106:Ann:=(zq zL (zq zL (zq zL (zq zL (zq (zq zL (.block (.loop s106_0 e106_0 a106_0))) (zq zL zL))))))
def s107_0:Shape:=([zS,zN,zN,zN,zN,zS,zI,zI]++zr 19)
def e107_0:List (Nat×Shape):=[(1,([zN,zN,zB]++zr 24)),(2,([zS]++zr 26))]
def a107_0:Ann:=(zq zL (zq (.cond zL zL) (zq (.block (zq zL (.seq (some ([zS,zN,zN,zN,zN,zS,zI,zI]++zr 14++[zB,zN,zN,zN,zN])) zL (.cond (zq zL zL) zL)))) zL)))
def a107:Ann:=(zq zL (zq (zq zL (.block (.loop s107_0 e107_0 a107_0))) (zq zL zL)))
def a108:Ann:=(zq zL (zq zL zL))
def s109_0:Shape:=([zP,zN,zN,zN,zN,zI]++zr 11++[zS,zI,zI]++zr 20)
def e109_0:List (Nat×Shape):=[(1,([zN,zN,zN,zN,zB]++zr 35)),(2,(zr 40))]
def a109_0:Ann:=(zq zL (zq (.cond zL zL) (zq (.block (zq zL (.seq (some ([zP,zN,zN,zN,zN,zI]++zr 11++[zS,zI,zI]++zr 18++[zB,zN])) zL (.cond (zq zL zL) zL)))) zL)))
def a109:Ann:=(zq zL (zq (zq zL (.cond (zq zL zL) zL)) (zq zL (zq (zq zL (.block (.loop s109_0 e109_0 a109_0))) (zq zL zL)))))
def s110_0:Shape:=([zN,zN,zA,zA]++zr 32++[zI,zI]++zr 15)
def e110_0:List (Nat×Shape):=[(1,([zN,zN,zN,zN,zB]++zr 48)),(2,(zr 53))]
def a110_0:Ann:=(zq zL (zq (.cond zL zL) (zq (.block (zq zL (zq zL (.cond (zq zL zL) zL)))) zL)))
def a110:Ann:=(zq zL (zq (.seq (some ([zN,zN,zA,zA]++zr 29++[zB]++zr 19)) zL (.cond (zq zL zL) zL)) (zq (zq zL (.block (.loop s110_0 e110_0 a110_0))) (zq zL zL))))
def a111:Ann:=(zq zL (zq zL (zq zL (zq (.seq (some (zr 6++[zA,zN,zN,zA]++zr 15++[zB,zN,zN])) zL (.cond (zq zL zL) zL)) (zq zL zL)))))
def s117_0:Shape:=([zN,zI,zI,zA,zN,zN,zN,zI]++zr 34)
def e117_0:List (Nat×Shape):=[(2,([zN,zN,zI]++zr 39))]
def a117_0:Ann:=(zq (.seq (some ([zN,zI,zI,zA,zN,zN,zN,zI]++zr 21++[zB]++zr 12)) zL (.cond zL zL)) (zq (.block zL) zL))
def a117:Ann:=(zq zL (zq (.seq (some ([zN,zI,zI,zA]++zr 14++[zB]++zr 23)) zL (.cond (zq zL zL) zL)) (zq zL (zq (zq zL (.block (.loop s117_0 e117_0 a117_0))) (zq zL zL)))))
def s124_0:Shape:=([zN,zI,zI]++zr 24++[zS,zI,zI]++zr 17)
def e124_0:List (Nat×Shape):=[(1,(zr 6++[zI,zB]++zr 39)),(2,([zN,zN,zI]++zr 44))]
def a124_0:Ann:=(zq zL (zq (.cond zL zL) (zq (.block (zq zL (zq zL (zq (zq zL (.cond (zq zL zL) zL)) zL)))) zL)))
def a124:Ann:=(zq zL (zq zL (zq (.seq (some ([zN,zI,zI,zA]++zr 20++[zB]++zr 22)) zL (.cond (zq zL zL) zL)) (zq (zq zL (.block (.loop s124_0 e124_0 a124_0))) (zq zL zL)))))
def s132_0:Shape:=([zP,zI,zN,zN,zA,zA,zI]++zr 54)
def e132_0:List (Nat×Shape):=[(3,([zN,zN,zN,zN,zA,zA]++zr 55))]
def a132_0:Ann:=(zq (.seq (some ([zP,zI,zN,zN,zA,zA,zI]++zr 41++[zB]++zr 12)) zL (.cond zL zL)) (zq (.block zL) zL))
def a132:Ann:=(zq zL (zq (zq zL (.block (.seq (some ([zP,zI,zN,zN,zA,zN,zN,zN,zI,zB]++zr 51)) (zq zL (.cond zL (zq zL (.cond zL zL)))) (.cond (zq zL zL) (.seq (some ([zP,zI,zN,zN,zA,zN,zN,zN,zI]++zr 10++[zB]++zr 41)) (zq zL (.cond zL zL)) (.cond (zq zL zL) (zq zL (.cond (zq zL zL) (zq zL (.cond (zq zL zL) zL)))))))))) (zq zL (zq (zq zL (.block (.loop s132_0 e132_0 a132_0))) (zq zL zL)))))
def a133:Ann:=(zq zL (zq (zq zL (.cond (zq zL zL) zL)) (zq (zq zL (.cond (zq zL zL) zL)) (zq zL (zq zL (zq zL (zq zL zL)))))))
def a135:Ann:=(zq zL (zq zL zL))
def s144_0:Shape:=([zS,zN,zN,zI]++zr 25)
def e144_0:List (Nat×Shape):=[(1,([zN,zN,zB]++zr 26)),(2,([zS]++zr 28))]
def a144_0:Ann:=(zq (zq zL (.cond zL zL)) (zq (.block (.seq (some ([zS,zN,zN,zI]++zr 21++[zB,zN,zN,zN])) zL (.cond (zq zL zL) zL))) zL))
def a144:Ann:=(zq zL (zq (zq zL (.block (.loop s144_0 e144_0 a144_0))) (zq zL zL)))
def s145_0:Shape:=([zN,zI,zI,zA]++zr 5++[zS,zN,zN,zI]++zr 57)
def e145_0:List (Nat×Shape):=[(1,(zr 6++[zB]++zr 63)),(2,(zr 70))]
def a145_0:Ann:=(zq (.seq (some ([zN,zI,zI,zA]++zr 5++[zS,zN,zN,zI]++zr 46++[zB]++zr 10)) zL (.cond zL zL)) (zq (.block (zq zL (.cond (zq zL zL) zL))) zL))
def a145:Ann:=(zq zL (zq zL (zq (zq zL (.cond (zq zL zL) zL)) (zq zL (zq (zq zL (.cond (zq zL zL) zL)) (.seq (some ([zN,zI,zI,zA,zN,zN,zN,zI,zI]++zr 61)) (zq zL (.cond zL (.seq (some ([zN,zI,zI,zA,zN,zN,zN,zI,zI]++zr 27++[zB]++zr 33)) zL (.cond zL zL)))) (zq zL (zq zL (.seq (some ([zN,zI,zI,zA]++zr 5++[zS,zN,zI]++zr 58)) (zq zL (.cond zL zL)) (zq (zq zL (.block (.loop s145_0 e145_0 a145_0))) (zq zL zL)))))))))))
def s146_0:Shape:=([zI,zN,zN,zS,zI]++zr 11)
def e146_0:List (Nat×Shape):=[(2,([zN,zN,zN,zS]++zr 12))]
def a146_0:Ann:=(zq (zq zL (.cond zL zL)) (zq (.block zL) zL))
def a146:Ann:=(zq zL (zq zL (zq (zq zL (.block (.loop s146_0 e146_0 a146_0))) (zq zL zL))))
def s147_0:Shape:=([zP,zI,zN,zN,zN,zI,zN,zS,zI,zS,zN,zB,zI,zN,zI]++zr 159)
def e147_0:List (Nat×Shape):=[(2,([zN,zI]++zr 5++[zS,zI]++zr 165))]
def a147_0:Ann:=(zq (.seq (some ([zP,zI,zN,zN,zN,zI,zN,zS,zI,zS,zN,zB,zI,zN,zI]++zr 122++[zB]++zr 36)) zL (.cond zL zL)) (.seq (some ([zP,zI,zN,zN,zN,zI,zN,zS,zI,zS,zN,zB,zI,zN,zI]++zr 159)) (.block (zq zL (zq zL (.cond zL zL)))) zL))
def a147:Ann:=(zq zL (zq zL (zq zL (zq (.seq (some ([zP,zI,zN,zN,zN,zI,zI]++zr 29++[zB]++zr 137)) zL (.cond (zq zL zL) zL)) (zq zL (zq (zq zL (.cond (zq zL zL) zL)) (zq zL (.seq (some ([zP,zI,zN,zN,zN,zI,zN,zS,zI,zS,zN,zB]++zr 162)) zL (zq zL (.seq (some ([zP,zI,zN,zN,zN,zI,zN,zS,zI,zS,zN,zB,zI]++zr 161)) (zq zL (.cond zL (zq zL zL))) (zq zL (.seq (some ([zP,zI,zN,zN,zN,zI,zN,zS,zI,zS,zN,zB,zI]++zr 161)) (zq zL (.cond zL zL)) (zq zL (.seq (some ([zP,zI,zN,zN,zN,zI,zN,zS,zI,zS,zN,zB,zI,zI]++zr 160)) (zq zL (.cond zL zL)) (zq (zq zL (.block (.loop s147_0 e147_0 a147_0))) (zq zL zL))))))))))))))))
def a148:Ann:=(zq zL (zq (.block (zq zL (.cond (zq zL zL) (zq zL (.cond (zq zL zL) zL))))) (zq zL zL)))
def a149:Ann:=(zq zL (zq zL zL))
def a150:Ann:=(zq zL (zq zL zL))
def a151:Ann:=(zq zL (zq (.seq (some ([zI,zI]++zr 10++[zB,zN,zN,zN,zN])) zL (.cond (zq zL zL) zL)) (zq zL zL)))
def a152:Ann:=(zq zL (zq zL zL))
def a153:Ann:=(zq zL (zq (zq zL (.cond (zq zL zL) zL)) (zq zL (zq zL zL))))
def a154:Ann:=(zq zL (zq zL (.seq (some ([zN,zI,zN,zN,zN,zN,zS]++zr 22)) (zq zL (.cond zL zL)) (zq (zq zL (.cond (zq zL zL) zL)) (zq zL zL)))))
def a156:Ann:=(zq zL (zq zL zL))
def a157:Ann:=(zq zL (zq zL (zq zL (zq (.seq (some ([zN,zS,zN,zA,zN,zA,zA,zN,zN,zN,zA,zA]++zr 19++[zB]++zr 25)) zL (.cond (zq zL zL) zL)) (zq zL (zq (zq zL (.cond (zq zL zL) zL)) (zq zL (zq zL zL))))))))
def s158_0:Shape:=([zT,zN,zN,zI]++zr 25)
def e158_0:List (Nat×Shape):=[(1,([zN,zN,zB]++zr 26)),(2,([zT]++zr 28))]
def a158_0:Ann:=(zq (zq zL (.cond zL zL)) (zq (.block (.seq (some ([zT,zN,zN,zI]++zr 21++[zB,zN,zN,zN])) zL (.cond (zq zL zL) zL))) zL))
def a158:Ann:=(zq zL (zq (zq zL (.block (.loop s158_0 e158_0 a158_0))) (zq zL zL)))
def s159_0:Shape:=([zN,zT]++zr 5++[zS,zI,zI]++zr 9)
def e159_0:List (Nat×Shape):=[(1,([zN,zN,zN,zN,zI]++zr 14)),(2,(zr 19))]
def a159_0:Ann:=(zq zL (zq (.cond zL zL) (zq (.block (zq zL (zq zL (.cond (zq zL zL) zL)))) zL)))
def a159:Ann:=(zq zL (zq (zq zL (.block (.loop s159_0 e159_0 a159_0))) (zq zL zL)))
def a160:Ann:=(zq zL (zq zL (zq zL (zq (.seq (some (zr 6++[zA,zN,zN,zA]++zr 15++[zB,zN,zN])) zL (.cond (zq zL zL) zL)) (zq zL zL)))))
def s161_0:Shape:=([zP,zI,zN,zN,zN,zI,zN,zS,zI]++zr 31)
def e161_0:List (Nat×Shape):=[(3,(zr 7++[zS]++zr 32))]
def a161_0:Ann:=(zq (zq zL (.cond zL zL)) (zq (.block (zq zL zL)) zL))
def a161:Ann:=(zq zL (zq zL (.seq (some ([zP,zI,zN,zN,zN,zI,zI]++zr 33)) (zq zL (.block (zq zL (.cond (zq zL zL) (zq zL (.cond zL zL)))))) (zq zL (zq (zq zL (.block (.loop s161_0 e161_0 a161_0))) (zq zL zL))))))
def a162:Ann:=(zq zL (zq zL (zq (.seq (some ([zP,zI,zI,zN,zN,zN,zA]++zr 21++[zB]++zr 49)) zL (.cond (zq zL (zq zL zL)) zL)) (zq (zq zL (.block (.seq (some ([zP,zI,zI,zN,zN,zN,zA]++zr 27++[zI,zB]++zr 42)) (zq zL (.cond zL zL)) (.cond (zq zL zL) (zq zL (.cond (zq zL zL) (zq zL (.cond (zq zL zL) zL)))))))) (zq zL (zq zL (.seq (some (zr 6++[zA,zN,zA]++zr 69)) zL (zq zL zL))))))))
def a164:Ann:=(zq zL (zq zL (zq (zq zL (.block (zq zL (.cond (zq zL zL) (zq zL (.cond (zq zL zL) (zq zL (.cond (zq zL zL) (zq zL (.cond (zq zL zL) (zq zL (.cond (zq zL zL) (zq zL (.cond (zq zL zL) zL)))))))))))))) (zq zL zL))))
def a166:Ann:=(zq zL (zq (zq zL (.block (zq zL (.cond (zq zL zL) (zq zL (.cond (zq zL zL) (zq zL (.cond (zq zL zL) (zq zL (.cond (zq zL zL) (zq zL (.cond (zq zL zL) (zq zL (.cond (zq zL zL) zL)))))))))))))) (zq zL zL)))
def a172:Ann:=(zq zL (zq zL zL))
def a173:Ann:=(zq zL (zq zL (zq zL (.seq (some ([zN,zN,zN,zI]++zr 54)) (zq zL (.cond (zq zL zL) zL)) (zq zL zL)))))
def s183_0:Shape:=([zT,zN,zN,zI]++zr 29)
def e183_0:List (Nat×Shape):=[(1,([zN,zN,zB]++zr 30)),(2,([zT]++zr 32))]
def a183_0:Ann:=(zq (zq zL (.cond zL zL)) (zq (.block (zq zL (.seq (some ([zT,zN,zN,zI]++zr 25++[zB,zN,zN,zN])) zL (.cond (zq zL zL) zL)))) zL))
def a183:Ann:=(zq zL (zq (zq zL (.block (.loop s183_0 e183_0 a183_0))) (zq zL zL)))
def s185_0:Shape:=([zS,zT,zN,zN,zN,zI]++zr 13)
def e185_0:List (Nat×Shape):=[(1,([zN,zN,zN,zN,zI]++zr 14)),(2,(zr 19))]
def a185_0:Ann:=(zq (zq zL (.cond zL zL)) (zq (.block (zq zL (.cond (zq zL zL) zL))) zL))
def a185:Ann:=(zq zL (zq (zq zL (.block (.loop s185_0 e185_0 a185_0))) (zq zL zL)))
def a186:Ann:=(zq zL (zq (zq zL (.block (zq zL (.cond (zq zL zL) (.seq (some ([zN,zI,zA]++zr 8++[zB]++zr 20)) (zq zL (.cond zL zL)) (.cond (zq zL (.seq (some (zr 5++[zS]++zr 21++[zB,zN,zN,zN,zN])) zL (.cond (zq zL zL) zL))) zL)))))) (zq zL zL)))
def a187:Ann:=(zq zL (zq (zq zL (.cond (zq zL zL) zL)) (zq zL zL)))
def a188:Ann:=(zq zL (zq zL (.seq (some ([zN,zI,zI]++zr 5++[zS]++zr 29)) (zq zL (.cond (zq zL zL) zL)) (zq (.seq (some ([zN,zI,zI]++zr 5++[zS]++zr 21++[zB]++zr 7)) zL (.cond (zq zL zL) zL)) (zq zL zL)))))
def a189:Ann:=(zq zL (zq (zq zL (.cond (zq zL zL) zL)) (zq zL zL)))
def a190:Ann:=(zq zL (zq (zq zL (.cond (zq zL zL) zL)) (zq zL zL)))
def a191:Ann:=(zq zL (zq (.seq (some ([zI,zI]++zr 10++[zB,zN,zN,zN,zN])) zL (.cond (zq zL zL) zL)) (zq zL zL)))
def s192_0:Shape:=([zN,zA,zN,zI,zI]++zr 41)
def e192_0:List (Nat×Shape):=[(3,([zN,zN,zN,zI]++zr 42))]
def a192_0:Ann:=(zq (.seq (some ([zN,zA,zN,zI,zI]++zr 29++[zB]++zr 11)) zL (.cond zL zL)) (zq (.block zL) zL))
def a192:Ann:=(zq zL (zq zL (.seq (some ([zN,zA,zN,zI]++zr 42)) (zq zL (.block (zq zL (.cond zL (zq zL (.cond zL (zq zL (.cond zL zL)))))))) (zq (zq zL (.block (.loop s192_0 e192_0 a192_0))) (zq zL zL)))))
def a193:Ann:=(zq zL (zq zL (zq zL (zq zL (zq zL (zq zL zL))))))
def a194:Ann:=(zq zL (zq zL zL))
def a195:Ann:=(zq zL (zq zL zL))
def a196:Ann:=(zq zL (zq zL (zq zL (zq (.seq (some ([zP,zI,zI,zN,zN,zN,zA,zI]++zr 32++[zB]++zr 87)) zL (.cond (zq zL (zq zL zL)) zL)) (zq zL (.seq (some ([zP]++zr 5++[zA,zN,zA]++zr 119)) (zq zL (.block (zq zL (.cond zL (zq zL (.cond (zq (zq zL (.cond (zq zL (zq zL zL)) zL)) zL) (zq zL (.cond zL (zq zL (.cond (zq zL zL) (zq zL (.cond zL (zq zL (.cond zL (zq zL (.cond zL zL)))))))))))))))) (.seq (some (zr 6++[zA,zN,zA]++zr 119)) zL (zq zL zL))))))))
def s197_0:Shape:=([zP,zI,zI,zN,zN,zN,zA,zA]++zr 60)
def e197_0:List (Nat×Shape):=[(1,(zr 6++[zA]++zr 61)),(2,(zr 6++[zA,zA]++zr 60))]
def a197_0:Ann:=(zq (.seq (some ([zP,zI,zI,zN,zN,zN,zA,zA]++zr 12++[zB]++zr 47)) zL (.cond zL zL)) (.block (zq zL (zq (.seq (some ([zP,zN,zI,zN,zN,zN,zA,zA,zS]++zr 38++[zB]++zr 20)) zL (.cond (zq zL (zq zL zL)) zL)) (zq zL zL)))))
def a197:Ann:=(zq zL (zq zL (zq (.block (.loop s197_0 e197_0 a197_0)) (zq zL zL))))
def s198_0:Shape:=([zP,zN,zI,zN,zN,zN,zA,zN,zS,zN,zA,zI]++zr 58)
def e198_0:List (Nat×Shape):=[(2,(zr 6++[zA,zN,zN,zN,zA]++zr 59))]
def a198_0:Ann:=(zq (.seq (some ([zP,zN,zI,zN,zN,zN,zA,zN,zS,zN,zA,zI]++zr 41++[zB]++zr 16)) zL (.cond zL zL)) (zq (.block zL) zL))
def a198:Ann:=(zq zL (zq zL (zq zL (zq zL (zq (.seq (some ([zP,zN,zI,zN,zN,zN,zA,zN,zS,zN,zA]++zr 27++[zB]++zr 31)) zL (.cond (zq zL (zq zL zL)) zL)) (zq (zq zL (.block (.loop s198_0 e198_0 a198_0))) (zq zL zL)))))))
def s199_0:Shape:=([zP,zN,zN,zN,zA,zN,zS,zN,zS,zI]++zr 63)
def e199_0:List (Nat×Shape):=[(2,([zN,zN,zN,zN,zA,zN,zN,zN,zS]++zr 64))]
def a199_0:Ann:=(zq (zq zL (.cond zL zL)) (zq (.block (.seq (some ([zP,zN,zN,zN,zA,zN,zS,zN,zS,zI]++zr 63)) zL zL)) zL))
def a199:Ann:=(zq zL (zq zL (zq zL (zq (.seq (some ([zP,zN,zN,zN,zA,zN,zS]++zr 28++[zB]++zr 37)) zL (.cond (zq zL (zq zL zL)) zL)) (zq zL (zq (zq zL (.block (.loop s199_0 e199_0 a199_0))) (zq zL zL)))))))
def a200:Ann:=(zq zL (zq zL (zq zL (zq (.seq (some ([zP,zI,zI,zN,zN,zN,zA,zI]++zr 21++[zB]++zr 65)) zL (.cond (zq zL (zq zL zL)) zL)) (.seq (some ([zP]++zr 5++[zA]++zr 88)) (zq zL (.block (zq zL (.cond (.seq (some (zr 6++[zA,zI]++zr 87)) zL (zq zL zL)) (zq zL (.cond (zq zL (.cond (zq zL zL) zL)) (zq zL (.cond (zq zL zL) (.seq (some ([zP,zI,zI,zN,zN,zN,zA,zI]++zr 27++[zI]++zr 37++[zB]++zr 21)) (zq zL (.cond zL zL)) (.cond (zq zL zL) (zq zL (.cond (zq zL zL) (zq zL (.cond (zq zL zL) zL)))))))))))))) (zq zL (zq zL zL)))))))
def s214_1:Shape:=([zP,zP,zN,zN,zN,zA]++zr 6++[zI,zB,zI]++zr 135)
def e214_1:List (Nat×Shape):=[(5,(zr 12++[zI,zB]++zr 136))]
def a214_1:Ann:=(zq (zq zL (.cond zL zL)) (.seq (some ([zP,zP,zN,zN,zN,zA]++zr 6++[zI,zB,zI]++zr 135)) (.block (zq zL (zq zL zL))) zL))
def s214_0:Shape:=([zP,zN,zN,zN,zN,zA,zN,zN,zN,zN,zI,zI]++zr 138)
def e214_0:List (Nat×Shape):=[(3,(zr 10++[zI]++zr 139))]
def a214_0:Ann:=(zq (zq zL (.cond zL zL)) (zq (.block zL) zL))
def a214:Ann:=(zq zL (zq (zq zL (.block (zq zL (.cond (zq zL zL) (zq zL (.cond (zq zL zL) (zq zL (.cond (zq zL (zq zL (zq zL zL))) (zq zL (.cond (zq zL (zq zL (zq (zq zL (.block (.loop s214_0 e214_0 a214_0))) (zq zL zL)))) (zq zL (.cond (zq zL (zq zL (zq zL (zq zL (zq (zq zL (.block (.loop s214_1 e214_1 a214_1))) (zq zL zL)))))) zL)))))))))))) (zq zL zL)))
def s215_2:Shape:=([zS,zS,zN,zI,zN,zN,zN,zN,zI,zN,zN,zI]++zr 88)
def e215_2:List (Nat×Shape):=[(7,(zr 100))]
def a215_2:Ann:=(zq (zq zL (.cond zL zL)) (zq (.block (zq zL zL)) zL))
def s215_1:Shape:=([zS,zS,zN,zI,zN,zN,zN,zN,zI,zN,zI]++zr 89)
def e215_1:List (Nat×Shape):=[(5,(zr 100))]
def a215_1:Ann:=(zq (zq zL (.cond zL zL)) (zq (.block (zq zL zL)) zL))
def s215_0:Shape:=([zS,zS]++zr 6++[zI,zI]++zr 90)
def e215_0:List (Nat×Shape):=[(3,(zr 100))]
def a215_0:Ann:=(zq (zq zL (.cond zL zL)) (zq (.block zL) zL))
def a215:Ann:=(zq zL (zq zL (.block (zq zL (.cond (zq zL (.block (.loop s215_0 e215_0 a215_0))) (zq zL (.cond (zq zL (zq zL (.block (.loop s215_1 e215_1 a215_1)))) (zq zL (.cond (zq zL (.block (.loop s215_2 e215_2 a215_2))) zL)))))))))
def a216:Ann:=(zq zL (zq (zq zL (.cond (zq zL zL) zL)) (zq zL zL)))
def s217_0:Shape:=([zP,zI,zI,zN,zN,zN,zN,zI,zS,zI]++zr 44)
def e217_0:List (Nat×Shape):=[(2,(zr 8++[zS]++zr 45))]
def a217_0:Ann:=(zq (.seq (some ([zP,zI,zI,zN,zN,zN,zN,zI,zS,zI]++zr 26++[zB]++zr 17)) zL (.cond zL zL)) (zq (.block (zq zL (zq zL zL))) zL))
def a217:Ann:=(zq zL (zq zL (zq (.seq (some ([zP,zI,zI,zN,zN,zN,zN,zI]++zr 15++[zB]++zr 30)) zL (.cond (zq zL (zq zL zL)) zL)) (zq zL (zq (zq zL (.block (.loop s217_0 e217_0 a217_0))) (zq zL zL))))))
def s218_0:Shape:=([zP,zI,zI,zN,zN,zN,zN,zS]++zr 53)
def e218_0:List (Nat×Shape):=[(2,([zP,zI]++zr 5++[zS]++zr 53))]
def a218_0:Ann:=(zq (.seq (some ([zP,zI,zI,zN,zN,zN,zN,zS]++zr 21++[zB]++zr 31)) zL (.cond zL zL)) (.block (zq zL (zq zL (zq zL (zq zL zL))))))
def a218:Ann:=(zq zL (zq zL (zq (.block (.loop s218_0 e218_0 a218_0)) (.seq (some (zr 7++[zS]++zr 53)) zL (zq zL zL)))))
def s219_0:Shape:=([zP,zI,zN,zN,zN,zI,zS,zI]++zr 45)
def e219_0:List (Nat×Shape):=[(2,(zr 6++[zS]++zr 46))]
def a219_0:Ann:=(zq (zq zL (.cond zL zL)) (zq (.block (zq zL (.seq (some ([zP,zI,zN,zN,zN,zI,zS,zI,zI]++zr 44)) zL zL))) zL))
def a219:Ann:=(zq zL (zq zL (zq (.seq (some ([zP,zI,zN,zN,zN,zI]++zr 14++[zB]++zr 32)) zL (.cond (zq zL (zq zL zL)) zL)) (zq zL (zq (zq zL (.block (.loop s219_0 e219_0 a219_0))) (zq zL zL))))))
def s220_0:Shape:=([zP,zI,zI,zN,zN,zN,zA,zA]++zr 51)
def e220_0:List (Nat×Shape):=[(1,(zr 6++[zA]++zr 52)),(2,(zr 6++[zA,zA]++zr 51))]
def a220_0:Ann:=(zq (.seq (some ([zP,zI,zI,zN,zN,zN,zA,zA]++zr 11++[zB]++zr 39)) zL (.cond zL zL)) (.block (zq zL (zq (.seq (some ([zP,zN,zI,zN,zN,zN,zA,zA,zS]++zr 29++[zB]++zr 20)) zL (.cond (zq zL (zq zL zL)) zL)) (zq zL zL)))))
def a220:Ann:=(zq zL (zq zL (zq (.block (.loop s220_0 e220_0 a220_0)) (zq zL zL))))
def s221_0:Shape:=([zP,zN,zI,zN,zN,zN,zA,zN,zS,zA,zI]++zr 36)
def e221_0:List (Nat×Shape):=[(2,(zr 6++[zA,zN,zN,zA]++zr 37))]
def a221_0:Ann:=(zq (.seq (some ([zP,zN,zI,zN,zN,zN,zA,zN,zS,zA,zI]++zr 19++[zB]++zr 16)) zL (.cond zL zL)) (zq (.block zL) zL))
def a221:Ann:=(zq zL (zq zL (zq zL (zq zL (zq (zq zL (.block (.loop s221_0 e221_0 a221_0))) (zq zL zL))))))
def s222_0:Shape:=([zP,zN,zN,zN,zA,zN,zS,zS,zI]++zr 35)
def e222_0:List (Nat×Shape):=[(2,([zN,zN,zN,zN,zA,zN,zN,zS]++zr 36))]
def a222_0:Ann:=(zq (zq zL (.cond zL zL)) (zq (.block (.seq (some ([zP,zN,zN,zN,zA,zN,zS,zS,zI]++zr 35)) (zq zL (.cond zL zL)) zL)) zL))
def a222:Ann:=(zq zL (zq zL (zq zL (zq zL (zq (zq zL (.block (.loop s222_0 e222_0 a222_0))) (zq zL zL))))))
def a230:Ann:=(zq zL (zq zL (zq zL (zq (.seq (some ([zN,zT,zN,zN,zN,zN,zS,zI]++zr 17++[zB]++zr 8)) zL (.cond (zq zL zL) zL)) (zq zL zL)))))
def s231_0:Shape:=([zP,zP,zN,zN,zN,zA,zN,zN,zI,zI,zB,zI]++zr 77)
def e231_0:List (Nat×Shape):=[(2,([zP]++zr 7++[zI,zI,zB]++zr 78))]
def a231_0:Ann:=(zq (zq zL (.cond zL zL)) (.seq (some ([zP,zP,zN,zN,zN,zA,zN,zN,zI,zI,zB,zI]++zr 77)) (.block (zq zL (zq zL (zq zL zL)))) zL))
def a231:Ann:=(zq zL (zq zL (zq (zq zL (.cond (zq zL zL) zL)) (zq zL (zq zL (zq zL (zq (zq zL (.block (.loop s231_0 e231_0 a231_0))) (zq zL (zq zL zL)))))))))
def a232:Ann:=(zq zL (zq zL (.seq (some (zr 5++[zI]++zr 22)) zL (zq zL zL))))
def a233:Ann:=(zq zL (zq (.seq (some ([zP,zI,zI]++zr 29++[zB]++zr 13)) zL (.cond (zq zL (zq zL zL)) zL)) (zq zL zL)))
def a234:Ann:=(zq zL (zq zL (zq (.seq (some ([zP]++zr 6++[zS]++zr 13++[zB]++zr 6)) zL (.cond (zq zL (zq zL zL)) zL)) (zq zL zL))))
def anns:List (Nat×Ann):=[(10,a10),(22,a22),(38,a38),(45,a45),(46,a46),(49,a49),(50,a50),(51,a51),(52,a52),(58,a58),(65,a65),(78,a78),(83,a83),(90,a90),(95,a95),(96,a96),(97,a97),(98,a98),(99,a99),(101,a101),(103,a103),(104,a104),(106,a106),(107,a107),(108,a108),(109,a109),(110,a110),(111,a111),(117,a117),(124,a124),(132,a132),(133,a133),(135,a135),(144,a144),(145,a145),(146,a146),(147,a147),(148,a148),(149,a149),(150,a150),(151,a151),(152,a152),(153,a153),(154,a154),(156,a156),(157,a157),(158,a158),(159,a159),(160,a160),(161,a161),(162,a162),(164,a164),(166,a166),(172,a172),(173,a173),(183,a183),(185,a185),(186,a186),(187,a187),(188,a188),(189,a189),(190,a190),(191,a191),(192,a192),(193,a193),(194,a194),(195,a195),(196,a196),(197,a197),(198,a198),(199,a199),(200,a200),(214,a214),(215,a215),(216,a216),(217,a217),(218,a218),(219,a219),(220,a220),(221,a221),(222,a222),(230,a230),(231,a231),(232,a232),(233,a233),(234,a234)]
theorem ixOk:∀ f,memN f []=true→∀ (s:ByteArray) (n:Int) (w:World),(callFunc f #[.string s,.int .u8 n]).run Try.prog w = .ok (.value (.int .i64 (firstIdx s n.toNat.toUInt8))) w:=by
 intro f hf s n w
 cases hf
noncomputable def Et (base:Nat):Env:=⟨Try.prog,tab,fns,anns,base,[],[(148,[(false,[(.int .i64)]),(false,[.bool])])]⟩
theorem EtOk (base:Nat):EnvOk (Et base):=⟨fun t i h=>tabOk (t,i) (find_mem h),by kernel_rfl,by kernel_rfl,fun f rs h=>fnsOk (f,rs) (find_mem h),ixOk⟩
theorem EtP (base:Nat):(Et base).P=Try.prog:=by kernel_rfl
theorem EtA (base f:Nat):(Et base).an f=find anns f:=by kernel_rfl
theorem EtB (base:Nat):(Et base).base=base:=by kernel_rfl
theorem run_i {base f:Nat} {fn:Func} {an:Ann} (hf:Try.prog.funcs[f]? = some fn) (ha:find anns f=some an) {args:List Value} {h:AH} {r:Value×AH} (hx:exFun (Et base) (run (Et base)) loopL an fn args h=some r):run (Et base) f args h=some r:=run_intro (E:=Et base) (by rw [EtP];exact hf) (by rw [EtA];exact ha) hx
abbrev c_IITL {R:Type} (h:AH) (b o:Nat) (f:Int→Int→ByteArray→Option Addr×Nat→Option R):Option R:=gI (cell h b o) fun x0=>gI (cell h b (o+1)) fun x1=>gT (cell h b ((o+1)+1)) fun x2=>gL (cell h b (((o+1)+1)+1)) fun x3=>f x0 x1 x2 x3
abbrev c_LL {R:Type} (h:AH) (b o:Nat) (f:Option Addr×Nat→Option Addr×Nat→Option R):Option R:=gL (cell h b o) fun x0=>gL (cell h b (o+1)) fun x1=>f x0 x1
abbrev c_LLI {R:Type} (h:AH) (b o:Nat) (f:Option Addr×Nat→Option Addr×Nat→Int→Option R):Option R:=gL (cell h b o) fun x0=>gL (cell h b (o+1)) fun x1=>gI (cell h b ((o+1)+1)) fun x2=>f x0 x1 x2
abbrev j_AA {R:Type} (l:Slots) (f:Addr→Addr→Option R):Option R:=gA (sget l 0) fun x0=>gA (sget (l.tail) 0) fun x1=>f x0 x1
abbrev j_AAB {R:Type} (l:Slots) (f:Addr→Addr→Bool→Option R):Option R:=gA (sget l 0) fun x0=>gA (sget (l.tail) 0) fun x1=>gB (sget (l.tail.tail) 0) fun x2=>f x0 x1 x2
abbrev j_AAL {R:Type} (l:Slots) (f:Addr→Addr→Option Addr×Nat→Option R):Option R:=gA (sget l 0) fun x0=>gA (sget (l.tail) 0) fun x1=>gL (sget (l.tail.tail) 0) fun x2=>f x0 x1 x2
abbrev j_AALL {R:Type} (l:Slots) (f:Addr→Addr→Option Addr×Nat→Option Addr×Nat→Option R):Option R:=gA (sget l 0) fun x0=>gA (sget (l.tail) 0) fun x1=>gL (sget (l.tail.tail) 0) fun x2=>gL (sget (l.tail.tail.tail) 0) fun x3=>f x0 x1 x2 x3
abbrev j_AI {R:Type} (l:Slots) (f:Addr→Int→Option R):Option R:=gA (sget l 0) fun x0=>gI (sget (l.tail) 0) fun x1=>f x0 x1
abbrev j_AIIB {R:Type} (l:Slots) (f:Addr→Int→Int→Bool→Option R):Option R:=gA (sget l 0) fun x0=>gI (sget (l.tail) 0) fun x1=>gI (sget (l.tail.tail) 0) fun x2=>gB (sget (l.tail.tail.tail) 0) fun x3=>f x0 x1 x2 x3
abbrev j_AL {R:Type} (l:Slots) (f:Addr→Option Addr×Nat→Option R):Option R:=gA (sget l 0) fun x0=>gL (sget (l.tail) 0) fun x1=>f x0 x1
abbrev j_BAAL {R:Type} (l:Slots) (f:Bool→Addr→Addr→Option Addr×Nat→Option R):Option R:=gB (sget l 0) fun x0=>gA (sget (l.tail) 0) fun x1=>gA (sget (l.tail.tail) 0) fun x2=>gL (sget (l.tail.tail.tail) 0) fun x3=>f x0 x1 x2 x3
abbrev j_IAB {R:Type} (l:Slots) (f:Int→Addr→Bool→Option R):Option R:=gI (sget l 0) fun x0=>gA (sget (l.tail) 0) fun x1=>gB (sget (l.tail.tail) 0) fun x2=>f x0 x1 x2
abbrev j_IB {R:Type} (l:Slots) (f:Int→Bool→Option R):Option R:=gI (sget l 0) fun x0=>gB (sget (l.tail) 0) fun x1=>f x0 x1
abbrev j_IIAB {R:Type} (l:Slots) (f:Int→Int→Addr→Bool→Option R):Option R:=gI (sget l 0) fun x0=>gI (sget (l.tail) 0) fun x1=>gA (sget (l.tail.tail) 0) fun x2=>gB (sget (l.tail.tail.tail) 0) fun x3=>f x0 x1 x2 x3
abbrev j_IIAIB {R:Type} (l:Slots) (f:Int→Int→Addr→Int→Bool→Option R):Option R:=gI (sget l 0) fun x0=>gI (sget (l.tail) 0) fun x1=>gA (sget (l.tail.tail) 0) fun x2=>gI (sget (l.tail.tail.tail) 0) fun x3=>gB (sget (l.tail.tail.tail.tail) 0) fun x4=>f x0 x1 x2 x3 x4
abbrev j_IIAII {R:Type} (l:Slots) (f:Int→Int→Addr→Int→Int→Option R):Option R:=gI (sget l 0) fun x0=>gI (sget (l.tail) 0) fun x1=>gA (sget (l.tail.tail) 0) fun x2=>gI (sget (l.tail.tail.tail) 0) fun x3=>gI (sget (l.tail.tail.tail.tail) 0) fun x4=>f x0 x1 x2 x3 x4
abbrev j_IIAIIB {R:Type} (l:Slots) (f:Int→Int→Addr→Int→Int→Bool→Option R):Option R:=gI (sget l 0) fun x0=>gI (sget (l.tail) 0) fun x1=>gA (sget (l.tail.tail) 0) fun x2=>gI (sget (l.tail.tail.tail) 0) fun x3=>gI (sget (l.tail.tail.tail.tail) 0) fun x4=>gB (sget (l.tail.tail.tail.tail.tail) 0) fun x5=>f x0 x1 x2 x3 x4 x5
abbrev j_IIALI {R:Type} (l:Slots) (f:Int→Int→Addr→Option Addr×Nat→Int→Option R):Option R:=gI (sget l 0) fun x0=>gI (sget (l.tail) 0) fun x1=>gA (sget (l.tail.tail) 0) fun x2=>gL (sget (l.tail.tail.tail) 0) fun x3=>gI (sget (l.tail.tail.tail.tail) 0) fun x4=>f x0 x1 x2 x3 x4
abbrev j_IIALIB {R:Type} (l:Slots) (f:Int→Int→Addr→Option Addr×Nat→Int→Bool→Option R):Option R:=gI (sget l 0) fun x0=>gI (sget (l.tail) 0) fun x1=>gA (sget (l.tail.tail) 0) fun x2=>gL (sget (l.tail.tail.tail) 0) fun x3=>gI (sget (l.tail.tail.tail.tail) 0) fun x4=>gB (sget (l.tail.tail.tail.tail.tail) 0) fun x5=>f x0 x1 x2 x3 x4 x5
abbrev j_IIL {R:Type} (l:Slots) (f:Int→Int→Option Addr×Nat→Option R):Option R:=gI (sget l 0) fun x0=>gI (sget (l.tail) 0) fun x1=>gL (sget (l.tail.tail) 0) fun x2=>f x0 x1 x2
abbrev j_IILB {R:Type} (l:Slots) (f:Int→Int→Option Addr×Nat→Bool→Option R):Option R:=gI (sget l 0) fun x0=>gI (sget (l.tail) 0) fun x1=>gL (sget (l.tail.tail) 0) fun x2=>gB (sget (l.tail.tail.tail) 0) fun x3=>f x0 x1 x2 x3
abbrev j_ILI {R:Type} (l:Slots) (f:Int→Option Addr×Nat→Int→Option R):Option R:=gI (sget l 0) fun x0=>gL (sget (l.tail) 0) fun x1=>gI (sget (l.tail.tail) 0) fun x2=>f x0 x1 x2
abbrev j_LAA {R:Type} (l:Slots) (f:Option Addr×Nat→Addr→Addr→Option R):Option R:=gL (sget l 0) fun x0=>gA (sget (l.tail) 0) fun x1=>gA (sget (l.tail.tail) 0) fun x2=>f x0 x1 x2
abbrev j_LAAA {R:Type} (l:Slots) (f:Option Addr×Nat→Addr→Addr→Addr→Option R):Option R:=gL (sget l 0) fun x0=>gA (sget (l.tail) 0) fun x1=>gA (sget (l.tail.tail) 0) fun x2=>gA (sget (l.tail.tail.tail) 0) fun x3=>f x0 x1 x2 x3
abbrev j_LAAAAAB {R:Type} (l:Slots) (f:Option Addr×Nat→Addr→Addr→Addr→Addr→Addr→Bool→Option R):Option R:=gL (sget l 0) fun x0=>gA (sget (l.tail) 0) fun x1=>gA (sget (l.tail.tail) 0) fun x2=>gA (sget (l.tail.tail.tail) 0) fun x3=>gA (sget (l.tail.tail.tail.tail) 0) fun x4=>gA (sget (l.tail.tail.tail.tail.tail) 0) fun x5=>gB (sget (l.tail.tail.tail.tail.tail.tail) 0) fun x6=>f x0 x1 x2 x3 x4 x5 x6
abbrev j_LAAAL {R:Type} (l:Slots) (f:Option Addr×Nat→Addr→Addr→Addr→Option Addr×Nat→Option R):Option R:=gL (sget l 0) fun x0=>gA (sget (l.tail) 0) fun x1=>gA (sget (l.tail.tail) 0) fun x2=>gA (sget (l.tail.tail.tail) 0) fun x3=>gL (sget (l.tail.tail.tail.tail) 0) fun x4=>f x0 x1 x2 x3 x4
abbrev j_LALIIB {R:Type} (l:Slots) (f:Option Addr×Nat→Addr→Option Addr×Nat→Int→Int→Bool→Option R):Option R:=gL (sget l 0) fun x0=>gA (sget (l.tail) 0) fun x1=>gL (sget (l.tail.tail) 0) fun x2=>gI (sget (l.tail.tail.tail) 0) fun x3=>gI (sget (l.tail.tail.tail.tail) 0) fun x4=>gB (sget (l.tail.tail.tail.tail.tail) 0) fun x5=>f x0 x1 x2 x3 x4 x5
abbrev j_LB {R:Type} (l:Slots) (f:Option Addr×Nat→Bool→Option R):Option R:=gL (sget l 0) fun x0=>gB (sget (l.tail) 0) fun x1=>f x0 x1
abbrev j_LBAA {R:Type} (l:Slots) (f:Option Addr×Nat→Bool→Addr→Addr→Option R):Option R:=gL (sget l 0) fun x0=>gB (sget (l.tail) 0) fun x1=>gA (sget (l.tail.tail) 0) fun x2=>gA (sget (l.tail.tail.tail) 0) fun x3=>f x0 x1 x2 x3
abbrev j_LLAB {R:Type} (l:Slots) (f:Option Addr×Nat→Option Addr×Nat→Addr→Bool→Option R):Option R:=gL (sget l 0) fun x0=>gL (sget (l.tail) 0) fun x1=>gA (sget (l.tail.tail) 0) fun x2=>gB (sget (l.tail.tail.tail) 0) fun x3=>f x0 x1 x2 x3
abbrev j_LLAIB {R:Type} (l:Slots) (f:Option Addr×Nat→Option Addr×Nat→Addr→Int→Bool→Option R):Option R:=gL (sget l 0) fun x0=>gL (sget (l.tail) 0) fun x1=>gA (sget (l.tail.tail) 0) fun x2=>gI (sget (l.tail.tail.tail) 0) fun x3=>gB (sget (l.tail.tail.tail.tail) 0) fun x4=>f x0 x1 x2 x3 x4
abbrev j_LLIIB {R:Type} (l:Slots) (f:Option Addr×Nat→Option Addr×Nat→Int→Int→Bool→Option R):Option R:=gL (sget l 0) fun x0=>gL (sget (l.tail) 0) fun x1=>gI (sget (l.tail.tail) 0) fun x2=>gI (sget (l.tail.tail.tail) 0) fun x3=>gB (sget (l.tail.tail.tail.tail) 0) fun x4=>f x0 x1 x2 x3 x4
abbrev j_LLLAIB {R:Type} (l:Slots) (f:Option Addr×Nat→Option Addr×Nat→Option Addr×Nat→Addr→Int→Bool→Option R):Option R:=gL (sget l 0) fun x0=>gL (sget (l.tail) 0) fun x1=>gL (sget (l.tail.tail) 0) fun x2=>gA (sget (l.tail.tail.tail) 0) fun x3=>gI (sget (l.tail.tail.tail.tail) 0) fun x4=>gB (sget (l.tail.tail.tail.tail.tail) 0) fun x5=>f x0 x1 x2 x3 x4 x5
abbrev j_PA {R:Type} (l:Slots) (f:Option Addr→Addr→Option R):Option R:=gP (sget l 0) fun x0=>gA (sget (l.tail) 0) fun x1=>f x0 x1
abbrev j_PAA {R:Type} (l:Slots) (f:Option Addr→Addr→Addr→Option R):Option R:=gP (sget l 0) fun x0=>gA (sget (l.tail) 0) fun x1=>gA (sget (l.tail.tail) 0) fun x2=>f x0 x1 x2
abbrev j_PAALLI {R:Type} (l:Slots) (f:Option Addr→Addr→Addr→Option Addr×Nat→Option Addr×Nat→Int→Option R):Option R:=gP (sget l 0) fun x0=>gA (sget (l.tail) 0) fun x1=>gA (sget (l.tail.tail) 0) fun x2=>gL (sget (l.tail.tail.tail) 0) fun x3=>gL (sget (l.tail.tail.tail.tail) 0) fun x4=>gI (sget (l.tail.tail.tail.tail.tail) 0) fun x5=>f x0 x1 x2 x3 x4 x5
abbrev j_PALB {R:Type} (l:Slots) (f:Option Addr→Addr→Option Addr×Nat→Bool→Option R):Option R:=gP (sget l 0) fun x0=>gA (sget (l.tail) 0) fun x1=>gL (sget (l.tail.tail) 0) fun x2=>gB (sget (l.tail.tail.tail) 0) fun x3=>f x0 x1 x2 x3
abbrev j_PALLI {R:Type} (l:Slots) (f:Option Addr→Addr→Option Addr×Nat→Option Addr×Nat→Int→Option R):Option R:=gP (sget l 0) fun x0=>gA (sget (l.tail) 0) fun x1=>gL (sget (l.tail.tail) 0) fun x2=>gL (sget (l.tail.tail.tail) 0) fun x3=>gI (sget (l.tail.tail.tail.tail) 0) fun x4=>f x0 x1 x2 x3 x4
abbrev j_PIAAIB {R:Type} (l:Slots) (f:Option Addr→Int→Addr→Addr→Int→Bool→Option R):Option R:=gP (sget l 0) fun x0=>gI (sget (l.tail) 0) fun x1=>gA (sget (l.tail.tail) 0) fun x2=>gA (sget (l.tail.tail.tail) 0) fun x3=>gI (sget (l.tail.tail.tail.tail) 0) fun x4=>gB (sget (l.tail.tail.tail.tail.tail) 0) fun x5=>f x0 x1 x2 x3 x4 x5
abbrev j_PIAALB {R:Type} (l:Slots) (f:Option Addr→Int→Addr→Addr→Option Addr×Nat→Bool→Option R):Option R:=gP (sget l 0) fun x0=>gI (sget (l.tail) 0) fun x1=>gA (sget (l.tail.tail) 0) fun x2=>gA (sget (l.tail.tail.tail) 0) fun x3=>gL (sget (l.tail.tail.tail.tail) 0) fun x4=>gB (sget (l.tail.tail.tail.tail.tail) 0) fun x5=>f x0 x1 x2 x3 x4 x5
abbrev j_PIAIB {R:Type} (l:Slots) (f:Option Addr→Int→Addr→Int→Bool→Option R):Option R:=gP (sget l 0) fun x0=>gI (sget (l.tail) 0) fun x1=>gA (sget (l.tail.tail) 0) fun x2=>gI (sget (l.tail.tail.tail) 0) fun x3=>gB (sget (l.tail.tail.tail.tail) 0) fun x4=>f x0 x1 x2 x3 x4
abbrev j_PIALAB {R:Type} (l:Slots) (f:Option Addr→Int→Addr→Option Addr×Nat→Addr→Bool→Option R):Option R:=gP (sget l 0) fun x0=>gI (sget (l.tail) 0) fun x1=>gA (sget (l.tail.tail) 0) fun x2=>gL (sget (l.tail.tail.tail) 0) fun x3=>gA (sget (l.tail.tail.tail.tail) 0) fun x4=>gB (sget (l.tail.tail.tail.tail.tail) 0) fun x5=>f x0 x1 x2 x3 x4 x5
abbrev j_PIALAIB {R:Type} (l:Slots) (f:Option Addr→Int→Addr→Option Addr×Nat→Addr→Int→Bool→Option R):Option R:=gP (sget l 0) fun x0=>gI (sget (l.tail) 0) fun x1=>gA (sget (l.tail.tail) 0) fun x2=>gL (sget (l.tail.tail.tail) 0) fun x3=>gA (sget (l.tail.tail.tail.tail) 0) fun x4=>gI (sget (l.tail.tail.tail.tail.tail) 0) fun x5=>gB (sget (l.tail.tail.tail.tail.tail.tail) 0) fun x6=>f x0 x1 x2 x3 x4 x5 x6
abbrev j_PIIAAB {R:Type} (l:Slots) (f:Option Addr→Int→Int→Addr→Addr→Bool→Option R):Option R:=gP (sget l 0) fun x0=>gI (sget (l.tail) 0) fun x1=>gI (sget (l.tail.tail) 0) fun x2=>gA (sget (l.tail.tail.tail) 0) fun x3=>gA (sget (l.tail.tail.tail.tail) 0) fun x4=>gB (sget (l.tail.tail.tail.tail.tail) 0) fun x5=>f x0 x1 x2 x3 x4 x5
abbrev j_PIIAB {R:Type} (l:Slots) (f:Option Addr→Int→Int→Addr→Bool→Option R):Option R:=gP (sget l 0) fun x0=>gI (sget (l.tail) 0) fun x1=>gI (sget (l.tail.tail) 0) fun x2=>gA (sget (l.tail.tail.tail) 0) fun x3=>gB (sget (l.tail.tail.tail.tail) 0) fun x4=>f x0 x1 x2 x3 x4
abbrev j_PIIAIB {R:Type} (l:Slots) (f:Option Addr→Int→Int→Addr→Int→Bool→Option R):Option R:=gP (sget l 0) fun x0=>gI (sget (l.tail) 0) fun x1=>gI (sget (l.tail.tail) 0) fun x2=>gA (sget (l.tail.tail.tail) 0) fun x3=>gI (sget (l.tail.tail.tail.tail) 0) fun x4=>gB (sget (l.tail.tail.tail.tail.tail) 0) fun x5=>f x0 x1 x2 x3 x4 x5
abbrev j_PIIAIIB {R:Type} (l:Slots) (f:Option Addr→Int→Int→Addr→Int→Int→Bool→Option R):Option R:=gP (sget l 0) fun x0=>gI (sget (l.tail) 0) fun x1=>gI (sget (l.tail.tail) 0) fun x2=>gA (sget (l.tail.tail.tail) 0) fun x3=>gI (sget (l.tail.tail.tail.tail) 0) fun x4=>gI (sget (l.tail.tail.tail.tail.tail) 0) fun x5=>gB (sget (l.tail.tail.tail.tail.tail.tail) 0) fun x6=>f x0 x1 x2 x3 x4 x5 x6
abbrev j_PIIB {R:Type} (l:Slots) (f:Option Addr→Int→Int→Bool→Option R):Option R:=gP (sget l 0) fun x0=>gI (sget (l.tail) 0) fun x1=>gI (sget (l.tail.tail) 0) fun x2=>gB (sget (l.tail.tail.tail) 0) fun x3=>f x0 x1 x2 x3
abbrev j_PIIBIIIII {R:Type} (l:Slots) (f:Option Addr→Int→Int→Bool→Int→Int→Int→Int→Int→Option R):Option R:=gP (sget l 0) fun x0=>gI (sget (l.tail) 0) fun x1=>gI (sget (l.tail.tail) 0) fun x2=>gB (sget (l.tail.tail.tail) 0) fun x3=>gI (sget (l.tail.tail.tail.tail) 0) fun x4=>gI (sget (l.tail.tail.tail.tail.tail) 0) fun x5=>gI (sget (l.tail.tail.tail.tail.tail.tail) 0) fun x6=>gI (sget (l.tail.tail.tail.tail.tail.tail.tail) 0) fun x7=>gI (sget (l.tail.tail.tail.tail.tail.tail.tail.tail) 0) fun x8=>f x0 x1 x2 x3 x4 x5 x6 x7 x8
abbrev j_PIIBIIIIIB {R:Type} (l:Slots) (f:Option Addr→Int→Int→Bool→Int→Int→Int→Int→Int→Bool→Option R):Option R:=gP (sget l 0) fun x0=>gI (sget (l.tail) 0) fun x1=>gI (sget (l.tail.tail) 0) fun x2=>gB (sget (l.tail.tail.tail) 0) fun x3=>gI (sget (l.tail.tail.tail.tail) 0) fun x4=>gI (sget (l.tail.tail.tail.tail.tail) 0) fun x5=>gI (sget (l.tail.tail.tail.tail.tail.tail) 0) fun x6=>gI (sget (l.tail.tail.tail.tail.tail.tail.tail) 0) fun x7=>gI (sget (l.tail.tail.tail.tail.tail.tail.tail.tail) 0) fun x8=>gB (sget (l.tail.tail.tail.tail.tail.tail.tail.tail.tail) 0) fun x9=>f x0 x1 x2 x3 x4 x5 x6 x7 x8 x9
abbrev j_PIIIB {R:Type} (l:Slots) (f:Option Addr→Int→Int→Int→Bool→Option R):Option R:=gP (sget l 0) fun x0=>gI (sget (l.tail) 0) fun x1=>gI (sget (l.tail.tail) 0) fun x2=>gI (sget (l.tail.tail.tail) 0) fun x3=>gB (sget (l.tail.tail.tail.tail) 0) fun x4=>f x0 x1 x2 x3 x4
abbrev j_PIIIBI {R:Type} (l:Slots) (f:Option Addr→Int→Int→Int→Bool→Int→Option R):Option R:=gP (sget l 0) fun x0=>gI (sget (l.tail) 0) fun x1=>gI (sget (l.tail.tail) 0) fun x2=>gI (sget (l.tail.tail.tail) 0) fun x3=>gB (sget (l.tail.tail.tail.tail) 0) fun x4=>gI (sget (l.tail.tail.tail.tail.tail) 0) fun x5=>f x0 x1 x2 x3 x4 x5
abbrev j_PIIILIB {R:Type} (l:Slots) (f:Option Addr→Int→Int→Int→Option Addr×Nat→Int→Bool→Option R):Option R:=gP (sget l 0) fun x0=>gI (sget (l.tail) 0) fun x1=>gI (sget (l.tail.tail) 0) fun x2=>gI (sget (l.tail.tail.tail) 0) fun x3=>gL (sget (l.tail.tail.tail.tail) 0) fun x4=>gI (sget (l.tail.tail.tail.tail.tail) 0) fun x5=>gB (sget (l.tail.tail.tail.tail.tail.tail) 0) fun x6=>f x0 x1 x2 x3 x4 x5 x6
abbrev j_PIILB {R:Type} (l:Slots) (f:Option Addr→Int→Int→Option Addr×Nat→Bool→Option R):Option R:=gP (sget l 0) fun x0=>gI (sget (l.tail) 0) fun x1=>gI (sget (l.tail.tail) 0) fun x2=>gL (sget (l.tail.tail.tail) 0) fun x3=>gB (sget (l.tail.tail.tail.tail) 0) fun x4=>f x0 x1 x2 x3 x4
abbrev j_PIILII {R:Type} (l:Slots) (f:Option Addr→Int→Int→Option Addr×Nat→Int→Int→Option R):Option R:=gP (sget l 0) fun x0=>gI (sget (l.tail) 0) fun x1=>gI (sget (l.tail.tail) 0) fun x2=>gL (sget (l.tail.tail.tail) 0) fun x3=>gI (sget (l.tail.tail.tail.tail) 0) fun x4=>gI (sget (l.tail.tail.tail.tail.tail) 0) fun x5=>f x0 x1 x2 x3 x4 x5
abbrev j_PIILILB {R:Type} (l:Slots) (f:Option Addr→Int→Int→Option Addr×Nat→Int→Option Addr×Nat→Bool→Option R):Option R:=gP (sget l 0) fun x0=>gI (sget (l.tail) 0) fun x1=>gI (sget (l.tail.tail) 0) fun x2=>gL (sget (l.tail.tail.tail) 0) fun x3=>gI (sget (l.tail.tail.tail.tail) 0) fun x4=>gL (sget (l.tail.tail.tail.tail.tail) 0) fun x5=>gB (sget (l.tail.tail.tail.tail.tail.tail) 0) fun x6=>f x0 x1 x2 x3 x4 x5 x6
abbrev j_PIILILBI {R:Type} (l:Slots) (f:Option Addr→Int→Int→Option Addr×Nat→Int→Option Addr×Nat→Bool→Int→Option R):Option R:=gP (sget l 0) fun x0=>gI (sget (l.tail) 0) fun x1=>gI (sget (l.tail.tail) 0) fun x2=>gL (sget (l.tail.tail.tail) 0) fun x3=>gI (sget (l.tail.tail.tail.tail) 0) fun x4=>gL (sget (l.tail.tail.tail.tail.tail) 0) fun x5=>gB (sget (l.tail.tail.tail.tail.tail.tail) 0) fun x6=>gI (sget (l.tail.tail.tail.tail.tail.tail.tail) 0) fun x7=>f x0 x1 x2 x3 x4 x5 x6 x7
abbrev j_PIILILBII {R:Type} (l:Slots) (f:Option Addr→Int→Int→Option Addr×Nat→Int→Option Addr×Nat→Bool→Int→Int→Option R):Option R:=gP (sget l 0) fun x0=>gI (sget (l.tail) 0) fun x1=>gI (sget (l.tail.tail) 0) fun x2=>gL (sget (l.tail.tail.tail) 0) fun x3=>gI (sget (l.tail.tail.tail.tail) 0) fun x4=>gL (sget (l.tail.tail.tail.tail.tail) 0) fun x5=>gB (sget (l.tail.tail.tail.tail.tail.tail) 0) fun x6=>gI (sget (l.tail.tail.tail.tail.tail.tail.tail) 0) fun x7=>gI (sget (l.tail.tail.tail.tail.tail.tail.tail.tail) 0) fun x8=>f x0 x1 x2 x3 x4 x5 x6 x7 x8
abbrev j_PIILILBIIB {R:Type} (l:Slots) (f:Option Addr→Int→Int→Option Addr×Nat→Int→Option Addr×Nat→Bool→Int→Int→Bool→Option R):Option R:=gP (sget l 0) fun x0=>gI (sget (l.tail) 0) fun x1=>gI (sget (l.tail.tail) 0) fun x2=>gL (sget (l.tail.tail.tail) 0) fun x3=>gI (sget (l.tail.tail.tail.tail) 0) fun x4=>gL (sget (l.tail.tail.tail.tail.tail) 0) fun x5=>gB (sget (l.tail.tail.tail.tail.tail.tail) 0) fun x6=>gI (sget (l.tail.tail.tail.tail.tail.tail.tail) 0) fun x7=>gI (sget (l.tail.tail.tail.tail.tail.tail.tail.tail) 0) fun x8=>gB (sget (l.tail.tail.tail.tail.tail.tail.tail.tail.tail) 0) fun x9=>f x0 x1 x2 x3 x4 x5 x6 x7 x8 x9
abbrev j_PILIIB {R:Type} (l:Slots) (f:Option Addr→Int→Option Addr×Nat→Int→Int→Bool→Option R):Option R:=gP (sget l 0) fun x0=>gI (sget (l.tail) 0) fun x1=>gL (sget (l.tail.tail) 0) fun x2=>gI (sget (l.tail.tail.tail) 0) fun x3=>gI (sget (l.tail.tail.tail.tail) 0) fun x4=>gB (sget (l.tail.tail.tail.tail.tail) 0) fun x5=>f x0 x1 x2 x3 x4 x5
abbrev j_PPAIBI {R:Type} (l:Slots) (f:Option Addr→Option Addr→Addr→Int→Bool→Int→Option R):Option R:=gP (sget l 0) fun x0=>gP (sget (l.tail) 0) fun x1=>gA (sget (l.tail.tail) 0) fun x2=>gI (sget (l.tail.tail.tail) 0) fun x3=>gB (sget (l.tail.tail.tail.tail) 0) fun x4=>gI (sget (l.tail.tail.tail.tail.tail) 0) fun x5=>f x0 x1 x2 x3 x4 x5
abbrev j_PPAIIBI {R:Type} (l:Slots) (f:Option Addr→Option Addr→Addr→Int→Int→Bool→Int→Option R):Option R:=gP (sget l 0) fun x0=>gP (sget (l.tail) 0) fun x1=>gA (sget (l.tail.tail) 0) fun x2=>gI (sget (l.tail.tail.tail) 0) fun x3=>gI (sget (l.tail.tail.tail.tail) 0) fun x4=>gB (sget (l.tail.tail.tail.tail.tail) 0) fun x5=>gI (sget (l.tail.tail.tail.tail.tail.tail) 0) fun x6=>f x0 x1 x2 x3 x4 x5 x6
abbrev l_IB {R:Type} (l:List Value) (f:Int→Bool→Option R):Option R:=gI (l[0]?) fun x0=>gB (l[1]?) fun x1=>f x0 x1
abbrev l_IITL {R:Type} (l:List Value) (f:Int→Int→ByteArray→Option Addr×Nat→Option R):Option R:=gI (l[0]?) fun x0=>gI (l[1]?) fun x1=>gT (l[2]?) fun x2=>gL (l[3]?) fun x3=>f x0 x1 x2 x3
abbrev l_LB {R:Type} (l:List Value) (f:Option Addr×Nat→Bool→Option R):Option R:=gL (l[0]?) fun x0=>gB (l[1]?) fun x1=>f x0 x1
abbrev l_LI {R:Type} (l:List Value) (f:Option Addr×Nat→Int→Option R):Option R:=gL (l[0]?) fun x0=>gI (l[1]?) fun x1=>f x0 x1
abbrev l_LIB {R:Type} (l:List Value) (f:Option Addr×Nat→Int→Bool→Option R):Option R:=gL (l[0]?) fun x0=>gI (l[1]?) fun x1=>gB (l[2]?) fun x2=>f x0 x1 x2
abbrev l_LLI {R:Type} (l:List Value) (f:Option Addr×Nat→Option Addr×Nat→Int→Option R):Option R:=gL (l[0]?) fun x0=>gL (l[1]?) fun x1=>gI (l[2]?) fun x2=>f x0 x1 x2
end Go.Proofs.Ytkdenmdijdmnjaa.Am
