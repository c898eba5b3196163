/- Texts of mine, one behind the other; nothing is assumed. -/
import Derived.Test.YtaaepbggooiblaaGreatDoorB04
import Derived.KernelRfl
set_option linter.unusedVariables false
set_option maxRecDepth 100000
namespace Go.W.T
open Go Go.Proofs
abbrev n_syntax_Parse : FuncId := 31
def s_syntax_Parse (R : KR) (a0 : Value) (w : World) : Prop :=
Cl P 45 #[a0] w (pE R) fun x1 w2 =>
Mm w2 fun x3 w4 =>
Mm w4 fun x5 w6 =>
Mm w6 fun x7 w8 =>
Mm w8 fun x9 w10 =>
Bu (.agg #[.pointer none, .int .i64 0, .string ⟨#[]⟩, .int .i64 0, .int .i64 0, .map none, .map none, .map none, .map none, .int .i64 0, .int .i64 0, .int .i64 0]) [(0, 1, x1), (5, 1, x3), (6, 1, x5), (7, 1, x7), (8, 1, x9)] fun x11 =>
Nw 107 x11 w10 fun x12 w13 =>
Cl P 46 #[x12] w13 (pE R) fun x14 w15 =>
Lp [(.slice none 0 0)] w15 fun jk16 vals w17 C18 =>
V1 vals fun v19 =>
Nk x12 fun x20 =>
Fa x20 1 fun x21 =>
Fa x21 0 fun x22 =>
Ld x22 w17 fun x23 =>
Bi .neq x23 (.int .i64 0) fun x24 =>
If x24 (
Cl P 47 #[x12] w17 (pE R) fun x25 w26 =>
BuS 109 1 [x25] w26 fun x27 w28 =>
Ap 109 1 16 (.nilIface) v19 x27 w28 fun x29 w30 =>
C18 [x29] w30) (
R (.returned v19) w17)
theorem o_syntax_Parse {R : KR} {a0 : Value} {w : World} (h : s_syntax_Parse R a0 w) : Calls P n_syntax_Parse #[a0] w R := calls_of_fnB (fn := Tryz.f31) (keep := [4]) (args := [a0]) Tryz.func31 rfl (ofE (by kernel_rfl) h)
abbrev n_syntax_parser_next : FuncId := 46
def s_syntax_parser_next (R : KR) (a0 : Value) (w : World) : Prop :=
Nk a0 fun x1 =>
Fa x1 0 fun x2 =>
Ld x2 w fun x3 =>
Cl P 72 #[x3] w (pE R) fun x4 w5 =>
Nk a0 fun x6 =>
Fa x6 1 fun x7 =>
StN x7 x4 4 w5 fun w8 =>
R (.returned (.tuple #[])) w8
theorem o_syntax_parser_next {R : KR} {a0 : Value} {w : World} (h : s_syntax_parser_next R a0 w) : Calls P n_syntax_parser_next #[a0] w R := calls_of_fnB (fn := Tryz.f46) (keep := []) (args := [a0]) Tryz.func46 rfl (ofE (by kernel_rfl) h)
abbrev n_syntax_parser_definition : FuncId := 47
def s_syntax_parser_definition (R : KR) (a0 : Value) (w : World) : Prop :=
Nk a0 fun x1 =>
Fa x1 1 fun x2 =>
LdN x2 4 w fun x3 =>
Cl P 73 #[x3, (.string ⟨#[99, 111, 110, 115, 116]⟩)] w (pE R) fun x4 w5 =>
If x4 (
Cl P 74 #[a0] w5 (pE R) fun x6 w7 =>
R (.returned x6) w7) (
Nk a0 fun x8 =>
Fa x8 1 fun x9 =>
LdN x9 4 w5 fun x10 =>
Cl P 73 #[x10, (.string ⟨#[112, 114, 111, 103, 114, 97, 109]⟩)] w5 (pE R) fun x11 w12 =>
If x11 (
Cl P 75 #[a0] w12 (pE R) fun x13 w14 =>
R (.returned x13) w14) (
Jn (fun J15 =>
Nk a0 fun x16 =>
Fa x16 1 fun x17 =>
LdN x17 4 w12 fun x18 =>
Cl P 73 #[x18, (.string ⟨#[116, 121, 112, 101, 100, 101, 102]⟩)] w12 (pE R) fun x19 w20 =>
If x19 (
J15 [(.func (.func 76) #[a0] #[])] w20) (
Nk a0 fun x21 =>
Fa x21 1 fun x22 =>
LdN x22 4 w20 fun x23 =>
Cl P 73 #[x23, (.string ⟨#[101, 110, 117, 109]⟩)] w20 (pE R) fun x24 w25 =>
If x24 (
J15 [(.func (.func 77) #[a0] #[])] w25) (
Nk a0 fun x26 =>
Fa x26 1 fun x27 =>
LdN x27 4 w25 fun x28 =>
Cl P 73 #[x28, (.string ⟨#[115, 116, 114, 117, 99, 116]⟩)] w25 (pE R) fun x29 w30 =>
If x29 (
J15 [(.func (.func 78) #[a0] #[])] w30) (
Nk a0 fun x31 =>
Fa x31 1 fun x32 =>
LdN x32 4 w30 fun x33 =>
Cl P 73 #[x33, (.string ⟨#[117, 110, 105, 111, 110]⟩)] w30 (pE R) fun x34 w35 =>
If x34 (
J15 [(.func (.func 79) #[a0] #[])] w35) (
Cl P 80 #[a0] w35 (pE R) fun x36 w37 =>
J15 [.nilFunc] w37))))) fun jk40 vals w39 =>
V1 vals fun v38 =>
Nk a0 fun x41 =>
Fa x41 9 fun x42 =>
IaA 3 1 x42 (.int .i64 0) fun x43 =>
Ld x43 w39 fun x44 =>
Cl P 81 #[a0, x44, (.int .i64 24)] w39 (pE R) fun x45 w46 =>
Nk a0 fun x47 =>
Fa x47 9 fun x48 =>
IaA 3 1 x48 (.int .i64 0) fun x49 =>
Ld x49 w46.drew fun x50 =>
Bi .add x50 (.int .i64 1) fun x51 =>
Nk a0 fun x52 =>
Fa x52 9 fun x53 =>
IaA 3 1 x53 (.int .i64 0) fun x54 =>
St x54 x51 w46.drew fun w55 =>
CallV P v38 #[] w55 (pE R) fun x56 w57 =>
R (.returned x56) w57))
theorem o_syntax_parser_definition {R : KR} {a0 : Value} {w : World} (h : s_syntax_parser_definition R a0 w) : Calls P n_syntax_parser_definition #[a0] w R := calls_of_fnB (fn := Tryz.f47) (keep := [3]) (args := [a0]) Tryz.func47 rfl (ofE (by kernel_rfl) h)
abbrev n_syntax_parser_constant : FuncId := 74
def s_syntax_parser_constant (R : KR) (a0 : Value) (w : World) : Prop :=
Nk a0 fun x1 =>
Fa x1 9 fun x2 =>
IaA 3 1 x2 (.int .i64 1) fun x3 =>
Ld x3 w fun x4 =>
Cl P 81 #[a0, x4, (.int .i64 40)] w (pE R) fun x5 w6 =>
BuS 9 1 [(.string ⟨#[99, 111, 110, 115, 116]⟩)] w6 fun x7 w8 =>
Cl P 114 #[a0, x7] w8 (pE R) fun x9 w10 =>
Cl P 115 #[a0] w10 (pE R) fun x11 w12 =>
Nw 194 (.agg #[.string ⟨#[]⟩, .int .i64 0]) w12 fun x13 w14 =>
StN x13 x11 2 w14 fun w15 =>
BuS 9 1 [(.string ⟨#[61]⟩)] w15 fun x16 w17 =>
Cl P 114 #[a0, x16] w17 (pE R) fun x18 w19 =>
Cl P 116 #[a0, (.int .i64 (-2147483648)), (.int .i64 4294967295), .nilFunc] w19 (pE R) fun x20 w21 =>
BuS 9 1 [(.string ⟨#[59]⟩)] w21 fun x22 w23 =>
Cl P 114 #[a0, x22] w23 (pE R) fun x24 w25 =>
Nk a0 fun x26 =>
Fa x26 9 fun x27 =>
IaA 3 1 x27 (.int .i64 1) fun x28 =>
Ld x28 w25.drew fun x29 =>
Bi .add x29 (.int .i64 1) fun x30 =>
Nk a0 fun x31 =>
Fa x31 9 fun x32 =>
IaA 3 1 x32 (.int .i64 1) fun x33 =>
St x33 x30 w25.drew fun w34 =>
Nk a0 fun x35 =>
Fa x35 6 fun x36 =>
Ld x36 w34.drew fun x37 =>
Fa x13 0 fun x38 =>
Ld x38 w34.drew fun x39 =>
Mu .string x37 x39 x20 w34.drew fun w40 =>
LdN x13 2 w40 fun x41 =>
Bu (.agg #[.string ⟨#[]⟩, .int .i64 0, .int .i64 0]) [(0, 2, x41), (2, 1, x20)] fun x42 =>
Nw 286 x42 w40 fun x43 w44 =>
R (.returned (.iface 284 x43)) w44
theorem o_syntax_parser_constant {R : KR} {a0 : Value} {w : World} (h : s_syntax_parser_constant R a0 w) : Calls P n_syntax_parser_constant #[a0] w R := calls_of_fnB (fn := Tryz.f74) (keep := []) (args := [a0]) Tryz.func74 rfl (ofE (by kernel_rfl) h)
abbrev n_syntax_parser_program : FuncId := 75
def s_syntax_parser_program (R : KR) (a0 : Value) (w : World) : Prop :=
Nk a0 fun x1 =>
Fa x1 9 fun x2 =>
IaA 3 1 x2 (.int .i64 2) fun x3 =>
Ld x3 w fun x4 =>
Cl P 81 #[a0, x4, (.int .i64 4)] w (pE R) fun x5 w6 =>
Nk a0 fun x7 =>
Fa x7 9 fun x8 =>
IaA 3 1 x8 (.int .i64 2) fun x9 =>
Ld x9 w6.drew fun x10 =>
Bi .add x10 (.int .i64 1) fun x11 =>
Nk a0 fun x12 =>
Fa x12 9 fun x13 =>
IaA 3 1 x13 (.int .i64 2) fun x14 =>
St x14 x11 w6.drew fun w15 =>
BuS 9 1 [(.string ⟨#[112, 114, 111, 103, 114, 97, 109]⟩)] w15 fun x16 w17 =>
Cl P 114 #[a0, x16] w17 (pE R) fun x18 w19 =>
Cl P 115 #[a0] w19 (pE R) fun x20 w21 =>
Bu (.agg #[.string ⟨#[]⟩, .int .i64 0, .int .u32 0, .slice none 0 0]) [(0, 2, x20)] fun x22 =>
Nw 197 x22 w21 fun x23 w24 =>
BuS 9 1 [(.string ⟨#[123]⟩)] w24 fun x25 w26 =>
Cl P 114 #[a0, x25] w26 (pE R) fun x27 w28 =>
Mm w28 fun x29 w30 =>
Mm w30 fun x31 w32 =>
Lp [] w32 fun jk33 vals w34 C35 =>
Nk x23 fun x36 =>
Fa x36 3 fun x37 =>
Ld x37 w34 fun x38 =>
Ln false x38 fun x39 =>
Cl P 81 #[a0, x39, (.int .i64 4)] w34 (pE R) fun x40 w41 =>
Nk x23 fun x42 =>
Fa x42 3 fun x43 =>
Ld x43 w41.drew fun x44 =>
Cl P 117 #[a0, x29, x31] w41.drew (pE R) fun x45 w46 =>
(Ld x43 w46 fun x47 => x47 = x44) ∧
BuS 200 3 [x45] w46 fun x48 w49 =>
(Ld x43 w49 fun x50 => x50 = x44) ∧
Ap 200 3 48 (.agg #[.string ⟨#[]⟩, .int .u32 0, .slice none 0 0]) x44 x48 w49 fun x51 w52 =>
Nk x23 fun x53 =>
Fa x53 3 fun x54 =>
St x54 x51 w52 fun w55 =>
Cl P 118 #[a0, (.string ⟨#[125]⟩)] w55 (pE R) fun x56 w57 =>
If x56 (
Nk a0 fun x58 =>
Fa x58 8 fun x59 =>
Ld x59 w57 fun x60 =>
Cl P 119 #[a0, x60] w57 (pE R) fun x61 w62 =>
Nk x23 fun x63 =>
Fa x63 2 fun x64 =>
St x64 x61 w62 fun w65 =>
R (.returned (.iface 124 x23)) w65) (
C35 [] w57)
theorem o_syntax_parser_program {R : KR} {a0 : Value} {w : World} (h : s_syntax_parser_program R a0 w) : Calls P n_syntax_parser_program #[a0] w R := calls_of_fnB (fn := Tryz.f75) (keep := []) (args := [a0]) Tryz.func75 rfl (ofE (by kernel_rfl) h)
abbrev n_syntax_parser_alias : FuncId := 76
def s_syntax_parser_alias (R : KR) (a0 : Value) (w : World) : Prop :=
BuS 9 1 [(.string ⟨#[116, 121, 112, 101, 100, 101, 102]⟩)] w fun x1 w2 =>
Cl P 114 #[a0, x1] w2 (pE R) fun x3 w4 =>
Nk a0 fun x5 =>
Fa x5 5 fun x6 =>
Ld x6 w4 fun x7 =>
Cl P 120 #[a0, x7] w4 (pE R) fun x8 w9 =>
Ex x8 0 fun x10 =>
Ex x8 1 fun x11 =>
Nw 223 (.agg #[.string ⟨#[]⟩, .nilIface]) w9 fun x12 w13 =>
Nw 104 (.agg #[.int .i64 0, .string ⟨#[]⟩, .int .i64 0, .int .i64 0]) w13 fun x14 w15 =>
StN x12 x10 2 w15 fun w16 =>
StN x14 x11 4 w16 fun w17 =>
BuS 9 1 [(.string ⟨#[59]⟩)] w17 fun x18 w19 =>
Cl P 114 #[a0, x18] w19 (pE R) fun x20 w21 =>
Fa x14 1 fun x22 =>
Ld x22 w21 fun x23 =>
Fa x14 2 fun x24 =>
Ld x24 w21 fun x25 =>
Bu (.agg #[.string ⟨#[]⟩, .int .i64 0]) [(0, 1, x23), (1, 1, x25)] fun x26 =>
Fa x12 1 fun x27 =>
Ld x27 w21 fun x28 =>
Bu (.agg #[.string ⟨#[]⟩, .int .i64 0, .nilIface]) [(0, 2, x26), (2, 1, x28)] fun x29 =>
Nw 212 x29 w21 fun x30 w31 =>
R (.returned (.iface 209 x30)) w31
theorem o_syntax_parser_alias {R : KR} {a0 : Value} {w : World} (h : s_syntax_parser_alias R a0 w) : Calls P n_syntax_parser_alias #[a0] w R := calls_of_fnB (fn := Tryz.f76) (keep := []) (args := [a0]) Tryz.func76 rfl (ofE (by kernel_rfl) h)
abbrev n_syntax_parser_enum : FuncId := 77
def s_syntax_parser_enum (R : KR) (a0 : Value) (w : World) : Prop :=
BuS 9 1 [(.string ⟨#[101, 110, 117, 109]⟩)] w fun x1 w2 =>
Cl P 114 #[a0, x1] w2 (pE R) fun x3 w4 =>
Cl P 115 #[a0] w4 (pE R) fun x5 w6 =>
Bu (.agg #[.string ⟨#[]⟩, .int .i64 0, .slice none 0 0, .slice none 0 0]) [(0, 2, x5)] fun x7 =>
Nw 217 x7 w6 fun x8 w9 =>
BuS 9 1 [(.string ⟨#[123]⟩)] w9 fun x10 w11 =>
Cl P 114 #[a0, x10] w11 (pE R) fun x12 w13 =>
Mm w13 fun x14 w15 =>
Lp [] w15 fun jk16 vals w17 C18 =>
Nk x8 fun x19 =>
Fa x19 2 fun x20 =>
Ld x20 w17 fun x21 =>
Ln false x21 fun x22 =>
Cl P 81 #[a0, x22, (.int .i64 12)] w17 (pE R) fun x23 w24 =>
Nk a0 fun x25 =>
Fa x25 9 fun x26 =>
IaA 3 1 x26 (.int .i64 1) fun x27 =>
Ld x27 w24 fun x28 =>
Cl P 81 #[a0, x28, (.int .i64 40)] w24 (pE R) fun x29 w30 =>
Cl P 115 #[a0] w30 (pE R) fun x31 w32 =>
Nw 194 (.agg #[.string ⟨#[]⟩, .int .i64 0]) w32 fun x33 w34 =>
StN x33 x31 2 w34 fun w35 =>
BuS 9 1 [(.string ⟨#[61]⟩)] w35 fun x36 w37 =>
Cl P 114 #[a0, x36] w37 (pE R) fun x38 w39 =>
Cl P 116 #[a0, (.int .i64 (-2147483648)), (.int .i64 2147483647), (.func (.func 121) #[x14] #[])] w39 (pE R) fun x40 w41 =>
Nk a0 fun x42 =>
Fa x42 9 fun x43 =>
IaA 3 1 x43 (.int .i64 1) fun x44 =>
Ld x44 w41.drew fun x45 =>
Bi .add x45 (.int .i64 1) fun x46 =>
Nk a0 fun x47 =>
Fa x47 9 fun x48 =>
IaA 3 1 x48 (.int .i64 1) fun x49 =>
St x49 x46 w41.drew fun w50 =>
Nk a0 fun x51 =>
Fa x51 6 fun x52 =>
Ld x52 w50.drew fun x53 =>
Fa x33 0 fun x54 =>
Ld x54 w50.drew fun x55 =>
Mu .string x53 x55 x40 w50.drew fun w56 =>
Nk x8 fun x57 =>
Fa x57 2 fun x58 =>
Ld x58 w56.drew fun x59 =>
Fa x33 0 fun x60 =>
Ld x60 w56.drew fun x61 =>
BuS 9 1 [x61] w56.drew fun x62 w63 =>
(Ld x58 w63 fun x64 => x64 = x59) ∧
Ap 9 1 16 (.string ⟨#[]⟩) x59 x62 w63 fun x65 w66 =>
Nk x8 fun x67 =>
Fa x67 2 fun x68 =>
St x68 x65 w66 fun w69 =>
Nk x8 fun x70 =>
Fa x70 3 fun x71 =>
Ld x71 w69 fun x72 =>
BuS 2 1 [x40] w69 fun x73 w74 =>
Ap 2 1 8 (.int .i64 0) x72 x73 w74 fun x75 w76 =>
Nk x8 fun x77 =>
Fa x77 3 fun x78 =>
St x78 x75 w76 fun w79 =>
Cl P 118 #[a0, (.string ⟨#[44]⟩)] w79 (pE R) fun x80 w81 =>
Nt x80 fun x82 =>
If x82 (
BuS 9 1 [(.string ⟨#[125]⟩), (.string ⟨#[59]⟩)] w81 fun x83 w84 =>
Cl P 114 #[a0, x83] w84 (pE R) fun x85 w86 =>
Nk a0 fun x87 =>
Fa x87 7 fun x88 =>
Ld x88 w86.drew fun x89 =>
Nk x8 fun x90 =>
Fa x90 0 fun x91 =>
Fa x91 0 fun x92 =>
Ld x92 w86.drew fun x93 =>
Mu .string x89 x93 x8 w86.drew fun w94 =>
R (.returned (.iface 213 x8)) w94) (
C18 [] w81)
theorem o_syntax_parser_enum {R : KR} {a0 : Value} {w : World} (h : s_syntax_parser_enum R a0 w) : Calls P n_syntax_parser_enum #[a0] w R := calls_of_fnB (fn := Tryz.f77) (keep := []) (args := [a0]) Tryz.func77 rfl (ofE (by kernel_rfl) h)
abbrev n_syntax_parser_structure : FuncId := 78
def s_syntax_parser_structure (R : KR) (a0 : Value) (w : World) : Prop :=
BuS 9 1 [(.string ⟨#[115, 116, 114, 117, 99, 116]⟩)] w fun x1 w2 =>
Cl P 114 #[a0, x1] w2 (pE R) fun x3 w4 =>
Cl P 115 #[a0] w4 (pE R) fun x5 w6 =>
Bu (.agg #[.string ⟨#[]⟩, .int .i64 0, .slice none 0 0]) [(0, 2, x5)] fun x7 =>
Nw 221 x7 w6 fun x8 w9 =>
BuS 9 1 [(.string ⟨#[123]⟩)] w9 fun x10 w11 =>
Cl P 114 #[a0, x10] w11 (pE R) fun x12 w13 =>
Mm w13 fun x14 w15 =>
Lp [] w15 fun jk16 vals w17 C18 =>
Nk x8 fun x19 =>
Fa x19 2 fun x20 =>
Ld x20 w17 fun x21 =>
Ln false x21 fun x22 =>
Cl P 81 #[a0, x22, (.int .i64 12)] w17 (pE R) fun x23 w24 =>
Nk x8 fun x25 =>
Fa x25 2 fun x26 =>
Ld x26 w24.drew fun x27 =>
Cl P 122 #[a0, x14] w24.drew (pE R) fun x28 w29 =>
(Ld x26 w29 fun x30 => x30 = x27) ∧
BuS 223 2 [x28] w29 fun x31 w32 =>
(Ld x26 w32 fun x33 => x33 = x27) ∧
Ap 223 2 32 (.agg #[.string ⟨#[]⟩, .nilIface]) x27 x31 w32 fun x34 w35 =>
Nk x8 fun x36 =>
Fa x36 2 fun x37 =>
St x37 x34 w35 fun w38 =>
Cl P 118 #[a0, (.string ⟨#[125]⟩)] w38 (pE R) fun x39 w40 =>
If x39 (
BuS 9 1 [(.string ⟨#[59]⟩)] w40 fun x41 w42 =>
Cl P 114 #[a0, x41] w42 (pE R) fun x43 w44 =>
R (.returned (.iface 218 x8)) w44) (
C18 [] w40)
theorem o_syntax_parser_structure {R : KR} {a0 : Value} {w : World} (h : s_syntax_parser_structure R a0 w) : Calls P n_syntax_parser_structure #[a0] w R := calls_of_fnB (fn := Tryz.f78) (keep := []) (args := [a0]) Tryz.func78 rfl (ofE (by kernel_rfl) h)
abbrev n_syntax_parser_union : FuncId := 79
def s_syntax_parser_union (R : KR) (a0 : Value) (w : World) : Prop :=
BuS 9 1 [(.string ⟨#[117, 110, 105, 111, 110]⟩)] w fun x1 w2 =>
Cl P 114 #[a0, x1] w2 (pE R) fun x3 w4 =>
Cl P 115 #[a0] w4 (pE R) fun x5 w6 =>
Bu (.agg #[.string ⟨#[]⟩, .int .i64 0, .nilIface, .string ⟨#[]⟩, .slice none 0 0, .pointer none]) [(0, 2, x5)] fun x7 =>
Nw 235 x7 w6 fun x8 w9 =>
BuS 9 1 [(.string ⟨#[115, 119, 105, 116, 99, 104]⟩), (.string ⟨#[40]⟩)] w9 fun x10 w11 =>
Cl P 114 #[a0, x10] w11 (pE R) fun x12 w13 =>
Cl P 123 #[a0] w13 (pE R) fun x14 w15 =>
Ex x14 0 fun x16 =>
Ex x14 1 fun x17 =>
Ex x14 2 fun x18 =>
Ex x14 3 fun x19 =>
Nw 215 (.slice none 0 0) w15 fun x20 w21 =>
St x20 x19 w21 fun w22 =>
Mm w22 fun x23 w24 =>
Nk x8 fun x25 =>
Fa x25 2 fun x26 =>
St x26 x16 w24 fun w27 =>
Cl P 124 #[a0, x23] w27 (pE R) fun x28 w29 =>
Nk x8 fun x30 =>
Fa x30 3 fun x31 =>
St x31 x28 w29 fun w32 =>
BuS 9 1 [(.string ⟨#[41]⟩), (.string ⟨#[123]⟩)] w32 fun x33 w34 =>
Cl P 114 #[a0, x33] w34 (pE R) fun x35 w36 =>
Mm w36 fun x37 w38 =>
Nw 292 (.map none) w38 fun x39 w40 =>
St x39 x37 w40 fun w41 =>
Lp [(.bool true), undef] w41 fun jk42 vals w43 C44 =>
V2 vals fun v45 v46 =>
Gd v45 false w43 (fun K47 => K47 a0 w43) fun x48 w49 =>
Gd v45 false w49 (fun K50 => Nk x48 fun x51 => K50 x51 w49) fun x52 w53 =>
Gd v45 false w53 (fun K54 => Fa x52 1 fun x55 => K54 x55 w53) fun x56 w57 =>
Gd v45 false w57 (fun K58 => LdN x56 4 w57 fun x59 => K58 x59 w57) fun x60 w61 =>
Gd v45 false w61 (fun K62 => Cl P 73 #[x60, (.string ⟨#[99, 97, 115, 101]⟩)] w61 (pE R) fun x63 w64 => K62 x63 w64) fun x65 w66 =>
Pk v45 (.bool true) x65 fun x67 =>
If x67 (
Nw 237 (.agg #[.slice none 0 0, .string ⟨#[]⟩, .nilIface]) w66 fun x68 w69 =>
Lp [(.bool true)] w69 fun jk70 vals w71 C72 =>
V1 vals fun v73 =>
If v73 (
Ld x39 w71 fun x74 =>
RunV P (Builtin.len_ #[292] 3 #[x74]) w71 fun x75 w76 =>
Cl P 81 #[a0, x75, (.int .i64 12)] w76 (pE R) fun x77 w78 =>
BuS 9 1 [(.string ⟨#[99, 97, 115, 101]⟩)] w78 fun x79 w80 =>
Cl P 114 #[a0, x79] w80 (pE R) fun x81 w82 =>
Cl P 116 #[a0, x17, x18, (.func (.func 125) #[] #[x20, x39])] w82 (pE R) fun x83 w84 =>
Fa x68 0 fun x85 =>
Ld x85 w84 fun x86 =>
BuS 2 1 [x83] w84 fun x87 w88 =>
Ap 2 1 8 (.int .i64 0) x86 x87 w88 fun x89 w90 =>
Fa x68 0 fun x91 =>
St x91 x89 w90 fun w92 =>
BuS 9 1 [(.string ⟨#[58]⟩)] w92 fun x93 w94 =>
Cl P 114 #[a0, x93] w94 (pE R) fun x95 w96 =>
Nk a0 fun x97 =>
Fa x97 1 fun x98 =>
LdN x98 4 w96 fun x99 =>
Cl P 73 #[x99, (.string ⟨#[99, 97, 115, 101]⟩)] w96 (pE R) fun x100 w101 =>
C72 [x100] w101) (
Cl P 127 #[a0, x23] w71 (pE R) fun x102 w103 =>
Fa x68 1 fun x104 =>
StN x104 x102 2 w103 fun w105 =>
Nk x8 fun x106 =>
Fa x106 4 fun x107 =>
Ld x107 w105.drew fun x108 =>
LdN x68 3 w105.drew fun x109 =>
BuS 237 3 [x109] w105.drew fun x110 w111 =>
(Ld x107 w111 fun x112 => x112 = x108) ∧
Ap 237 3 56 (.agg #[.slice none 0 0, .string ⟨#[]⟩, .nilIface]) x108 x110 w111 fun x113 w114 =>
Nk x8 fun x115 =>
Fa x115 4 fun x116 =>
St x116 x113 w114 fun w117 =>
C44 [(.bool false), v73] w117)) (
Jn (fun J118 =>
Cl P 118 #[a0, (.string ⟨#[100, 101, 102, 97, 117, 108, 116]⟩)] w66 (pE R) fun x119 w120 =>
If x119 (
BuS 9 1 [(.string ⟨#[58]⟩)] w120 fun x121 w122 =>
Cl P 114 #[a0, x121] w122 (pE R) fun x123 w124 =>
Cl P 127 #[a0, x23] w124 (pE R) fun x125 w126 =>
Nw 223 (.agg #[.string ⟨#[]⟩, .nilIface]) w126 fun x127 w128 =>
StN x127 x125 2 w128 fun w129 =>
Nk x8 fun x130 =>
Fa x130 5 fun x131 =>
St x131 x127 w129 fun w132 =>
J118 [] w132) (
J118 [] w120)) fun jk134 vals w133 =>
BuS 9 1 [(.string ⟨#[125]⟩), (.string ⟨#[59]⟩)] w133 fun x135 w136 =>
Cl P 114 #[a0, x135] w136 (pE R) fun x137 w138 =>
R (.returned (.iface 224 x8)) w138)
theorem o_syntax_parser_union {R : KR} {a0 : Value} {w : World} (h : s_syntax_parser_union R a0 w) : Calls P n_syntax_parser_union #[a0] w R := calls_of_fnB (fn := Tryz.f79) (keep := [10, 12]) (args := [a0]) Tryz.func79 rfl (ofE (by kernel_rfl) h)
abbrev n_syntax_parser_bad : FuncId := 80
def s_syntax_parser_bad (R : KR) (a0 : Value) (w : World) : Prop :=
Nk a0 fun x1 =>
Fa x1 1 fun x2 =>
Fa x2 2 fun x3 =>
Ld x3 w fun x4 =>
Cl P 52 #[(.int .i64 3), x4] w (pE R) fun x5 w6 =>
R (.returned (.tuple #[])) w6
theorem o_syntax_parser_bad {R : KR} {a0 : Value} {w : World} (h : s_syntax_parser_bad R a0 w) : Calls P n_syntax_parser_bad #[a0] w R := calls_of_fnB (fn := Tryz.f80) (keep := []) (args := [a0]) Tryz.func80 rfl (ofE (by kernel_rfl) h)
abbrev n_syntax_parser_count : FuncId := 81
def s_syntax_parser_count (R : KR) (a0 a1 a2 : Value) (w : World) : Prop :=
Bi .geq a1 a2 fun x1 =>
If x1 (
Nk a0 fun x2 =>
Fa x2 1 fun x3 =>
Fa x3 2 fun x4 =>
Ld x4 w fun x5 =>
Cl P 52 #[(.int .i64 5), x5] w (pE R) fun x6 w7 =>
R (.returned (.tuple #[])) w7) (
R (.returned (.tuple #[])) w)
theorem o_syntax_parser_count {R : KR} {a0 a1 a2 : Value} {w : World} (h : s_syntax_parser_count R a0 a1 a2 w) : Calls P n_syntax_parser_count #[a0, a1, a2] w R := calls_of_fnB (fn := Tryz.f81) (keep := []) (args := [a0, a1, a2]) Tryz.func81 rfl (ofE (by kernel_rfl) h)
abbrev n_syntax_parser_want : FuncId := 114
def s_syntax_parser_want (R : KR) (a0 a1 : Value) (w : World) : Prop :=
Ln false a1 fun x1 =>
Lp [(.int .i64 0)] w fun jk2 vals w3 C4 =>
V1 vals fun v5 =>
Bi .lss v5 x1 fun x6 =>
If x6 (
IaS 1 a1 v5 fun x7 =>
Ld x7 w3 fun x8 =>
Jn (fun J9 =>
Nk a0 fun x10 =>
Fa x10 1 fun x11 =>
LdN x11 4 w3 fun x12 =>
Cl P 73 #[x12, x8] w3 (pE R) fun x13 w14 =>
Nt x13 fun x15 =>
If x15 (
Cl P 80 #[a0] w14 (pE R) fun x16 w17 =>
J9 [] w17) (
J9 [] w14)) fun jk19 vals w18 =>
Cl P 46 #[a0] w18 (pE R) fun x20 w21 =>
Bi .add v5 (.int .i64 1) fun x22 =>
C4 [x22] w21) (
R (.returned (.tuple #[])) w3)
theorem o_syntax_parser_want {R : KR} {a0 a1 : Value} {w : World} (h : s_syntax_parser_want R a0 a1 w) : Calls P n_syntax_parser_want #[a0, a1] w R := calls_of_fnB (fn := Tryz.f114) (keep := [8]) (args := [a0, a1]) Tryz.func114 rfl (ofE (by kernel_rfl) h)
abbrev n_syntax_parser_own : FuncId := 115
def s_syntax_parser_own (R : KR) (a0 : Value) (w : World) : Prop :=
Nw 194 (.agg #[.string ⟨#[]⟩, .int .i64 0]) w fun x1 w2 =>
Cl P 158 #[a0] w2 (pE R) fun x3 w4 =>
Nw 104 (.agg #[.int .i64 0, .string ⟨#[]⟩, .int .i64 0, .int .i64 0]) w4 fun x5 w6 =>
StN x5 x3 4 w6 fun w7 =>
Nk a0 fun x8 =>
Fa x8 5 fun x9 =>
Ld x9 w7.drew fun x10 =>
Fa x5 1 fun x11 =>
Ld x11 w7.drew fun x12 =>
Fa x5 2 fun x13 =>
Ld x13 w7.drew fun x14 =>
Cl P 159 #[x10, x12, x14] w7.drew (pE R) fun x15 w16 =>
Cl P 46 #[a0] w16 (pE R) fun x17 w18 =>
Fa x5 1 fun x19 =>
Ld x19 w18 fun x20 =>
Fa x5 2 fun x21 =>
Ld x21 w18 fun x22 =>
Bu (.agg #[.string ⟨#[]⟩, .int .i64 0]) [(0, 1, x20), (1, 1, x22)] fun x23 =>
StN x1 x23 2 w18 fun w24 =>
LdN x1 2 w24 fun x25 =>
R (.returned x25) w24
theorem o_syntax_parser_own {R : KR} {a0 : Value} {w : World} (h : s_syntax_parser_own R a0 w) : Calls P n_syntax_parser_own #[a0] w R := calls_of_fnB (fn := Tryz.f115) (keep := []) (args := [a0]) Tryz.func115 rfl (ofE (by kernel_rfl) h)
abbrev n_syntax_parser_value : FuncId := 116
def s_syntax_parser_value (R : KR) (a0 a1 a2 a3 : Value) (w : World) : Prop :=
Nk a0 fun x1 =>
Fa x1 1 fun x2 =>
LdN x2 4 w fun x3 =>
Nw 104 (.agg #[.int .i64 0, .string ⟨#[]⟩, .int .i64 0, .int .i64 0]) w fun x4 w5 =>
StN x4 x3 4 w5 fun w6 =>
Jn (fun J7 =>
Fa x4 0 fun x8 =>
Ld x8 w6 fun x9 =>
Bi .eql x9 (.int .i64 3) fun x10 =>
If x10 (
Fa x4 3 fun x11 =>
Ld x11 w6 fun x12 =>
J7 [x12] w6) (
LdN x4 4 w6 fun x13 =>
Cl P 73 #[x13, (.string ⟨#[84, 82, 85, 69]⟩)] w6 (pE R) fun x14 w15 =>
If x14 (
J7 [(.int .i64 1)] w15) (
LdN x4 4 w15 fun x16 =>
Cl P 73 #[x16, (.string ⟨#[70, 65, 76, 83, 69]⟩)] w15 (pE R) fun x17 w18 =>
If x17 (
J7 [(.int .i64 0)] w18) (
Fa x4 0 fun x19 =>
Ld x19 w18 fun x20 =>
Bi .eql x20 (.int .i64 1) fun x21 =>
If x21 (
Nk a0 fun x22 =>
Fa x22 6 fun x23 =>
Ld x23 w18.drew fun x24 =>
Fa x4 1 fun x25 =>
Ld x25 w18.drew fun x26 =>
Lk .string (.int .i64 0) x24 x26 true w18.drew fun x27 =>
Ex x27 0 fun x28 =>
Ex x27 1 fun x29 =>
Jn (fun J30 =>
Nt x29 fun x31 =>
If x31 (
Fa x4 2 fun x32 =>
Ld x32 w18.drew fun x33 =>
Cl P 52 #[(.int .i64 7), x33] w18.drew (pE R) fun x34 w35 =>
J30 [] w35) (
J30 [] w18.drew)) fun jk37 vals w36 =>
J7 [x28] w36) (
Cl P 80 #[a0] w18 (pE R) fun x38 w39 =>
J7 [(.int .i64 0)] w39))))) fun jk42 vals w41 =>
V1 vals fun v40 =>
Jn (fun J43 =>
Bi .lss v40 a1 fun x44 =>
Gd x44 false w41 (fun K45 => K45 v40 w41) fun x46 w47 =>
Gd x44 false w47 (fun K48 => K48 a2 w47) fun x49 w50 =>
Gd x44 false w50 (fun K51 => Bi .gtr x46 x49 fun x52 => K51 x52 w50) fun x53 w54 =>
Pk x44 (.bool true) x53 fun x55 =>
If x55 (
Fa x4 2 fun x56 =>
Ld x56 w54 fun x57 =>
Cl P 52 #[(.int .i64 8), x57] w54 (pE R) fun x58 w59 =>
J43 [] w59) (
J43 [] w54)) fun jk61 vals w60 =>
Jn (fun J62 =>
En .fn true a3 fun x63 =>
If x63 (
Fa x4 2 fun x64 =>
Ld x64 w60 fun x65 =>
CallV P a3 #[v40, x65] w60 (pE R) fun x66 w67 =>
J62 [] w67) (
J62 [] w60)) fun jk69 vals w68 =>
Cl P 46 #[a0] w68 (pE R) fun x70 w71 =>
R (.returned v40) w71
theorem o_syntax_parser_value {R : KR} {a0 a1 a2 a3 : Value} {w : World} (h : s_syntax_parser_value R a0 a1 a2 a3 w) : Calls P n_syntax_parser_value #[a0, a1, a2, a3] w R := calls_of_fnB (fn := Tryz.f116) (keep := [10]) (args := [a0, a1, a2, a3]) Tryz.func116 rfl (ofE (by kernel_rfl) h)
abbrev n_syntax_parser_version : FuncId := 117
def s_syntax_parser_version (R : KR) (a0 a1 a2 : Value) (w : World) : Prop :=
Nw 200 (.agg #[.string ⟨#[]⟩, .int .u32 0, .slice none 0 0]) w fun x1 w2 =>
BuS 9 1 [(.string ⟨#[118, 101, 114, 115, 105, 111, 110]⟩)] w2 fun x3 w4 =>
Cl P 114 #[a0, x3] w4 (pE R) fun x5 w6 =>
Cl P 124 #[a0, a1] w6 (pE R) fun x7 w8 =>
Bu (.agg #[.string ⟨#[]⟩, .int .u32 0, .slice none 0 0]) [(0, 1, x7)] fun x9 =>
Nw 200 (.agg #[.string ⟨#[]⟩, .int .u32 0, .slice none 0 0]) w8 fun x10 w11 =>
StN x10 x9 3 w11 fun w12 =>
BuS 9 1 [(.string ⟨#[123]⟩)] w12 fun x13 w14 =>
Cl P 114 #[a0, x13] w14 (pE R) fun x15 w16 =>
Mm w16 fun x17 w18 =>
Mm w18 fun x19 w20 =>
Lp [] w20 fun jk21 vals w22 C23 =>
Fa x10 2 fun x24 =>
Ld x24 w22 fun x25 =>
Ln false x25 fun x26 =>
Cl P 81 #[a0, x26, (.int .i64 8)] w22 (pE R) fun x27 w28 =>
Cl P 160 #[a0] w28 (pE R) fun x29 w30 =>
Bu (.agg #[.string ⟨#[]⟩, .int .u32 0, .nilIface, .nilIface]) [(3, 1, x29)] fun x31 =>
Nw 205 (.agg #[.string ⟨#[]⟩, .int .u32 0, .nilIface, .nilIface]) w30 fun x32 w33 =>
StN x32 x31 4 w33 fun w34 =>
Cl P 124 #[a0, x17] w34 (pE R) fun x35 w36 =>
Fa x32 0 fun x37 =>
St x37 x35 w36 fun w38 =>
BuS 9 1 [(.string ⟨#[40]⟩)] w38 fun x39 w40 =>
Cl P 114 #[a0, x39] w40 (pE R) fun x41 w42 =>
Cl P 160 #[a0] w42 (pE R) fun x43 w44 =>
Fa x32 2 fun x45 =>
St x45 x43 w44 fun w46 =>
BuS 9 1 [(.string ⟨#[41]⟩)] w46 fun x47 w48 =>
Cl P 114 #[a0, x47] w48 (pE R) fun x49 w50 =>
Cl P 119 #[a0, x19] w50 (pE R) fun x51 w52 =>
Fa x32 1 fun x53 =>
St x53 x51 w52 fun w54 =>
Fa x10 2 fun x55 =>
Ld x55 w54 fun x56 =>
LdN x32 4 w54 fun x57 =>
BuS 205 4 [x57] w54 fun x58 w59 =>
Ap 205 4 56 (.agg #[.string ⟨#[]⟩, .int .u32 0, .nilIface, .nilIface]) x56 x58 w59 fun x60 w61 =>
Fa x10 2 fun x62 =>
St x62 x60 w61 fun w63 =>
Cl P 118 #[a0, (.string ⟨#[125]⟩)] w63 (pE R) fun x64 w65 =>
If x64 (
Cl P 119 #[a0, a2] w65 (pE R) fun x66 w67 =>
Fa x10 1 fun x68 =>
St x68 x66 w67 fun w69 =>
LdN x10 3 w69 fun x70 =>
StN x1 x70 3 w69 fun w71 =>
LdN x1 3 w71 fun x72 =>
R (.returned x72) w71) (
C23 [] w65)
theorem o_syntax_parser_version {R : KR} {a0 a1 a2 : Value} {w : World} (h : s_syntax_parser_version R a0 a1 a2 w) : Calls P n_syntax_parser_version #[a0, a1, a2] w R := calls_of_fnB (fn := Tryz.f117) (keep := []) (args := [a0, a1, a2]) Tryz.func117 rfl (ofE (by kernel_rfl) h)
abbrev n_syntax_parser_take : FuncId := 118
def s_syntax_parser_take (R : KR) (a0 a1 : Value) (w : World) : Prop :=
Nk a0 fun x1 =>
Fa x1 1 fun x2 =>
LdN x2 4 w fun x3 =>
Cl P 73 #[x3, a1] w (pE R) fun x4 w5 =>
If x4 (
Cl P 46 #[a0] w5 (pE R) fun x6 w7 =>
R (.returned (.bool true)) w7) (
R (.returned (.bool false)) w5)
theorem o_syntax_parser_take {R : KR} {a0 a1 : Value} {w : World} (h : s_syntax_parser_take R a0 a1 w) : Calls P n_syntax_parser_take #[a0, a1] w R := calls_of_fnB (fn := Tryz.f118) (keep := []) (args := [a0, a1]) Tryz.func118 rfl (ofE (by kernel_rfl) h)
abbrev n_syntax_parser_numbered : FuncId := 119
def s_syntax_parser_numbered (R : KR) (a0 a1 : Value) (w : World) : Prop :=
Nw 101 a1 w fun x1 w2 =>
BuS 9 1 [(.string ⟨#[61]⟩)] w2 fun x3 w4 =>
Cl P 114 #[a0, x3] w4 (pE R) fun x5 w6 =>
Cl P 116 #[a0, (.int .i64 0), (.int .i64 4294967295), (.func (.func 161) #[] #[x1])] w6 (pE R) fun x7 w8 =>
BuS 9 1 [(.string ⟨#[59]⟩)] w8 fun x9 w10 =>
Cl P 114 #[a0, x9] w10 (pE R) fun x11 w12 =>
Cv .u32 x7 fun x13 =>
R (.returned x13) w12
theorem o_syntax_parser_numbered {R : KR} {a0 a1 : Value} {w : World} (h : s_syntax_parser_numbered R a0 a1 w) : Calls P n_syntax_parser_numbered #[a0, a1] w R := calls_of_fnB (fn := Tryz.f119) (keep := []) (args := [a0, a1]) Tryz.func119 rfl (ofE (by kernel_rfl) h)
abbrev n_syntax_parser_decl : FuncId := 120
def s_syntax_parser_decl (R : KR) (a0 a1 : Value) (w : World) : Prop :=
Nw 223 (.agg #[.string ⟨#[]⟩, .nilIface]) w fun x1 w2 =>
Nw 104 (.agg #[.int .i64 0, .string ⟨#[]⟩, .int .i64 0, .int .i64 0]) w2 fun x3 w4 =>
Nk a0 fun x5 =>
Fa x5 1 fun x6 =>
LdN x6 4 w4 fun x7 =>
Cl P 73 #[x7, (.string ⟨#[115, 116, 114, 105, 110, 103]⟩)] w4 (pE R) fun x8 w9 =>
Gd x8 false w9 (fun K10 => K10 a0 w9) fun x11 w12 =>
Gd x8 false w12 (fun K13 => Nk x11 fun x14 => K13 x14 w12) fun x15 w16 =>
Gd x8 false w16 (fun K17 => Fa x15 1 fun x18 => K17 x18 w16) fun x19 w20 =>
Gd x8 false w20 (fun K21 => LdN x19 4 w20 fun x22 => K21 x22 w20) fun x23 w24 =>
Gd x8 false w24 (fun K25 => Cl P 73 #[x23, (.string ⟨#[111, 112, 97, 113, 117, 101]⟩)] w24 (pE R) fun x26 w27 => K25 x26 w27) fun x28 w29 =>
Pk x8 (.bool true) x28 fun x30 =>
If x30 (
Cl P 46 #[a0] w29 (pE R) fun x31 w32 =>
Cl P 163 #[a0, a1] w32 (pE R) fun x33 w34 =>
Nw 104 (.agg #[.int .i64 0, .string ⟨#[]⟩, .int .i64 0, .int .i64 0]) w34 fun x35 w36 =>
StN x35 x33 4 w36 fun w37 =>
Jn (fun J38 =>
Gd x8 true w37 (fun K39 => K39 a0 w37) fun x40 w41 =>
Gd x8 true w41 (fun K42 => Nk x40 fun x43 => K42 x43 w41) fun x44 w45 =>
Gd x8 true w45 (fun K46 => Fa x44 1 fun x47 => K46 x47 w45) fun x48 w49 =>
Gd x8 true w49 (fun K50 => LdN x48 4 w49 fun x51 => K50 x51 w49) fun x52 w53 =>
Gd x8 true w53 (fun K54 => Cl P 73 #[x52, (.string ⟨#[60]⟩)] w53 (pE R) fun x55 w56 => K54 x55 w56) fun x57 w58 =>
Gd x8 true w58 (fun K59 => Nt x57 fun x60 => K59 x60 w58) fun x61 w62 =>
Pk x8 x61 (.bool false) fun x63 =>
If x63 (
Cl P 80 #[a0] w62 (pE R) fun x64 w65 =>
J38 [] w65) (
J38 [] w62)) fun jk67 vals w66 =>
Cl P 164 #[a0] w66 (pE R) fun x68 w69 =>
Ex x68 0 fun x70 =>
Ex x68 1 fun x71 =>
Fa x35 1 fun x72 =>
Ld x72 w69.drew fun x73 =>
Bu (.agg #[.bool false, .bool false, .int .i64 0]) [(0, 1, x8), (1, 1, x70), (2, 1, x71)] fun x74 =>
Bu (.agg #[.string ⟨#[]⟩, .nilIface]) [(0, 1, x73), (1, 1, (.iface 306 x74))] fun x75 =>
LdN x35 4 w69.drew fun x76 =>
StN x1 x75 2 w69.drew fun w77 =>
(LdN x35 4 w77 fun x78 => x78 = x76) ∧
StN x3 x76 4 w77 fun w79 =>
LdN x1 2 w79 fun x80 =>
LdN x3 4 w79 fun x81 =>
R (.returned (.tuple #[x80, x81])) w79) (
Cl P 165 #[a0] w29 (pE R) fun x82 w83 =>
Cl P 118 #[a0, (.string ⟨#[42]⟩)] w83 (pE R) fun x84 w85 =>
If x84 (
Cl P 163 #[a0, a1] w85 (pE R) fun x86 w87 =>
Nw 104 (.agg #[.int .i64 0, .string ⟨#[]⟩, .int .i64 0, .int .i64 0]) w87 fun x88 w89 =>
StN x88 x86 4 w89 fun w90 =>
Fa x88 1 fun x91 =>
Ld x91 w90.drew fun x92 =>
Bu (.agg #[.nilIface]) [(0, 1, x82)] fun x93 =>
Bu (.agg #[.string ⟨#[]⟩, .nilIface]) [(0, 1, x92), (1, 1, (.iface 308 x93))] fun x94 =>
LdN x88 4 w90.drew fun x95 =>
StN x1 x94 2 w90.drew fun w96 =>
(LdN x88 4 w96 fun x97 => x97 = x95) ∧
StN x3 x95 4 w96 fun w98 =>
LdN x1 2 w98 fun x99 =>
LdN x3 4 w98 fun x100 =>
R (.returned (.tuple #[x99, x100])) w98) (
Cl P 163 #[a0, a1] w85 (pE R) fun x101 w102 =>
Nw 104 (.agg #[.int .i64 0, .string ⟨#[]⟩, .int .i64 0, .int .i64 0]) w102 fun x103 w104 =>
StN x103 x101 4 w104 fun w105 =>
Jn (fun J106 =>
Nk a0 fun x107 =>
Fa x107 1 fun x108 =>
LdN x108 4 w105 fun x109 =>
Cl P 73 #[x109, (.string ⟨#[91]⟩)] w105 (pE R) fun x110 w111 =>
Gd x110 false w111 (fun K112 => K112 a0 w111) fun x113 w114 =>
Gd x110 false w114 (fun K115 => Nk x113 fun x116 => K115 x116 w114) fun x117 w118 =>
Gd x110 false w118 (fun K119 => Fa x117 1 fun x120 => K119 x120 w118) fun x121 w122 =>
Gd x110 false w122 (fun K123 => LdN x121 4 w122 fun x124 => K123 x124 w122) fun x125 w126 =>
Gd x110 false w126 (fun K127 => Cl P 73 #[x125, (.string ⟨#[60]⟩)] w126 (pE R) fun x128 w129 => K127 x128 w129) fun x130 w131 =>
Pk x110 (.bool true) x130 fun x132 =>
If x132 (
Cl P 164 #[a0] w131 (pE R) fun x133 w134 =>
Ex x133 0 fun x135 =>
Ex x133 1 fun x136 =>
Bu (.agg #[.nilIface, .bool false, .int .i64 0]) [(0, 1, x82), (1, 1, x135), (2, 1, x136)] fun x137 =>
J106 [(.iface 231 x137)] w134) (
J106 [x82] w131)) fun jk140 vals w139 =>
V1 vals fun v138 =>
Fa x103 1 fun x141 =>
Ld x141 w139.drew fun x142 =>
Bu (.agg #[.string ⟨#[]⟩, .nilIface]) [(0, 1, x142), (1, 1, v138)] fun x143 =>
LdN x103 4 w139.drew fun x144 =>
StN x1 x143 2 w139.drew fun w145 =>
(LdN x103 4 w145 fun x146 => x146 = x144) ∧
StN x3 x144 4 w145 fun w147 =>
LdN x1 2 w147 fun x148 =>
LdN x3 4 w147 fun x149 =>
R (.returned (.tuple #[x148, x149])) w147))
theorem o_syntax_parser_decl {R : KR} {a0 a1 : Value} {w : World} (h : s_syntax_parser_decl R a0 a1 w) : Calls P n_syntax_parser_decl #[a0, a1] w R := calls_of_fnB (fn := Tryz.f120) (keep := [10]) (args := [a0, a1]) Tryz.func120 rfl (ofE (by kernel_rfl) h)
abbrev n_syntax_set_int64_add : FuncId := 121
def s_syntax_set_int64_add (R : KR) (a0 a1 a2 : Value) (w : World) : Prop :=
Jn (fun J1 =>
Lk (.int .i64) (.agg #[]) a0 a1 true w fun x2 =>
Ex x2 0 fun x3 =>
Ex x2 1 fun x4 =>
Nw 299 (.agg #[]) w fun x5 w6 =>
StN x5 x3 0 w6 fun w7 =>
If x4 (
Cl P 52 #[(.int .i64 6), a2] w7 (pE R) fun x8 w9 =>
J1 [] w9) (
J1 [] w7)) fun jk11 vals w10 =>
Bu (.agg #[]) [] fun x12 =>
Mu (.int .i64) a0 a1 x12 w10 fun w13 =>
R (.returned (.tuple #[])) w13
theorem o_syntax_set_int64_add {R : KR} {a0 a1 a2 : Value} {w : World} (h : s_syntax_set_int64_add R a0 a1 a2 w) : Calls P n_syntax_set_int64_add #[a0, a1, a2] w R := calls_of_fnB (fn := Tryz.f121) (keep := []) (args := [a0, a1, a2]) Tryz.func121 rfl (ofE (by kernel_rfl) h)
abbrev n_syntax_parser_member : FuncId := 122
def s_syntax_parser_member (R : KR) (a0 a1 : Value) (w : World) : Prop :=
Nw 223 (.agg #[.string ⟨#[]⟩, .nilIface]) w fun x1 w2 =>
Cl P 120 #[a0, a1] w2 (pE R) fun x3 w4 =>
Ex x3 0 fun x5 =>
Ex x3 1 fun x6 =>
Nw 223 (.agg #[.string ⟨#[]⟩, .nilIface]) w4 fun x7 w8 =>
Nw 104 (.agg #[.int .i64 0, .string ⟨#[]⟩, .int .i64 0, .int .i64 0]) w8 fun x9 w10 =>
StN x7 x5 2 w10 fun w11 =>
StN x9 x6 4 w11 fun w12 =>
BuS 9 1 [(.string ⟨#[59]⟩)] w12 fun x13 w14 =>
Cl P 114 #[a0, x13] w14 (pE R) fun x15 w16 =>
LdN x7 2 w16 fun x17 =>
StN x1 x17 2 w16 fun w18 =>
LdN x1 2 w18 fun x19 =>
R (.returned x19) w18
theorem o_syntax_parser_member {R : KR} {a0 a1 : Value} {w : World} (h : s_syntax_parser_member R a0 a1 w) : Calls P n_syntax_parser_member #[a0, a1] w R := calls_of_fnB (fn := Tryz.f122) (keep := []) (args := [a0, a1]) Tryz.func122 rfl (ofE (by kernel_rfl) h)
abbrev n_syntax_parser_discriminant : FuncId := 123
def s_syntax_parser_discriminant (R : KR) (a0 : Value) (w : World) : Prop :=
Nk a0 fun x1 =>
Fa x1 1 fun x2 =>
LdN x2 4 w fun x3 =>
Nw 104 (.agg #[.int .i64 0, .string ⟨#[]⟩, .int .i64 0, .int .i64 0]) w fun x4 w5 =>
StN x4 x3 4 w5 fun w6 =>
Fa x4 0 fun x7 =>
Ld x7 w6 fun x8 =>
Bi .eql x8 (.int .i64 1) fun x9 =>
If x9 (
Nk a0 fun x10 =>
Fa x10 7 fun x11 =>
Ld x11 w6.drew fun x12 =>
Fa x4 1 fun x13 =>
Ld x13 w6.drew fun x14 =>
Lk .string (.pointer none) x12 x14 true w6.drew fun x15 =>
Ex x15 0 fun x16 =>
Ex x15 1 fun x17 =>
Jn (fun J18 =>
Nt x17 fun x19 =>
If x19 (
Fa x4 2 fun x20 =>
Ld x20 w6.drew fun x21 =>
Cl P 52 #[(.int .i64 7), x21] w6.drew (pE R) fun x22 w23 =>
J18 [] w23) (
J18 [] w6.drew)) fun jk25 vals w24 =>
Cl P 46 #[a0] w24 (pE R) fun x26 w27 =>
Fa x4 1 fun x28 =>
Ld x28 w27.drew fun x29 =>
Fa x4 2 fun x30 =>
Ld x30 w27.drew fun x31 =>
Bu (.agg #[.string ⟨#[]⟩, .int .i64 0]) [(0, 1, x29), (1, 1, x31)] fun x32 =>
Nk x16 fun x33 =>
Fa x33 3 fun x34 =>
Ld x34 w27.drew fun x35 =>
Nw 229 x32 w27.drew fun x36 w37 =>
(Ld x34 w37 fun x38 => x38 = x35) ∧
R (.returned (.tuple #[(.iface 228 x36), (.int .i64 (-2147483648)), (.int .i64 2147483647), x35])) w37) (
Cl P 118 #[a0, (.string ⟨#[105, 110, 116]⟩)] w6 (pE R) fun x39 w40 =>
If x39 (
R (.returned (.tuple #[(.iface 302 (.string ⟨#[105, 110, 116]⟩)), (.int .i64 (-2147483648)), (.int .i64 2147483647), (.slice none 0 0)])) w40) (
Cl P 118 #[a0, (.string ⟨#[98, 111, 111, 108]⟩)] w40 (pE R) fun x41 w42 =>
If x41 (
R (.returned (.tuple #[(.iface 302 (.string ⟨#[98, 111, 111, 108]⟩)), (.int .i64 0), (.int .i64 1), (.slice none 0 0)])) w42) (
Cl P 118 #[a0, (.string ⟨#[117, 110, 115, 105, 103, 110, 101, 100]⟩)] w42 (pE R) fun x43 w44 =>
If x43 (
Cl P 118 #[a0, (.string ⟨#[105, 110, 116]⟩)] w44 (pE R) fun x45 w46 =>
R (.returned (.tuple #[(.iface 302 (.string ⟨#[117, 110, 115, 105, 103, 110, 101, 100]⟩)), (.int .i64 0), (.int .i64 4294967295), (.slice none 0 0)])) w46) (
Cl P 80 #[a0] w44 (pE R) fun x47 w48 =>
R (.returned (.tuple #[.nilIface, (.int .i64 0), (.int .i64 0), (.slice none 0 0)])) w48))))
theorem o_syntax_parser_discriminant {R : KR} {a0 : Value} {w : World} (h : s_syntax_parser_discriminant R a0 w) : Calls P n_syntax_parser_discriminant #[a0] w R := calls_of_fnB (fn := Tryz.f123) (keep := []) (args := [a0]) Tryz.func123 rfl (ofE (by kernel_rfl) h)
abbrev n_syntax_parser_among : FuncId := 124
def s_syntax_parser_among (R : KR) (a0 a1 : Value) (w : World) : Prop :=
Cl P 163 #[a0, a1] w (pE R) fun x1 w2 =>
RunV P (Instr.field 104 x1 1) w2 fun x3 w4 =>
R (.returned x3) w4
theorem o_syntax_parser_among {R : KR} {a0 a1 : Value} {w : World} (h : s_syntax_parser_among R a0 a1 w) : Calls P n_syntax_parser_among #[a0, a1] w R := calls_of_fnB (fn := Tryz.f124) (keep := []) (args := [a0, a1]) Tryz.func124 rfl (ofE (by kernel_rfl) h)
abbrev n_syntax_parser_union_1 : FuncId := 125
def s_syntax_parser_union_1 (R : KR) (a0 a1 a2 a3 : Value) (w : World) : Prop :=
Jn (fun J1 =>
Ld a2 w fun x2 =>
En .slc true x2 fun x3 =>
Gd x3 true w (fun K4 => Ld a2 w fun x5 => K4 x5 w) fun x6 w7 =>
Gd x3 true w7 (fun K8 => K8 a0 w7) fun x9 w10 =>
Gd x3 true w10 (fun K11 => Cl P 126 #[x6, x9] w10 (pE R) fun x12 w13 => K11 x12 w13) fun x14 w15 =>
Gd x3 true w15 (fun K16 => Nt x14 fun x17 => K16 x17 w15) fun x18 w19 =>
Pk x3 x18 (.bool false) fun x20 =>
If x20 (
Cl P 52 #[(.int .i64 8), a1] w19 (pE R) fun x21 w22 =>
J1 [] w22) (
J1 [] w19)) fun jk24 vals w23 =>
Ld a3 w23 fun x25 =>
Cl P 121 #[x25, a0, a1] w23 (pE R) fun x26 w27 =>
R (.returned (.tuple #[])) w27
theorem o_syntax_parser_union_1 {R : KR} {a0 a1 a2 a3 : Value} {w : World} (h : s_syntax_parser_union_1 R a0 a1 a2 a3 w) : Calls P n_syntax_parser_union_1 #[a0, a1, a2, a3] w R := calls_of_fnB (fn := Tryz.f125) (keep := []) (args := [a0, a1, a2, a3]) Tryz.func125 rfl (ofE (by kernel_rfl) h)
abbrev n_syntax_parser_arm : FuncId := 127
def s_syntax_parser_arm (R : KR) (a0 a1 : Value) (w : World) : Prop :=
Nw 223 (.agg #[.string ⟨#[]⟩, .nilIface]) w fun x1 w2 =>
Cl P 118 #[a0, (.string ⟨#[118, 111, 105, 100]⟩)] w2 (pE R) fun x3 w4 =>
If x3 (
BuS 9 1 [(.string ⟨#[59]⟩)] w4 fun x5 w6 =>
Cl P 114 #[a0, x5] w6 (pE R) fun x7 w8 =>
Bu (.agg #[]) [] fun x9 =>
Bu (.agg #[.string ⟨#[]⟩, .nilIface]) [(0, 1, (.string ⟨#[]⟩)), (1, 1, (.iface 300 x9))] fun x10 =>
StN x1 x10 2 w8 fun w11 =>
LdN x1 2 w11 fun x12 =>
R (.returned x12) w11) (
Cl P 122 #[a0, a1] w4 (pE R) fun x13 w14 =>
StN x1 x13 2 w14 fun w15 =>
LdN x1 2 w15 fun x16 =>
R (.returned x16) w15)
theorem o_syntax_parser_arm {R : KR} {a0 a1 : Value} {w : World} (h : s_syntax_parser_arm R a0 a1 w) : Calls P n_syntax_parser_arm #[a0, a1] w R := calls_of_fnB (fn := Tryz.f127) (keep := []) (args := [a0, a1]) Tryz.func127 rfl (ofE (by kernel_rfl) h)
abbrev n_syntax_parser_name : FuncId := 158
def s_syntax_parser_name (R : KR) (a0 : Value) (w : World) : Prop :=
Nw 104 (.agg #[.int .i64 0, .string ⟨#[]⟩, .int .i64 0, .int .i64 0]) w fun x1 w2 =>
Nk a0 fun x3 =>
Fa x3 1 fun x4 =>
LdN x4 4 w2 fun x5 =>
Nw 104 (.agg #[.int .i64 0, .string ⟨#[]⟩, .int .i64 0, .int .i64 0]) w2 fun x6 w7 =>
StN x6 x5 4 w7 fun w8 =>
Jn (fun J9 =>
Fa x6 0 fun x10 =>
Ld x10 w8 fun x11 =>
Bi .neq x11 (.int .i64 1) fun x12 =>
If x12 (
Cl P 80 #[a0] w8 (pE R) fun x13 w14 =>
J9 [] w14) (
J9 [] w8)) fun jk16 vals w15 =>
LdN x6 4 w15 fun x17 =>
StN x1 x17 4 w15 fun w18 =>
LdN x1 4 w18 fun x19 =>
R (.returned x19) w18
theorem o_syntax_parser_name {R : KR} {a0 : Value} {w : World} (h : s_syntax_parser_name R a0 w) : Calls P n_syntax_parser_name #[a0] w R := calls_of_fnB (fn := Tryz.f158) (keep := []) (args := [a0]) Tryz.func158 rfl (ofE (by kernel_rfl) h)
abbrev n_syntax_set_string_add : FuncId := 159
def s_syntax_set_string_add (R : KR) (a0 a1 a2 : Value) (w : World) : Prop :=
Jn (fun J1 =>
Lk .string (.agg #[]) a0 a1 true w fun x2 =>
Ex x2 0 fun x3 =>
Ex x2 1 fun x4 =>
Nw 299 (.agg #[]) w fun x5 w6 =>
StN x5 x3 0 w6 fun w7 =>
If x4 (
Cl P 52 #[(.int .i64 6), a2] w7 (pE R) fun x8 w9 =>
J1 [] w9) (
J1 [] w7)) fun jk11 vals w10 =>
Bu (.agg #[]) [] fun x12 =>
Mu .string a0 a1 x12 w10 fun w13 =>
R (.returned (.tuple #[])) w13
theorem o_syntax_set_string_add {R : KR} {a0 a1 a2 : Value} {w : World} (h : s_syntax_set_string_add R a0 a1 a2 w) : Calls P n_syntax_set_string_add #[a0, a1, a2] w R := calls_of_fnB (fn := Tryz.f159) (keep := []) (args := [a0, a1, a2]) Tryz.func159 rfl (ofE (by kernel_rfl) h)
abbrev n_syntax_parser_side : FuncId := 160
def s_syntax_parser_side (R : KR) (a0 : Value) (w : World) : Prop :=
Cl P 118 #[a0, (.string ⟨#[118, 111, 105, 100]⟩)] w (pE R) fun x1 w2 =>
If x1 (
Bu (.agg #[]) [] fun x3 =>
R (.returned (.iface 300 x3)) w2) (
Cl P 165 #[a0] w2 (pE R) fun x4 w5 =>
R (.returned x4) w5)
theorem o_syntax_parser_side {R : KR} {a0 : Value} {w : World} (h : s_syntax_parser_side R a0 w) : Calls P n_syntax_parser_side #[a0] w R := calls_of_fnB (fn := Tryz.f160) (keep := []) (args := [a0]) Tryz.func160 rfl (ofE (by kernel_rfl) h)
abbrev n_syntax_parser_numbered_1 : FuncId := 161
def s_syntax_parser_numbered_1 (R : KR) (a0 a1 a2 : Value) (w : World) : Prop :=
Ld a2 w fun x1 =>
Cv .u32 a0 fun x2 =>
Cl P 162 #[x1, x2, a1] w (pE R) fun x3 w4 =>
R (.returned (.tuple #[])) w4
theorem o_syntax_parser_numbered_1 {R : KR} {a0 a1 a2 : Value} {w : World} (h : s_syntax_parser_numbered_1 R a0 a1 a2 w) : Calls P n_syntax_parser_numbered_1 #[a0, a1, a2] w R := calls_of_fnB (fn := Tryz.f161) (keep := []) (args := [a0, a1, a2]) Tryz.func161 rfl (ofE (by kernel_rfl) h)
abbrev n_syntax_set_uint32_add : FuncId := 162
def s_syntax_set_uint32_add (R : KR) (a0 a1 a2 : Value) (w : World) : Prop :=
Jn (fun J1 =>
Lk (.int .u32) (.agg #[]) a0 a1 true w fun x2 =>
Ex x2 0 fun x3 =>
Ex x2 1 fun x4 =>
Nw 299 (.agg #[]) w fun x5 w6 =>
StN x5 x3 0 w6 fun w7 =>
If x4 (
Cl P 52 #[(.int .i64 6), a2] w7 (pE R) fun x8 w9 =>
J1 [] w9) (
J1 [] w7)) fun jk11 vals w10 =>
Bu (.agg #[]) [] fun x12 =>
Mu (.int .u32) a0 a1 x12 w10 fun w13 =>
R (.returned (.tuple #[])) w13
theorem o_syntax_set_uint32_add {R : KR} {a0 a1 a2 : Value} {w : World} (h : s_syntax_set_uint32_add R a0 a1 a2 w) : Calls P n_syntax_set_uint32_add #[a0, a1, a2] w R := calls_of_fnB (fn := Tryz.f162) (keep := []) (args := [a0, a1, a2]) Tryz.func162 rfl (ofE (by kernel_rfl) h)
abbrev n_syntax_parser_called : FuncId := 163
def s_syntax_parser_called (R : KR) (a0 a1 : Value) (w : World) : Prop :=
Nw 104 (.agg #[.int .i64 0, .string ⟨#[]⟩, .int .i64 0, .int .i64 0]) w fun x1 w2 =>
Cl P 158 #[a0] w2 (pE R) fun x3 w4 =>
Nw 104 (.agg #[.int .i64 0, .string ⟨#[]⟩, .int .i64 0, .int .i64 0]) w4 fun x5 w6 =>
StN x5 x3 4 w6 fun w7 =>
Fa x5 1 fun x8 =>
Ld x8 w7 fun x9 =>
Fa x5 2 fun x10 =>
Ld x10 w7 fun x11 =>
Cl P 159 #[a1, x9, x11] w7 (pE R) fun x12 w13 =>
Cl P 46 #[a0] w13 (pE R) fun x14 w15 =>
LdN x5 4 w15 fun x16 =>
StN x1 x16 4 w15 fun w17 =>
LdN x1 4 w17 fun x18 =>
R (.returned x18) w17
theorem o_syntax_parser_called {R : KR} {a0 a1 : Value} {w : World} (h : s_syntax_parser_called R a0 a1 w) : Calls P n_syntax_parser_called #[a0, a1] w R := calls_of_fnB (fn := Tryz.f163) (keep := []) (args := [a0, a1]) Tryz.func163 rfl (ofE (by kernel_rfl) h)
abbrev n_syntax_parser_bound : FuncId := 164
def s_syntax_parser_bound (R : KR) (a0 : Value) (w : World) : Prop :=
Cl P 118 #[a0, (.string ⟨#[91]⟩)] w (pE R) fun x1 w2 =>
If x1 (
Cl P 116 #[a0, (.int .i64 1), (.int .i64 1000), .nilFunc] w2 (pE R) fun x3 w4 =>
BuS 9 1 [(.string ⟨#[93]⟩)] w4 fun x5 w6 =>
Cl P 114 #[a0, x5] w6 (pE R) fun x7 w8 =>
R (.returned (.tuple #[(.bool true), x3])) w8) (
BuS 9 1 [(.string ⟨#[60]⟩)] w2 fun x9 w10 =>
Cl P 114 #[a0, x9] w10 (pE R) fun x11 w12 =>
Cl P 118 #[a0, (.string ⟨#[62]⟩)] w12 (pE R) fun x13 w14 =>
If x13 (
R (.returned (.tuple #[(.bool false), (.int .i64 4294967295)])) w14) (
Cl P 116 #[a0, (.int .i64 0), (.int .i64 4294967295), .nilFunc] w14 (pE R) fun x15 w16 =>
BuS 9 1 [(.string ⟨#[62]⟩)] w16 fun x17 w18 =>
Cl P 114 #[a0, x17] w18 (pE R) fun x19 w20 =>
R (.returned (.tuple #[(.bool false), x15])) w20))
theorem o_syntax_parser_bound {R : KR} {a0 : Value} {w : World} (h : s_syntax_parser_bound R a0 w) : Calls P n_syntax_parser_bound #[a0] w R := calls_of_fnB (fn := Tryz.f164) (keep := []) (args := [a0]) Tryz.func164 rfl (ofE (by kernel_rfl) h)
abbrev n_syntax_parser_kind : FuncId := 165
def s_syntax_parser_kind (R : KR) (a0 : Value) (w : World) : Prop :=
Nk a0 fun x1 =>
Fa x1 1 fun x2 =>
LdN x2 4 w fun x3 =>
Nw 104 (.agg #[.int .i64 0, .string ⟨#[]⟩, .int .i64 0, .int .i64 0]) w fun x4 w5 =>
StN x4 x3 4 w5 fun w6 =>
Fa x4 0 fun x7 =>
Ld x7 w6 fun x8 =>
Bi .eql x8 (.int .i64 1) fun x9 =>
If x9 (
Cl P 46 #[a0] w6 (pE R) fun x10 w11 =>
Fa x4 1 fun x12 =>
Ld x12 w11 fun x13 =>
Fa x4 2 fun x14 =>
Ld x14 w11 fun x15 =>
Bu (.agg #[.string ⟨#[]⟩, .int .i64 0]) [(0, 1, x13), (1, 1, x15)] fun x16 =>
Nw 229 x16 w11 fun x17 w18 =>
R (.returned (.iface 228 x17)) w18) (
Cl P 118 #[a0, (.string ⟨#[105, 110, 116]⟩)] w6 (pE R) fun x19 w20 =>
If x19 (
R (.returned (.iface 302 (.string ⟨#[105, 110, 116]⟩))) w20) (
Cl P 118 #[a0, (.string ⟨#[104, 121, 112, 101, 114]⟩)] w20 (pE R) fun x21 w22 =>
If x21 (
R (.returned (.iface 302 (.string ⟨#[104, 121, 112, 101, 114]⟩))) w22) (
Cl P 118 #[a0, (.string ⟨#[98, 111, 111, 108]⟩)] w22 (pE R) fun x23 w24 =>
If x23 (
R (.returned (.iface 302 (.string ⟨#[98, 111, 111, 108]⟩))) w24) (
Cl P 118 #[a0, (.string ⟨#[117, 110, 115, 105, 103, 110, 101, 100]⟩)] w24 (pE R) fun x25 w26 =>
If x25 (
Cl P 118 #[a0, (.string ⟨#[104, 121, 112, 101, 114]⟩)] w26 (pE R) fun x27 w28 =>
If x27 (
R (.returned (.iface 302 (.string ⟨#[117, 110, 115, 105, 103, 110, 101, 100, 32, 104, 121, 112, 101, 114]⟩))) w28) (
Cl P 118 #[a0, (.string ⟨#[105, 110, 116]⟩)] w28 (pE R) fun x29 w30 =>
R (.returned (.iface 302 (.string ⟨#[117, 110, 115, 105, 103, 110, 101, 100]⟩))) w30)) (
Cl P 80 #[a0] w26 (pE R) fun x31 w32 =>
R (.returned .nilIface) w32)))))
theorem o_syntax_parser_kind {R : KR} {a0 : Value} {w : World} (h : s_syntax_parser_kind R a0 w) : Calls P n_syntax_parser_kind #[a0] w R := calls_of_fnB (fn := Tryz.f165) (keep := []) (args := [a0]) Tryz.func165 rfl (ofE (by kernel_rfl) h)
abbrev n_syntax_place_Where : FuncId := 305
def s_syntax_place_Where (R : KR) (a0 : Value) (w : World) : Prop :=
Nw 194 a0 w fun x1 w2 =>
Fa x1 0 fun x3 =>
Ld x3 w2.drew fun x4 =>
Fa x1 1 fun x5 =>
Ld x5 w2.drew fun x6 =>
R (.returned (.tuple #[x4, x6])) w2.drew
theorem o_syntax_place_Where {R : KR} {a0 : Value} {w : World} (h : s_syntax_place_Where R a0 w) : Calls P n_syntax_place_Where #[a0] w R := calls_of_fnB (fn := Tryz.f305) (keep := []) (args := [a0]) Tryz.func305 rfl (ofE (by kernel_rfl) h)
end Go.W.T
namespace Go.W.T
open Go Go.Proofs
abbrev n_marshal_Read : FuncId := 14
abbrev n_marshal_Spec_Decode : FuncId := 19
def s_marshal_Spec_Decode (R : KR) (a0 a1 a2 a3 : Value) (w : World) : Prop :=
Nw 32 a3 w fun x1 w2 =>
LdN x1 3 w2 fun x3 =>
Cl P 34 #[a0, a1, x3] w2 (pE R) fun x4 w5 =>
Ex x4 0 fun x6 =>
Ex x4 1 fun x7 =>
En .ifc true x7 fun x8 =>
If x8 (
R (.returned (.tuple #[(.slice none 0 0), x7])) w5) (
Ln true a2 fun x9 =>
Fa x1 2 fun x10 =>
Ld x10 w5 fun x11 =>
Bi .gtr x9 x11 fun x12 =>
If x12 (
Bu (.agg #[.int .i64 0, .int .i64 0]) [(0, 1, (.int .i64 14))] fun x13 =>
Nw 65 x13 w5 fun x14 w15 =>
R (.returned (.tuple #[(.slice none 0 0), (.iface 63 x14)])) w15) (
Nk a0 fun x16 =>
Fa x16 1 fun x17 =>
Ld x17 w5.drew fun x18 =>
LdN x1 3 w5.drew fun x19 =>
Cl P 35 #[x18, x6, a2, x19] w5.drew (pE R) fun x20 w21 =>
Ex x20 0 fun x22 =>
Ex x20 1 fun x23 =>
R (.returned (.tuple #[x22, x23])) w21))
theorem o_marshal_Spec_Decode {R : KR} {a0 a1 a2 a3 : Value} {w : World} (h : s_marshal_Spec_Decode R a0 a1 a2 a3 w) : Calls P n_marshal_Spec_Decode #[a0, a1, a2, a3] w R := calls_of_fnB (fn := Tryz.f19) (keep := []) (args := [a0, a1, a2, a3]) Tryz.func19 rfl (ofE (by kernel_rfl) h)
abbrev n_marshal_Spec_Encode : FuncId := 21
def s_marshal_Spec_Encode (R : KR) (a0 a1 a2 a3 : Value) (w : World) : Prop :=
Nw 32 a3 w fun x1 w2 =>
LdN x1 3 w2 fun x3 =>
Cl P 34 #[a0, a1, x3] w2 (pE R) fun x4 w5 =>
Ex x4 0 fun x6 =>
Ex x4 1 fun x7 =>
En .ifc true x7 fun x8 =>
If x8 (
R (.returned (.tuple #[(.string ⟨#[]⟩), x7])) w5) (
Nk a0 fun x9 =>
Fa x9 1 fun x10 =>
Ld x10 w5.drew fun x11 =>
LdN x1 3 w5.drew fun x12 =>
Cl P 36 #[x11, x6, a2, x12] w5.drew (pE R) fun x13 w14 =>
Ex x13 0 fun x15 =>
Ex x13 1 fun x16 =>
R (.returned (.tuple #[x15, x16])) w14)
theorem o_marshal_Spec_Encode {R : KR} {a0 a1 a2 a3 : Value} {w : World} (h : s_marshal_Spec_Encode R a0 a1 a2 a3 w) : Calls P n_marshal_Spec_Encode #[a0, a1, a2, a3] w R := calls_of_fnB (fn := Tryz.f21) (keep := []) (args := [a0, a1, a2, a3]) Tryz.func21 rfl (ofE (by kernel_rfl) h)
abbrev n_marshal_Spec_find : FuncId := 34
def s_marshal_Spec_find (R : KR) (a0 a1 a2 : Value) (w : World) : Prop :=
Nw 32 a2 w fun x1 w2 =>
Nk a0 fun x3 =>
Fa x3 1 fun x4 =>
Ld x4 w2 fun x5 =>
Nk x5 fun x6 =>
Fa x6 1 fun x7 =>
Ld x7 w2 fun x8 =>
Lk .string (.int .i64 0) x8 a1 true w2 fun x9 =>
Ex x9 0 fun x10 =>
Ex x9 1 fun x11 =>
Nt x11 fun x12 =>
If x12 (
R (.returned (.tuple #[(.int .i64 0), (.iface 54 (.int .i64 10))])) w2) (
LdN x1 3 w2 fun x13 =>
Cl P 56 #[x13] w2 (pE R) fun x14 w15 =>
Nt x14 fun x16 =>
If x16 (
R (.returned (.tuple #[(.int .i64 0), (.iface 54 (.int .i64 11))])) w15) (
R (.returned (.tuple #[x10, .nilIface])) w15))
theorem o_marshal_Spec_find {R : KR} {a0 a1 a2 : Value} {w : World} (h : s_marshal_Spec_find R a0 a1 a2 w) : Calls P n_marshal_Spec_find #[a0, a1, a2] w R := calls_of_fnB (fn := Tryz.f34) (keep := []) (args := [a0, a1, a2]) Tryz.func34 rfl (ofE (by kernel_rfl) h)
abbrev n_marshal_valid : FuncId := 56
def s_marshal_valid (R : KR) (a0 : Value) (w : World) : Prop :=
Nw 32 a0 w fun x1 w2 =>
Fa x1 0 fun x3 =>
Ld x3 w2 fun x4 =>
Bi .geq x4 (.int .i64 0) fun x5 =>
Gd x5 true w2 (fun K6 => Fa x1 0 fun x7 => K6 x7 w2) fun x8 w9 =>
Gd x5 true w9 (fun K10 => Ld x8 w9 fun x11 => K10 x11 w9) fun x12 w13 =>
Gd x5 true w13 (fun K14 => Bi .leq x12 (.int .i64 64) fun x15 => K14 x15 w13) fun x16 w17 =>
Pk x5 x16 (.bool false) fun x18 =>
Gd x18 true w17 (fun K19 => Fa x1 1 fun x20 => K19 x20 w17) fun x21 w22 =>
Gd x18 true w22 (fun K23 => Ld x21 w22 fun x24 => K23 x24 w22) fun x25 w26 =>
Gd x18 true w26 (fun K27 => Bi .geq x25 (.int .i64 0) fun x28 => K27 x28 w26) fun x29 w30 =>
Pk x18 x29 (.bool false) fun x31 =>
Gd x31 true w30 (fun K32 => Fa x1 1 fun x33 => K32 x33 w30) fun x34 w35 =>
Gd x31 true w35 (fun K36 => Ld x34 w35 fun x37 => K36 x37 w35) fun x38 w39 =>
Gd x31 true w39 (fun K40 => Bi .leq x38 (.int .i64 10000) fun x41 => K40 x41 w39) fun x42 w43 =>
Pk x31 x42 (.bool false) fun x44 =>
Gd x44 true w43 (fun K45 => Fa x1 2 fun x46 => K45 x46 w43) fun x47 w48 =>
Gd x44 true w48 (fun K49 => Ld x47 w48 fun x50 => K49 x50 w48) fun x51 w52 =>
Gd x44 true w52 (fun K53 => Bi .geq x51 (.int .i64 0) fun x54 => K53 x54 w52) fun x55 w56 =>
Pk x44 x55 (.bool false) fun x57 =>
Gd x57 true w56 (fun K58 => Fa x1 2 fun x59 => K58 x59 w56) fun x60 w61 =>
Gd x57 true w61 (fun K62 => Ld x60 w61 fun x63 => K62 x63 w61) fun x64 w65 =>
Gd x57 true w65 (fun K66 => Bi .leq x64 (.int .i64 100000) fun x67 => K66 x67 w65) fun x68 w69 =>
Pk x57 x68 (.bool false) fun x70 =>
R (.returned x70) w69
theorem o_marshal_valid {R : KR} {a0 : Value} {w : World} (h : s_marshal_valid R a0 w) : Calls P n_marshal_valid #[a0] w R := calls_of_fnB (fn := Tryz.f56) (keep := []) (args := [a0]) Tryz.func56 rfl (ofE (by kernel_rfl) h)
end Go.W.T
namespace Go.W.T
open Go Go.Proofs
abbrev n_marshalkeep_Apart : FuncId := 4
def s_marshalkeep_Apart (R : KR) (a0 a1 a2 : Value) (w : World) : Prop :=
Cl P 16 #[] w (pE R) fun x1 w2 =>
En .ptr false x1 fun x3 =>
Gd x3 false w2 (fun K4 => K4 a1 w2) fun x5 w6 =>
Gd x3 false w6 (fun K7 => Ln true x5 fun x8 => K7 x8 w6) fun x9 w10 =>
Gd x3 false w10 (fun K11 => Bi .gtr x9 (.int .i64 4000) fun x12 => K11 x12 w10) fun x13 w14 =>
Pk x3 (.bool true) x13 fun x15 =>
Gd x15 false w14 (fun K16 => K16 a2 w14) fun x17 w18 =>
Gd x15 false w18 (fun K19 => Ln true x17 fun x20 => K19 x20 w18) fun x21 w22 =>
Gd x15 false w22 (fun K23 => Bi .gtr x21 (.int .i64 4000) fun x24 => K23 x24 w22) fun x25 w26 =>
Pk x15 (.bool true) x25 fun x27 =>
If x27 (
En .ptr true x1 fun x28 =>
R (.returned x28) w26) (
Cl P 17 #[a0] w26 (pE R) fun x29 w30 =>
Cl P 18 #[] w30 (pE R) fun x31 w32 =>
Nw 32 (.agg #[.int .i64 0, .int .i64 0, .int .i64 0]) w32 fun x33 w34 =>
StN x33 x31 3 w34 fun w35 =>
LdN x33 3 w35 fun x36 =>
Cl P 19 #[x1, x29, a1, x36] w35 (pE R) fun x37 w38 =>
Ex x37 0 fun x39 =>
Ex x37 1 fun x40 =>
LdN x33 3 w38 fun x41 =>
Cl P 19 #[x1, x29, a2, x41] w38 (pE R) fun x42 w43 =>
Ex x42 0 fun x44 =>
Ex x42 1 fun x45 =>
En .ifc true x40 fun x46 =>
Gd x46 false w43 (fun K47 => K47 x45 w43) fun x48 w49 =>
Gd x46 false w49 (fun K50 => En .ifc true x48 fun x51 => K50 x51 w49) fun x52 w53 =>
Pk x46 (.bool true) x52 fun x54 =>
Gd x54 false w53 (fun K55 => K55 a1 w53) fun x56 w57 =>
Gd x54 false w57 (fun K58 => K58 a2 w57) fun x59 w60 =>
Gd x54 false w60 (fun K61 => Bs .eql x56 x59 fun x62 => K61 x62 w60) fun x63 w64 =>
Pk x54 (.bool true) x63 fun x65 =>
If x65 (
En .ifc false x40 fun x66 =>
Ln false x39 fun x67 =>
Bi .gtr x67 (.int .i64 0) fun x68 =>
Eb false x66 x68 fun x69 =>
Gd x69 true w64 (fun K70 => K70 x45 w64) fun x71 w72 =>
Gd x69 true w72 (fun K73 => En .ifc false x71 fun x74 => K73 x74 w72) fun x75 w76 =>
Gd x69 true w76 (fun K77 => K77 x44 w76) fun x78 w79 =>
Gd x69 true w79 (fun K80 => Ln false x78 fun x81 => K80 x81 w79) fun x82 w83 =>
Gd x69 true w83 (fun K84 => Bi .gtr x82 (.int .i64 0) fun x85 => K84 x85 w83) fun x86 w87 =>
Gd x69 true w87 (fun K88 => Eb false x75 x86 fun x89 => K88 x89 w87) fun x90 w91 =>
Pk x69 x90 (.bool false) fun x92 =>
R (.returned x92) w91) (
Cl P 20 #[x39, x44, (.bool false)] w64 (pE R) fun x93 w94 =>
Nt x93 fun x95 =>
R (.returned x95) w94))
theorem o_marshalkeep_Apart {R : KR} {a0 a1 a2 : Value} {w : World} (h : s_marshalkeep_Apart R a0 a1 a2 w) : Calls P n_marshalkeep_Apart #[a0, a1, a2] w R := calls_of_fnB (fn := Tryz.f4) (keep := []) (args := [a0, a1, a2]) Tryz.func4 rfl (ofE (by kernel_rfl) h)
abbrev n_marshalkeep_Forth : FuncId := 7
def s_marshalkeep_Forth (R : KR) (a0 a1 : Value) (w : World) : Prop :=
Cl P 16 #[] w (pE R) fun x1 w2 =>
En .ptr false x1 fun x3 =>
Gd x3 false w2 (fun K4 => K4 a1 w2) fun x5 w6 =>
Gd x3 false w6 (fun K7 => Ln true x5 fun x8 => K7 x8 w6) fun x9 w10 =>
Gd x3 false w10 (fun K11 => Bi .gtr x9 (.int .i64 4000) fun x12 => K11 x12 w10) fun x13 w14 =>
Pk x3 (.bool true) x13 fun x15 =>
If x15 (
En .ptr true x1 fun x16 =>
R (.returned x16) w14) (
Cl P 17 #[a0] w14 (pE R) fun x17 w18 =>
Cl P 18 #[] w18 (pE R) fun x19 w20 =>
Nw 32 (.agg #[.int .i64 0, .int .i64 0, .int .i64 0]) w20 fun x21 w22 =>
StN x21 x19 3 w22 fun w23 =>
LdN x21 3 w23 fun x24 =>
Cl P 19 #[x1, x17, a1, x24] w23 (pE R) fun x25 w26 =>
Ex x25 0 fun x27 =>
Ex x25 1 fun x28 =>
En .ifc true x28 fun x29 =>
If x29 (
Ln false x27 fun x30 =>
Bi .eql x30 (.int .i64 0) fun x31 =>
R (.returned x31) w26) (
LdN x21 3 w26 fun x32 =>
Cl P 21 #[x1, x17, x27, x32] w26 (pE R) fun x33 w34 =>
Ex x33 0 fun x35 =>
Ex x33 1 fun x36 =>
En .ifc false x36 fun x37 =>
Gd x37 true w34 (fun K38 => K38 x35 w34) fun x39 w40 =>
Gd x37 true w40 (fun K41 => K41 a1 w40) fun x42 w43 =>
Gd x37 true w43 (fun K44 => Bs .eql x39 x42 fun x45 => K44 x45 w43) fun x46 w47 =>
Pk x37 x46 (.bool false) fun x48 =>
R (.returned x48) w47))
theorem o_marshalkeep_Forth {R : KR} {a0 a1 : Value} {w : World} (h : s_marshalkeep_Forth R a0 a1 w) : Calls P n_marshalkeep_Forth #[a0, a1] w R := calls_of_fnB (fn := Tryz.f7) (keep := []) (args := [a0, a1]) Tryz.func7 rfl (ofE (by kernel_rfl) h)
abbrev n_marshalkeep_Deeper : FuncId := 9
def s_marshalkeep_Deeper (R : KR) (a0 a1 a2 a3 a4 : Value) (w : World) : Prop :=
Cl P 16 #[] w (pE R) fun x1 w2 =>
En .ptr false x1 fun x3 =>
Gd x3 false w2 (fun K4 => K4 a1 w2) fun x5 w6 =>
Gd x3 false w6 (fun K7 => Ln true x5 fun x8 => K7 x8 w6) fun x9 w10 =>
Gd x3 false w10 (fun K11 => Bi .gtr x9 (.int .i64 4000) fun x12 => K11 x12 w10) fun x13 w14 =>
Pk x3 (.bool true) x13 fun x15 =>
If x15 (
En .ptr true x1 fun x16 =>
R (.returned x16) w14) (
Cl P 17 #[a0] w14 (pE R) fun x17 w18 =>
Cl P 24 #[a2, (.int .i64 65)] w18 (pE R) fun x19 w20 =>
Cl P 24 #[a3, (.int .i64 10001)] w20 (pE R) fun x21 w22 =>
Cl P 24 #[a4, (.int .i64 100001)] w22 (pE R) fun x23 w24 =>
Bu (.agg #[.int .i64 0, .int .i64 0, .int .i64 0]) [(0, 1, x19), (1, 1, x21), (2, 1, x23)] fun x25 =>
Nw 32 (.agg #[.int .i64 0, .int .i64 0, .int .i64 0]) w24 fun x26 w27 =>
StN x26 x25 3 w27 fun w28 =>
LdN x26 3 w28 fun x29 =>
Cl P 19 #[x1, x17, a1, x29] w28 (pE R) fun x30 w31 =>
Ex x30 0 fun x32 =>
Ex x30 1 fun x33 =>
Cl P 18 #[] w31 (pE R) fun x34 w35 =>
Nw 32 (.agg #[.int .i64 0, .int .i64 0, .int .i64 0]) w35 fun x36 w37 =>
StN x36 x34 3 w37 fun w38 =>
LdN x36 3 w38 fun x39 =>
Cl P 19 #[x1, x17, a1, x39] w38 (pE R) fun x40 w41 =>
Ex x40 0 fun x42 =>
Ex x40 1 fun x43 =>
En .ifc true x33 fun x44 =>
If x44 (
Ln false x32 fun x45 =>
Bi .eql x45 (.int .i64 0) fun x46 =>
Gd x46 true w41 (fun K47 => K47 x43 w41) fun x48 w49 =>
Gd x46 true w49 (fun K50 => En .ifc false x48 fun x51 => K50 x51 w49) fun x52 w53 =>
Gd x46 true w53 (fun K54 => K54 x42 w53) fun x55 w56 =>
Gd x46 true w56 (fun K57 => Ln false x55 fun x58 => K57 x58 w56) fun x59 w60 =>
Gd x46 true w60 (fun K61 => Bi .gtr x59 (.int .i64 0) fun x62 => K61 x62 w60) fun x63 w64 =>
Gd x46 true w64 (fun K65 => Eb false x52 x63 fun x66 => K65 x66 w64) fun x67 w68 =>
Pk x46 x67 (.bool false) fun x69 =>
R (.returned x69) w68) (
Cl P 20 #[x32, x42, (.bool true)] w41 (pE R) fun x70 w71 =>
LdN x26 3 w71 fun x72 =>
Cl P 21 #[x1, x17, x32, x72] w71 (pE R) fun x73 w74 =>
Ex x73 0 fun x75 =>
Ex x73 1 fun x76 =>
En .ifc false x43 fun x77 =>
Gd x77 true w74 (fun K78 => K78 x70 w74) fun x79 w80 =>
Pk x77 x79 (.bool false) fun x81 =>
Gd x81 true w80 (fun K82 => K82 x76 w80) fun x83 w84 =>
Gd x81 true w84 (fun K85 => En .ifc false x83 fun x86 => K85 x86 w84) fun x87 w88 =>
Pk x81 x87 (.bool false) fun x89 =>
Gd x89 true w88 (fun K90 => K90 x75 w88) fun x91 w92 =>
Gd x89 true w92 (fun K93 => K93 a1 w92) fun x94 w95 =>
Gd x89 true w95 (fun K96 => Bs .eql x91 x94 fun x97 => K96 x97 w95) fun x98 w99 =>
Pk x89 x98 (.bool false) fun x100 =>
R (.returned x100) w99))
theorem o_marshalkeep_Deeper {R : KR} {a0 a1 a2 a3 a4 : Value} {w : World} (h : s_marshalkeep_Deeper R a0 a1 a2 a3 a4 w) : Calls P n_marshalkeep_Deeper #[a0, a1, a2, a3, a4] w R := calls_of_fnB (fn := Tryz.f9) (keep := []) (args := [a0, a1, a2, a3, a4]) Tryz.func9 rfl (ofE (by kernel_rfl) h)
abbrev n_marshalkeep_spec : FuncId := 16
def s_marshalkeep_spec (R : KR) (w : World) : Prop :=
Cl P 14 #[(.string ⟨#[99, 111, 110, 115, 116, 32, 87, 73, 68, 69, 32, 61, 32, 55, 59, 32, 101, 110, 117, 109, 32, 75, 105, 110, 100, 32, 123, 32, 65, 32, 61, 32, 48, 44, 32, 66, 32, 61, 32, 45, 51, 44, 32, 67, 32, 61, 32, 55, 48, 48, 48, 48, 32, 125, 59, 32, 115, 116, 114, 117, 99, 116, 32, 80, 97, 105, 114, 32, 123, 32, 105, 110, 116, 32, 120, 59, 32, 117, 110, 115, 105, 103, 110, 101, 100, 32, 104, 121, 112, 101, 114, 32, 121, 59, 32, 117, 110, 115, 105, 103, 110, 101, 100, 32, 122, 59, 32, 125, 59, 32, 117, 110, 105, 111, 110, 32, 83, 111, 109, 101, 32, 115, 119, 105, 116, 99, 104, 32, 40, 75, 105, 110, 100, 32, 107, 41, 32, 123, 32, 99, 97, 115, 101, 32, 65, 58, 32, 118, 111, 105, 100, 59, 32, 99, 97, 115, 101, 32, 66, 58, 32, 80, 97, 105, 114, 32, 112, 59, 32, 100, 101, 102, 97, 117, 108, 116, 58, 32, 111, 112, 97, 113, 117, 101, 32, 111, 60, 57, 62, 59, 32, 125, 59, 32, 116, 121, 112, 101, 100, 101, 102, 32, 83, 111, 109, 101, 32, 70, 101, 119, 60, 51, 62, 59, 32, 115, 116, 114, 117, 99, 116, 32, 84, 114, 101, 101, 32, 123, 32, 115, 116, 114, 105, 110, 103, 32, 110, 97, 109, 101, 60, 49, 50, 62, 59, 32, 84, 114, 101, 101, 32, 42, 108, 101, 102, 116, 59, 32, 84, 114, 101, 101, 32, 42, 114, 105, 103, 104, 116, 59, 32, 98, 111, 111, 108, 32, 108, 101, 97, 102, 59, 32, 70, 101, 119, 32, 102, 101, 119, 59, 32, 111, 112, 97, 113, 117, 101, 32, 115, 117, 109, 91, 53, 93, 59, 32, 125, 59, 32, 117, 110, 105, 111, 110, 32, 70, 108, 97, 103, 32, 115, 119, 105, 116, 99, 104, 32, 40, 98, 111, 111, 108, 32, 98, 41, 32, 123, 32, 99, 97, 115, 101, 32, 84, 82, 85, 69, 58, 32, 70, 108, 97, 103, 32, 42, 110, 101, 120, 116, 59, 32, 99, 97, 115, 101, 32, 70, 65, 76, 83, 69, 58, 32, 104, 121, 112, 101, 114, 32, 104, 91, 50, 93, 59, 32, 125, 59, 32, 115, 116, 114, 117, 99, 116, 32, 82, 111, 119, 32, 123, 32, 80, 97, 105, 114, 32, 97, 108, 108, 60, 87, 73, 68, 69, 62, 59, 32, 70, 108, 97, 103, 32, 102, 108, 97, 103, 115, 91, 51, 93, 59, 32, 125, 59, 32, 117, 110, 105, 111, 110, 32, 87, 111, 114, 100, 32, 115, 119, 105, 116, 99, 104, 32, 40, 117, 110, 115, 105, 103, 110, 101, 100, 32, 117, 41, 32, 123, 32, 99, 97, 115, 101, 32, 52, 50, 57, 52, 57, 54, 55, 50, 57, 53, 58, 32, 75, 105, 110, 100, 32, 107, 59, 32, 99, 97, 115, 101, 32, 48, 58, 32, 115, 116, 114, 105, 110, 103, 32, 115, 60, 62, 59, 32, 125, 59, 32, 112, 114, 111, 103, 114, 97, 109, 32, 80, 32, 123, 32, 118, 101, 114, 115, 105, 111, 110, 32, 86, 32, 123, 32, 84, 114, 101, 101, 32, 115, 119, 97, 112, 40, 84, 114, 101, 101, 41, 32, 61, 32, 49, 59, 32, 118, 111, 105, 100, 32, 100, 114, 111, 112, 40, 80, 97, 105, 114, 41, 32, 61, 32, 50, 59, 32, 80, 97, 105, 114, 32, 109, 97, 107, 101, 40, 118, 111, 105, 100, 41, 32, 61, 32, 51, 59, 32, 125, 32, 61, 32, 49, 59, 32, 118, 101, 114, 115, 105, 111, 110, 32, 87, 32, 123, 32, 87, 111, 114, 100, 32, 115, 97, 121, 40, 87, 111, 114, 100, 41, 32, 61, 32, 49, 59, 32, 125, 32, 61, 32, 51, 59, 32, 125, 32, 61, 32, 55, 55, 59]⟩)] w (pE R) fun x1 w2 =>
Ex x1 0 fun x3 =>
Ex x1 1 fun x4 =>
En .ifc true x4 fun x5 =>
If x5 (
R (.returned (.pointer none)) w2) (
R (.returned x3) w2)
theorem o_marshalkeep_spec {R : KR} {w : World} (h : s_marshalkeep_spec R  w) : Calls P n_marshalkeep_spec #[] w R := calls_of_fnB (fn := Tryz.f16) (keep := []) (args := []) Tryz.func16 rfl (ofE (by kernel_rfl) h)
abbrev n_marshalkeep_kinds : FuncId := 17
def s_marshalkeep_kinds (R : KR) (a0 : Value) (w : World) : Prop :=
BuS 9 1 [(.string ⟨#[75, 105, 110, 100]⟩), (.string ⟨#[80, 97, 105, 114]⟩), (.string ⟨#[83, 111, 109, 101]⟩), (.string ⟨#[70, 101, 119]⟩), (.string ⟨#[84, 114, 101, 101]⟩), (.string ⟨#[70, 108, 97, 103]⟩), (.string ⟨#[82, 111, 119]⟩), (.string ⟨#[87, 111, 114, 100]⟩)] w fun x1 w2 =>
Ln false x1 fun x3 =>
Cl P 24 #[a0, x3] w2 (pE R) fun x4 w5 =>
IaS 1 x1 x4 fun x6 =>
Ld x6 w5 fun x7 =>
R (.returned x7) w5
theorem o_marshalkeep_kinds {R : KR} {a0 : Value} {w : World} (h : s_marshalkeep_kinds R a0 w) : Calls P n_marshalkeep_kinds #[a0] w R := calls_of_fnB (fn := Tryz.f17) (keep := []) (args := [a0]) Tryz.func17 rfl (ofE (by kernel_rfl) h)
abbrev n_marshalkeep_wide : FuncId := 18
def s_marshalkeep_wide (R : KR) (w : World) : Prop :=
Nw 32 (.agg #[.int .i64 0, .int .i64 0, .int .i64 0]) w fun x1 w2 =>
Bu (.agg #[.int .i64 0, .int .i64 0, .int .i64 0]) [(0, 1, (.int .i64 64)), (1, 1, (.int .i64 10000)), (2, 1, (.int .i64 100000))] fun x3 =>
StN x1 x3 3 w2 fun w4 =>
LdN x1 3 w4 fun x5 =>
R (.returned x5) w4
theorem o_marshalkeep_wide {R : KR} {w : World} (h : s_marshalkeep_wide R  w) : Calls P n_marshalkeep_wide #[] w R := calls_of_fnB (fn := Tryz.f18) (keep := []) (args := []) Tryz.func18 rfl (ofE (by kernel_rfl) h)
abbrev n_marshalkeep_same : FuncId := 20
def s_marshalkeep_same (R : KR) (a0 a1 a2 : Value) (w : World) : Prop :=
Ln false a0 fun x1 =>
Ln false a1 fun x2 =>
Bi .neq x1 x2 fun x3 =>
If x3 (
R (.returned (.bool false)) w) (
Lp [(.int .i64 0)] w fun jk4 vals w5 C6 =>
V1 vals fun v7 =>
Ln false a0 fun x8 =>
Bi .lss v7 x8 fun x9 =>
If x9 (
IaS 5 a0 v7 fun x10 =>
Fa x10 0 fun x11 =>
Ld x11 w5.drew fun x12 =>
IaS 5 a1 v7 fun x13 =>
Fa x13 0 fun x14 =>
Ld x14 w5.drew fun x15 =>
Bi .neq x12 x15 fun x16 =>
Gd x16 false w5.drew (fun K17 => K17 a0 w5.drew) fun x18 w19 =>
Gd x16 false w19 (fun K20 => K20 v7 w19) fun x21 w22 =>
Gd x16 false w22 (fun K23 => IaS 5 x18 x21 fun x24 => K23 x24 w22) fun x25 w26 =>
Gd x16 false w26 (fun K27 => Fa x25 1 fun x28 => K27 x28 w26) fun x29 w30 =>
Gd x16 false w30 (fun K31 => Ld x29 w30 fun x32 => K31 x32 w30) fun x33 w34 =>
Gd x16 false w34 (fun K35 => K35 a1 w34) fun x36 w37 =>
Gd x16 false w37 (fun K38 => K38 v7 w37) fun x39 w40 =>
Gd x16 false w40 (fun K41 => IaS 5 x36 x39 fun x42 => K41 x42 w40) fun x43 w44 =>
Gd x16 false w44 (fun K45 => Fa x43 1 fun x46 => K45 x46 w44) fun x47 w48 =>
Gd x16 false w48 (fun K49 => Ld x47 w48 fun x50 => K49 x50 w48) fun x51 w52 =>
Gd x16 false w52 (fun K53 => Bi .neq x33 x51 fun x54 => K53 x54 w52) fun x55 w56 =>
Pk x16 (.bool true) x55 fun x57 =>
Gd x57 false w56 (fun K58 => K58 a0 w56) fun x59 w60 =>
Gd x57 false w60 (fun K61 => K61 v7 w60) fun x62 w63 =>
Gd x57 false w63 (fun K64 => IaS 5 x59 x62 fun x65 => K64 x65 w63) fun x66 w67 =>
Gd x57 false w67 (fun K68 => Fa x66 2 fun x69 => K68 x69 w67) fun x70 w71 =>
Gd x57 false w71 (fun K72 => Ld x70 w71 fun x73 => K72 x73 w71) fun x74 w75 =>
Gd x57 false w75 (fun K76 => K76 a1 w75) fun x77 w78 =>
Gd x57 false w78 (fun K79 => K79 v7 w78) fun x80 w81 =>
Gd x57 false w81 (fun K82 => IaS 5 x77 x80 fun x83 => K82 x83 w81) fun x84 w85 =>
Gd x57 false w85 (fun K86 => Fa x84 2 fun x87 => K86 x87 w85) fun x88 w89 =>
Gd x57 false w89 (fun K90 => Ld x88 w89 fun x91 => K90 x91 w89) fun x92 w93 =>
Gd x57 false w93 (fun K94 => Bs .neq x74 x92 fun x95 => K94 x95 w93) fun x96 w97 =>
Pk x57 (.bool true) x96 fun x98 =>
Gd x98 false w97 (fun K99 => K99 a0 w97) fun x100 w101 =>
Gd x98 false w101 (fun K102 => K102 v7 w101) fun x103 w104 =>
Gd x98 false w104 (fun K105 => IaS 5 x100 x103 fun x106 => K105 x106 w104) fun x107 w108 =>
Gd x98 false w108 (fun K109 => Fa x107 4 fun x110 => K109 x110 w108) fun x111 w112 =>
Gd x98 false w112 (fun K113 => Ld x111 w112 fun x114 => K113 x114 w112) fun x115 w116 =>
Gd x98 false w116 (fun K117 => K117 a1 w116) fun x118 w119 =>
Gd x98 false w119 (fun K120 => K120 v7 w119) fun x121 w122 =>
Gd x98 false w122 (fun K123 => IaS 5 x118 x121 fun x124 => K123 x124 w122) fun x125 w126 =>
Gd x98 false w126 (fun K127 => Fa x125 4 fun x128 => K127 x128 w126) fun x129 w130 =>
Gd x98 false w130 (fun K131 => Ld x129 w130 fun x132 => K131 x132 w130) fun x133 w134 =>
Gd x98 false w134 (fun K135 => Bi .neq x115 x133 fun x136 => K135 x136 w134) fun x137 w138 =>
Pk x98 (.bool true) x137 fun x139 =>
Gd x139 false w138 (fun K140 => K140 a2 w138) fun x141 w142 =>
Gd x139 false w142 (fun K143 => K143 x141 w142) fun x144 w145 =>
Gd x144 true w145 (fun K146 => K146 a0 w145) fun x147 w148 =>
Gd x144 true w148 (fun K149 => K149 v7 w148) fun x150 w151 =>
Gd x144 true w151 (fun K152 => IaS 5 x147 x150 fun x153 => K152 x153 w151) fun x154 w155 =>
Gd x144 true w155 (fun K156 => Fa x154 3 fun x157 => K156 x157 w155) fun x158 w159 =>
Gd x144 true w159 (fun K160 => Ld x158 w159 fun x161 => K160 x161 w159) fun x162 w163 =>
Gd x144 true w163 (fun K164 => K164 a1 w163) fun x165 w166 =>
Gd x144 true w166 (fun K167 => K167 v7 w166) fun x168 w169 =>
Gd x144 true w169 (fun K170 => IaS 5 x165 x168 fun x171 => K170 x171 w169) fun x172 w173 =>
Gd x144 true w173 (fun K174 => Fa x172 3 fun x175 => K174 x175 w173) fun x176 w177 =>
Gd x144 true w177 (fun K178 => Ld x176 w177 fun x179 => K178 x179 w177) fun x180 w181 =>
Gd x144 true w181 (fun K182 => Bi .neq x162 x180 fun x183 => K182 x183 w181) fun x184 w185 =>
Gd x139 false w185 (fun K186 => Pk x144 x184 (.bool false) fun x187 => K186 x187 w185) fun x188 w189 =>
Pk x139 (.bool true) x188 fun x190 =>
If x190 (
R (.returned (.bool false)) w189) (
Bi .add v7 (.int .i64 1) fun x191 =>
C6 [x191] w189)) (
R (.returned (.bool true)) w5))
theorem o_marshalkeep_same {R : KR} {a0 a1 a2 : Value} {w : World} (h : s_marshalkeep_same R a0 a1 a2 w) : Calls P n_marshalkeep_same #[a0, a1, a2] w R := calls_of_fnB (fn := Tryz.f20) (keep := [7]) (args := [a0, a1, a2]) Tryz.func20 rfl (ofE (by kernel_rfl) h)
abbrev n_marshalkeep_pick : FuncId := 24
def s_marshalkeep_pick (R : KR) (a0 a1 : Value) (w : World) : Prop :=
Jn (fun J1 =>
Bi .lss a0 (.int .i64 0) fun x2 =>
If x2 (
Bi .add a0 (.int .i64 1) fun x3 =>
Ng x3 fun x4 =>
J1 [x4] w) (
J1 [a0] w)) fun jk7 vals w6 =>
V1 vals fun v5 =>
Bi .rem v5 a1 fun x8 =>
R (.returned x8) w6
theorem o_marshalkeep_pick {R : KR} {a0 a1 : Value} {w : World} (h : s_marshalkeep_pick R a0 a1 w) : Calls P n_marshalkeep_pick #[a0, a1] w R := calls_of_fnB (fn := Tryz.f24) (keep := [0]) (args := [a0, a1]) Tryz.func24 rfl (ofE (by kernel_rfl) h)
end Go.W.T
