/- Texts of mine, one behind the other; nothing is assumed. -/
import Derived.Test.YtaaepbggooiblaaGreatDoorProg
import Derived.Test.YtaaepbggooiblaaGreatDoorB03
import Derived.KernelRfl
namespace Go.W.T
open Go Go.Proofs
noncomputable abbrev P : Program := Tryz.prog
abbrev t_int64 : TypeId := 2
abbrev t_int : TypeId := 3
abbrev t_string : TypeId := 9
abbrev t_error : TypeId := 24
abbrev t_s_int : TypeId := 45
abbrev t_api_Node : TypeId := 52
abbrev t_p_api_Fault : TypeId := 63
abbrev t_api_Fault : TypeId := 65
abbrev t_syntax_set_uint32 : TypeId := 101
abbrev t_words_Word : TypeId := 104
abbrev t_syntax_parser : TypeId := 107
abbrev t_syntax_Def : TypeId := 109
abbrev t_p_code_compiler : TypeId := 111
abbrev t_code_Code : TypeId := 117
abbrev t_map_stringsyntax_Def : TypeId := 118
abbrev t_code_compiler : TypeId := 121
abbrev t_p_syntax_Program : TypeId := 124
abbrev t_code_Instr : TypeId := 135
abbrev t_machine_decoder : TypeId := 146
abbrev t_machine_machine : TypeId := 154
abbrev t_machine_encoder : TypeId := 158
abbrev t_uint32 : TypeId := 180
abbrev t_api_Call : TypeId := 182
abbrev t_words_Text : TypeId := 190
abbrev t_syntax_place : TypeId := 194
abbrev t_syntax_Program : TypeId := 197
abbrev t_syntax_Version : TypeId := 200
abbrev t_syntax_Proc : TypeId := 205
abbrev t_code_Proc : TypeId := 207
abbrev t_p_syntax_Alias : TypeId := 209
abbrev t_syntax_Alias : TypeId := 212
abbrev t_p_syntax_Enum : TypeId := 213
abbrev t_s_int64 : TypeId := 215
abbrev t_syntax_Enum : TypeId := 217
abbrev t_p_syntax_Struct : TypeId := 218
abbrev t_syntax_Struct : TypeId := 221
abbrev t_syntax_Decl : TypeId := 223
abbrev t_p_syntax_Union : TypeId := 224
abbrev t_code_call : TypeId := 227
abbrev t_p_syntax_Named : TypeId := 228
abbrev t_syntax_Named : TypeId := 229
abbrev t_syntax_Array : TypeId := 231
abbrev t_syntax_Union : TypeId := 235
abbrev t_syntax_Arm : TypeId := 237
abbrev t_p_syntax_Const : TypeId := 284
abbrev t_syntax_Const : TypeId := 286
abbrev t_syntax_set_int64 : TypeId := 292
abbrev t_syntax_Void : TypeId := 300
abbrev t_syntax_Basic : TypeId := 302
abbrev t_syntax_Bytes : TypeId := 306
abbrev t_syntax_Optional : TypeId := 308
end Go.W.T
set_option linter.unusedVariables false
set_option maxRecDepth 100000
namespace Go.W.T
open Go Go.Proofs
abbrev n_words_New : FuncId := 45
def s_words_New (R : KR) (a0 : Value) (w : World) : Prop :=
Bu (.agg #[.string ⟨#[]⟩, .int .i64 0]) [(0, 1, a0)] fun x1 =>
Nw 190 x1 w fun x2 w3 =>
R (.returned x2) w3
theorem o_words_New {R : KR} {a0 : Value} {w : World} (h : s_words_New R a0 w) : Calls P n_words_New #[a0] w R := calls_of_fnB (fn := Tryz.f45) (keep := []) (args := [a0]) Tryz.func45 rfl (ofE (by kernel_rfl) h)
abbrev n_words_Fail : FuncId := 52
def s_words_Fail (R : KR) (a0 a1 : Value) (w : World) : Prop :=
Bu (.agg #[.int .i64 0, .int .i64 0]) [(0, 1, a0), (1, 1, a1)] fun x1 =>
Nw 65 x1 w fun x2 w3 =>
Pn (.iface 63 x2) w3 (pE R)
theorem o_words_Fail {R : KR} {a0 a1 : Value} {w : World} (h : s_words_Fail R a0 a1 w) : Calls P n_words_Fail #[a0, a1] w R := calls_of_fnB (fn := Tryz.f52) (keep := []) (args := [a0, a1]) Tryz.func52 rfl (ofE (by kernel_rfl) h)
abbrev n_strings_Builder_WriteString : FuncId := 54
def s_strings_Builder_WriteString (R : KR) (a0 a1 : Value) (w : World) : Prop :=
Cl P 88 #[a0] w (pE R) fun x1 w2 =>
Nk a0 fun x3 =>
Fa x3 1 fun x4 =>
Ld x4 w2 fun x5 =>
Ap 5 1 1 (.int .u8 0) x5 a1 w2 fun x6 w7 =>
Nk a0 fun x8 =>
Fa x8 1 fun x9 =>
St x9 x6 w7 fun w10 =>
Ln true a1 fun x11 =>
R (.returned (.tuple #[x11, .nilIface])) w10
theorem o_strings_Builder_WriteString {R : KR} {a0 a1 : Value} {w : World} (h : s_strings_Builder_WriteString R a0 a1 w) : Calls P n_strings_Builder_WriteString #[a0, a1] w R := calls_of_fnB (fn := Tryz.f54) (keep := []) (args := [a0, a1]) Tryz.func54 rfl (ofE (by kernel_rfl) h)
abbrev n_strings_Builder_String : FuncId := 55
def s_strings_Builder_String (R : KR) (a0 : Value) (w : World) : Prop :=
Nk a0 fun x1 =>
Fa x1 1 fun x2 =>
Ld x2 w.drew fun x3 =>
Nk a0 fun x4 =>
Fa x4 1 fun x5 =>
Ld x5 w.drew fun x6 =>
Ln false x6 fun x7 =>
CallN P (builtin .unsafeSliceData #[137] 238 #[false] #[x3]) w.drew (pE R) fun x8 w9 =>
(Ld x5 w9 fun x10 => x10 = x6) ∧
CallN P (builtin .unsafeString #[238, 3] 9 #[false, false] #[x8, x7]) w9 (pE R) fun x11 w12 =>
R (.returned x11) w12
theorem o_strings_Builder_String {R : KR} {a0 : Value} {w : World} (h : s_strings_Builder_String R a0 w) : Calls P n_strings_Builder_String #[a0] w R := calls_of_fnB (fn := Tryz.f55) (keep := []) (args := [a0]) Tryz.func55 rfl (ofE (by kernel_rfl) h)
abbrev n_words_Text_Next : FuncId := 72
def s_words_Text_Next (R : KR) (a0 : Value) (w : World) : Prop :=
Nw 104 (.agg #[.int .i64 0, .string ⟨#[]⟩, .int .i64 0, .int .i64 0]) w fun x1 w2 =>
Cl P 108 #[a0] w2 (pE R) fun x3 w4 =>
Nk a0 fun x5 =>
Fa x5 1 fun x6 =>
Ld x6 w4 fun x7 =>
Nk a0 fun x8 =>
Fa x8 0 fun x9 =>
Ld x9 w4 fun x10 =>
SlS x10 (some x7) none fun x11 =>
Bs .eql x11 (.string ⟨#[]⟩) fun x12 =>
If x12 (
Bu (.agg #[.int .i64 0, .string ⟨#[]⟩, .int .i64 0, .int .i64 0]) [(0, 1, (.int .i64 0)), (2, 1, x7)] fun x13 =>
StN x1 x13 4 w4 fun w14 =>
LdN x1 4 w14 fun x15 =>
R (.returned x15) w14) (
IxS x11 (.int .i64 0) fun x16 =>
Bi .eql x16 (.int .u8 45) fun x17 =>
Gd x17 false w4 (fun K18 => K18 x16 w4) fun x19 w20 =>
Gd x17 false w20 (fun K21 => Bi .geq x19 (.int .u8 48) fun x22 => K21 x22 w20) fun x23 w24 =>
Gd x17 false w24 (fun K25 => K25 x23 w24) fun x26 w27 =>
Gd x26 true w27 (fun K28 => K28 x16 w27) fun x29 w30 =>
Gd x26 true w30 (fun K31 => Bi .leq x29 (.int .u8 57) fun x32 => K31 x32 w30) fun x33 w34 =>
Gd x17 false w34 (fun K35 => Pk x26 x33 (.bool false) fun x36 => K35 x36 w34) fun x37 w38 =>
Pk x17 (.bool true) x37 fun x39 =>
If x39 (
SlS x11 (some (.int .i64 1)) none fun x40 =>
Cl P 109 #[x40] w38 (pE R) fun x41 w42 =>
Bi .add (.int .i64 1) x41 fun x43 =>
Nk a0 fun x44 =>
Fa x44 1 fun x45 =>
Ld x45 w42 fun x46 =>
Bi .add x46 x43 fun x47 =>
Nk a0 fun x48 =>
Fa x48 1 fun x49 =>
St x49 x47 w42 fun w50 =>
SlS x11 none (some x43) fun x51 =>
Cl P 110 #[x51] w50 (pE R) fun x52 w53 =>
Ex x52 0 fun x54 =>
Ex x52 1 fun x55 =>
Jn (fun J56 =>
Nt x55 fun x57 =>
If x57 (
Cl P 52 #[(.int .i64 4), x7] w53 (pE R) fun x58 w59 =>
J56 [] w59) (
J56 [] w53)) fun jk61 vals w60 =>
SlS x11 none (some x43) fun x62 =>
Bu (.agg #[.int .i64 0, .string ⟨#[]⟩, .int .i64 0, .int .i64 0]) [(0, 1, (.int .i64 3)), (1, 1, x62), (2, 1, x7), (3, 1, x54)] fun x63 =>
StN x1 x63 4 w60 fun w64 =>
LdN x1 4 w64 fun x65 =>
R (.returned x65) w64) (
Bi .neq x16 (.int .u8 95) fun x66 =>
Gd x66 true w38 (fun K67 => K67 x16 w38) fun x68 w69 =>
Gd x66 true w69 (fun K70 => Cv .i32 x68 fun x71 => K70 x71 w69) fun x72 w73 =>
Gd x66 true w73 (fun K74 => Cl P 111 #[x72] w73 (pE R) fun x75 w76 => K74 x75 w76) fun x77 w78 =>
Pk x66 x77 (.bool false) fun x79 =>
If x79 (
Cl P 109 #[x11] w78 (pE R) fun x80 w81 =>
SlS x11 none (some x80) fun x82 =>
Nk a0 fun x83 =>
Fa x83 1 fun x84 =>
Ld x84 w81 fun x85 =>
Ln true x82 fun x86 =>
Bi .add x85 x86 fun x87 =>
Nk a0 fun x88 =>
Fa x88 1 fun x89 =>
St x89 x87 w81 fun w90 =>
Bs .add (.string ⟨#[32]⟩) x82 fun x91 =>
Bs .add x91 (.string ⟨#[32]⟩) fun x92 =>
Cl P 112 #[(.string ⟨#[32, 99, 111, 110, 115, 116, 32, 116, 121, 112, 101, 100, 101, 102, 32, 101, 110, 117, 109, 32, 115, 116, 114, 117, 99, 116, 32, 117, 110, 105, 111, 110, 32, 115, 119, 105, 116, 99, 104, 32, 99, 97, 115, 101, 32, 100, 101, 102, 97, 117, 108, 116, 32, 118, 111, 105, 100, 32, 105, 110, 116, 32, 117, 110, 115, 105, 103, 110, 101, 100, 32, 104, 121, 112, 101, 114, 32, 98, 111, 111, 108, 32, 111, 112, 97, 113, 117, 101, 32, 115, 116, 114, 105, 110, 103, 32, 112, 114, 111, 103, 114, 97, 109, 32, 118, 101, 114, 115, 105, 111, 110, 32, 84, 82, 85, 69, 32, 70, 65, 76, 83, 69, 32]⟩), x92] w90 (pE R) fun x93 w94 =>
If x93 (
Bu (.agg #[.int .i64 0, .string ⟨#[]⟩, .int .i64 0, .int .i64 0]) [(0, 1, (.int .i64 2)), (1, 1, x82), (2, 1, x7)] fun x95 =>
StN x1 x95 4 w94 fun w96 =>
LdN x1 4 w96 fun x97 =>
R (.returned x97) w96) (
Jn (fun J98 =>
Ln true x82 fun x99 =>
Bi .gtr x99 (.int .i64 16) fun x100 =>
If x100 (
Cl P 52 #[(.int .i64 7), x7] w94 (pE R) fun x101 w102 =>
J98 [] w102) (
J98 [] w94)) fun jk104 vals w103 =>
Bu (.agg #[.int .i64 0, .string ⟨#[]⟩, .int .i64 0, .int .i64 0]) [(0, 1, (.int .i64 1)), (1, 1, x82), (2, 1, x7)] fun x105 =>
StN x1 x105 4 w103 fun w106 =>
LdN x1 4 w106 fun x107 =>
R (.returned x107) w106)) (
Cl P 113 #[(.string ⟨#[123, 125, 40, 41, 91, 93, 60, 62, 42, 44, 59, 58, 61]⟩), x16] w78 (pE R) fun x108 w109 =>
Bi .geq x108 (.int .i64 0) fun x110 =>
If x110 (
Nk a0 fun x111 =>
Fa x111 1 fun x112 =>
Ld x112 w109 fun x113 =>
Bi .add x113 (.int .i64 1) fun x114 =>
Nk a0 fun x115 =>
Fa x115 1 fun x116 =>
St x116 x114 w109 fun w117 =>
SlS x11 none (some (.int .i64 1)) fun x118 =>
Bu (.agg #[.int .i64 0, .string ⟨#[]⟩, .int .i64 0, .int .i64 0]) [(0, 1, (.int .i64 4)), (1, 1, x118), (2, 1, x7)] fun x119 =>
StN x1 x119 4 w117 fun w120 =>
LdN x1 4 w120 fun x121 =>
R (.returned x121) w120) (
Cl P 52 #[(.int .i64 2), x7] w109 (pE R) fun x122 w123 =>
Bu (.agg #[.int .i64 0, .string ⟨#[]⟩, .int .i64 0, .int .i64 0]) [] fun x124 =>
StN x1 x124 4 w123 fun w125 =>
LdN x1 4 w125 fun x126 =>
R (.returned x126) w125))))
theorem o_words_Text_Next {R : KR} {a0 : Value} {w : World} (h : s_words_Text_Next R a0 w) : Calls P n_words_Text_Next #[a0] w R := calls_of_fnB (fn := Tryz.f72) (keep := []) (args := [a0]) Tryz.func72 rfl (ofE (by kernel_rfl) h)
abbrev n_words_Word_Is : FuncId := 73
def s_words_Word_Is (R : KR) (a0 a1 : Value) (w : World) : Prop :=
Nw 104 a0 w fun x1 w2 =>
Fa x1 0 fun x3 =>
Ld x3 w2 fun x4 =>
Bi .eql x4 (.int .i64 2) fun x5 =>
Gd x5 false w2 (fun K6 => Fa x1 0 fun x7 => K6 x7 w2) fun x8 w9 =>
Gd x5 false w9 (fun K10 => Ld x8 w9 fun x11 => K10 x11 w9) fun x12 w13 =>
Gd x5 false w13 (fun K14 => Bi .eql x12 (.int .i64 4) fun x15 => K14 x15 w13) fun x16 w17 =>
Pk x5 (.bool true) x16 fun x18 =>
Gd x18 true w17 (fun K19 => Fa x1 1 fun x20 => K19 x20 w17) fun x21 w22 =>
Gd x18 true w22 (fun K23 => Ld x21 w22 fun x24 => K23 x24 w22) fun x25 w26 =>
Gd x18 true w26 (fun K27 => K27 a1 w26) fun x28 w29 =>
Gd x18 true w29 (fun K30 => Bs .eql x25 x28 fun x31 => K30 x31 w29) fun x32 w33 =>
Pk x18 x32 (.bool false) fun x34 =>
R (.returned x34) w33
theorem o_words_Word_Is {R : KR} {a0 a1 : Value} {w : World} (h : s_words_Word_Is R a0 a1 w) : Calls P n_words_Word_Is #[a0, a1] w R := calls_of_fnB (fn := Tryz.f73) (keep := []) (args := [a0, a1]) Tryz.func73 rfl (ofE (by kernel_rfl) h)
abbrev n_strings_Builder_copyCheck : FuncId := 88
def s_strings_Builder_copyCheck (R : KR) (a0 : Value) (w : World) : Prop :=
Nk a0 fun x1 =>
Fa x1 0 fun x2 =>
Ld x2 w fun x3 =>
En .ptr false x3 fun x4 =>
If x4 (
RunV P (convert 136 167 a0) w fun x5 w6 =>
CallN P (callFunc 132 #[x5]) w6 (pE R) fun x7 w8 =>
RunV P (convert 167 136 x7) w8 fun x9 w10 =>
Nk a0 fun x11 =>
Fa x11 0 fun x12 =>
St x12 x9 w10 fun w13 =>
R (.returned (.tuple #[])) w13) (
Nk a0 fun x14 =>
Fa x14 0 fun x15 =>
Ld x15 w fun x16 =>
RunV P (do eqGuard .neq 136 (.tmp 17) (.tmp 18) x16 a0; binOp .neq 136 x16 a0) w fun x17 w18 =>
If x17 (
False) (
R (.returned (.tuple #[])) w18))
theorem o_strings_Builder_copyCheck {R : KR} {a0 : Value} {w : World} (h : s_strings_Builder_copyCheck R a0 w) : Calls P n_strings_Builder_copyCheck #[a0] w R := calls_of_fnB (fn := Tryz.f88) (keep := []) (args := [a0]) Tryz.func88 rfl (ofE (by kernel_rfl) h)
abbrev n_words_Text_skip : FuncId := 108
def s_words_Text_skip (R : KR) (a0 : Value) (w : World) : Prop :=
Lp [] w fun jk1 vals w2 C3 =>
Nk a0 fun x4 =>
Fa x4 0 fun x5 =>
Ld x5 w2.drew fun x6 =>
Nk a0 fun x7 =>
Fa x7 1 fun x8 =>
Ld x8 w2.drew fun x9 =>
SlS x6 (some x9) none fun x10 =>
Cl P 149 #[x10, (.string ⟨#[32, 9, 10]⟩)] w2.drew (pE R) fun x11 w12 =>
Nk a0 fun x13 =>
Fa x13 1 fun x14 =>
Ld x14 w12 fun x15 =>
Ln true x10 fun x16 =>
Ln true x11 fun x17 =>
Bi .sub x16 x17 fun x18 =>
Bi .add x15 x18 fun x19 =>
Nk a0 fun x20 =>
Fa x20 1 fun x21 =>
St x21 x19 w12 fun w22 =>
Cl P 150 #[x11, (.string ⟨#[47, 42]⟩)] w22 (pE R) fun x23 w24 =>
Nt x23 fun x25 =>
If x25 (
R (.returned (.tuple #[])) w24) (
SlS x11 (some (.int .i64 2)) none fun x26 =>
Cl P 151 #[x26, (.string ⟨#[42, 47]⟩)] w24 (pE R) fun x27 w28 =>
Bi .lss x27 (.int .i64 0) fun x29 =>
If x29 (
R (.returned (.tuple #[])) w28) (
Nk a0 fun x30 =>
Fa x30 1 fun x31 =>
Ld x31 w28 fun x32 =>
Bi .add x27 (.int .i64 4) fun x33 =>
Bi .add x32 x33 fun x34 =>
Nk a0 fun x35 =>
Fa x35 1 fun x36 =>
St x36 x34 w28 fun w37 =>
C3 [] w37))
theorem o_words_Text_skip {R : KR} {a0 : Value} {w : World} (h : s_words_Text_skip R a0 w) : Calls P n_words_Text_skip #[a0] w R := calls_of_fnB (fn := Tryz.f108) (keep := []) (args := [a0]) Tryz.func108 rfl (ofE (by kernel_rfl) h)
abbrev n_words_run : FuncId := 109
def s_words_run (R : KR) (a0 : Value) (w : World) : Prop :=
RunV P (Instr.range 9 a0) w fun x1 w2 =>
Lp [] w2 fun jk3 vals w4 C5 =>
RunV P (Instr.next x1 true 0) w4 fun x6 w7 =>
Ex x6 0 fun x8 =>
If x8 (
Ex x6 1 fun x9 =>
Ex x6 2 fun x10 =>
Cl P 111 #[x10] w7 (pE R) fun x11 w12 =>
Nt x11 fun x13 =>
If x13 (
R (.returned x9) w12) (
C5 [] w12)) (
Ln true a0 fun x14 =>
R (.returned x14) w7)
theorem o_words_run {R : KR} {a0 : Value} {w : World} (h : s_words_run R a0 w) : Calls P n_words_run #[a0] w R := calls_of_fnB (fn := Tryz.f109) (keep := []) (args := [a0]) Tryz.func109 rfl (ofE (by kernel_rfl) h)
abbrev n_words_value : FuncId := 110
def s_words_value (R : KR) (a0 : Value) (w : World) : Prop :=
Cl P 152 #[a0, (.string ⟨#[45]⟩)] w (pE R) fun x1 w2 =>
Jn (fun J3 =>
Cl P 150 #[a0, (.string ⟨#[48, 120]⟩)] w2 (pE R) fun x4 w5 =>
If x4 (
SlS a0 (some (.int .i64 2)) none fun x6 =>
Ln true x6 fun x7 =>
Bi .gtr x7 (.int .i64 8) fun x8 =>
If x8 (
R (.returned (.tuple #[(.int .i64 0), (.bool false)])) w5.drew) (
J3 [(.int .i64 16), x6] w5.drew)) (
Ln true x1 fun x9 =>
Bi .gtr x9 (.int .i64 1) fun x10 =>
Gd x10 true w5 (fun K11 => K11 x1 w5) fun x12 w13 =>
Gd x10 true w13 (fun K14 => IxS x12 (.int .i64 0) fun x15 => K14 x15 w13) fun x16 w17 =>
Gd x10 true w17 (fun K18 => Bi .eql x16 (.int .u8 48) fun x19 => K18 x19 w17) fun x20 w21 =>
Pk x10 x20 (.bool false) fun x22 =>
If x22 (
R (.returned (.tuple #[(.int .i64 0), (.bool false)])) w21) (
J3 [(.int .i64 10), x1] w21))) fun jk26 vals w25 =>
V2 vals fun v23 v24 =>
Cl P 153 #[v24, (.int .i32 95)] w25 (pE R) fun x27 w28 =>
If x27 (
R (.returned (.tuple #[(.int .i64 0), (.bool false)])) w28) (
Cl P 154 #[v24, v23, (.int .i64 32)] w28 (pE R) fun x29 w30 =>
Ex x29 0 fun x31 =>
Ex x29 1 fun x32 =>
En .ifc true x32 fun x33 =>
If x33 (
R (.returned (.tuple #[(.int .i64 0), (.bool false)])) w30) (
IxS a0 (.int .i64 0) fun x34 =>
Bi .eql x34 (.int .u8 45) fun x35 =>
If x35 (
Cv .i64 x31 fun x36 =>
Ng x36 fun x37 =>
Bi .leq x31 (.int .u64 2147483648) fun x38 =>
R (.returned (.tuple #[x37, x38])) w30) (
Cv .i64 x31 fun x39 =>
R (.returned (.tuple #[x39, (.bool true)])) w30)))
theorem o_words_value {R : KR} {a0 : Value} {w : World} (h : s_words_value R a0 w) : Calls P n_words_value #[a0] w R := calls_of_fnB (fn := Tryz.f110) (keep := [4, 5]) (args := [a0]) Tryz.func110 rfl (ofE (by kernel_rfl) h)
abbrev n_words_part : FuncId := 111
def s_words_part (R : KR) (a0 : Value) (w : World) : Prop :=
Bi .lss a0 (.int .i32 128) fun x1 =>
Gd x1 true w (fun K2 => K2 a0 w) fun x3 w4 =>
Gd x1 true w4 (fun K5 => Cl P 155 #[x3] w4 (pE R) fun x6 w7 => K5 x6 w7) fun x8 w9 =>
Gd x1 true w9 (fun K10 => K10 x8 w9) fun x11 w12 =>
Gd x11 false w12 (fun K13 => K13 a0 w12) fun x14 w15 =>
Gd x11 false w15 (fun K16 => Cl P 156 #[x14] w15 (pE R) fun x17 w18 => K16 x17 w18) fun x19 w20 =>
Gd x1 true w20 (fun K21 => Pk x11 (.bool true) x19 fun x22 => K21 x22 w20) fun x23 w24 =>
Gd x1 true w24 (fun K25 => K25 x23 w24) fun x26 w27 =>
Gd x26 false w27 (fun K28 => K28 a0 w27) fun x29 w30 =>
Gd x26 false w30 (fun K31 => Bi .eql x29 (.int .i32 95) fun x32 => K31 x32 w30) fun x33 w34 =>
Gd x1 true w34 (fun K35 => Pk x26 (.bool true) x33 fun x36 => K35 x36 w34) fun x37 w38 =>
Pk x1 x37 (.bool false) fun x39 =>
R (.returned x39) w38
theorem o_words_part {R : KR} {a0 : Value} {w : World} (h : s_words_part R a0 w) : Calls P n_words_part #[a0] w R := calls_of_fnB (fn := Tryz.f111) (keep := []) (args := [a0]) Tryz.func111 rfl (ofE (by kernel_rfl) h)
abbrev n_strings_Contains : FuncId := 112
abbrev n_strings_IndexByte : FuncId := 113
abbrev n_slices_Contains_int64 : FuncId := 126
def s_slices_Contains_int64 (R : KR) (a0 a1 : Value) (w : World) : Prop :=
Cl P 166 #[a0, a1] w (pE R) fun x1 w2 =>
Bi .geq x1 (.int .i64 0) fun x3 =>
R (.returned x3) w2
theorem o_slices_Contains_int64 {R : KR} {a0 a1 : Value} {w : World} (h : s_slices_Contains_int64 R a0 a1 w) : Calls P n_slices_Contains_int64 #[a0, a1] w R := calls_of_fnB (fn := Tryz.f126) (keep := []) (args := [a0, a1]) Tryz.func126 rfl (ofE (by kernel_rfl) h)
abbrev n_strings_TrimLeft : FuncId := 149
def s_strings_TrimLeft (R : KR) (a0 a1 : Value) (w : World) : Prop :=
Bs .eql a0 (.string ⟨#[]⟩) fun x1 =>
Gd x1 false w (fun K2 => K2 a1 w) fun x3 w4 =>
Gd x1 false w4 (fun K5 => Bs .eql x3 (.string ⟨#[]⟩) fun x6 => K5 x6 w4) fun x7 w8 =>
Pk x1 (.bool true) x7 fun x9 =>
If x9 (
R (.returned a0) w8) (
Ln true a1 fun x10 =>
Bi .eql x10 (.int .i64 1) fun x11 =>
Gd x11 true w8 (fun K12 => K12 a1 w8) fun x13 w14 =>
Gd x11 true w14 (fun K15 => IxS x13 (.int .i64 0) fun x16 => K15 x16 w14) fun x17 w18 =>
Gd x11 true w18 (fun K19 => Bi .lss x17 (.int .u8 128) fun x20 => K19 x20 w18) fun x21 w22 =>
Pk x11 x21 (.bool false) fun x23 =>
If x23 (
IxS a1 (.int .i64 0) fun x24 =>
Cl P 181 #[a0, x24] w22 (pE R) fun x25 w26 =>
R (.returned x25) w26) (
Cl P 182 #[a1] w22 (pE R) fun x27 w28 =>
Ex x27 0 fun x29 =>
Ex x27 1 fun x30 =>
Nw 377 (.agg #[.bool false, .bool false, .bool false, .bool false, .bool false, .bool false, .bool false, .bool false, .bool false, .bool false, .bool false, .bool false, .bool false, .bool false, .bool false, .bool false, .bool false, .bool false, .bool false, .bool false, .bool false, .bool false, .bool false, .bool false, .bool false, .bool false, .bool false, .bool false, .bool false, .bool false, .bool false, .bool false, .bool false, .bool false, .bool false, .bool false, .bool false, .bool false, .bool false, .bool false, .bool false, .bool false, .bool false, .bool false, .bool false, .bool false, .bool false, .bool false, .bool false, .bool false, .bool false, .bool false, .bool false, .bool false, .bool false, .bool false, .bool false, .bool false, .bool false, .bool false, .bool false, .bool false, .bool false, .bool false, .bool false, .bool false, .bool false, .bool false, .bool false, .bool false, .bool false, .bool false, .bool false, .bool false, .bool false, .bool false, .bool false, .bool false, .bool false, .bool false, .bool false, .bool false, .bool false, .bool false, .bool false, .bool false, .bool false, .bool false, .bool false, .bool false, .bool false, .bool false, .bool false, .bool false, .bool false, .bool false, .bool false, .bool false, .bool false, .bool false, .bool false, .bool false, .bool false, .bool false, .bool false, .bool false, .bool false, .bool false, .bool false, .bool false, .bool false, .bool false, .bool false, .bool false, .bool false, .bool false, .bool false, .bool false, .bool false, .bool false, .bool false, .bool false, .bool false, .bool false, .bool false, .bool false, .bool false, .bool false, .bool false, .bool false, .bool false, .bool false, .bool false, .bool false, .bool false, .bool false, .bool false, .bool false, .bool false, .bool false, .bool false, .bool false, .bool false, .bool false, .bool false, .bool false, .bool false, .bool false, .bool false, .bool false, .bool false, .bool false, .bool false, .bool false, .bool false, .bool false, .bool false, .bool false, .bool false, .bool false, .bool false, .bool false, .bool false, .bool false, .bool false, .bool false, .bool false, .bool false, .bool false, .bool false, .bool false, .bool false, .bool false, .bool false, .bool false, .bool false, .bool false, .bool false, .bool false, .bool false, .bool false, .bool false, .bool false, .bool false, .bool false, .bool false, .bool false, .bool false, .bool false, .bool false, .bool false, .bool false, .bool false, .bool false, .bool false, .bool false, .bool false, .bool false, .bool false, .bool false, .bool false, .bool false, .bool false, .bool false, .bool false, .bool false, .bool false, .bool false, .bool false, .bool false, .bool false, .bool false, .bool false, .bool false, .bool false, .bool false, .bool false, .bool false, .bool false, .bool false, .bool false, .bool false, .bool false, .bool false, .bool false, .bool false, .bool false, .bool false, .bool false, .bool false, .bool false, .bool false, .bool false, .bool false, .bool false, .bool false, .bool false, .bool false, .bool false, .bool false, .bool false, .bool false, .bool false, .bool false, .bool false, .bool false, .bool false, .bool false, .bool false, .bool false, .bool false, .bool false, .bool false, .bool false, .bool false, .bool false]) w28 fun x31 w32 =>
StN x31 x29 256 w32 fun w33 =>
If x30 (
Cl P 183 #[a0, x31] w33 (pE R) fun x34 w35 =>
R (.returned x34) w35) (
Cl P 184 #[a0, a1] w33 (pE R) fun x36 w37 =>
R (.returned x36) w37)))
theorem o_strings_TrimLeft {R : KR} {a0 a1 : Value} {w : World} (h : s_strings_TrimLeft R a0 a1 w) : Calls P n_strings_TrimLeft #[a0, a1] w R := calls_of_fnB (fn := Tryz.f149) (keep := []) (args := [a0, a1]) Tryz.func149 rfl (ofE (by kernel_rfl) h)
abbrev n_strings_HasPrefix : FuncId := 150
def s_strings_HasPrefix (R : KR) (a0 a1 : Value) (w : World) : Prop :=
Cl P 185 #[a0, a1] w (pE R) fun x1 w2 =>
R (.returned x1) w2
theorem o_strings_HasPrefix {R : KR} {a0 a1 : Value} {w : World} (h : s_strings_HasPrefix R a0 a1 w) : Calls P n_strings_HasPrefix #[a0, a1] w R := calls_of_fnB (fn := Tryz.f150) (keep := []) (args := [a0, a1]) Tryz.func150 rfl (ofE (by kernel_rfl) h)
abbrev n_strings_Index : FuncId := 151
abbrev n_strings_TrimPrefix : FuncId := 152
def s_strings_TrimPrefix (R : KR) (a0 a1 : Value) (w : World) : Prop :=
Cl P 187 #[a0, a1] w (pE R) fun x1 w2 =>
R (.returned x1) w2
theorem o_strings_TrimPrefix {R : KR} {a0 a1 : Value} {w : World} (h : s_strings_TrimPrefix R a0 a1 w) : Calls P n_strings_TrimPrefix #[a0, a1] w R := calls_of_fnB (fn := Tryz.f152) (keep := []) (args := [a0, a1]) Tryz.func152 rfl (ofE (by kernel_rfl) h)
abbrev n_strings_ContainsRune : FuncId := 153
abbrev n_strconv_ParseUint : FuncId := 154
def s_strconv_ParseUint (R : KR) (a0 a1 a2 : Value) (w : World) : Prop :=
Cl P 189 #[a0, a1, a2] w (pE R) fun x1 w2 =>
Ex x1 0 fun x3 =>
Ex x1 1 fun x4 =>
En .ifc true x4 fun x5 =>
If x5 (
Cl P 190 #[(.string ⟨#[80, 97, 114, 115, 101, 85, 105, 110, 116]⟩), a0, a1, a2, x4] w2 (pE R) fun x6 w7 =>
R (.returned (.tuple #[x3, x6])) w7) (
R (.returned (.tuple #[x3, .nilIface])) w2)
theorem o_strconv_ParseUint {R : KR} {a0 a1 a2 : Value} {w : World} (h : s_strconv_ParseUint R a0 a1 a2 w) : Calls P n_strconv_ParseUint #[a0, a1, a2] w R := calls_of_fnB (fn := Tryz.f154) (keep := []) (args := [a0, a1, a2]) Tryz.func154 rfl (ofE (by kernel_rfl) h)
abbrev n_slices_Index_int64 : FuncId := 166
def s_slices_Index_int64 (R : KR) (a0 a1 : Value) (w : World) : Prop :=
Ln false a0 fun x1 =>
Lp [(.int .i64 0)] w fun jk2 vals w3 C4 =>
V1 vals fun v5 =>
Bi .lss v5 x1 fun x6 =>
If x6 (
IaS 1 a0 v5 fun x7 =>
Ld x7 w3 fun x8 =>
Bi .eql a1 x8 fun x9 =>
If x9 (
R (.returned v5) w3) (
Bi .add v5 (.int .i64 1) fun x10 =>
C4 [x10] w3)) (
R (.returned (.int .i64 (-1))) w3)
theorem o_slices_Index_int64 {R : KR} {a0 a1 : Value} {w : World} (h : s_slices_Index_int64 R a0 a1 w) : Calls P n_slices_Index_int64 #[a0, a1] w R := calls_of_fnB (fn := Tryz.f166) (keep := [8]) (args := [a0, a1]) Tryz.func166 rfl (ofE (by kernel_rfl) h)
abbrev n_strings_trimLeftASCII : FuncId := 183
def s_strings_trimLeftASCII (R : KR) (a0 a1 : Value) (w : World) : Prop :=
Jn (fun J1 =>
Lp [a0] w fun jk2 vals w3 C4 =>
V1 vals fun v5 =>
Ln true v5 fun x6 =>
Bi .gtr x6 (.int .i64 0) fun x7 =>
If x7 (
IxS v5 (.int .i64 0) fun x8 =>
Cl P 209 #[a1, x8] w3 (pE R) fun x9 w10 =>
Nt x9 fun x11 =>
If x11 (
J1 [v5] w10) (
SlS v5 (some (.int .i64 1)) none fun x12 =>
C4 [x12] w10)) (
J1 [v5] w3)) fun jk15 vals w14 =>
V1 vals fun v13 =>
R (.returned v13) w14
theorem o_strings_trimLeftASCII {R : KR} {a0 a1 : Value} {w : World} (h : s_strings_trimLeftASCII R a0 a1 w) : Calls P n_strings_trimLeftASCII #[a0, a1] w R := calls_of_fnB (fn := Tryz.f183) (keep := [0]) (args := [a0, a1]) Tryz.func183 rfl (ofE (by kernel_rfl) h)
abbrev n_internal_stringslite_HasPrefix : FuncId := 185
def s_internal_stringslite_HasPrefix (R : KR) (a0 a1 : Value) (w : World) : Prop :=
Ln true a0 fun x1 =>
Ln true a1 fun x2 =>
Bi .geq x1 x2 fun x3 =>
Gd x3 true w (fun K4 => K4 a0 w) fun x5 w6 =>
Gd x3 true w6 (fun K7 => K7 a1 w6) fun x8 w9 =>
Gd x3 true w9 (fun K10 => Ln true x8 fun x11 => K10 x11 w9) fun x12 w13 =>
Gd x3 true w13 (fun K14 => SlS x5 none (some x12) fun x15 => K14 x15 w13) fun x16 w17 =>
Gd x3 true w17 (fun K18 => K18 a1 w17) fun x19 w20 =>
Gd x3 true w20 (fun K21 => Bs .eql x16 x19 fun x22 => K21 x22 w20) fun x23 w24 =>
Pk x3 x23 (.bool false) fun x25 =>
R (.returned x25) w24
theorem o_internal_stringslite_HasPrefix {R : KR} {a0 a1 : Value} {w : World} (h : s_internal_stringslite_HasPrefix R a0 a1 w) : Calls P n_internal_stringslite_HasPrefix #[a0, a1] w R := calls_of_fnB (fn := Tryz.f185) (keep := []) (args := [a0, a1]) Tryz.func185 rfl (ofE (by kernel_rfl) h)
abbrev n_internal_stringslite_TrimPrefix : FuncId := 187
def s_internal_stringslite_TrimPrefix (R : KR) (a0 a1 : Value) (w : World) : Prop :=
Cl P 185 #[a0, a1] w (pE R) fun x1 w2 =>
If x1 (
Ln true a1 fun x3 =>
SlS a0 (some x3) none fun x4 =>
R (.returned x4) w2) (
R (.returned a0) w2)
theorem o_internal_stringslite_TrimPrefix {R : KR} {a0 a1 : Value} {w : World} (h : s_internal_stringslite_TrimPrefix R a0 a1 w) : Calls P n_internal_stringslite_TrimPrefix #[a0, a1] w R := calls_of_fnB (fn := Tryz.f187) (keep := []) (args := [a0, a1]) Tryz.func187 rfl (ofE (by kernel_rfl) h)
abbrev n_internal_strconv_ParseUint : FuncId := 189
def s_internal_strconv_ParseUint (R : KR) (a0 a1 a2 : Value) (w : World) : Prop :=
Bs .eql a0 (.string ⟨#[]⟩) fun x1 =>
If x1 (
R (.returned (.tuple #[(.int .u64 0), (.iface 399 (.int .i64 2))])) w) (
Bi .eql a1 (.int .i64 0) fun x2 =>
Jn (fun J3 =>
Bi .leq (.int .i64 2) a1 fun x4 =>
Gd x4 true w (fun K5 => K5 a1 w) fun x6 w7 =>
Gd x4 true w7 (fun K8 => Bi .leq x6 (.int .i64 36) fun x9 => K8 x9 w7) fun x10 w11 =>
Pk x4 x10 (.bool false) fun x12 =>
If x12 (
J3 [a0, a1] w11) (
Bi .eql a1 (.int .i64 0) fun x13 =>
If x13 (
IxS a0 (.int .i64 0) fun x14 =>
Bi .eql x14 (.int .u8 48) fun x15 =>
If x15 (
Ln true a0 fun x16 =>
Bi .geq x16 (.int .i64 3) fun x17 =>
Gd x17 true w11 (fun K18 => K18 a0 w11) fun x19 w20 =>
Gd x17 true w20 (fun K21 => IxS x19 (.int .i64 1) fun x22 => K21 x22 w20) fun x23 w24 =>
Gd x17 true w24 (fun K25 => Cl P 215 #[x23] w24 (pE R) fun x26 w27 => K25 x26 w27) fun x28 w29 =>
Gd x17 true w29 (fun K30 => Bi .eql x28 (.int .u8 98) fun x31 => K30 x31 w29) fun x32 w33 =>
Pk x17 x32 (.bool false) fun x34 =>
If x34 (
SlS a0 (some (.int .i64 2)) none fun x35 =>
J3 [x35, (.int .i64 2)] w33) (
Ln true a0 fun x36 =>
Bi .geq x36 (.int .i64 3) fun x37 =>
Gd x37 true w33 (fun K38 => K38 a0 w33) fun x39 w40 =>
Gd x37 true w40 (fun K41 => IxS x39 (.int .i64 1) fun x42 => K41 x42 w40) fun x43 w44 =>
Gd x37 true w44 (fun K45 => Cl P 215 #[x43] w44 (pE R) fun x46 w47 => K45 x46 w47) fun x48 w49 =>
Gd x37 true w49 (fun K50 => Bi .eql x48 (.int .u8 111) fun x51 => K50 x51 w49) fun x52 w53 =>
Pk x37 x52 (.bool false) fun x54 =>
If x54 (
SlS a0 (some (.int .i64 2)) none fun x55 =>
J3 [x55, (.int .i64 8)] w53) (
Ln true a0 fun x56 =>
Bi .geq x56 (.int .i64 3) fun x57 =>
Gd x57 true w53 (fun K58 => K58 a0 w53) fun x59 w60 =>
Gd x57 true w60 (fun K61 => IxS x59 (.int .i64 1) fun x62 => K61 x62 w60) fun x63 w64 =>
Gd x57 true w64 (fun K65 => Cl P 215 #[x63] w64 (pE R) fun x66 w67 => K65 x66 w67) fun x68 w69 =>
Gd x57 true w69 (fun K70 => Bi .eql x68 (.int .u8 120) fun x71 => K70 x71 w69) fun x72 w73 =>
Pk x57 x72 (.bool false) fun x74 =>
If x74 (
SlS a0 (some (.int .i64 2)) none fun x75 =>
J3 [x75, (.int .i64 16)] w73) (
SlS a0 (some (.int .i64 1)) none fun x76 =>
J3 [x76, (.int .i64 8)] w73)))) (
J3 [a0, (.int .i64 10)] w11)) (
R (.returned (.tuple #[(.int .u64 0), (.iface 399 (.int .i64 3))])) w11))) fun jk80 vals w79 =>
V2 vals fun v77 v78 =>
Jn (fun J81 =>
Bi .eql a2 (.int .i64 0) fun x82 =>
If x82 (
J81 [(.int .i64 64)] w79) (
Bi .lss a2 (.int .i64 0) fun x83 =>
Gd x83 false w79 (fun K84 => K84 a2 w79) fun x85 w86 =>
Gd x83 false w86 (fun K87 => Bi .gtr x85 (.int .i64 64) fun x88 => K87 x88 w86) fun x89 w90 =>
Pk x83 (.bool true) x89 fun x91 =>
If x91 (
R (.returned (.tuple #[(.int .u64 0), (.iface 399 (.int .i64 4))])) w90) (
J81 [a2] w90))) fun jk94 vals w93 =>
V1 vals fun v92 =>
Jn (fun J95 =>
Bi .eql v78 (.int .i64 10) fun x96 =>
If x96 (
J95 [(.int .u64 1844674407370955162)] w93) (
Bi .eql v78 (.int .i64 16) fun x97 =>
If x97 (
J95 [(.int .u64 1152921504606846976)] w93) (
Cv .u64 v78 fun x98 =>
Bi .quo (.int .u64 18446744073709551615) x98 fun x99 =>
Bi .add x99 (.int .u64 1) fun x100 =>
J95 [x100] w93))) fun jk103 vals w102 =>
V1 vals fun v101 =>
Cv .u64 v92 fun x104 =>
Sh .shl (.int .u64 1) x104 fun x105 =>
Bi .sub x105 (.int .u64 1) fun x106 =>
RunV P (convert 9 137 v77) w102 fun x107 w108 =>
Ln false x107 fun x109 =>
Lp [(.bool false), (.int .u64 0), undef, (.int .i64 0)] w108 fun jk110 vals w111 C112 =>
V4 vals fun v113 v114 v115 v116 =>
Bi .lss v116 x109 fun x117 =>
If x117 (
Jn (fun J118 =>
IaS 1 x107 v116 fun x119 =>
Ld x119 w111 fun x120 =>
Jn (fun J121 =>
Bi .eql x120 (.int .u8 95) fun x122 =>
Gd x122 true w111 (fun K123 => K123 x2 w111) fun x124 w125 =>
Pk x122 x124 (.bool false) fun x126 =>
If x126 (
J118 [(.bool true), v114, (.int .u8 0)] w125) (
Bi .leq (.int .u8 48) x120 fun x127 =>
Gd x127 true w125 (fun K128 => K128 x120 w125) fun x129 w130 =>
Gd x127 true w130 (fun K131 => Bi .leq x129 (.int .u8 57) fun x132 => K131 x132 w130) fun x133 w134 =>
Pk x127 x133 (.bool false) fun x135 =>
If x135 (
Bi .sub x120 (.int .u8 48) fun x136 =>
J121 [v113, x136] w134) (
Cl P 215 #[x120] w134 (pE R) fun x137 w138 =>
Bi .leq (.int .u8 97) x137 fun x139 =>
Gd x139 true w138 (fun K140 => K140 x120 w138) fun x141 w142 =>
Gd x139 true w142 (fun K143 => Cl P 215 #[x141] w142 (pE R) fun x144 w145 => K143 x144 w145) fun x146 w147 =>
Gd x139 true w147 (fun K148 => Bi .leq x146 (.int .u8 122) fun x149 => K148 x149 w147) fun x150 w151 =>
Pk x139 x150 (.bool false) fun x152 =>
If x152 (
Cl P 215 #[x120] w151 (pE R) fun x153 w154 =>
Bi .sub x153 (.int .u8 97) fun x155 =>
Bi .add x155 (.int .u8 10) fun x156 =>
J121 [v113, x156] w154) (
R (.returned (.tuple #[(.int .u64 0), (.iface 399 (.int .i64 2))])) w151)))) fun jk160 vals w159 =>
V2 vals fun v157 v158 =>
Cv .u8 v78 fun x161 =>
Bi .geq v158 x161 fun x162 =>
If x162 (
R (.returned (.tuple #[(.int .u64 0), (.iface 399 (.int .i64 2))])) w159) (
Bi .geq v114 v101 fun x163 =>
If x163 (
R (.returned (.tuple #[x106, (.iface 399 (.int .i64 1))])) w159) (
Cv .u64 v78 fun x164 =>
Bi .mul v114 x164 fun x165 =>
Cv .u64 v158 fun x166 =>
Bi .add x165 x166 fun x167 =>
Bi .lss x167 x165 fun x168 =>
Gd x168 false w159 (fun K169 => K169 x167 w159) fun x170 w171 =>
Gd x168 false w171 (fun K172 => K172 x106 w171) fun x173 w174 =>
Gd x168 false w174 (fun K175 => Bi .gtr x170 x173 fun x176 => K175 x176 w174) fun x177 w178 =>
Pk x168 (.bool true) x177 fun x179 =>
If x179 (
R (.returned (.tuple #[x106, (.iface 399 (.int .i64 1))])) w178) (
J118 [v157, x167, v158] w178)))) fun jk184 vals w183 =>
V3 vals fun v180 v181 v182 =>
Bi .add v116 (.int .i64 1) fun x185 =>
C112 [v180, v181, v182, x185] w183) (
Gd v113 true w111 (fun K186 => K186 a0 w111) fun x187 w188 =>
Gd v113 true w188 (fun K189 => Cl P 216 #[x187] w188 (pE R) fun x190 w191 => K189 x190 w191) fun x192 w193 =>
Gd v113 true w193 (fun K194 => Nt x192 fun x195 => K194 x195 w193) fun x196 w197 =>
Pk v113 x196 (.bool false) fun x198 =>
If x198 (
R (.returned (.tuple #[(.int .u64 0), (.iface 399 (.int .i64 2))])) w197) (
R (.returned (.tuple #[v114, .nilIface])) w197)))
theorem o_internal_strconv_ParseUint {R : KR} {a0 a1 a2 : Value} {w : World} (h : s_internal_strconv_ParseUint R a0 a1 a2 w) : Calls P n_internal_strconv_ParseUint #[a0, a1, a2] w R := calls_of_fnB (fn := Tryz.f189) (keep := [0, 1, 2, 10, 12, 13, 16, 101]) (args := [a0, a1, a2]) Tryz.func189 rfl (ofE (by kernel_rfl) h)
abbrev n_strconv_toError : FuncId := 190
def s_strconv_toError (R : KR) (a0 a1 a2 a3 a4 : Value) (w : World) : Prop :=
RunV P (do eqGuard .eql 24 (.tmp 11) (.tmp 13) a4 (.iface 399 (.int .i64 2)); binOp .eql 24 a4 (.iface 399 (.int .i64 2))) w fun x1 w2 =>
If x1 (
Cl P 217 #[a0, a1] w2 (pE R) fun x3 w4 =>
R (.returned (.iface 401 x3)) w4) (
RunV P (do eqGuard .eql 24 (.tmp 11) (.tmp 20) a4 (.iface 399 (.int .i64 1)); binOp .eql 24 a4 (.iface 399 (.int .i64 1))) w2 fun x5 w6 =>
If x5 (
Cl P 218 #[a0, a1] w6 (pE R) fun x7 w8 =>
R (.returned (.iface 401 x7)) w8) (
RunV P (do eqGuard .eql 24 (.tmp 11) (.tmp 27) a4 (.iface 399 (.int .i64 3)); binOp .eql 24 a4 (.iface 399 (.int .i64 3))) w6 fun x9 w10 =>
If x9 (
Cl P 219 #[a0, a1, a2] w10 (pE R) fun x11 w12 =>
R (.returned (.iface 401 x11)) w12) (
RunV P (do eqGuard .eql 24 (.tmp 11) (.tmp 35) a4 (.iface 399 (.int .i64 4)); binOp .eql 24 a4 (.iface 399 (.int .i64 4))) w10 fun x13 w14 =>
If x13 (
Cl P 220 #[a0, a1, a3] w14 (pE R) fun x15 w16 =>
R (.returned (.iface 401 x15)) w16) (
R (.returned a4) w14))))
theorem o_strconv_toError {R : KR} {a0 a1 a2 a3 a4 : Value} {w : World} (h : s_strconv_toError R a0 a1 a2 a3 a4 w) : Calls P n_strconv_toError #[a0, a1, a2, a3, a4] w R := calls_of_fnB (fn := Tryz.f190) (keep := []) (args := [a0, a1, a2, a3, a4]) Tryz.func190 rfl (ofE (by kernel_rfl) h)
abbrev n_internal_strconv_lower : FuncId := 215
def s_internal_strconv_lower (R : KR) (a0 : Value) (w : World) : Prop :=
Bi .or a0 (.int .u8 32) fun x1 =>
R (.returned x1) w
theorem o_internal_strconv_lower {R : KR} {a0 : Value} {w : World} (h : s_internal_strconv_lower R a0 w) : Calls P n_internal_strconv_lower #[a0] w R := calls_of_fnB (fn := Tryz.f215) (keep := []) (args := [a0]) Tryz.func215 rfl (ofE (by kernel_rfl) h)
abbrev n_strconv_syntaxError : FuncId := 217
def s_strconv_syntaxError (R : KR) (a0 a1 : Value) (w : World) : Prop :=
Ld (.pointer (some ⟨5, 0, none⟩)) w.drew fun x1 =>
Cl P 257 #[a1] w.drew (pE R) fun x2 w3 =>
(Ld (.pointer (some ⟨5, 0, none⟩)) w3 fun x4 => x4 = x1) ∧
Bu (.agg #[.string ⟨#[]⟩, .string ⟨#[]⟩, .nilIface]) [(0, 1, a0), (1, 1, x2), (2, 1, x1)] fun x5 =>
Nw 445 x5 w3 fun x6 w7 =>
R (.returned x6) w7
theorem o_strconv_syntaxError {R : KR} {a0 a1 : Value} {w : World} (h : s_strconv_syntaxError R a0 a1 w) : Calls P n_strconv_syntaxError #[a0, a1] w R := calls_of_fnB (fn := Tryz.f217) (keep := []) (args := [a0, a1]) Tryz.func217 rfl (ofE (by kernel_rfl) h)
abbrev n_strconv_rangeError : FuncId := 218
def s_strconv_rangeError (R : KR) (a0 a1 : Value) (w : World) : Prop :=
Ld (.pointer (some ⟨6, 0, none⟩)) w.drew fun x1 =>
Cl P 257 #[a1] w.drew (pE R) fun x2 w3 =>
(Ld (.pointer (some ⟨6, 0, none⟩)) w3 fun x4 => x4 = x1) ∧
Bu (.agg #[.string ⟨#[]⟩, .string ⟨#[]⟩, .nilIface]) [(0, 1, a0), (1, 1, x2), (2, 1, x1)] fun x5 =>
Nw 445 x5 w3 fun x6 w7 =>
R (.returned x6) w7
theorem o_strconv_rangeError {R : KR} {a0 a1 : Value} {w : World} (h : s_strconv_rangeError R a0 a1 w) : Calls P n_strconv_rangeError #[a0, a1] w R := calls_of_fnB (fn := Tryz.f218) (keep := []) (args := [a0, a1]) Tryz.func218 rfl (ofE (by kernel_rfl) h)
abbrev n_strings_Repeat : FuncId := 334
abbrev n_strings_Builder_Len : FuncId := 339
def s_strings_Builder_Len (R : KR) (a0 : Value) (w : World) : Prop :=
Nk a0 fun x1 =>
Fa x1 1 fun x2 =>
Ld x2 w fun x3 =>
Ln false x3 fun x4 =>
R (.returned x4) w
theorem o_strings_Builder_Len {R : KR} {a0 : Value} {w : World} (h : s_strings_Builder_Len R a0 w) : Calls P n_strings_Builder_Len #[a0] w R := calls_of_fnB (fn := Tryz.f339) (keep := []) (args := [a0]) Tryz.func339 rfl (ofE (by kernel_rfl) h)
end Go.W.T
namespace Go.W.T
open Go Go.Proofs
abbrev n_machine_Decode : FuncId := 35
abbrev n_machine_Encode : FuncId := 36
abbrev n_machine_machine_run : FuncId := 58
def s_machine_machine_run (R : KR) (a0 a1 : Value) (w : World) : Prop :=
Lp [a1, undef] w fun jk1 vals w2 C3 =>
V2 vals fun v4 v5 =>
Nk a0 fun x6 =>
Fa x6 0 fun x7 =>
Ld x7 w2 fun x8 =>
Nk x8 fun x9 =>
Fa x9 0 fun x10 =>
Ld x10 w2 fun x11 =>
IaS 7 x11 v4 fun x12 =>
LdN x12 7 w2 fun x13 =>
Nw 135 (.agg #[.int .i64 0, .int .i64 0, .int .i64 0, .bool false, .int .i64 0, .map none, .map none]) w2 fun x14 w15 =>
StN x14 x13 7 w15 fun w16 =>
Bi .add v4 (.int .i64 1) fun x17 =>
Fa x14 0 fun x18 =>
Ld x18 w16 fun x19 =>
Bi .eql x19 (.int .i64 16) fun x20 =>
If x20 (
R (.returned (.tuple #[])) w16) (
Bi .eql x19 (.int .i64 15) fun x21 =>
If x21 (
C3 [x17, v5] w16) (
Bi .eql x19 (.int .i64 14) fun x22 =>
If x22 (
Fa x14 2 fun x23 =>
Ld x23 w16 fun x24 =>
C3 [x24, v5] w16) (
Bi .eql x19 (.int .i64 6) fun x25 =>
If x25 (
Jn (fun J26 =>
Nk a0 fun x27 =>
Fa x27 5 fun x28 =>
Ld x28 w16.drew fun x29 =>
Nk a0 fun x30 =>
Fa x30 1 fun x31 =>
Fa x31 0 fun x32 =>
Ld x32 w16.drew fun x33 =>
Bi .geq x29 x33 fun x34 =>
If x34 (
Nk a0 fun x35 =>
Fa x35 4 fun x36 =>
Ld x36 w16.drew fun x37 =>
CallI P x37 "marshal/machine.place" #[] w16.drew (pE R) fun x38 w39 =>
Cl P 59 #[(.int .i64 13), x38] w39 (pE R) fun x40 w41 =>
J26 [] w41) (
J26 [] w16.drew)) fun jk43 vals w42 =>
Nk a0 fun x44 =>
Fa x44 5 fun x45 =>
Ld x45 w42 fun x46 =>
Bi .add x46 (.int .i64 1) fun x47 =>
Nk a0 fun x48 =>
Fa x48 5 fun x49 =>
St x49 x47 w42 fun w50 =>
Nk a0 fun x51 =>
Fa x51 6 fun x52 =>
Cl P 89 #[x52, x17] w50 (pE R) fun x53 w54 =>
Fa x14 2 fun x55 =>
Ld x55 w54 fun x56 =>
C3 [x56, v5] w54) (
Bi .eql x19 (.int .i64 7) fun x57 =>
If x57 (
Nk a0 fun x58 =>
Fa x58 5 fun x59 =>
Ld x59 w16 fun x60 =>
Bi .sub x60 (.int .i64 1) fun x61 =>
Nk a0 fun x62 =>
Fa x62 5 fun x63 =>
St x63 x61 w16 fun w64 =>
Nk a0 fun x65 =>
Fa x65 6 fun x66 =>
Cl P 90 #[x66] w64 (pE R) fun x67 w68 =>
C3 [x67, v5] w68) (
Jn (fun J69 =>
Bi .eql x19 (.int .i64 8) fun x70 =>
If x70 (
J69 [x70] w16) (
Bi .eql x19 (.int .i64 9) fun x71 =>
J69 [x71] w16)) fun jk74 vals w73 =>
V1 vals fun v72 =>
If v72 (
Nk a0 fun x75 =>
Fa x75 4 fun x76 =>
Ld x76 w73.drew fun x77 =>
LdN x14 7 w73.drew fun x78 =>
CallI P x77 "marshal/machine.list" #[x78] w73.drew (pE R) fun x79 w80 =>
Bi .eql x79 (.int .i64 0) fun x81 =>
If x81 (
Fa x14 2 fun x82 =>
Ld x82 w80 fun x83 =>
C3 [x83, v72] w80) (
Nk a0 fun x84 =>
Fa x84 7 fun x85 =>
Bi .sub x79 (.int .i64 1) fun x86 =>
Bu (.agg #[.int .i64 0, .int .i64 0]) [(0, 1, x86), (1, 1, x17)] fun x87 =>
Cl P 91 #[x85, x87] w80 (pE R) fun x88 w89 =>
C3 [x17, v72] w89)) (
Bi .eql x19 (.int .i64 10) fun x90 =>
If x90 (
Nk a0 fun x91 =>
Fa x91 7 fun x92 =>
Cl P 92 #[x92] w73 (pE R) fun x93 w94 =>
Nw 243 (.agg #[.int .i64 0, .int .i64 0]) w94 fun x95 w96 =>
StN x95 x93 2 w96 fun w97 =>
Fa x95 0 fun x98 =>
Ld x98 w97 fun x99 =>
Bi .gtr x99 (.int .i64 0) fun x100 =>
If x100 (
Nk a0 fun x101 =>
Fa x101 7 fun x102 =>
Fa x95 0 fun x103 =>
Ld x103 w97.drew fun x104 =>
Bi .sub x104 (.int .i64 1) fun x105 =>
Fa x95 1 fun x106 =>
Ld x106 w97.drew fun x107 =>
Bu (.agg #[.int .i64 0, .int .i64 0]) [(0, 1, x105), (1, 1, x107)] fun x108 =>
Cl P 91 #[x102, x108] w97.drew (pE R) fun x109 w110 =>
Fa x95 1 fun x111 =>
Ld x111 w110 fun x112 =>
C3 [x112, v72] w110) (
C3 [x17, v72] w97)) (
Bi .eql x19 (.int .i64 11) fun x113 =>
If x113 (
Nk a0 fun x114 =>
Fa x114 4 fun x115 =>
Ld x115 w73.drew fun x116 =>
LdN x14 7 w73.drew fun x117 =>
CallI P x116 "marshal/machine.list" #[x117] w73.drew (pE R) fun x118 w119 =>
C3 [x17, v72] w119) (
Bi .eql x19 (.int .i64 12) fun x120 =>
If x120 (
Nk a0 fun x121 =>
Fa x121 4 fun x122 =>
Ld x122 w73 fun x123 =>
CallI P x123 "marshal/machine.option" #[] w73 (pE R) fun x124 w125 =>
Nt x124 fun x126 =>
If x126 (
Fa x14 2 fun x127 =>
Ld x127 w125 fun x128 =>
C3 [x128, v72] w125) (
C3 [x17, v72] w125)) (
Bi .eql x19 (.int .i64 13) fun x129 =>
If x129 (
Nk a0 fun x130 =>
Fa x130 4 fun x131 =>
Ld x131 w73.drew fun x132 =>
LdN x14 7 w73.drew fun x133 =>
CallI P x132 "marshal/machine.union" #[x133] w73.drew (pE R) fun x134 w135 =>
C3 [x134, v72] w135) (
Nk a0 fun x136 =>
Fa x136 4 fun x137 =>
Ld x137 w73.drew fun x138 =>
LdN x14 7 w73.drew fun x139 =>
CallI P x138 "marshal/machine.leaf" #[x139] w73.drew (pE R) fun x140 w141 =>
C3 [x17, v72] w141))))))))))
theorem o_machine_machine_run {R : KR} {a0 a1 : Value} {w : World} (h : s_machine_machine_run R a0 a1 w) : Calls P n_machine_machine_run #[a0, a1] w R := calls_of_fnB (fn := Tryz.f58) (keep := [1, 80]) (args := [a0, a1]) Tryz.func58 rfl (ofE (by kernel_rfl) h)
abbrev n_machine_fail : FuncId := 59
def s_machine_fail (R : KR) (a0 a1 : Value) (w : World) : Prop :=
Bu (.agg #[.int .i64 0, .int .i64 0]) [(0, 1, a0), (1, 1, a1)] fun x1 =>
Nw 65 x1 w fun x2 w3 =>
Pn (.iface 63 x2) w3 (pE R)
theorem o_machine_fail {R : KR} {a0 a1 : Value} {w : World} (h : s_machine_fail R a0 a1 w) : Calls P n_machine_fail #[a0, a1] w R := calls_of_fnB (fn := Tryz.f59) (keep := []) (args := [a0, a1]) Tryz.func59 rfl (ofE (by kernel_rfl) h)
abbrev n_machine_stack_int_push : FuncId := 89
def s_machine_stack_int_push (R : KR) (a0 a1 : Value) (w : World) : Prop :=
Nk a0 fun x1 =>
Ld x1 w fun x2 =>
BuS 3 1 [a1] w fun x3 w4 =>
Ap 3 1 8 (.int .i64 0) x2 x3 w4 fun x5 w6 =>
Nk a0 fun x7 =>
St x7 x5 w6 fun w8 =>
R (.returned (.tuple #[])) w8
theorem o_machine_stack_int_push {R : KR} {a0 a1 : Value} {w : World} (h : s_machine_stack_int_push R a0 a1 w) : Calls P n_machine_stack_int_push #[a0, a1] w R := calls_of_fnB (fn := Tryz.f89) (keep := []) (args := [a0, a1]) Tryz.func89 rfl (ofE (by kernel_rfl) h)
abbrev n_machine_stack_int_pop : FuncId := 90
def s_machine_stack_int_pop (R : KR) (a0 : Value) (w : World) : Prop :=
Nk a0 fun x1 =>
Ld x1 w fun x2 =>
Ln false x2 fun x3 =>
Bi .sub x3 (.int .i64 1) fun x4 =>
IaS 1 x2 x4 fun x5 =>
Ld x5 w fun x6 =>
Ln false x2 fun x7 =>
Bi .sub x7 (.int .i64 1) fun x8 =>
SlL 1 x2 none (some x8) fun x9 =>
Nk a0 fun x10 =>
St x10 x9 w fun w11 =>
R (.returned x6) w11
theorem o_machine_stack_int_pop {R : KR} {a0 : Value} {w : World} (h : s_machine_stack_int_pop R a0 w) : Calls P n_machine_stack_int_pop #[a0] w R := calls_of_fnB (fn := Tryz.f90) (keep := []) (args := [a0]) Tryz.func90 rfl (ofE (by kernel_rfl) h)
abbrev n_machine_stack_machine_loop_push : FuncId := 91
def s_machine_stack_machine_loop_push (R : KR) (a0 a1 : Value) (w : World) : Prop :=
Nw 243 a1 w fun x1 w2 =>
Nk a0 fun x3 =>
Ld x3 w2.drew fun x4 =>
LdN x1 2 w2.drew fun x5 =>
BuS 243 2 [x5] w2.drew fun x6 w7 =>
(Ld x3 w7 fun x8 => x8 = x4) ∧
Ap 243 2 16 (.agg #[.int .i64 0, .int .i64 0]) x4 x6 w7 fun x9 w10 =>
Nk a0 fun x11 =>
St x11 x9 w10 fun w12 =>
R (.returned (.tuple #[])) w12
theorem o_machine_stack_machine_loop_push {R : KR} {a0 a1 : Value} {w : World} (h : s_machine_stack_machine_loop_push R a0 a1 w) : Calls P n_machine_stack_machine_loop_push #[a0, a1] w R := calls_of_fnB (fn := Tryz.f91) (keep := []) (args := [a0, a1]) Tryz.func91 rfl (ofE (by kernel_rfl) h)
abbrev n_machine_stack_machine_loop_pop : FuncId := 92
def s_machine_stack_machine_loop_pop (R : KR) (a0 : Value) (w : World) : Prop :=
Nw 243 (.agg #[.int .i64 0, .int .i64 0]) w fun x1 w2 =>
Nk a0 fun x3 =>
Ld x3 w2 fun x4 =>
Ln false x4 fun x5 =>
Bi .sub x5 (.int .i64 1) fun x6 =>
IaS 2 x4 x6 fun x7 =>
LdN x7 2 w2 fun x8 =>
Nw 243 (.agg #[.int .i64 0, .int .i64 0]) w2 fun x9 w10 =>
StN x9 x8 2 w10 fun w11 =>
Ln false x4 fun x12 =>
Bi .sub x12 (.int .i64 1) fun x13 =>
SlL 2 x4 none (some x13) fun x14 =>
Nk a0 fun x15 =>
St x15 x14 w11 fun w16 =>
LdN x9 2 w16 fun x17 =>
StN x1 x17 2 w16 fun w18 =>
LdN x1 2 w18 fun x19 =>
R (.returned x19) w18
theorem o_machine_stack_machine_loop_pop {R : KR} {a0 : Value} {w : World} (h : s_machine_stack_machine_loop_pop R a0 w) : Calls P n_machine_stack_machine_loop_pop #[a0] w R := calls_of_fnB (fn := Tryz.f92) (keep := []) (args := [a0]) Tryz.func92 rfl (ofE (by kernel_rfl) h)
abbrev n_machine_decoder_fuel : FuncId := 313
def s_machine_decoder_fuel (R : KR) (a0 : Value) (w : World) : Prop :=
Nk a0 fun x1 =>
Fa x1 2 fun x2 =>
Ld x2 w.drew fun x3 =>
Ln false x3 fun x4 =>
Nk a0 fun x5 =>
Fa x5 3 fun x6 =>
Fa x6 1 fun x7 =>
Ld x7 w.drew fun x8 =>
Bi .geq x4 x8 fun x9 =>
If x9 (
Nk a0 fun x10 =>
Fa x10 0 fun x11 =>
Fa x11 1 fun x12 =>
Ld x12 w.drew fun x13 =>
Cl P 59 #[(.int .i64 15), x13] w.drew (pE R) fun x14 w15 =>
R (.returned (.tuple #[])) w15) (
R (.returned (.tuple #[])) w.drew)
theorem o_machine_decoder_fuel {R : KR} {a0 : Value} {w : World} (h : s_machine_decoder_fuel R a0 w) : Calls P n_machine_decoder_fuel #[a0] w R := calls_of_fnB (fn := Tryz.f313) (keep := []) (args := [a0]) Tryz.func313 rfl (ofE (by kernel_rfl) h)
abbrev n_machine_decoder_leaf : FuncId := 314
def s_machine_decoder_leaf (R : KR) (a0 a1 : Value) (w : World) : Prop :=
Nw 135 a1 w fun x1 w2 =>
Cl P 313 #[a0] w2 (pE R) fun x3 w4 =>
Nk a0 fun x5 =>
Fa x5 0 fun x6 =>
Fa x6 1 fun x7 =>
Ld x7 w4 fun x8 =>
Fa x1 0 fun x9 =>
Ld x9 w4 fun x10 =>
Bi .eql x10 (.int .i64 5) fun x11 =>
If x11 (
Fa x1 1 fun x12 =>
Ld x12 w4 fun x13 =>
Jn (fun J14 =>
Fa x1 3 fun x15 =>
Ld x15 w4 fun x16 =>
Nt x16 fun x17 =>
If x17 (
Fa x1 1 fun x18 =>
Ld x18 w4 fun x19 =>
Cl P 319 #[a0, x19] w4 (pE R) fun x20 w21 =>
J14 [x20] w21) (
J14 [x13] w4)) fun jk24 vals w23 =>
V1 vals fun v22 =>
Jn (fun J25 =>
Bi .gtr v22 (.int .i64 2147483647) fun x26 =>
If x26 (
Nk a0 fun x27 =>
Fa x27 0 fun x28 =>
Fa x28 1 fun x29 =>
Ld x29 w23 fun x30 =>
Cl P 59 #[(.int .i64 16), x30] w23 (pE R) fun x31 w32 =>
J25 [] w32) (
J25 [] w23)) fun jk34 vals w33 =>
Nk a0 fun x35 =>
Fa x35 0 fun x36 =>
Fa x36 1 fun x37 =>
Ld x37 w33 fun x38 =>
Nk a0 fun x39 =>
Fa x39 0 fun x40 =>
Cl P 320 #[x40, v22] w33 (pE R) fun x41 w42 =>
Bu (.agg #[.int .i64 0, .int .i64 0, .string ⟨#[]⟩, .int .i64 0, .int .i64 0]) [(0, 1, (.int .i64 2)), (2, 1, x41), (3, 1, x38)] fun x43 =>
Cl P 321 #[a0, x43] w42 (pE R) fun x44 w45 =>
R (.returned (.tuple #[])) w45) (
Bi .eql x10 (.int .i64 2) fun x46 =>
If x46 (
Nk a0 fun x47 =>
Fa x47 0 fun x48 =>
Cl P 322 #[x48, (.int .i64 8)] w4 (pE R) fun x49 w50 =>
Nk a0 fun x51 =>
Fa x51 0 fun x52 =>
Cl P 323 #[x52] w50 (pE R) fun x53 w54 =>
Cv .i64 x53 fun x55 =>
Sh .shl x55 (.int .u64 32) fun x56 =>
Nk a0 fun x57 =>
Fa x57 0 fun x58 =>
Cl P 323 #[x58] w54 (pE R) fun x59 w60 =>
Cv .i64 x59 fun x61 =>
Bi .or x56 x61 fun x62 =>
Bu (.agg #[.int .i64 0, .int .i64 0, .string ⟨#[]⟩, .int .i64 0, .int .i64 0]) [(0, 1, (.int .i64 1)), (1, 1, x62)] fun x63 =>
Cl P 321 #[a0, x63] w60 (pE R) fun x64 w65 =>
R (.returned (.tuple #[])) w65) (
Fa x1 0 fun x66 =>
Ld x66 w4.drew fun x67 =>
Nk a0 fun x68 =>
Fa x68 0 fun x69 =>
Cl P 323 #[x69] w4.drew (pE R) fun x70 w71 =>
(Ld x66 w71 fun x72 => x72 = x67) ∧
Cl P 324 #[x67, x70] w71 (pE R) fun x73 w74 =>
Jn (fun J75 =>
Fa x1 0 fun x76 =>
Ld x76 w74 fun x77 =>
Fa x1 5 fun x78 =>
Ld x78 w74 fun x79 =>
Cl P 325 #[x77, x79, x73] w74 (pE R) fun x80 w81 =>
Nt x80 fun x82 =>
If x82 (
Cl P 59 #[(.int .i64 18), x8] w81 (pE R) fun x83 w84 =>
J75 [] w84) (
J75 [] w81)) fun jk86 vals w85 =>
Bu (.agg #[.int .i64 0, .int .i64 0, .string ⟨#[]⟩, .int .i64 0, .int .i64 0]) [(0, 1, (.int .i64 1)), (1, 1, x73)] fun x87 =>
Cl P 321 #[a0, x87] w85 (pE R) fun x88 w89 =>
R (.returned (.tuple #[])) w89))
theorem o_machine_decoder_leaf {R : KR} {a0 a1 : Value} {w : World} (h : s_machine_decoder_leaf R a0 a1 w) : Calls P n_machine_decoder_leaf #[a0, a1] w R := calls_of_fnB (fn := Tryz.f314) (keep := [5]) (args := [a0, a1]) Tryz.func314 rfl (ofE (by kernel_rfl) h)
abbrev n_machine_decoder_list : FuncId := 315
def s_machine_decoder_list (R : KR) (a0 a1 : Value) (w : World) : Prop :=
Nw 135 a1 w fun x1 w2 =>
Cl P 313 #[a0] w2 (pE R) fun x3 w4 =>
Fa x1 1 fun x5 =>
Ld x5 w4 fun x6 =>
Jn (fun J7 =>
Fa x1 0 fun x8 =>
Ld x8 w4 fun x9 =>
Bi .eql x9 (.int .i64 9) fun x10 =>
If x10 (
Fa x1 1 fun x11 =>
Ld x11 w4 fun x12 =>
Cl P 319 #[a0, x12] w4 (pE R) fun x13 w14 =>
J7 [x13] w14) (
J7 [x6] w4)) fun jk17 vals w16 =>
V1 vals fun v15 =>
Bu (.agg #[.int .i64 0, .int .i64 0, .string ⟨#[]⟩, .int .i64 0, .int .i64 0]) [(0, 1, (.int .i64 3)), (4, 1, v15)] fun x18 =>
Cl P 321 #[a0, x18] w16 (pE R) fun x19 w20 =>
R (.returned v15) w20
theorem o_machine_decoder_list {R : KR} {a0 a1 : Value} {w : World} (h : s_machine_decoder_list R a0 a1 w) : Calls P n_machine_decoder_list #[a0, a1] w R := calls_of_fnB (fn := Tryz.f315) (keep := [5]) (args := [a0, a1]) Tryz.func315 rfl (ofE (by kernel_rfl) h)
abbrev n_machine_decoder_option : FuncId := 316
def s_machine_decoder_option (R : KR) (a0 : Value) (w : World) : Prop :=
Cl P 313 #[a0] w (pE R) fun x1 w2 =>
Nk a0 fun x3 =>
Fa x3 0 fun x4 =>
Fa x4 1 fun x5 =>
Ld x5 w2 fun x6 =>
Nk a0 fun x7 =>
Fa x7 0 fun x8 =>
Cl P 323 #[x8] w2 (pE R) fun x9 w10 =>
Jn (fun J11 =>
Bi .gtr x9 (.int .u32 1) fun x12 =>
If x12 (
Cl P 59 #[(.int .i64 18), x6] w10 (pE R) fun x13 w14 =>
J11 [] w14) (
J11 [] w10)) fun jk16 vals w15 =>
Cv .i64 x9 fun x17 =>
Cv .i64 x9 fun x18 =>
Bu (.agg #[.int .i64 0, .int .i64 0, .string ⟨#[]⟩, .int .i64 0, .int .i64 0]) [(0, 1, (.int .i64 4)), (1, 1, x17), (4, 1, x18)] fun x19 =>
Cl P 321 #[a0, x19] w15 (pE R) fun x20 w21 =>
Bi .eql x9 (.int .u32 1) fun x22 =>
R (.returned x22) w21
theorem o_machine_decoder_option {R : KR} {a0 : Value} {w : World} (h : s_machine_decoder_option R a0 w) : Calls P n_machine_decoder_option #[a0] w R := calls_of_fnB (fn := Tryz.f316) (keep := []) (args := [a0]) Tryz.func316 rfl (ofE (by kernel_rfl) h)
abbrev n_machine_decoder_place : FuncId := 317
def s_machine_decoder_place (R : KR) (a0 : Value) (w : World) : Prop :=
Nk a0 fun x1 =>
Fa x1 0 fun x2 =>
Fa x2 1 fun x3 =>
Ld x3 w fun x4 =>
R (.returned x4) w
theorem o_machine_decoder_place {R : KR} {a0 : Value} {w : World} (h : s_machine_decoder_place R a0 w) : Calls P n_machine_decoder_place #[a0] w R := calls_of_fnB (fn := Tryz.f317) (keep := []) (args := [a0]) Tryz.func317 rfl (ofE (by kernel_rfl) h)
abbrev n_machine_decoder_union : FuncId := 318
def s_machine_decoder_union (R : KR) (a0 a1 : Value) (w : World) : Prop :=
Nw 135 a1 w fun x1 w2 =>
Cl P 313 #[a0] w2 (pE R) fun x3 w4 =>
Nk a0 fun x5 =>
Fa x5 0 fun x6 =>
Fa x6 1 fun x7 =>
Ld x7 w4 fun x8 =>
Fa x1 4 fun x9 =>
Ld x9 w4.drew fun x10 =>
Nk a0 fun x11 =>
Fa x11 0 fun x12 =>
Cl P 323 #[x12] w4.drew (pE R) fun x13 w14 =>
(Ld x9 w14 fun x15 => x15 = x10) ∧
Cl P 324 #[x10, x13] w14 (pE R) fun x16 w17 =>
LdN x1 7 w17 fun x18 =>
Cl P 326 #[x18, x16] w17 (pE R) fun x19 w20 =>
Jn (fun J21 =>
Bi .lss x19 (.int .i64 0) fun x22 =>
If x22 (
Cl P 59 #[(.int .i64 18), x8] w20 (pE R) fun x23 w24 =>
J21 [] w24) (
J21 [] w20)) fun jk26 vals w25 =>
Bu (.agg #[.int .i64 0, .int .i64 0, .string ⟨#[]⟩, .int .i64 0, .int .i64 0]) [(0, 1, (.int .i64 4)), (1, 1, x16), (4, 1, (.int .i64 1))] fun x27 =>
Nw 52 (.agg #[.int .i64 0, .int .i64 0, .string ⟨#[]⟩, .int .i64 0, .int .i64 0]) w25 fun x28 w29 =>
StN x28 x27 5 w29 fun w30 =>
Jn (fun J31 =>
Nk a0 fun x32 =>
Fa x32 6 fun x33 =>
Ld x33 w30 fun x34 =>
Nk x34 fun x35 =>
Fa x35 0 fun x36 =>
Ld x36 w30 fun x37 =>
IaS 7 x37 x19 fun x38 =>
Fa x38 0 fun x39 =>
Ld x39 w30 fun x40 =>
Bi .eql x40 (.int .i64 15) fun x41 =>
If x41 (
Fa x28 4 fun x42 =>
St x42 (.int .i64 0) w30 fun w43 =>
J31 [] w43) (
J31 [] w30)) fun jk45 vals w44 =>
LdN x28 5 w44 fun x46 =>
Cl P 321 #[a0, x46] w44 (pE R) fun x47 w48 =>
R (.returned x19) w48
theorem o_machine_decoder_union {R : KR} {a0 a1 : Value} {w : World} (h : s_machine_decoder_union R a0 a1 w) : Calls P n_machine_decoder_union #[a0, a1] w R := calls_of_fnB (fn := Tryz.f318) (keep := []) (args := [a0, a1]) Tryz.func318 rfl (ofE (by kernel_rfl) h)
abbrev n_machine_decoder_count : FuncId := 319
def s_machine_decoder_count (R : KR) (a0 a1 : Value) (w : World) : Prop :=
Nk a0 fun x1 =>
Fa x1 0 fun x2 =>
Fa x2 1 fun x3 =>
Ld x3 w fun x4 =>
Nk a0 fun x5 =>
Fa x5 0 fun x6 =>
Cl P 323 #[x6] w (pE R) fun x7 w8 =>
Cv .i64 x7 fun x9 =>
Jn (fun J10 =>
Bi .gtr x9 a1 fun x11 =>
If x11 (
Cl P 59 #[(.int .i64 19), x4] w8 (pE R) fun x12 w13 =>
J10 [] w13) (
J10 [] w8)) fun jk15 vals w14 =>
R (.returned x9) w14
theorem o_machine_decoder_count {R : KR} {a0 a1 : Value} {w : World} (h : s_machine_decoder_count R a0 a1 w) : Calls P n_machine_decoder_count #[a0, a1] w R := calls_of_fnB (fn := Tryz.f319) (keep := []) (args := [a0, a1]) Tryz.func319 rfl (ofE (by kernel_rfl) h)
abbrev n_machine_cursor_text : FuncId := 320
def s_machine_cursor_text (R : KR) (a0 a1 : Value) (w : World) : Prop :=
Ng a1 fun x1 =>
Bi .and x1 (.int .i64 3) fun x2 =>
Bi .add a1 x2 fun x3 =>
Cl P 322 #[a0, x3] w (pE R) fun x4 w5 =>
Nk a0 fun x6 =>
Fa x6 0 fun x7 =>
Ld x7 w5.drew fun x8 =>
Nk a0 fun x9 =>
Fa x9 1 fun x10 =>
Ld x10 w5.drew fun x11 =>
Nk a0 fun x12 =>
Fa x12 1 fun x13 =>
Ld x13 w5.drew fun x14 =>
Bi .add x14 a1 fun x15 =>
SlS x8 (some x11) (some x15) fun x16 =>
Nk a0 fun x17 =>
Fa x17 1 fun x18 =>
Ld x18 w5.drew fun x19 =>
Bi .add x19 a1 fun x20 =>
Nk a0 fun x21 =>
Fa x21 1 fun x22 =>
St x22 x20 w5.drew fun w23 =>
Lp [(.int .i64 0)] w23 fun jk24 vals w25 C26 =>
V1 vals fun v27 =>
Bi .lss v27 x2 fun x28 =>
If x28 (
Jn (fun J29 =>
Nk a0 fun x30 =>
Fa x30 0 fun x31 =>
Ld x31 w25.drew fun x32 =>
Nk a0 fun x33 =>
Fa x33 1 fun x34 =>
Ld x34 w25.drew fun x35 =>
IxS x32 x35 fun x36 =>
Bi .neq x36 (.int .u8 0) fun x37 =>
If x37 (
Nk a0 fun x38 =>
Fa x38 1 fun x39 =>
Ld x39 w25.drew fun x40 =>
Cl P 59 #[(.int .i64 17), x40] w25.drew (pE R) fun x41 w42 =>
J29 [] w42) (
J29 [] w25.drew)) fun jk44 vals w43 =>
Nk a0 fun x45 =>
Fa x45 1 fun x46 =>
Ld x46 w43 fun x47 =>
Bi .add x47 (.int .i64 1) fun x48 =>
Nk a0 fun x49 =>
Fa x49 1 fun x50 =>
St x50 x48 w43 fun w51 =>
Bi .add v27 (.int .i64 1) fun x52 =>
C26 [x52] w51) (
R (.returned x16) w25)
theorem o_machine_cursor_text {R : KR} {a0 a1 : Value} {w : World} (h : s_machine_cursor_text R a0 a1 w) : Calls P n_machine_cursor_text #[a0, a1] w R := calls_of_fnB (fn := Tryz.f320) (keep := [39]) (args := [a0, a1]) Tryz.func320 rfl (ofE (by kernel_rfl) h)
abbrev n_machine_decoder_add : FuncId := 321
def s_machine_decoder_add (R : KR) (a0 a1 : Value) (w : World) : Prop :=
Nw 52 a1 w fun x1 w2 =>
Nk a0 fun x3 =>
Fa x3 2 fun x4 =>
Ld x4 w2.drew fun x5 =>
LdN x1 5 w2.drew fun x6 =>
BuS 52 5 [x6] w2.drew fun x7 w8 =>
(Ld x4 w8 fun x9 => x9 = x5) ∧
Ap 52 5 48 (.agg #[.int .i64 0, .int .i64 0, .string ⟨#[]⟩, .int .i64 0, .int .i64 0]) x5 x7 w8 fun x10 w11 =>
Nk a0 fun x12 =>
Fa x12 2 fun x13 =>
St x13 x10 w11 fun w14 =>
R (.returned (.tuple #[])) w14
theorem o_machine_decoder_add {R : KR} {a0 a1 : Value} {w : World} (h : s_machine_decoder_add R a0 a1 w) : Calls P n_machine_decoder_add #[a0, a1] w R := calls_of_fnB (fn := Tryz.f321) (keep := []) (args := [a0, a1]) Tryz.func321 rfl (ofE (by kernel_rfl) h)
abbrev n_machine_cursor_need : FuncId := 322
def s_machine_cursor_need (R : KR) (a0 a1 : Value) (w : World) : Prop :=
Nk a0 fun x1 =>
Fa x1 0 fun x2 =>
Ld x2 w.drew fun x3 =>
Ln true x3 fun x4 =>
Nk a0 fun x5 =>
Fa x5 1 fun x6 =>
Ld x6 w.drew fun x7 =>
Bi .sub x4 x7 fun x8 =>
Bi .gtr a1 x8 fun x9 =>
If x9 (
Nk a0 fun x10 =>
Fa x10 1 fun x11 =>
Ld x11 w.drew fun x12 =>
Cl P 59 #[(.int .i64 16), x12] w.drew (pE R) fun x13 w14 =>
R (.returned (.tuple #[])) w14) (
R (.returned (.tuple #[])) w.drew)
theorem o_machine_cursor_need {R : KR} {a0 a1 : Value} {w : World} (h : s_machine_cursor_need R a0 a1 w) : Calls P n_machine_cursor_need #[a0, a1] w R := calls_of_fnB (fn := Tryz.f322) (keep := []) (args := [a0, a1]) Tryz.func322 rfl (ofE (by kernel_rfl) h)
abbrev n_machine_cursor_word : FuncId := 323
def s_machine_cursor_word (R : KR) (a0 : Value) (w : World) : Prop :=
Cl P 322 #[a0, (.int .i64 4)] w (pE R) fun x1 w2 =>
Nk a0 fun x3 =>
Fa x3 0 fun x4 =>
Ld x4 w2.drew fun x5 =>
Nk a0 fun x6 =>
Fa x6 1 fun x7 =>
Ld x7 w2.drew fun x8 =>
SlS x5 (some x8) none fun x9 =>
Nk a0 fun x10 =>
Fa x10 1 fun x11 =>
Ld x11 w2.drew fun x12 =>
Bi .add x12 (.int .i64 4) fun x13 =>
Nk a0 fun x14 =>
Fa x14 1 fun x15 =>
St x15 x13 w2.drew fun w16 =>
IxS x9 (.int .i64 0) fun x17 =>
Cv .u32 x17 fun x18 =>
Sh .shl x18 (.int .u64 24) fun x19 =>
IxS x9 (.int .i64 1) fun x20 =>
Cv .u32 x20 fun x21 =>
Sh .shl x21 (.int .u64 16) fun x22 =>
Bi .or x19 x22 fun x23 =>
IxS x9 (.int .i64 2) fun x24 =>
Cv .u32 x24 fun x25 =>
Sh .shl x25 (.int .u64 8) fun x26 =>
Bi .or x23 x26 fun x27 =>
IxS x9 (.int .i64 3) fun x28 =>
Cv .u32 x28 fun x29 =>
Bi .or x27 x29 fun x30 =>
R (.returned x30) w16.drew
theorem o_machine_cursor_word {R : KR} {a0 : Value} {w : World} (h : s_machine_cursor_word R a0 w) : Calls P n_machine_cursor_word #[a0] w R := calls_of_fnB (fn := Tryz.f323) (keep := []) (args := [a0]) Tryz.func323 rfl (ofE (by kernel_rfl) h)
abbrev n_machine_number : FuncId := 324
def s_machine_number (R : KR) (a0 a1 : Value) (w : World) : Prop :=
Bi .eql a0 (.int .i64 0) fun x1 =>
Gd x1 false w (fun K2 => K2 a0 w) fun x3 w4 =>
Gd x1 false w4 (fun K5 => Bi .eql x3 (.int .i64 4) fun x6 => K5 x6 w4) fun x7 w8 =>
Pk x1 (.bool true) x7 fun x9 =>
If x9 (
Cv .i32 a1 fun x10 =>
Cv .i64 x10 fun x11 =>
R (.returned x11) w8) (
Cv .i64 a1 fun x12 =>
R (.returned x12) w8)
theorem o_machine_number {R : KR} {a0 a1 : Value} {w : World} (h : s_machine_number R a0 a1 w) : Calls P n_machine_number #[a0, a1] w R := calls_of_fnB (fn := Tryz.f324) (keep := []) (args := [a0, a1]) Tryz.func324 rfl (ofE (by kernel_rfl) h)
abbrev n_machine_fits : FuncId := 325
def s_machine_fits (R : KR) (a0 a1 a2 : Value) (w : World) : Prop :=
Bi .eql a0 (.int .i64 0) fun x1 =>
If x1 (
Cv .i32 a2 fun x2 =>
Cv .i64 x2 fun x3 =>
Bi .eql a2 x3 fun x4 =>
R (.returned x4) w) (
Bi .eql a0 (.int .i64 1) fun x5 =>
If x5 (
Cv .u32 a2 fun x6 =>
Cv .i64 x6 fun x7 =>
Bi .eql a2 x7 fun x8 =>
R (.returned x8) w) (
Bi .eql a0 (.int .i64 3) fun x9 =>
If x9 (
Bi .eql a2 (.int .i64 0) fun x10 =>
Gd x10 false w (fun K11 => K11 a2 w) fun x12 w13 =>
Gd x10 false w13 (fun K14 => Bi .eql x12 (.int .i64 1) fun x15 => K14 x15 w13) fun x16 w17 =>
Pk x10 (.bool true) x16 fun x18 =>
R (.returned x18) w17) (
Bi .eql a0 (.int .i64 4) fun x19 =>
If x19 (
Lk (.int .i64) (.int .i64 0) a1 a2 true w fun x20 =>
Ex x20 0 fun x21 =>
Ex x20 1 fun x22 =>
R (.returned x22) w) (
R (.returned (.bool true)) w))))
theorem o_machine_fits {R : KR} {a0 a1 a2 : Value} {w : World} (h : s_machine_fits R a0 a1 a2 w) : Calls P n_machine_fits #[a0, a1, a2] w R := calls_of_fnB (fn := Tryz.f325) (keep := []) (args := [a0, a1, a2]) Tryz.func325 rfl (ofE (by kernel_rfl) h)
abbrev n_machine_target : FuncId := 326
def s_machine_target (R : KR) (a0 a1 : Value) (w : World) : Prop :=
Nw 135 a0 w fun x1 w2 =>
Fa x1 4 fun x3 =>
Ld x3 w2 fun x4 =>
Fa x1 6 fun x5 =>
Ld x5 w2 fun x6 =>
Cl P 325 #[x4, x6, a1] w2 (pE R) fun x7 w8 =>
Nt x7 fun x9 =>
If x9 (
R (.returned (.int .i64 (-1))) w8) (
Fa x1 5 fun x10 =>
Ld x10 w8 fun x11 =>
Lk (.int .i64) (.int .i64 0) x11 a1 true w8 fun x12 =>
Ex x12 0 fun x13 =>
Ex x12 1 fun x14 =>
If x14 (
R (.returned x13) w8) (
Fa x1 2 fun x15 =>
Ld x15 w8 fun x16 =>
R (.returned x16) w8))
theorem o_machine_target {R : KR} {a0 a1 : Value} {w : World} (h : s_machine_target R a0 a1 w) : Calls P n_machine_target #[a0, a1] w R := calls_of_fnB (fn := Tryz.f326) (keep := []) (args := [a0, a1]) Tryz.func326 rfl (ofE (by kernel_rfl) h)
abbrev n_machine_encoder_leaf : FuncId := 327
def s_machine_encoder_leaf (R : KR) (a0 a1 : Value) (w : World) : Prop :=
Nw 135 a1 w fun x1 w2 =>
Fa x1 0 fun x3 =>
Ld x3 w2 fun x4 =>
Bi .eql x4 (.int .i64 5) fun x5 =>
If x5 (
Cl P 333 #[a0, (.int .i64 2)] w2 (pE R) fun x6 w7 =>
Nw 52 (.agg #[.int .i64 0, .int .i64 0, .string ⟨#[]⟩, .int .i64 0, .int .i64 0]) w7 fun x8 w9 =>
StN x8 x6 5 w9 fun w10 =>
Fa x8 2 fun x11 =>
Ld x11 w10 fun x12 =>
Ln true x12 fun x13 =>
Fa x1 1 fun x14 =>
Ld x14 w10 fun x15 =>
Bi .eql x13 x15 fun x16 =>
Gd x16 false w10 (fun K17 => K17 x13 w10) fun x18 w19 =>
Gd x16 false w19 (fun K20 => Fa x1 1 fun x21 => K20 x21 w19) fun x22 w23 =>
Gd x16 false w23 (fun K24 => Ld x22 w23 fun x25 => K24 x25 w23) fun x26 w27 =>
Gd x16 false w27 (fun K28 => Bi .lss x18 x26 fun x29 => K28 x29 w27) fun x30 w31 =>
Gd x16 false w31 (fun K32 => K32 x30 w31) fun x33 w34 =>
Gd x33 true w34 (fun K35 => Fa x1 3 fun x36 => K35 x36 w34) fun x37 w38 =>
Gd x33 true w38 (fun K39 => Ld x37 w38 fun x40 => K39 x40 w38) fun x41 w42 =>
Gd x33 true w42 (fun K43 => Nt x41 fun x44 => K43 x44 w42) fun x45 w46 =>
Gd x16 false w46 (fun K47 => Pk x33 x45 (.bool false) fun x48 => K47 x48 w46) fun x49 w50 =>
Pk x16 (.bool true) x49 fun x51 =>
Cl P 329 #[a0, x51] w50 (pE R) fun x52 w53 =>
Ng x13 fun x54 =>
Bi .and x54 (.int .i64 3) fun x55 =>
Cl P 334 #[(.string ⟨#[0]⟩), x55] w53 (pE R) fun x56 w57 =>
Jn (fun J58 =>
Fa x1 3 fun x59 =>
Ld x59 w57 fun x60 =>
If x60 (
Fa x8 2 fun x61 =>
Ld x61 w57 fun x62 =>
BuS 9 1 [x62, x56] w57 fun x63 w64 =>
Cl P 335 #[a0, x63] w64 (pE R) fun x65 w66 =>
J58 [] w66) (
Cv .u32 x13 fun x67 =>
Fa x8 2 fun x68 =>
Ld x68 w57.drew fun x69 =>
Cl P 336 #[x67] w57.drew (pE R) fun x70 w71 =>
(Ld x68 w71 fun x72 => x72 = x69) ∧
BuS 9 1 [x70, x69, x56] w71 fun x73 w74 =>
Cl P 335 #[a0, x73] w74 (pE R) fun x75 w76 =>
J58 [] w76)) fun jk78 vals w77 =>
R (.returned (.tuple #[])) w77) (
Cl P 333 #[a0, (.int .i64 1)] w2 (pE R) fun x79 w80 =>
RunV P (Instr.field 52 x79 1) w80 fun x81 w82 =>
Fa x1 0 fun x83 =>
Ld x83 w82 fun x84 =>
Fa x1 5 fun x85 =>
Ld x85 w82 fun x86 =>
Cl P 325 #[x84, x86, x81] w82 (pE R) fun x87 w88 =>
Cl P 329 #[a0, x87] w88 (pE R) fun x89 w90 =>
Fa x1 0 fun x91 =>
Ld x91 w90 fun x92 =>
Bi .eql x92 (.int .i64 2) fun x93 =>
If x93 (
Cv .u64 x81 fun x94 =>
Sh .shr x94 (.int .u64 32) fun x95 =>
Cv .u32 x95 fun x96 =>
Cl P 336 #[x96] w90 (pE R) fun x97 w98 =>
Cv .u32 x81 fun x99 =>
Cl P 336 #[x99] w98 (pE R) fun x100 w101 =>
BuS 9 1 [x97, x100] w101 fun x102 w103 =>
Cl P 335 #[a0, x102] w103 (pE R) fun x104 w105 =>
R (.returned (.tuple #[])) w105) (
Cv .u32 x81 fun x106 =>
Cl P 336 #[x106] w90 (pE R) fun x107 w108 =>
BuS 9 1 [x107] w108 fun x109 w110 =>
Cl P 335 #[a0, x109] w110 (pE R) fun x111 w112 =>
R (.returned (.tuple #[])) w112))
theorem o_machine_encoder_leaf {R : KR} {a0 a1 : Value} {w : World} (h : s_machine_encoder_leaf R a0 a1 w) : Calls P n_machine_encoder_leaf #[a0, a1] w R := calls_of_fnB (fn := Tryz.f327) (keep := []) (args := [a0, a1]) Tryz.func327 rfl (ofE (by kernel_rfl) h)
abbrev n_machine_encoder_list : FuncId := 328
def s_machine_encoder_list (R : KR) (a0 a1 : Value) (w : World) : Prop :=
Nw 135 a1 w fun x1 w2 =>
Cl P 333 #[a0, (.int .i64 3)] w2 (pE R) fun x3 w4 =>
RunV P (Instr.field 52 x3 4) w4 fun x5 w6 =>
Fa x1 0 fun x7 =>
Ld x7 w6 fun x8 =>
Bi .eql x8 (.int .i64 9) fun x9 =>
If x9 (
Bi .geq x5 (.int .i64 0) fun x10 =>
Gd x10 true w6 (fun K11 => K11 x5 w6) fun x12 w13 =>
Gd x10 true w13 (fun K14 => Fa x1 1 fun x15 => K14 x15 w13) fun x16 w17 =>
Gd x10 true w17 (fun K18 => Ld x16 w17 fun x19 => K18 x19 w17) fun x20 w21 =>
Gd x10 true w21 (fun K22 => Bi .leq x12 x20 fun x23 => K22 x23 w21) fun x24 w25 =>
Pk x10 x24 (.bool false) fun x26 =>
Cl P 329 #[a0, x26] w25 (pE R) fun x27 w28 =>
Cv .u32 x5 fun x29 =>
Cl P 336 #[x29] w28 (pE R) fun x30 w31 =>
BuS 9 1 [x30] w31 fun x32 w33 =>
Cl P 335 #[a0, x32] w33 (pE R) fun x34 w35 =>
R (.returned x5) w35) (
Fa x1 1 fun x36 =>
Ld x36 w6 fun x37 =>
Bi .eql x5 x37 fun x38 =>
Cl P 329 #[a0, x38] w6 (pE R) fun x39 w40 =>
Cl P 335 #[a0, (.slice none 0 0)] w40 (pE R) fun x41 w42 =>
R (.returned x5) w42)
theorem o_machine_encoder_list {R : KR} {a0 a1 : Value} {w : World} (h : s_machine_encoder_list R a0 a1 w) : Calls P n_machine_encoder_list #[a0, a1] w R := calls_of_fnB (fn := Tryz.f328) (keep := []) (args := [a0, a1]) Tryz.func328 rfl (ofE (by kernel_rfl) h)
abbrev n_machine_encoder_must : FuncId := 329
def s_machine_encoder_must (R : KR) (a0 a1 : Value) (w : World) : Prop :=
Nt a1 fun x1 =>
If x1 (
Nk a0 fun x2 =>
Fa x2 1 fun x3 =>
Ld x3 w fun x4 =>
Cl P 59 #[(.int .i64 12), x4] w (pE R) fun x5 w6 =>
R (.returned (.tuple #[])) w6) (
R (.returned (.tuple #[])) w)
theorem o_machine_encoder_must {R : KR} {a0 a1 : Value} {w : World} (h : s_machine_encoder_must R a0 a1 w) : Calls P n_machine_encoder_must #[a0, a1] w R := calls_of_fnB (fn := Tryz.f329) (keep := []) (args := [a0, a1]) Tryz.func329 rfl (ofE (by kernel_rfl) h)
abbrev n_machine_encoder_option : FuncId := 330
def s_machine_encoder_option (R : KR) (a0 : Value) (w : World) : Prop :=
Cl P 333 #[a0, (.int .i64 4)] w (pE R) fun x1 w2 =>
Nw 52 (.agg #[.int .i64 0, .int .i64 0, .string ⟨#[]⟩, .int .i64 0, .int .i64 0]) w2 fun x3 w4 =>
StN x3 x1 5 w4 fun w5 =>
Fa x3 4 fun x6 =>
Ld x6 w5 fun x7 =>
Bi .geq x7 (.int .i64 0) fun x8 =>
Gd x8 true w5 (fun K9 => Fa x3 4 fun x10 => K9 x10 w5) fun x11 w12 =>
Gd x8 true w12 (fun K13 => Ld x11 w12 fun x14 => K13 x14 w12) fun x15 w16 =>
Gd x8 true w16 (fun K17 => Bi .leq x15 (.int .i64 1) fun x18 => K17 x18 w16) fun x19 w20 =>
Pk x8 x19 (.bool false) fun x21 =>
Gd x21 true w20 (fun K22 => Fa x3 1 fun x23 => K22 x23 w20) fun x24 w25 =>
Gd x21 true w25 (fun K26 => Ld x24 w25 fun x27 => K26 x27 w25) fun x28 w29 =>
Gd x21 true w29 (fun K30 => Fa x3 4 fun x31 => K30 x31 w29) fun x32 w33 =>
Gd x21 true w33 (fun K34 => Ld x32 w33 fun x35 => K34 x35 w33) fun x36 w37 =>
Gd x21 true w37 (fun K38 => Bi .eql x28 x36 fun x39 => K38 x39 w37) fun x40 w41 =>
Pk x21 x40 (.bool false) fun x42 =>
Cl P 329 #[a0, x42] w41 (pE R) fun x43 w44 =>
Fa x3 1 fun x45 =>
Ld x45 w44 fun x46 =>
Cv .u32 x46 fun x47 =>
Cl P 336 #[x47] w44 (pE R) fun x48 w49 =>
BuS 9 1 [x48] w49 fun x50 w51 =>
Cl P 335 #[a0, x50] w51 (pE R) fun x52 w53 =>
Fa x3 4 fun x54 =>
Ld x54 w53 fun x55 =>
Bi .eql x55 (.int .i64 1) fun x56 =>
R (.returned x56) w53
theorem o_machine_encoder_option {R : KR} {a0 : Value} {w : World} (h : s_machine_encoder_option R a0 w) : Calls P n_machine_encoder_option #[a0] w R := calls_of_fnB (fn := Tryz.f330) (keep := []) (args := [a0]) Tryz.func330 rfl (ofE (by kernel_rfl) h)
abbrev n_machine_encoder_place : FuncId := 331
def s_machine_encoder_place (R : KR) (a0 : Value) (w : World) : Prop :=
Nk a0 fun x1 =>
Fa x1 1 fun x2 =>
Ld x2 w fun x3 =>
R (.returned x3) w
theorem o_machine_encoder_place {R : KR} {a0 : Value} {w : World} (h : s_machine_encoder_place R a0 w) : Calls P n_machine_encoder_place #[a0] w R := calls_of_fnB (fn := Tryz.f331) (keep := []) (args := [a0]) Tryz.func331 rfl (ofE (by kernel_rfl) h)
abbrev n_machine_encoder_union : FuncId := 332
def s_machine_encoder_union (R : KR) (a0 a1 : Value) (w : World) : Prop :=
Nw 135 a1 w fun x1 w2 =>
Cl P 333 #[a0, (.int .i64 4)] w2 (pE R) fun x3 w4 =>
Nw 52 (.agg #[.int .i64 0, .int .i64 0, .string ⟨#[]⟩, .int .i64 0, .int .i64 0]) w4 fun x5 w6 =>
StN x5 x3 5 w6 fun w7 =>
LdN x1 7 w7 fun x8 =>
Fa x5 1 fun x9 =>
Ld x9 w7 fun x10 =>
Cl P 326 #[x8, x10] w7 (pE R) fun x11 w12 =>
Bi .geq x11 (.int .i64 0) fun x13 =>
Cl P 329 #[a0, x13] w12 (pE R) fun x14 w15 =>
Jn (fun J16 =>
Nk a0 fun x17 =>
Fa x17 5 fun x18 =>
Ld x18 w15 fun x19 =>
Nk x19 fun x20 =>
Fa x20 0 fun x21 =>
Ld x21 w15 fun x22 =>
IaS 7 x22 x11 fun x23 =>
Fa x23 0 fun x24 =>
Ld x24 w15 fun x25 =>
Bi .eql x25 (.int .i64 15) fun x26 =>
If x26 (
J16 [(.int .i64 0)] w15) (
J16 [(.int .i64 1)] w15)) fun jk29 vals w28 =>
V1 vals fun v27 =>
Fa x5 4 fun x30 =>
Ld x30 w28 fun x31 =>
Bi .eql x31 v27 fun x32 =>
Cl P 329 #[a0, x32] w28 (pE R) fun x33 w34 =>
Fa x5 1 fun x35 =>
Ld x35 w34 fun x36 =>
Cv .u32 x36 fun x37 =>
Cl P 336 #[x37] w34 (pE R) fun x38 w39 =>
BuS 9 1 [x38] w39 fun x40 w41 =>
Cl P 335 #[a0, x40] w41 (pE R) fun x42 w43 =>
R (.returned x11) w43
theorem o_machine_encoder_union {R : KR} {a0 a1 : Value} {w : World} (h : s_machine_encoder_union R a0 a1 w) : Calls P n_machine_encoder_union #[a0, a1] w R := calls_of_fnB (fn := Tryz.f332) (keep := [7]) (args := [a0, a1]) Tryz.func332 rfl (ofE (by kernel_rfl) h)
abbrev n_machine_encoder_take : FuncId := 333
def s_machine_encoder_take (R : KR) (a0 a1 : Value) (w : World) : Prop :=
Nw 52 (.agg #[.int .i64 0, .int .i64 0, .string ⟨#[]⟩, .int .i64 0, .int .i64 0]) w fun x1 w2 =>
Jn (fun J3 =>
Nk a0 fun x4 =>
Fa x4 1 fun x5 =>
Ld x5 w2.drew fun x6 =>
Nk a0 fun x7 =>
Fa x7 2 fun x8 =>
Fa x8 1 fun x9 =>
Ld x9 w2.drew fun x10 =>
Bi .geq x6 x10 fun x11 =>
If x11 (
Nk a0 fun x12 =>
Fa x12 1 fun x13 =>
Ld x13 w2.drew fun x14 =>
Cl P 59 #[(.int .i64 15), x14] w2.drew (pE R) fun x15 w16 =>
J3 [] w16) (
J3 [] w2.drew)) fun jk18 vals w17 =>
Jn (fun J19 =>
Nk a0 fun x20 =>
Fa x20 1 fun x21 =>
Ld x21 w17.drew fun x22 =>
Nk a0 fun x23 =>
Fa x23 0 fun x24 =>
Ld x24 w17.drew fun x25 =>
Ln false x25 fun x26 =>
Bi .geq x22 x26 fun x27 =>
Gd x27 false w17.drew (fun K28 => K28 a0 w17.drew) fun x29 w30 =>
Gd x27 false w30 (fun K31 => Nk x29 fun x32 => K31 x32 w30) fun x33 w34 =>
Gd x27 false w34 (fun K35 => Fa x33 0 fun x36 => K35 x36 w34) fun x37 w38 =>
Gd x27 false w38 (fun K39 => Ld x37 w38 fun x40 => K39 x40 w38) fun x41 w42 =>
Gd x27 false w42 (fun K43 => K43 a0 w42) fun x44 w45 =>
Gd x27 false w45 (fun K46 => Nk x44 fun x47 => K46 x47 w45) fun x48 w49 =>
Gd x27 false w49 (fun K50 => Fa x48 1 fun x51 => K50 x51 w49) fun x52 w53 =>
Gd x27 false w53 (fun K54 => Ld x52 w53 fun x55 => K54 x55 w53) fun x56 w57 =>
Gd x27 false w57 (fun K58 => IaS 5 x41 x56 fun x59 => K58 x59 w57) fun x60 w61 =>
Gd x27 false w61 (fun K62 => Fa x60 0 fun x63 => K62 x63 w61) fun x64 w65 =>
Gd x27 false w65 (fun K66 => Ld x64 w65 fun x67 => K66 x67 w65) fun x68 w69 =>
Gd x27 false w69 (fun K70 => K70 a1 w69) fun x71 w72 =>
Gd x27 false w72 (fun K73 => Bi .neq x68 x71 fun x74 => K73 x74 w72) fun x75 w76 =>
Pk x27 (.bool true) x75 fun x77 =>
If x77 (
Nk a0 fun x78 =>
Fa x78 1 fun x79 =>
Ld x79 w76 fun x80 =>
Cl P 59 #[(.int .i64 12), x80] w76 (pE R) fun x81 w82 =>
J19 [] w82) (
J19 [] w76)) fun jk84 vals w83 =>
Nk a0 fun x85 =>
Fa x85 0 fun x86 =>
Ld x86 w83.drew fun x87 =>
Nk a0 fun x88 =>
Fa x88 1 fun x89 =>
Ld x89 w83.drew fun x90 =>
IaS 5 x87 x90 fun x91 =>
LdN x91 5 w83.drew fun x92 =>
StN x1 x92 5 w83.drew fun w93 =>
LdN x1 5 w93 fun x94 =>
R (.returned x94) w93
theorem o_machine_encoder_take {R : KR} {a0 a1 : Value} {w : World} (h : s_machine_encoder_take R a0 a1 w) : Calls P n_machine_encoder_take #[a0, a1] w R := calls_of_fnB (fn := Tryz.f333) (keep := []) (args := [a0, a1]) Tryz.func333 rfl (ofE (by kernel_rfl) h)
abbrev n_machine_encoder_put : FuncId := 335
def s_machine_encoder_put (R : KR) (a0 a1 : Value) (w : World) : Prop :=
Ln false a1 fun x1 =>
Lp [(.int .i64 0)] w fun jk2 vals w3 C4 =>
V1 vals fun v5 =>
Bi .lss v5 x1 fun x6 =>
If x6 (
IaS 1 a1 v5 fun x7 =>
Ld x7 w3 fun x8 =>
Jn (fun J9 =>
Nk a0 fun x10 =>
Fa x10 6 fun x11 =>
Ln true x8 fun x12 =>
Nk a0 fun x13 =>
Fa x13 2 fun x14 =>
Fa x14 2 fun x15 =>
Ld x15 w3.drew fun x16 =>
Cl P 339 #[x11] w3.drew (pE R) fun x17 w18 =>
(Ld x15 w18 fun x19 => x19 = x16) ∧
Bi .add x17 x12 fun x20 =>
Bi .gtr x20 x16 fun x21 =>
If x21 (
Nk a0 fun x22 =>
Fa x22 1 fun x23 =>
Ld x23 w18 fun x24 =>
Cl P 59 #[(.int .i64 14), x24] w18 (pE R) fun x25 w26 =>
J9 [] w26) (
J9 [] w18)) fun jk28 vals w27 =>
Nk a0 fun x29 =>
Fa x29 6 fun x30 =>
Cl P 54 #[x30, x8] w27 (pE R) fun x31 w32 =>
Bi .add v5 (.int .i64 1) fun x33 =>
C4 [x33] w32) (
Nk a0 fun x34 =>
Fa x34 1 fun x35 =>
Ld x35 w3 fun x36 =>
Bi .add x36 (.int .i64 1) fun x37 =>
Nk a0 fun x38 =>
Fa x38 1 fun x39 =>
St x39 x37 w3 fun w40 =>
R (.returned (.tuple #[])) w40)
theorem o_machine_encoder_put {R : KR} {a0 a1 : Value} {w : World} (h : s_machine_encoder_put R a0 a1 w) : Calls P n_machine_encoder_put #[a0, a1] w R := calls_of_fnB (fn := Tryz.f335) (keep := [8]) (args := [a0, a1]) Tryz.func335 rfl (ofE (by kernel_rfl) h)
abbrev n_machine_word : FuncId := 336
def s_machine_word (R : KR) (a0 : Value) (w : World) : Prop :=
Sh .shr a0 (.int .u64 24) fun x1 =>
Cv .u8 x1 fun x2 =>
Sh .shr a0 (.int .u64 16) fun x3 =>
Cv .u8 x3 fun x4 =>
Sh .shr a0 (.int .u64 8) fun x5 =>
Cv .u8 x5 fun x6 =>
Cv .u8 a0 fun x7 =>
BuS 5 1 [x2, x4, x6, x7] w fun x8 w9 =>
CvB x8 w9 fun x10 =>
R (.returned x10) w9
theorem o_machine_word {R : KR} {a0 : Value} {w : World} (h : s_machine_word R a0 w) : Calls P n_machine_word #[a0] w R := calls_of_fnB (fn := Tryz.f336) (keep := []) (args := [a0]) Tryz.func336 rfl (ofE (by kernel_rfl) h)
end Go.W.T
namespace Go.W.T
open Go Go.Proofs
abbrev n_code_Compile : FuncId := 32
def s_code_Compile (R : KR) (a0 : Value) (w : World) : Prop :=
Mm w fun x1 w2 =>
Mm w2 fun x3 w4 =>
Mm w4 fun x5 w6 =>
Bu (.agg #[.slice none 0 0, .map none, .map none, .map none]) [(1, 1, x1), (2, 1, x3), (3, 1, x5)] fun x7 =>
Nw 117 x7 w6 fun x8 w9 =>
Mm w9 fun x10 w11 =>
Mm w11 fun x12 w13 =>
Bu (.agg #[.pointer none, .map none, .map none, .slice none 0 0]) [(0, 1, x8), (1, 1, x10), (2, 1, x12)] fun x14 =>
Nw 121 x14 w13 fun x15 w16 =>
Ln false a0 fun x17 =>
Lp [(.int .i64 0)] w16 fun jk18 vals w19 C20 =>
V1 vals fun v21 =>
Bi .lss v21 x17 fun x22 =>
If x22 (
Jn (fun J23 =>
IaS 1 a0 v21 fun x24 =>
Ld x24 w19 fun x25 =>
CallI P x25 "Where" #[] w19 (pE R) fun x26 w27 =>
Ex x26 0 fun x28 =>
Ex x26 1 fun x29 =>
Nk x15 fun x30 =>
Fa x30 1 fun x31 =>
Ld x31 w27 fun x32 =>
Mu .string x32 x28 x25 w27 fun w33 =>
Ta 124 (.pointer none) x25 fun x34 =>
Ex x34 0 fun x35 =>
Ex x34 1 fun x36 =>
If x36 (
Cl P 48 #[x15, x35] w33 (pE R) fun x37 w38 =>
J23 [] w38) (
Cl P 49 #[x15, x25] w33 (pE R) fun x39 w40 =>
J23 [] w40)) fun jk42 vals w41 =>
Bi .add v21 (.int .i64 1) fun x43 =>
C20 [x43] w41) (
Cl P 50 #[x15] w19 (pE R) fun x44 w45 =>
Ln false a0 fun x46 =>
Lp [(.int .i64 0)] w45 fun jk47 vals w48 C49 =>
V1 vals fun v50 =>
Bi .lss v50 x46 fun x51 =>
If x51 (
Jn (fun J52 =>
IaS 1 a0 v50 fun x53 =>
Ld x53 w48 fun x54 =>
CallI P x54 "Where" #[] w48 (pE R) fun x55 w56 =>
Ex x55 0 fun x57 =>
Ex x55 1 fun x58 =>
Nk x15 fun x59 =>
Fa x59 2 fun x60 =>
Ld x60 w56 fun x61 =>
Lk .string (.int .i64 0) x61 x57 true w56 fun x62 =>
Ex x62 0 fun x63 =>
Ex x62 1 fun x64 =>
Gd x64 true w56 (fun K65 => K65 x15 w56) fun x66 w67 =>
Gd x64 true w67 (fun K68 => Nk x66 fun x69 => K68 x69 w67) fun x70 w71 =>
Gd x64 true w71 (fun K72 => Fa x70 1 fun x73 => K72 x73 w71) fun x74 w75 =>
Gd x64 true w75 (fun K76 => Ld x74 w75 fun x77 => K76 x77 w75) fun x78 w79 =>
Gd x64 true w79 (fun K80 => K80 x54 w79) fun x81 w82 =>
Gd x64 true w82 (fun K83 => Cl P 51 #[x78, x81] w82 (pE R) fun x84 w85 => K83 x84 w85) fun x86 w87 =>
Pk x64 x86 (.bool false) fun x88 =>
If x88 (
Cl P 52 #[(.int .i64 9), x58] w87 (pE R) fun x89 w90 =>
J52 [] w90) (
J52 [] w87)) fun jk92 vals w91 =>
Bi .add v50 (.int .i64 1) fun x93 =>
C49 [x93] w91) (
Nk x15 fun x94 =>
Fa x94 2 fun x95 =>
Ld x95 w48 fun x96 =>
RunV P (Instr.range 112 x96) w48 fun x97 w98 =>
Lp [] w98 fun jk99 vals w100 C101 =>
RunV P (Instr.next x97 false 0) w100 fun x102 w103 =>
Ex x102 0 fun x104 =>
If x104 (
RunV P (Instr.entry x97) w103 fun x105 w106 =>
Ex x105 0 fun x107 =>
Nk x15 fun x108 =>
Fa x108 0 fun x109 =>
Ld x109 w106.drew fun x110 =>
Nk x110 fun x111 =>
Fa x111 1 fun x112 =>
Ld x112 w106.drew fun x113 =>
Nk x15 fun x114 =>
Fa x114 0 fun x115 =>
Ld x115 w106.drew fun x116 =>
Nk x116 fun x117 =>
Fa x117 0 fun x118 =>
Ld x118 w106.drew fun x119 =>
Ln false x119 fun x120 =>
Mu .string x113 x107 x120 w106.drew fun w121 =>
Nk x15 fun x122 =>
Fa x122 2 fun x123 =>
Ld x123 w121 fun x124 =>
Lk .string (.int .i64 0) x124 x107 false w121 fun x125 =>
Bu (.agg #[.int .i64 0, .int .i64 0, .int .i64 0, .bool false, .int .i64 0, .map none, .map none]) [(0, 1, (.int .i64 6)), (2, 1, x125)] fun x126 =>
Cl P 53 #[x15, x126] w121 (pE R) fun x127 w128 =>
Bu (.agg #[.int .i64 0, .int .i64 0, .int .i64 0, .bool false, .int .i64 0, .map none, .map none]) [(0, 1, (.int .i64 16))] fun x129 =>
Cl P 53 #[x15, x129] w128 (pE R) fun x130 w131 =>
C101 [] w131) (
Nk x15 fun x132 =>
Fa x132 0 fun x133 =>
Ld x133 w103 fun x134 =>
R (.returned x134) w103)))
theorem o_code_Compile {R : KR} {a0 : Value} {w : World} (h : s_code_Compile R a0 w) : Calls P n_code_Compile #[a0] w R := calls_of_fnB (fn := Tryz.f32) (keep := [28, 60]) (args := [a0]) Tryz.func32 rfl (ofE (by kernel_rfl) h)
abbrev n_code_compiler_program : FuncId := 48
def s_code_compiler_program (R : KR) (a0 a1 : Value) (w : World) : Prop :=
Nk a1 fun x1 =>
Fa x1 3 fun x2 =>
Ld x2 w fun x3 =>
Ln false x3 fun x4 =>
Lp [(.int .i64 0), undef] w fun jk5 vals w6 C7 =>
V2 vals fun v8 v9 =>
Bi .lss v8 x4 fun x10 =>
If x10 (
IaS 3 x3 v8 fun x11 =>
LdN x11 3 w6 fun x12 =>
Nw 200 (.agg #[.string ⟨#[]⟩, .int .u32 0, .slice none 0 0]) w6 fun x13 w14 =>
StN x13 x12 3 w14 fun w15 =>
Nk a0 fun x16 =>
Fa x16 0 fun x17 =>
Ld x17 w15.drew fun x18 =>
Nk x18 fun x19 =>
Fa x19 3 fun x20 =>
Ld x20 w15.drew fun x21 =>
Nk a1 fun x22 =>
Fa x22 2 fun x23 =>
Ld x23 w15.drew fun x24 =>
Nk a0 fun x25 =>
Fa x25 0 fun x26 =>
Ld x26 w15.drew fun x27 =>
Nk x27 fun x28 =>
Fa x28 3 fun x29 =>
Ld x29 w15.drew fun x30 =>
Nk a1 fun x31 =>
Fa x31 2 fun x32 =>
Ld x32 w15.drew fun x33 =>
Lk (.int .u32) (.slice none 0 0) x30 x33 false w15.drew fun x34 =>
Fa x13 1 fun x35 =>
Ld x35 w15.drew fun x36 =>
BuS 180 1 [x36] w15.drew fun x37 w38 =>
(Ld x17 w38 fun x39 => x39 = x18) ∧
(Ld x20 w38 fun x40 => x40 = x21) ∧
(Ld x23 w38 fun x41 => x41 = x24) ∧
(Ld x26 w38 fun x42 => x42 = x27) ∧
(Ld x29 w38 fun x43 => x43 = x30) ∧
(Ld x32 w38 fun x44 => x44 = x33) ∧
(Lk (.int .u32) (.slice none 0 0) x30 x33 false w38 fun x45 => x45 = x34) ∧
Ap 180 1 4 (.int .u32 0) x34 x37 w38 fun x46 w47 =>
(Ld x17 w47 fun x48 => x48 = x18) ∧
(Ld x20 w47 fun x49 => x49 = x21) ∧
(Ld x23 w47 fun x50 => x50 = x24) ∧
Mu (.int .u32) x21 x24 x46 w47 fun w51 =>
Fa x13 2 fun x52 =>
Ld x52 w51 fun x53 =>
Ln false x53 fun x54 =>
Lp [(.int .i64 0)] w51 fun jk55 vals w56 C57 =>
V1 vals fun v58 =>
Bi .lss v58 x54 fun x59 =>
If x59 (
IaS 4 x53 v58 fun x60 =>
LdN x60 4 w56 fun x61 =>
Nw 205 (.agg #[.string ⟨#[]⟩, .int .u32 0, .nilIface, .nilIface]) w56 fun x62 w63 =>
StN x62 x61 4 w63 fun w64 =>
Nw 207 (.agg #[.int .i64 0, .int .i64 0, .bool false, .bool false]) w64 fun x65 w66 =>
Fa x62 3 fun x67 =>
Ld x67 w66 fun x68 =>
Cl P 82 #[a0, x68] w66 (pE R) fun x69 w70 =>
Ex x69 0 fun x71 =>
Ex x69 1 fun x72 =>
Fa x65 1 fun x73 =>
St x73 x71 w70 fun w74 =>
Fa x65 3 fun x75 =>
St x75 x72 w74 fun w76 =>
Fa x62 2 fun x77 =>
Ld x77 w76 fun x78 =>
Cl P 82 #[a0, x78] w76 (pE R) fun x79 w80 =>
Ex x79 0 fun x81 =>
Ex x79 1 fun x82 =>
Fa x65 0 fun x83 =>
St x83 x81 w80 fun w84 =>
Fa x65 2 fun x85 =>
St x85 x82 w84 fun w86 =>
Nk a0 fun x87 =>
Fa x87 0 fun x88 =>
Ld x88 w86.drew fun x89 =>
Nk x89 fun x90 =>
Fa x90 2 fun x91 =>
Ld x91 w86.drew fun x92 =>
Nk a1 fun x93 =>
Fa x93 2 fun x94 =>
Ld x94 w86.drew fun x95 =>
Fa x13 1 fun x96 =>
Ld x96 w86.drew fun x97 =>
Fa x62 1 fun x98 =>
Ld x98 w86.drew fun x99 =>
Bu (.agg #[.int .u32 0, .int .u32 0, .int .u32 0]) [(0, 1, x95), (1, 1, x97), (2, 1, x99)] fun x100 =>
LdN x65 4 w86.drew fun x101 =>
RunU P (Instr.mapUpdate 113 x92 x100 x101) w86.drew fun w102 =>
Bi .add v58 (.int .i64 1) fun x103 =>
C57 [x103] w102) (
Bi .add v8 (.int .i64 1) fun x104 =>
C7 [x104, v58] w56)) (
R (.returned (.tuple #[])) w6)
theorem o_code_compiler_program {R : KR} {a0 a1 : Value} {w : World} (h : s_code_compiler_program R a0 a1 w) : Calls P n_code_compiler_program #[a0, a1] w R := calls_of_fnB (fn := Tryz.f48) (keep := [14, 48]) (args := [a0, a1]) Tryz.func48 rfl (ofE (by kernel_rfl) h)
abbrev n_code_compiler_define : FuncId := 49
def s_code_compiler_define (R : KR) (a0 a1 : Value) (w : World) : Prop :=
CallI P a1 "Where" #[] w (pE R) fun x1 w2 =>
Ex x1 0 fun x3 =>
Ex x1 1 fun x4 =>
Nk a0 fun x5 =>
Fa x5 2 fun x6 =>
Ld x6 w2.drew fun x7 =>
Nk a0 fun x8 =>
Fa x8 0 fun x9 =>
Ld x9 w2.drew fun x10 =>
Nk x10 fun x11 =>
Fa x11 0 fun x12 =>
Ld x12 w2.drew fun x13 =>
Ln false x13 fun x14 =>
Mu .string x7 x3 x14 w2.drew fun w15 =>
Jn (fun J16 =>
Ta 209 (.pointer none) a1 fun x17 =>
Ex x17 1 fun x18 =>
Ex x17 0 fun x19 =>
If x18 (
Nk x19 fun x20 =>
Fa x20 2 fun x21 =>
Ld x21 w15 fun x22 =>
Cl P 83 #[a0, x22] w15 (pE R) fun x23 w24 =>
J16 [undef] w24) (
Ta 213 (.pointer none) a1 fun x25 =>
Ex x25 1 fun x26 =>
Ex x25 0 fun x27 =>
If x26 (
Nk x27 fun x28 =>
Fa x28 3 fun x29 =>
Ld x29 w15 fun x30 =>
Cl P 84 #[x30] w15 (pE R) fun x31 w32 =>
Bu (.agg #[.int .i64 0, .int .i64 0, .int .i64 0, .bool false, .int .i64 0, .map none, .map none]) [(0, 1, (.int .i64 4)), (5, 1, x31)] fun x33 =>
Cl P 53 #[a0, x33] w32 (pE R) fun x34 w35 =>
J16 [undef] w35) (
Ta 218 (.pointer none) a1 fun x36 =>
Ex x36 1 fun x37 =>
Ex x36 0 fun x38 =>
If x37 (
Nk x38 fun x39 =>
Fa x39 2 fun x40 =>
Ld x40 w15 fun x41 =>
Ln false x41 fun x42 =>
Bu (.agg #[.int .i64 0, .int .i64 0, .int .i64 0, .bool false, .int .i64 0, .map none, .map none]) [(0, 1, (.int .i64 11)), (1, 1, x42)] fun x43 =>
Cl P 53 #[a0, x43] w15 (pE R) fun x44 w45 =>
Nk x38 fun x46 =>
Fa x46 2 fun x47 =>
Ld x47 w45 fun x48 =>
Ln false x48 fun x49 =>
Lp [(.int .i64 0)] w45 fun jk50 vals w51 C52 =>
V1 vals fun v53 =>
Bi .lss v53 x49 fun x54 =>
If x54 (
IaS 2 x48 v53 fun x55 =>
LdN x55 2 w51 fun x56 =>
Nw 223 (.agg #[.string ⟨#[]⟩, .nilIface]) w51 fun x57 w58 =>
StN x57 x56 2 w58 fun w59 =>
Fa x57 1 fun x60 =>
Ld x60 w59 fun x61 =>
Cl P 83 #[a0, x61] w59 (pE R) fun x62 w63 =>
Bi .add v53 (.int .i64 1) fun x64 =>
C52 [x64] w63) (
J16 [v53] w51)) (
Ta 224 (.pointer none) a1 fun x65 =>
Ex x65 1 fun x66 =>
Ex x65 0 fun x67 =>
If x66 (
Cl P 85 #[a0, x67] w15 (pE R) fun x68 w69 =>
J16 [undef] w69) (
Nk a0 fun x70 =>
Fa x70 2 fun x71 =>
Ld x71 w15 fun x72 =>
CallN P (builtin .delete #[112, 9] 0 #[false, false] #[x72, x3]) w15 (pE R) fun x73 w74 =>
R (.returned (.tuple #[])) w74))))) fun jk77 vals w76 =>
V1 vals fun v75 =>
Bu (.agg #[.int .i64 0, .int .i64 0, .int .i64 0, .bool false, .int .i64 0, .map none, .map none]) [(0, 1, (.int .i64 7))] fun x78 =>
Cl P 53 #[a0, x78] w76 (pE R) fun x79 w80 =>
R (.returned (.tuple #[])) w80
theorem o_code_compiler_define {R : KR} {a0 a1 : Value} {w : World} (h : s_code_compiler_define R a0 a1 w) : Calls P n_code_compiler_define #[a0, a1] w R := calls_of_fnB (fn := Tryz.f49) (keep := [73]) (args := [a0, a1]) Tryz.func49 rfl (ofE (by kernel_rfl) h)
abbrev n_code_compiler_resolve : FuncId := 50
def s_code_compiler_resolve (R : KR) (a0 : Value) (w : World) : Prop :=
Nk a0 fun x1 =>
Fa x1 3 fun x2 =>
Ld x2 w fun x3 =>
Ln false x3 fun x4 =>
Lp [(.int .i64 0)] w fun jk5 vals w6 C7 =>
V1 vals fun v8 =>
Bi .lss v8 x4 fun x9 =>
If x9 (
IaS 3 x3 v8 fun x10 =>
LdN x10 3 w6 fun x11 =>
Nw 227 (.agg #[.int .i64 0, .string ⟨#[]⟩, .int .i64 0]) w6 fun x12 w13 =>
StN x12 x11 3 w13 fun w14 =>
Nk a0 fun x15 =>
Fa x15 2 fun x16 =>
Ld x16 w14.drew fun x17 =>
Fa x12 1 fun x18 =>
Ld x18 w14.drew fun x19 =>
Lk .string (.int .i64 0) x17 x19 true w14.drew fun x20 =>
Ex x20 0 fun x21 =>
Ex x20 1 fun x22 =>
Jn (fun J23 =>
Nt x22 fun x24 =>
If x24 (
Fa x12 2 fun x25 =>
Ld x25 w14.drew fun x26 =>
Cl P 52 #[(.int .i64 7), x26] w14.drew (pE R) fun x27 w28 =>
J23 [] w28) (
J23 [] w14.drew)) fun jk30 vals w29 =>
Nk a0 fun x31 =>
Fa x31 0 fun x32 =>
Ld x32 w29.drew fun x33 =>
Nk x33 fun x34 =>
Fa x34 0 fun x35 =>
Ld x35 w29.drew fun x36 =>
Fa x12 0 fun x37 =>
Ld x37 w29.drew fun x38 =>
IaS 7 x36 x38 fun x39 =>
Fa x39 2 fun x40 =>
St x40 x21 w29.drew fun w41 =>
Bi .add v8 (.int .i64 1) fun x42 =>
C7 [x42] w41) (
R (.returned (.tuple #[])) w6)
theorem o_code_compiler_resolve {R : KR} {a0 : Value} {w : World} (h : s_code_compiler_resolve R a0 w) : Calls P n_code_compiler_resolve #[a0] w R := calls_of_fnB (fn := Tryz.f50) (keep := [11]) (args := [a0]) Tryz.func50 rfl (ofE (by kernel_rfl) h)
abbrev n_code_endless : FuncId := 51
def s_code_endless (R : KR) (a0 a1 : Value) (w : World) : Prop :=
Nw 118 a0 w fun x1 w2 =>
CallI P a1 "Where" #[] w2 (pE R) fun x3 w4 =>
Ex x3 0 fun x5 =>
Ex x3 1 fun x6 =>
Nw 9 (.string ⟨#[]⟩) w4 fun x7 w8 =>
St x7 x5 w8 fun w9 =>
Mm w9 fun x10 w11 =>
Nw 112 (.map none) w11 fun x12 w13 =>
St x12 x10 w13 fun w14 =>
Nw 4 (.bool false) w14 fun x15 w16 =>
Nw 210 (.nilFunc) w16 fun x17 w18 =>
Nw 127 (.nilFunc) w18 fun x19 w20 =>
St x17 (.func (.func 86) #[] #[x7, x15, x12, x19, x1, x17]) w20 fun w21 =>
St x19 (.func (.func 87) #[] #[x17]) w21 fun w22 =>
Ld x19 w22 fun x23 =>
CallV P x23 #[a1] w22 (pE R) fun x24 w25 =>
Ld x15 w25 fun x26 =>
R (.returned x26) w25
theorem o_code_endless {R : KR} {a0 a1 : Value} {w : World} (h : s_code_endless R a0 a1 w) : Calls P n_code_endless #[a0, a1] w R := calls_of_fnB (fn := Tryz.f51) (keep := []) (args := [a0, a1]) Tryz.func51 rfl (ofE (by kernel_rfl) h)
abbrev n_code_compiler_put : FuncId := 53
def s_code_compiler_put (R : KR) (a0 a1 : Value) (w : World) : Prop :=
Nw 135 a1 w fun x1 w2 =>
Nk a0 fun x3 =>
Fa x3 0 fun x4 =>
Ld x4 w2.drew fun x5 =>
Nk a0 fun x6 =>
Fa x6 0 fun x7 =>
Ld x7 w2.drew fun x8 =>
Nk x8 fun x9 =>
Fa x9 0 fun x10 =>
Ld x10 w2.drew fun x11 =>
LdN x1 7 w2.drew fun x12 =>
BuS 135 7 [x12] w2.drew fun x13 w14 =>
(Ld x4 w14 fun x15 => x15 = x5) ∧
(Ld x7 w14 fun x16 => x16 = x8) ∧
(Ld x10 w14 fun x17 => x17 = x11) ∧
Ap 135 7 56 (.agg #[.int .i64 0, .int .i64 0, .int .i64 0, .bool false, .int .i64 0, .map none, .map none]) x11 x13 w14 fun x18 w19 =>
(Ld x4 w19 fun x20 => x20 = x5) ∧
Nk x5 fun x21 =>
Fa x21 0 fun x22 =>
St x22 x18 w19 fun w23 =>
Nk a0 fun x24 =>
Fa x24 0 fun x25 =>
Ld x25 w23 fun x26 =>
Nk x26 fun x27 =>
Fa x27 0 fun x28 =>
Ld x28 w23 fun x29 =>
Ln false x29 fun x30 =>
Bi .sub x30 (.int .i64 1) fun x31 =>
R (.returned x31) w23
theorem o_code_compiler_put {R : KR} {a0 a1 : Value} {w : World} (h : s_code_compiler_put R a0 a1 w) : Calls P n_code_compiler_put #[a0, a1] w R := calls_of_fnB (fn := Tryz.f53) (keep := []) (args := [a0, a1]) Tryz.func53 rfl (ofE (by kernel_rfl) h)
abbrev n_code_compiler_side : FuncId := 82
def s_code_compiler_side (R : KR) (a0 a1 : Value) (w : World) : Prop :=
Ta 300 (.agg #[]) a1 fun x1 =>
Ex x1 0 fun x2 =>
Ex x1 1 fun x3 =>
Nw 300 (.agg #[]) w fun x4 w5 =>
StN x4 x2 0 w5 fun w6 =>
Nk a0 fun x7 =>
Fa x7 0 fun x8 =>
Ld x8 w6 fun x9 =>
Nk x9 fun x10 =>
Fa x10 0 fun x11 =>
Ld x11 w6 fun x12 =>
Ln false x12 fun x13 =>
Cl P 83 #[a0, a1] w6 (pE R) fun x14 w15 =>
Bu (.agg #[.int .i64 0, .int .i64 0, .int .i64 0, .bool false, .int .i64 0, .map none, .map none]) [(0, 1, (.int .i64 16))] fun x16 =>
Cl P 53 #[a0, x16] w15 (pE R) fun x17 w18 =>
R (.returned (.tuple #[x13, x3])) w18
theorem o_code_compiler_side {R : KR} {a0 a1 : Value} {w : World} (h : s_code_compiler_side R a0 a1 w) : Calls P n_code_compiler_side #[a0, a1] w R := calls_of_fnB (fn := Tryz.f82) (keep := []) (args := [a0, a1]) Tryz.func82 rfl (ofE (by kernel_rfl) h)
abbrev n_code_compiler_lower : FuncId := 83
def s_code_compiler_lower (R : KR) (a0 a1 : Value) (w : World) : Prop :=
Ta 302 (.string ⟨#[]⟩) a1 fun x1 =>
Ex x1 1 fun x2 =>
Ex x1 0 fun x3 =>
If x2 (
Cl P 128 #[x3] w (pE R) fun x4 w5 =>
Bu (.agg #[.int .i64 0, .int .i64 0, .int .i64 0, .bool false, .int .i64 0, .map none, .map none]) [(0, 1, x4)] fun x6 =>
Cl P 53 #[a0, x6] w5 (pE R) fun x7 w8 =>
R (.returned (.tuple #[])) w8) (
Ta 228 (.pointer none) a1 fun x9 =>
Ex x9 1 fun x10 =>
Ex x9 0 fun x11 =>
If x10 (
Nk x11 fun x12 =>
Fa x12 0 fun x13 =>
Ld x13 w.drew fun x14 =>
Nk x11 fun x15 =>
Fa x15 1 fun x16 =>
Ld x16 w.drew fun x17 =>
Cl P 129 #[a0, x14, x17] w.drew (pE R) fun x18 w19 =>
R (.returned (.tuple #[])) w19) (
Ta 306 (.agg #[.bool false, .bool false, .int .i64 0]) a1 fun x20 =>
Ex x20 1 fun x21 =>
Ex x20 0 fun x22 =>
If x21 (
Nw 306 (.agg #[.bool false, .bool false, .int .i64 0]) w fun x23 w24 =>
StN x23 x22 3 w24 fun w25 =>
Fa x23 2 fun x26 =>
Ld x26 w25 fun x27 =>
Fa x23 1 fun x28 =>
Ld x28 w25 fun x29 =>
Bu (.agg #[.int .i64 0, .int .i64 0, .int .i64 0, .bool false, .int .i64 0, .map none, .map none]) [(0, 1, (.int .i64 5)), (1, 1, x27), (3, 1, x29)] fun x30 =>
Cl P 53 #[a0, x30] w25 (pE R) fun x31 w32 =>
R (.returned (.tuple #[])) w32) (
Ta 231 (.agg #[.nilIface, .bool false, .int .i64 0]) a1 fun x33 =>
Ex x33 1 fun x34 =>
Ex x33 0 fun x35 =>
If x34 (
Nw 231 (.agg #[.nilIface, .bool false, .int .i64 0]) w fun x36 w37 =>
StN x36 x35 3 w37 fun w38 =>
Jn (fun J39 =>
Fa x36 1 fun x40 =>
Ld x40 w38 fun x41 =>
If x41 (
J39 [(.int .i64 8)] w38) (
J39 [(.int .i64 9)] w38)) fun jk44 vals w43 =>
V1 vals fun v42 =>
Fa x36 2 fun x45 =>
Ld x45 w43 fun x46 =>
Bu (.agg #[.int .i64 0, .int .i64 0, .int .i64 0, .bool false, .int .i64 0, .map none, .map none]) [(0, 1, v42), (1, 1, x46)] fun x47 =>
Cl P 53 #[a0, x47] w43 (pE R) fun x48 w49 =>
Fa x36 0 fun x50 =>
Ld x50 w49 fun x51 =>
Cl P 83 #[a0, x51] w49 (pE R) fun x52 w53 =>
Bu (.agg #[.int .i64 0, .int .i64 0, .int .i64 0, .bool false, .int .i64 0, .map none, .map none]) [(0, 1, (.int .i64 10))] fun x54 =>
Cl P 53 #[a0, x54] w53 (pE R) fun x55 w56 =>
Cl P 130 #[a0, x48] w56 (pE R) fun x57 w58 =>
R (.returned (.tuple #[])) w58) (
Ta 308 (.agg #[.nilIface]) a1 fun x59 =>
Ex x59 1 fun x60 =>
Ex x59 0 fun x61 =>
If x60 (
Nw 308 (.agg #[.nilIface]) w fun x62 w63 =>
StN x62 x61 1 w63 fun w64 =>
Bu (.agg #[.int .i64 0, .int .i64 0, .int .i64 0, .bool false, .int .i64 0, .map none, .map none]) [(0, 1, (.int .i64 12))] fun x65 =>
Cl P 53 #[a0, x65] w64 (pE R) fun x66 w67 =>
Fa x62 0 fun x68 =>
Ld x68 w67 fun x69 =>
Cl P 83 #[a0, x69] w67 (pE R) fun x70 w71 =>
Cl P 130 #[a0, x66] w71 (pE R) fun x72 w73 =>
R (.returned (.tuple #[])) w73) (
Ta 300 (.agg #[]) a1 fun x74 =>
Ex x74 1 fun x75 =>
Ex x74 0 fun x76 =>
If x75 (
Nw 300 (.agg #[]) w fun x77 w78 =>
StN x77 x76 0 w78 fun w79 =>
Bu (.agg #[.int .i64 0, .int .i64 0, .int .i64 0, .bool false, .int .i64 0, .map none, .map none]) [(0, 1, (.int .i64 15))] fun x80 =>
Cl P 53 #[a0, x80] w79 (pE R) fun x81 w82 =>
R (.returned (.tuple #[])) w82) (
R (.returned (.tuple #[])) w))))))
theorem o_code_compiler_lower {R : KR} {a0 a1 : Value} {w : World} (h : s_code_compiler_lower R a0 a1 w) : Calls P n_code_compiler_lower #[a0, a1] w R := calls_of_fnB (fn := Tryz.f83) (keep := [8]) (args := [a0, a1]) Tryz.func83 rfl (ofE (by kernel_rfl) h)
abbrev n_code_members : FuncId := 84
def s_code_members (R : KR) (a0 : Value) (w : World) : Prop :=
Ln false a0 fun x1 =>
RunV P (Instr.makeMap 133 (some x1)) w fun x2 w3 =>
Ln false a0 fun x4 =>
Lp [(.int .i64 0)] w3 fun jk5 vals w6 C7 =>
V1 vals fun v8 =>
Bi .lss v8 x4 fun x9 =>
If x9 (
IaS 1 a0 v8 fun x10 =>
Ld x10 w6 fun x11 =>
Mu (.int .i64) x2 x11 v8 w6 fun w12 =>
Bi .add v8 (.int .i64 1) fun x13 =>
C7 [x13] w12) (
R (.returned x2) w6)
theorem o_code_members {R : KR} {a0 : Value} {w : World} (h : s_code_members R a0 w) : Calls P n_code_members #[a0] w R := calls_of_fnB (fn := Tryz.f84) (keep := [11]) (args := [a0]) Tryz.func84 rfl (ofE (by kernel_rfl) h)
abbrev n_code_compiler_union : FuncId := 85
def s_code_compiler_union (R : KR) (a0 a1 : Value) (w : World) : Prop :=
Nw 111 a0 w fun x1 w2 =>
Mm w2 fun x3 w4 =>
Bu (.agg #[.int .i64 0, .int .i64 0, .int .i64 0, .bool false, .int .i64 0, .map none, .map none]) [(0, 1, (.int .i64 13)), (4, 1, (.int .i64 4)), (2, 1, (.int .i64 (-1))), (5, 1, x3)] fun x5 =>
Nw 135 (.agg #[.int .i64 0, .int .i64 0, .int .i64 0, .bool false, .int .i64 0, .map none, .map none]) w4 fun x6 w7 =>
StN x6 x5 7 w7 fun w8 =>
Jn (fun J9 =>
Nk a1 fun x10 =>
Fa x10 2 fun x11 =>
Ld x11 w8 fun x12 =>
Ta 302 (.string ⟨#[]⟩) x12 fun x13 =>
Ex x13 1 fun x14 =>
Ex x13 0 fun x15 =>
If x14 (
Cl P 128 #[x15] w8 (pE R) fun x16 w17 =>
Fa x6 4 fun x18 =>
St x18 x16 w17 fun w19 =>
J9 [] w19) (
Ta 228 (.pointer none) x12 fun x20 =>
Ex x20 1 fun x21 =>
Ex x20 0 fun x22 =>
If x21 (
Ld x1 w8.drew fun x23 =>
Nk x23 fun x24 =>
Fa x24 1 fun x25 =>
Ld x25 w8.drew fun x26 =>
Nk x22 fun x27 =>
Fa x27 0 fun x28 =>
Ld x28 w8.drew fun x29 =>
Lk .string (.nilIface) x26 x29 false w8.drew fun x30 =>
Ta1 213 x30 fun x31 =>
Nk x31 fun x32 =>
Fa x32 3 fun x33 =>
Ld x33 w8.drew fun x34 =>
Cl P 84 #[x34] w8.drew (pE R) fun x35 w36 =>
Fa x6 6 fun x37 =>
St x37 x35 w36 fun w38 =>
J9 [] w38) (
J9 [] w8))) fun jk40 vals w39 =>
Ld x1 w39 fun x41 =>
LdN x6 7 w39 fun x42 =>
Cl P 53 #[x41, x42] w39 (pE R) fun x43 w44 =>
Nw 45 (.slice none 0 0) w44 fun x45 w46 =>
Nk a1 fun x47 =>
Fa x47 4 fun x48 =>
Ld x48 w46 fun x49 =>
Ln false x49 fun x50 =>
Lp [(.int .i64 0), undef] w46 fun jk51 vals w52 C53 =>
V2 vals fun v54 v55 =>
Bi .lss v54 x50 fun x56 =>
If x56 (
IaS 3 x49 v54 fun x57 =>
LdN x57 3 w52 fun x58 =>
Nw 237 (.agg #[.slice none 0 0, .string ⟨#[]⟩, .nilIface]) w52 fun x59 w60 =>
StN x59 x58 3 w60 fun w61 =>
Fa x59 0 fun x62 =>
Ld x62 w61 fun x63 =>
Ln false x63 fun x64 =>
Lp [(.int .i64 0)] w61 fun jk65 vals w66 C67 =>
V1 vals fun v68 =>
Bi .lss v68 x64 fun x69 =>
If x69 (
IaS 1 x63 v68 fun x70 =>
Ld x70 w66 fun x71 =>
Fa x6 5 fun x72 =>
Ld x72 w66.drew fun x73 =>
Ld x1 w66.drew fun x74 =>
Nk x74 fun x75 =>
Fa x75 0 fun x76 =>
Ld x76 w66.drew fun x77 =>
Nk x77 fun x78 =>
Fa x78 0 fun x79 =>
Ld x79 w66.drew fun x80 =>
Ln false x80 fun x81 =>
Mu (.int .i64) x73 x71 x81 w66.drew fun w82 =>
Bi .add v68 (.int .i64 1) fun x83 =>
C67 [x83] w82) (
Fa x59 1 fun x84 =>
LdN x84 2 w66 fun x85 =>
CallV P (.func (.func 131) #[] #[x1, x45]) #[x85] w66 (pE R) fun x86 w87 =>
Bi .add v54 (.int .i64 1) fun x88 =>
C53 [x88, v68] w87)) (
Jn (fun J89 =>
Nk a1 fun x90 =>
Fa x90 5 fun x91 =>
Ld x91 w52 fun x92 =>
En .ptr true x92 fun x93 =>
If x93 (
Ld x1 w52 fun x94 =>
Cl P 130 #[x94, x43] w52 (pE R) fun x95 w96 =>
Nk a1 fun x97 =>
Fa x97 5 fun x98 =>
Ld x98 w96 fun x99 =>
Nk x99 fun x100 =>
LdN x100 2 w96 fun x101 =>
CallV P (.func (.func 131) #[] #[x1, x45]) #[x101] w96 (pE R) fun x102 w103 =>
J89 [] w103) (
J89 [] w52)) fun jk105 vals w104 =>
Ld x45 w104 fun x106 =>
Ln false x106 fun x107 =>
Lp [(.int .i64 0)] w104 fun jk108 vals w109 C110 =>
V1 vals fun v111 =>
Bi .lss v111 x107 fun x112 =>
If x112 (
IaS 1 x106 v111 fun x113 =>
Ld x113 w109 fun x114 =>
Ld x1 w109 fun x115 =>
Cl P 130 #[x115, x114] w109 (pE R) fun x116 w117 =>
Bi .add v111 (.int .i64 1) fun x118 =>
C110 [x118] w117) (
R (.returned (.tuple #[])) w109))
theorem o_code_compiler_union {R : KR} {a0 a1 : Value} {w : World} (h : s_code_compiler_union R a0 a1 w) : Calls P n_code_compiler_union #[a0, a1] w R := calls_of_fnB (fn := Tryz.f85) (keep := [55, 62, 101]) (args := [a0, a1]) Tryz.func85 rfl (ofE (by kernel_rfl) h)
abbrev n_code_endless_1 : FuncId := 86
def s_code_endless_1 (R : KR) (a0 a1 a2 a3 a4 a5 a6 : Value) (w : World) : Prop :=
Ta 228 (.pointer none) a0 fun x1 =>
Ex x1 1 fun x2 =>
Ex x1 0 fun x3 =>
If x2 (
Jn (fun J4 =>
Nk x3 fun x5 =>
Fa x5 0 fun x6 =>
Ld x6 w.drew fun x7 =>
Ld a1 w.drew fun x8 =>
Bs .eql x7 x8 fun x9 =>
If x9 (
St a2 (.bool true) w.drew fun w10 =>
J4 [] w10) (
J4 [] w.drew)) fun jk12 vals w11 =>
Ld a3 w11.drew fun x13 =>
Nk x3 fun x14 =>
Fa x14 0 fun x15 =>
Ld x15 w11.drew fun x16 =>
Lk .string (.int .i64 0) x13 x16 false w11.drew fun x17 =>
Bi .eql x17 (.int .i64 0) fun x18 =>
If x18 (
Ld a3 w11.drew.drew fun x19 =>
Nk x3 fun x20 =>
Fa x20 0 fun x21 =>
Ld x21 w11.drew.drew fun x22 =>
Mu .string x19 x22 (.int .i64 1) w11.drew.drew fun w23 =>
Ld a4 w23.drew fun x24 =>
Ld a5 w23.drew fun x25 =>
Nk x3 fun x26 =>
Fa x26 0 fun x27 =>
Ld x27 w23.drew fun x28 =>
Lk .string (.nilIface) x25 x28 false w23.drew fun x29 =>
CallV P x24 #[x29] w23.drew (pE R) fun x30 w31 =>
R (.returned (.tuple #[])) w31) (
R (.returned (.tuple #[])) w11.drew)) (
Ta 231 (.agg #[.nilIface, .bool false, .int .i64 0]) a0 fun x32 =>
Ex x32 1 fun x33 =>
Ex x32 0 fun x34 =>
If x33 (
Nw 231 (.agg #[.nilIface, .bool false, .int .i64 0]) w fun x35 w36 =>
StN x35 x34 3 w36 fun w37 =>
Fa x35 1 fun x38 =>
Ld x38 w37 fun x39 =>
If x39 (
Ld a6 w37 fun x40 =>
Fa x35 0 fun x41 =>
Ld x41 w37 fun x42 =>
CallV P x40 #[x42] w37 (pE R) fun x43 w44 =>
R (.returned (.tuple #[])) w44) (
R (.returned (.tuple #[])) w37)) (
R (.returned (.tuple #[])) w))
theorem o_code_endless_1 {R : KR} {a0 a1 a2 a3 a4 a5 a6 : Value} {w : World} (h : s_code_endless_1 R a0 a1 a2 a3 a4 a5 a6 w) : Calls P n_code_endless_1 #[a0, a1, a2, a3, a4, a5, a6] w R := calls_of_fnB (fn := Tryz.f86) (keep := []) (args := [a0, a1, a2, a3, a4, a5, a6]) Tryz.func86 rfl (ofE (by kernel_rfl) h)
abbrev n_code_endless_2 : FuncId := 87
def s_code_endless_2 (R : KR) (a0 a1 : Value) (w : World) : Prop :=
Ta 209 (.pointer none) a0 fun x1 =>
Ex x1 1 fun x2 =>
Ex x1 0 fun x3 =>
If x2 (
Ld a1 w.drew fun x4 =>
Nk x3 fun x5 =>
Fa x5 2 fun x6 =>
Ld x6 w.drew fun x7 =>
CallV P x4 #[x7] w.drew (pE R) fun x8 w9 =>
R (.returned (.tuple #[])) w9) (
Ta 218 (.pointer none) a0 fun x10 =>
Ex x10 1 fun x11 =>
Ex x10 0 fun x12 =>
If x11 (
Nk x12 fun x13 =>
Fa x13 2 fun x14 =>
Ld x14 w fun x15 =>
Ln false x15 fun x16 =>
Lp [(.int .i64 0)] w fun jk17 vals w18 C19 =>
V1 vals fun v20 =>
Bi .lss v20 x16 fun x21 =>
If x21 (
IaS 2 x15 v20 fun x22 =>
LdN x22 2 w18 fun x23 =>
Nw 223 (.agg #[.string ⟨#[]⟩, .nilIface]) w18 fun x24 w25 =>
StN x24 x23 2 w25 fun w26 =>
Ld a1 w26 fun x27 =>
Fa x24 1 fun x28 =>
Ld x28 w26 fun x29 =>
CallV P x27 #[x29] w26 (pE R) fun x30 w31 =>
Bi .add v20 (.int .i64 1) fun x32 =>
C19 [x32] w31) (
R (.returned (.tuple #[])) w18)) (
Ta 224 (.pointer none) a0 fun x33 =>
Ex x33 1 fun x34 =>
Ex x33 0 fun x35 =>
If x34 (
Nk x35 fun x36 =>
Fa x36 4 fun x37 =>
Ld x37 w fun x38 =>
Ln false x38 fun x39 =>
Lp [(.int .i64 0)] w fun jk40 vals w41 C42 =>
V1 vals fun v43 =>
Bi .lss v43 x39 fun x44 =>
If x44 (
IaS 3 x38 v43 fun x45 =>
LdN x45 3 w41 fun x46 =>
Nw 237 (.agg #[.slice none 0 0, .string ⟨#[]⟩, .nilIface]) w41 fun x47 w48 =>
StN x47 x46 3 w48 fun w49 =>
Ld a1 w49 fun x50 =>
Fa x47 1 fun x51 =>
Fa x51 1 fun x52 =>
Ld x52 w49 fun x53 =>
CallV P x50 #[x53] w49 (pE R) fun x54 w55 =>
Bi .add v43 (.int .i64 1) fun x56 =>
C42 [x56] w55) (
Nk x35 fun x57 =>
Fa x57 5 fun x58 =>
Ld x58 w41 fun x59 =>
En .ptr true x59 fun x60 =>
If x60 (
Ld a1 w41.drew fun x61 =>
Nk x35 fun x62 =>
Fa x62 5 fun x63 =>
Ld x63 w41.drew fun x64 =>
Nk x64 fun x65 =>
Fa x65 1 fun x66 =>
Ld x66 w41.drew fun x67 =>
CallV P x61 #[x67] w41.drew (pE R) fun x68 w69 =>
R (.returned (.tuple #[])) w69) (
R (.returned (.tuple #[])) w41))) (
R (.returned (.tuple #[])) w)))
theorem o_code_endless_2 {R : KR} {a0 a1 : Value} {w : World} (h : s_code_endless_2 R a0 a1 w) : Calls P n_code_endless_2 #[a0, a1] w R := calls_of_fnB (fn := Tryz.f87) (keep := [28, 45]) (args := [a0, a1]) Tryz.func87 rfl (ofE (by kernel_rfl) h)
abbrev n_code_basic : FuncId := 128
def s_code_basic (R : KR) (a0 : Value) (w : World) : Prop :=
Bs .eql a0 (.string ⟨#[105, 110, 116]⟩) fun x1 =>
If x1 (
R (.returned (.int .i64 0)) w) (
Bs .eql a0 (.string ⟨#[117, 110, 115, 105, 103, 110, 101, 100]⟩) fun x2 =>
If x2 (
R (.returned (.int .i64 1)) w) (
Bs .eql a0 (.string ⟨#[98, 111, 111, 108]⟩) fun x3 =>
If x3 (
R (.returned (.int .i64 3)) w) (
R (.returned (.int .i64 2)) w)))
theorem o_code_basic {R : KR} {a0 : Value} {w : World} (h : s_code_basic R a0 w) : Calls P n_code_basic #[a0] w R := calls_of_fnB (fn := Tryz.f128) (keep := []) (args := [a0]) Tryz.func128 rfl (ofE (by kernel_rfl) h)
abbrev n_code_compiler_ref : FuncId := 129
def s_code_compiler_ref (R : KR) (a0 a1 a2 : Value) (w : World) : Prop :=
Bu (.agg #[.int .i64 0, .int .i64 0, .int .i64 0, .bool false, .int .i64 0, .map none, .map none]) [(0, 1, (.int .i64 6))] fun x1 =>
Cl P 53 #[a0, x1] w (pE R) fun x2 w3 =>
Nk a0 fun x4 =>
Fa x4 3 fun x5 =>
Ld x5 w3 fun x6 =>
Bu (.agg #[.int .i64 0, .string ⟨#[]⟩, .int .i64 0]) [(0, 1, x2), (1, 1, a1), (2, 1, a2)] fun x7 =>
BuS 227 3 [x7] w3 fun x8 w9 =>
Ap 227 3 32 (.agg #[.int .i64 0, .string ⟨#[]⟩, .int .i64 0]) x6 x8 w9 fun x10 w11 =>
Nk a0 fun x12 =>
Fa x12 3 fun x13 =>
St x13 x10 w11 fun w14 =>
R (.returned (.tuple #[])) w14
theorem o_code_compiler_ref {R : KR} {a0 a1 a2 : Value} {w : World} (h : s_code_compiler_ref R a0 a1 a2 w) : Calls P n_code_compiler_ref #[a0, a1, a2] w R := calls_of_fnB (fn := Tryz.f129) (keep := []) (args := [a0, a1, a2]) Tryz.func129 rfl (ofE (by kernel_rfl) h)
abbrev n_code_compiler_to : FuncId := 130
def s_code_compiler_to (R : KR) (a0 a1 : Value) (w : World) : Prop :=
Nk a0 fun x1 =>
Fa x1 0 fun x2 =>
Ld x2 w.drew fun x3 =>
Nk x3 fun x4 =>
Fa x4 0 fun x5 =>
Ld x5 w.drew fun x6 =>
Nk a0 fun x7 =>
Fa x7 0 fun x8 =>
Ld x8 w.drew fun x9 =>
Nk x9 fun x10 =>
Fa x10 0 fun x11 =>
Ld x11 w.drew fun x12 =>
Ln false x12 fun x13 =>
IaS 7 x6 a1 fun x14 =>
Fa x14 2 fun x15 =>
St x15 x13 w.drew fun w16 =>
R (.returned (.tuple #[])) w16
theorem o_code_compiler_to {R : KR} {a0 a1 : Value} {w : World} (h : s_code_compiler_to R a0 a1 w) : Calls P n_code_compiler_to #[a0, a1] w R := calls_of_fnB (fn := Tryz.f130) (keep := []) (args := [a0, a1]) Tryz.func130 rfl (ofE (by kernel_rfl) h)
abbrev n_code_compiler_union_1 : FuncId := 131
def s_code_compiler_union_1 (R : KR) (a0 a1 a2 : Value) (w : World) : Prop :=
Nw 223 a0 w fun x1 w2 =>
Ld a1 w2 fun x3 =>
Fa x1 1 fun x4 =>
Ld x4 w2 fun x5 =>
Cl P 83 #[x3, x5] w2 (pE R) fun x6 w7 =>
Ld a2 w7.drew fun x8 =>
Ld a1 w7.drew fun x9 =>
Bu (.agg #[.int .i64 0, .int .i64 0, .int .i64 0, .bool false, .int .i64 0, .map none, .map none]) [(0, 1, (.int .i64 14))] fun x10 =>
Cl P 53 #[x9, x10] w7.drew (pE R) fun x11 w12 =>
(Ld a2 w12 fun x13 => x13 = x8) ∧
BuS 3 1 [x11] w12 fun x14 w15 =>
(Ld a2 w15 fun x16 => x16 = x8) ∧
Ap 3 1 8 (.int .i64 0) x8 x14 w15 fun x17 w18 =>
St a2 x17 w18 fun w19 =>
R (.returned (.tuple #[])) w19
theorem o_code_compiler_union_1 {R : KR} {a0 a1 a2 : Value} {w : World} (h : s_code_compiler_union_1 R a0 a1 a2 w) : Calls P n_code_compiler_union_1 #[a0, a1, a2] w R := calls_of_fnB (fn := Tryz.f131) (keep := []) (args := [a0, a1, a2]) Tryz.func131 rfl (ofE (by kernel_rfl) h)
end Go.W.T
