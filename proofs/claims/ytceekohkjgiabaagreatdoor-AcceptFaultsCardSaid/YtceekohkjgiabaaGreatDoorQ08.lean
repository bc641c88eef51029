/- The facts on types and functions that the walks use, laid by a program of mine (types.py). Struct values compare as the data do. Contracts of functions that only read: analemmaref14.zones, Same; analemmaref34.shifted, first, taken; slices.Index, Contains, Equal. Contracts: analemmaref14.Same, analemmaref34.shifted, first, taken, slices.Index, Contains, Equal. Contracts: analemmaref34.taken, slices.Index, Contains, Equal, IndexFunc, merge.check's closure. -/
import Derived.Test.YtceekohkjgiabaaGreatDoorQ06
import Derived.Test.YtceekohkjgiabaaGreatDoorProg
set_option maxHeartbeats 4000000
set_option linter.unusedVariables false
set_option linter.unusedSimpArgs false
namespace Go.Proofs.YtceekohkjgiabaaGreatDoor
open Go Go.Wk
instance : Ty Tryz.prog 1 1 false := {}
instance : Ty Tryz.prog 2 1 false := {}
instance : ZeroT Tryz.prog 2 [.int .i64 0] := {}
instance : ZeroV Tryz.prog 2 (.int .i64 0) := {}
instance : IntT Tryz.prog 2 .i64 := {}
instance : Ty Tryz.prog 3 1 false := {}
instance : ZeroT Tryz.prog 3 [.int .i64 0] := {}
instance : ZeroV Tryz.prog 3 (.int .i64 0) := {}
instance : IntT Tryz.prog 3 .i64 := {}
instance : Ty Tryz.prog 4 1 false := {}
instance : ZeroT Tryz.prog 4 [.bool false] := {}
instance : ZeroV Tryz.prog 4 (.bool false) := {}
instance : BoolT Tryz.prog 4 := {}
instance : Ty Tryz.prog 5 1 false := {}
instance : ZeroT Tryz.prog 5 [.int .u8 0] := {}
instance : ZeroV Tryz.prog 5 (.int .u8 0) := {}
instance : IntT Tryz.prog 5 .u8 := {}
instance : Ty Tryz.prog 9 1 false := {}
instance : ZeroT Tryz.prog 9 [.string ByteArray.empty] := {}
instance : ZeroV Tryz.prog 9 (.string ByteArray.empty) := {}
instance : StringT Tryz.prog 9 := {}
instance : Ty Tryz.prog 12 1 false := {}
instance : ZeroT Tryz.prog 12 [.int .u64 0] := {}
instance : ZeroV Tryz.prog 12 (.int .u64 0) := {}
instance : IntT Tryz.prog 12 .u64 := {}
instance : Ty Tryz.prog 20 1 false := {}
instance : Ty Tryz.prog 21 1 false := {}
instance : ZeroT Tryz.prog 21 [.int .i32 0] := {}
instance : ZeroV Tryz.prog 21 (.int .i32 0) := {}
instance : IntT Tryz.prog 21 .i32 := {}
instance : Ty Tryz.prog 22 1 false := {}
instance : ZeroT Tryz.prog 22 [.slice none 0 0] := {}
instance : ElemZ Tryz.prog 22 48 11 104 := {}
instance : ZeroV Tryz.prog 22 (.slice none 0 0) := {}
instance : ElemT Tryz.prog 22 48 11 104 := {}
instance : Ty Tryz.prog 23 1 false := {}
instance : ZeroT Tryz.prog 23 [.slice none 0 0] := {}
instance : ElemZ Tryz.prog 23 51 2 40 := {}
instance : ZeroV Tryz.prog 23 (.slice none 0 0) := {}
instance : ElemT Tryz.prog 23 51 2 40 := {}
instance : Ty Tryz.prog 24 1 false := {}
instance : ZeroT Tryz.prog 24 [.slice none 0 0] := {}
instance : ElemZ Tryz.prog 24 60 2 32 := {}
instance : ZeroV Tryz.prog 24 (.slice none 0 0) := {}
instance : ElemT Tryz.prog 24 60 2 32 := {}
instance : Ty Tryz.prog 25 1 false := {}
instance : ZeroT Tryz.prog 25 [.slice none 0 0] := {}
instance : ElemZ Tryz.prog 25 9 1 16 := {}
instance : ZeroV Tryz.prog 25 (.slice none 0 0) := {}
instance : ElemT Tryz.prog 25 9 1 16 := {}
instance : Ty Tryz.prog 27 4 true := {}
instance : FieldAt Tryz.prog 27 0 0 1 false := {}
instance : FieldAt Tryz.prog 27 1 1 1 false := {}
instance : FieldAt Tryz.prog 27 2 2 1 false := {}
instance : FieldAt Tryz.prog 27 3 3 1 false := {}
instance : LayT Tryz.prog 27 [(0, 1), (1, 1), (2, 1), (3, 1)] := {}
instance : ZeroT Tryz.prog 27 [.slice none 0 0, .slice none 0 0, .slice none 0 0, .slice none 0 0] := {}
instance : Ty Tryz.prog 28 1 false := {}
instance : Ty Tryz.prog 29 1 false := {}
instance : Ty Tryz.prog 31 3 true := {}
instance : FieldAt Tryz.prog 31 0 0 1 false := {}
instance : FieldAt Tryz.prog 31 1 1 1 false := {}
instance : FieldAt Tryz.prog 31 2 2 1 false := {}
instance : LayT Tryz.prog 31 [(0, 1), (1, 1), (2, 1)] := {}
instance : ZeroT Tryz.prog 31 [.int .i64 0, .int .i64 0, .int .i64 0] := {}
instance : Ty Tryz.prog 32 1 false := {}
instance : ZeroT Tryz.prog 32 [.int .i64 0] := {}
instance : ZeroV Tryz.prog 32 (.int .i64 0) := {}
instance : IntT Tryz.prog 32 .i64 := {}
instance : Ty Tryz.prog 34 1 false := {}
instance : Ty Tryz.prog 35 1 false := {}
instance : Ty Tryz.prog 36 1 false := {}
instance : Ty Tryz.prog 37 1 false := {}
instance : ZeroT Tryz.prog 37 [.slice none 0 0] := {}
instance : ElemZ Tryz.prog 37 3 1 8 := {}
instance : ZeroV Tryz.prog 37 (.slice none 0 0) := {}
instance : ElemT Tryz.prog 37 3 1 8 := {}
instance : Ty Tryz.prog 38 1 false := {}
instance : Ty Tryz.prog 39 1 false := {}
instance : Ty Tryz.prog 40 1 false := {}
instance : Ty Tryz.prog 41 1 false := {}
instance : Ty Tryz.prog 42 1 false := {}
instance : Ty Tryz.prog 44 3 true := {}
instance : FieldAt Tryz.prog 44 0 0 1 false := {}
instance : FieldAt Tryz.prog 44 1 1 1 false := {}
instance : FieldAt Tryz.prog 44 2 2 1 false := {}
instance : LayT Tryz.prog 44 [(0, 1), (1, 1), (2, 1)] := {}
instance : ZeroT Tryz.prog 44 [.int .i64 0, .int .i64 0, .int .i64 0] := {}
instance : Ty Tryz.prog 46 2 true := {}
instance : FieldAt Tryz.prog 46 0 0 1 false := {}
instance : FieldAt Tryz.prog 46 1 1 1 false := {}
instance : LayT Tryz.prog 46 [(0, 1), (1, 1)] := {}
instance : ZeroT Tryz.prog 46 [.int .i64 0, .int .i64 0] := {}
instance : Ty Tryz.prog 48 11 true := {}
instance : FieldAt Tryz.prog 48 0 0 1 false := {}
instance : FieldAt Tryz.prog 48 1 1 1 false := {}
instance : FieldAt Tryz.prog 48 2 2 1 false := {}
instance : FieldAt Tryz.prog 48 3 3 1 false := {}
instance : FieldAt Tryz.prog 48 4 4 3 true := {}
instance : FieldAt Tryz.prog 48 5 7 2 true := {}
instance : FieldAt Tryz.prog 48 6 9 1 false := {}
instance : FieldAt Tryz.prog 48 7 10 1 false := {}
instance : LayT Tryz.prog 48 [(0, 1), (1, 1), (2, 1), (3, 1), (4, 3), (7, 2), (9, 1), (10, 1)] := {}
instance : ZeroT Tryz.prog 48 [.string ByteArray.empty, .int .i64 0, .int .i64 0, .int .i64 0, .int .i64 0, .int .i64 0, .int .i64 0, .int .i64 0, .int .i64 0, .int .i64 0, .string ByteArray.empty] := {}
instance : Ty Tryz.prog 49 1 false := {}
instance : ZeroT Tryz.prog 49 [.slice none 0 0] := {}
instance : ElemZ Tryz.prog 49 56 13 120 := {}
instance : ZeroV Tryz.prog 49 (.slice none 0 0) := {}
instance : ElemT Tryz.prog 49 56 13 120 := {}
instance : Ty Tryz.prog 51 2 true := {}
instance : FieldAt Tryz.prog 51 0 0 1 false := {}
instance : FieldAt Tryz.prog 51 1 1 1 false := {}
instance : LayT Tryz.prog 51 [(0, 1), (1, 1)] := {}
instance : ZeroT Tryz.prog 51 [.string ByteArray.empty, .slice none 0 0] := {}
instance : Ty Tryz.prog 52 1 false := {}
instance : Ty Tryz.prog 54 8 true := {}
instance : FieldAt Tryz.prog 54 0 0 1 false := {}
instance : FieldAt Tryz.prog 54 1 1 1 false := {}
instance : FieldAt Tryz.prog 54 2 2 1 false := {}
instance : FieldAt Tryz.prog 54 3 3 3 true := {}
instance : FieldAt Tryz.prog 54 4 6 2 true := {}
instance : LayT Tryz.prog 54 [(0, 1), (1, 1), (2, 1), (3, 3), (6, 2)] := {}
instance : ZeroT Tryz.prog 54 [.bool false, .int .i64 0, .int .i64 0, .int .i64 0, .int .i64 0, .int .i64 0, .int .i64 0, .int .i64 0] := {}
instance : Ty Tryz.prog 56 13 true := {}
instance : FieldAt Tryz.prog 56 0 0 1 false := {}
instance : FieldAt Tryz.prog 56 1 1 1 false := {}
instance : FieldAt Tryz.prog 56 2 2 1 false := {}
instance : FieldAt Tryz.prog 56 3 3 1 false := {}
instance : FieldAt Tryz.prog 56 4 4 1 false := {}
instance : FieldAt Tryz.prog 56 5 5 8 true := {}
instance : LayT Tryz.prog 56 [(0, 1), (1, 1), (2, 1), (3, 1), (4, 1), (5, 8)] := {}
instance : ZeroT Tryz.prog 56 [.int .i64 0, .int .i64 0, .int .i64 0, .string ByteArray.empty, .string ByteArray.empty, .bool false, .int .i64 0, .int .i64 0, .int .i64 0, .int .i64 0, .int .i64 0, .int .i64 0, .int .i64 0] := {}
instance : Ty Tryz.prog 57 1 false := {}
instance : Ty Tryz.prog 58 1 false := {}
instance : Ty Tryz.prog 60 2 true := {}
instance : FieldAt Tryz.prog 60 0 0 1 false := {}
instance : FieldAt Tryz.prog 60 1 1 1 false := {}
instance : LayT Tryz.prog 60 [(0, 1), (1, 1)] := {}
instance : ZeroT Tryz.prog 60 [.string ByteArray.empty, .string ByteArray.empty] := {}
instance : Ty Tryz.prog 61 1 false := {}
instance : Ty Tryz.prog 62 1 false := {}
instance : Ty Tryz.prog 63 1 false := {}
instance : Ty Tryz.prog 65 4 true := {}
instance : FieldAt Tryz.prog 65 0 0 4 true := {}
instance : LayT Tryz.prog 65 [(0, 4)] := {}
instance : ZeroT Tryz.prog 65 [.slice none 0 0, .slice none 0 0, .slice none 0 0, .slice none 0 0] := {}
instance : Ty Tryz.prog 66 1 false := {}
instance : Ty Tryz.prog 67 1 false := {}
instance : ZeroT Tryz.prog 67 [.slice none 0 0] := {}
instance : ElemZ Tryz.prog 67 66 1 8 := {}
instance : ZeroV Tryz.prog 67 (.slice none 0 0) := {}
instance : ElemT Tryz.prog 67 66 1 8 := {}
instance : Ty Tryz.prog 68 1 false := {}
instance : Ty Tryz.prog 69 1 false := {}
instance : Ty Tryz.prog 70 1 false := {}
instance : Ty Tryz.prog 71 1 false := {}
instance : Ty Tryz.prog 72 1 false := {}
instance : Ty Tryz.prog 73 1 false := {}
instance : Ty Tryz.prog 74 1 false := {}
instance : Ty Tryz.prog 76 1 false := {}
instance : Ty Tryz.prog 78 3 true := {}
instance : FieldAt Tryz.prog 78 0 0 1 false := {}
instance : FieldAt Tryz.prog 78 1 1 1 false := {}
instance : FieldAt Tryz.prog 78 2 2 1 false := {}
instance : LayT Tryz.prog 78 [(0, 1), (1, 1), (2, 1)] := {}
instance : ZeroT Tryz.prog 78 [.int .i64 0, .int .i64 0, .int .i64 0] := {}
instance : Ty Tryz.prog 80 1 false := {}
instance : Ty Tryz.prog 81 1 false := {}
instance : Ty Tryz.prog 83 1 false := {}
instance : Ty Tryz.prog 84 1 false := {}
instance : Ty Tryz.prog 85 1 false := {}
instance : Ty Tryz.prog 86 1 false := {}
instance : Ty Tryz.prog 87 1 false := {}
instance : Ty Tryz.prog 88 1 false := {}
instance : Ty Tryz.prog 89 1 false := {}
instance : Ty Tryz.prog 90 1 false := {}
instance : Ty Tryz.prog 91 1 false := {}
instance : Ty Tryz.prog 92 1 false := {}
instance : Ty Tryz.prog 93 1 false := {}
instance : Ty Tryz.prog 94 1 false := {}
instance : Ty Tryz.prog 96 5 true := {}
instance : FieldAt Tryz.prog 96 0 0 1 false := {}
instance : FieldAt Tryz.prog 96 1 1 1 false := {}
instance : FieldAt Tryz.prog 96 2 2 1 false := {}
instance : FieldAt Tryz.prog 96 3 3 1 false := {}
instance : FieldAt Tryz.prog 96 4 4 1 false := {}
instance : LayT Tryz.prog 96 [(0, 1), (1, 1), (2, 1), (3, 1), (4, 1)] := {}
instance : ZeroT Tryz.prog 96 [.string ByteArray.empty, .bool false, .bool false, .bool false, .bool false] := {}
instance : Ty Tryz.prog 98 1 false := {}
instance : Ty Tryz.prog 99 1 false := {}
instance : Ty Tryz.prog 100 1 false := {}
instance : Ty Tryz.prog 101 1 false := {}
instance : Ty Tryz.prog 102 1 false := {}
instance : Ty Tryz.prog 103 1 false := {}
instance : ZeroT Tryz.prog 103 [.map none] := {}
instance : ZeroV Tryz.prog 103 (.map none) := {}
instance : MapT Tryz.prog 103 9 4 := {}
instance : Ty Tryz.prog 104 1 false := {}
instance : Ty Tryz.prog 105 1 false := {}
instance : Ty Tryz.prog 107 2 true := {}
instance : FieldAt Tryz.prog 107 0 0 1 false := {}
instance : FieldAt Tryz.prog 107 1 1 1 false := {}
instance : LayT Tryz.prog 107 [(0, 1), (1, 1)] := {}
instance : ZeroT Tryz.prog 107 [.nilFunc, .int .i64 0] := {}
instance : Ty Tryz.prog 108 12 true := {}
instance : ArrT Tryz.prog 108 6 107 2 true := {}
instance : ZeroT Tryz.prog 108 [.nilFunc, .int .i64 0, .nilFunc, .int .i64 0, .nilFunc, .int .i64 0, .nilFunc, .int .i64 0, .nilFunc, .int .i64 0, .nilFunc, .int .i64 0] := {}
instance : Ty Tryz.prog 109 1 false := {}
instance : Ty Tryz.prog 110 1 false := {}
instance : Ty Tryz.prog 111 1 false := {}
instance : ZeroT Tryz.prog 111 [.slice none 0 0] := {}
instance : ElemZ Tryz.prog 111 78 3 24 := {}
instance : ZeroV Tryz.prog 111 (.slice none 0 0) := {}
instance : ElemT Tryz.prog 111 78 3 24 := {}
instance : Ty Tryz.prog 113 1 false := {}
instance : Ty Tryz.prog 114 1 false := {}
instance : Ty Tryz.prog 115 1 false := {}
instance : ZeroT Tryz.prog 115 [.map none] := {}
instance : ZeroV Tryz.prog 115 (.map none) := {}
instance : MapT Tryz.prog 115 9 3 := {}
instance : Ty Tryz.prog 116 1 false := {}
instance : Ty Tryz.prog 117 1 false := {}
instance : Ty Tryz.prog 119 1 false := {}
instance : Ty Tryz.prog 121 2 true := {}
instance : FieldAt Tryz.prog 121 0 0 1 false := {}
instance : FieldAt Tryz.prog 121 1 1 1 false := {}
instance : LayT Tryz.prog 121 [(0, 1), (1, 1)] := {}
instance : ZeroT Tryz.prog 121 [.int .i64 0, .string ByteArray.empty] := {}
instance : Ty Tryz.prog 122 1 false := {}
instance : Ty Tryz.prog 123 1 false := {}
instance : Ty Tryz.prog 124 1 false := {}
instance : Ty Tryz.prog 125 1 false := {}
instance : Ty Tryz.prog 126 1 false := {}
instance : ZeroT Tryz.prog 126 [.slice none 0 0] := {}
instance : ElemZ Tryz.prog 126 121 2 24 := {}
instance : ZeroV Tryz.prog 126 (.slice none 0 0) := {}
instance : ElemT Tryz.prog 126 121 2 24 := {}
instance : Ty Tryz.prog 127 1 false := {}
instance : Ty Tryz.prog 128 1 false := {}
instance : Ty Tryz.prog 129 1 false := {}
instance : Ty Tryz.prog 131 1 false := {}
instance : Ty Tryz.prog 132 1 false := {}
instance : Ty Tryz.prog 133 1 false := {}
instance : ZeroT Tryz.prog 133 [.map none] := {}
instance : ZeroV Tryz.prog 133 (.map none) := {}
instance : MapT Tryz.prog 133 137 3 := {}
instance : Ty Tryz.prog 135 1 false := {}
instance : Ty Tryz.prog 137 2 true := {}
instance : FieldAt Tryz.prog 137 0 0 1 false := {}
instance : FieldAt Tryz.prog 137 1 1 1 false := {}
instance : LayT Tryz.prog 137 [(0, 1), (1, 1)] := {}
instance : ZeroT Tryz.prog 137 [.int .i64 0, .string ByteArray.empty] := {}
instance : Ty Tryz.prog 138 1 false := {}
instance : Ty Tryz.prog 139 1 false := {}
instance : Ty Tryz.prog 140 1 false := {}
instance : ZeroT Tryz.prog 140 [.slice none 0 0] := {}
instance : ElemZ Tryz.prog 140 111 1 24 := {}
instance : ZeroV Tryz.prog 140 (.slice none 0 0) := {}
instance : ElemT Tryz.prog 140 111 1 24 := {}
instance : Ty Tryz.prog 141 1 false := {}
instance : Ty Tryz.prog 142 1 false := {}
instance : Ty Tryz.prog 143 1 false := {}
instance : Ty Tryz.prog 144 1 false := {}
instance : Ty Tryz.prog 145 1 false := {}
instance : Ty Tryz.prog 146 1 false := {}
instance : Ty Tryz.prog 147 1 false := {}
instance : Ty Tryz.prog 148 1 false := {}
instance : ZeroT Tryz.prog 148 [.slice none 0 0] := {}
instance : ElemZ Tryz.prog 148 150 2 24 := {}
instance : ZeroV Tryz.prog 148 (.slice none 0 0) := {}
instance : ElemT Tryz.prog 148 150 2 24 := {}
instance : Ty Tryz.prog 150 2 true := {}
instance : FieldAt Tryz.prog 150 0 0 1 false := {}
instance : FieldAt Tryz.prog 150 1 1 1 false := {}
instance : LayT Tryz.prog 150 [(0, 1), (1, 1)] := {}
instance : ZeroT Tryz.prog 150 [.int .i64 0, .string ByteArray.empty] := {}
instance : Ty Tryz.prog 151 20 true := {}
instance : ArrT Tryz.prog 151 4 96 5 true := {}
instance : ZeroT Tryz.prog 151 [.string ByteArray.empty, .bool false, .bool false, .bool false, .bool false, .string ByteArray.empty, .bool false, .bool false, .bool false, .bool false, .string ByteArray.empty, .bool false, .bool false, .bool false, .bool false, .string ByteArray.empty, .bool false, .bool false, .bool false, .bool false] := {}
instance : Ty Tryz.prog 153 1 false := {}
instance : Ty Tryz.prog 154 1 false := {}
instance : Ty Tryz.prog 155 256 true := {}
instance : ArrT Tryz.prog 155 256 5 1 false := {}
instance : Ty Tryz.prog 156 1 false := {}
instance : Ty Tryz.prog 157 1 false := {}
instance : Ty Tryz.prog 158 1 false := {}
instance : Ty Tryz.prog 159 1 false := {}
instance : ZeroT Tryz.prog 159 [.int .u64 0] := {}
instance : ZeroV Tryz.prog 159 (.int .u64 0) := {}
instance : IntT Tryz.prog 159 .u64 := {}
instance : Ty Tryz.prog 161 1 false := {}
instance : Ty Tryz.prog 162 1 false := {}
instance : Ty Tryz.prog 163 1 false := {}
instance : Ty Tryz.prog 164 1 false := {}
instance : Ty Tryz.prog 165 1 false := {}
instance : Ty Tryz.prog 166 1 false := {}
instance : Ty Tryz.prog 167 1 false := {}
instance : Ty Tryz.prog 168 1 false := {}
instance : Ty Tryz.prog 169 1 false := {}
instance : Ty Tryz.prog 170 1 false := {}
instance : Ty Tryz.prog 171 1 false := {}
instance : Ty Tryz.prog 172 1 false := {}
instance : Ty Tryz.prog 173 1 false := {}
instance : Ty Tryz.prog 174 1 false := {}
instance : Ty Tryz.prog 175 1 false := {}
instance : Ty Tryz.prog 176 1 false := {}
instance : Ty Tryz.prog 177 1 false := {}
instance : Ty Tryz.prog 178 1 false := {}
instance : Ty Tryz.prog 179 1 false := {}
instance : Ty Tryz.prog 180 1 false := {}
instance : Ty Tryz.prog 181 1 false := {}
instance : Ty Tryz.prog 182 1 false := {}
instance : Ty Tryz.prog 183 1 false := {}
instance : Ty Tryz.prog 184 1 false := {}
instance : Ty Tryz.prog 185 1 false := {}
instance : Ty Tryz.prog 186 1 false := {}
instance : Ty Tryz.prog 187 1 false := {}
instance : Ty Tryz.prog 188 1 false := {}
instance : Ty Tryz.prog 189 1 false := {}
instance : ZeroT Tryz.prog 189 [.int .u64 0] := {}
instance : ZeroV Tryz.prog 189 (.int .u64 0) := {}
instance : IntT Tryz.prog 189 .u64 := {}
instance : Ty Tryz.prog 190 1 false := {}
instance : Ty Tryz.prog 191 1 false := {}
instance : Ty Tryz.prog 192 1 false := {}
instance : Ty Tryz.prog 193 1 false := {}
instance : Ty Tryz.prog 194 1 false := {}
instance : Ty Tryz.prog 195 1 false := {}
instance : Ty Tryz.prog 196 1 false := {}
instance : Ty Tryz.prog 197 1 false := {}
instance : Ty Tryz.prog 198 1 false := {}
instance : Ty Tryz.prog 199 1 false := {}
instance : Ty Tryz.prog 201 3 true := {}
instance : FieldAt Tryz.prog 201 0 0 1 false := {}
instance : FieldAt Tryz.prog 201 1 1 1 false := {}
instance : FieldAt Tryz.prog 201 2 2 1 false := {}
instance : LayT Tryz.prog 201 [(0, 1), (1, 1), (2, 1)] := {}
instance : ZeroT Tryz.prog 201 [.bool false, .bool false, .nilFunc] := {}
instance : Ty Tryz.prog 202 15 true := {}
instance : ArrT Tryz.prog 202 5 201 3 true := {}
instance : ZeroT Tryz.prog 202 [.bool false, .bool false, .nilFunc, .bool false, .bool false, .nilFunc, .bool false, .bool false, .nilFunc, .bool false, .bool false, .nilFunc, .bool false, .bool false, .nilFunc] := {}
instance : Ty Tryz.prog 203 1 false := {}
instance : Ty Tryz.prog 204 1 false := {}
instance : Ty Tryz.prog 205 3 true := {}
instance : ArrT Tryz.prog 205 3 2 1 false := {}
instance : ZeroT Tryz.prog 205 [.int .i64 0, .int .i64 0, .int .i64 0] := {}
instance : Ty Tryz.prog 206 1 false := {}
instance : ZeroT Tryz.prog 206 [.slice none 0 0] := {}
instance : ElemZ Tryz.prog 206 5 1 1 := {}
instance : ZeroV Tryz.prog 206 (.slice none 0 0) := {}
instance : ElemT Tryz.prog 206 5 1 1 := {}
instance : Ty Tryz.prog 207 1 false := {}
instance : ZeroT Tryz.prog 207 [.slice none 0 0] := {}
instance : ElemZ Tryz.prog 207 2 1 8 := {}
instance : ZeroV Tryz.prog 207 (.slice none 0 0) := {}
instance : ElemT Tryz.prog 207 2 1 8 := {}
instance : Ty Tryz.prog 208 1 false := {}
instance : Ty Tryz.prog 209 1 false := {}
instance : Ty Tryz.prog 210 1 false := {}
instance : Ty Tryz.prog 212 1 false := {}
instance : Ty Tryz.prog 213 1 false := {}
instance : Ty Tryz.prog 214 1 false := {}
instance : Ty Tryz.prog 215 1 false := {}
instance : Ty Tryz.prog 219 1 false := {}
instance : Ty Tryz.prog 220 1 false := {}
instance : Ty Tryz.prog 221 1 false := {}
instance : Ty Tryz.prog 222 1 false := {}
instance : Ty Tryz.prog 223 1 false := {}
instance : ZeroT Tryz.prog 223 [.int .i64 0] := {}
instance : ZeroV Tryz.prog 223 (.int .i64 0) := {}
instance : IntT Tryz.prog 223 .i64 := {}
instance : Ty Tryz.prog 225 1 false := {}
instance : Ty Tryz.prog 226 1 false := {}
instance : Ty Tryz.prog 227 1 false := {}
instance : Ty Tryz.prog 228 1 false := {}
instance : Ty Tryz.prog 229 1 false := {}
instance : Ty Tryz.prog 230 1 false := {}
instance : ZeroT Tryz.prog 230 [.int .u32 0] := {}
instance : ZeroV Tryz.prog 230 (.int .u32 0) := {}
instance : IntT Tryz.prog 230 .u32 := {}
instance : Ty Tryz.prog 231 1 false := {}
instance : Ty Tryz.prog 233 1 false := {}
instance : Ty Tryz.prog 234 1 false := {}
instance : Ty Tryz.prog 235 1 false := {}
instance : Ty Tryz.prog 236 12 true := {}
instance : ArrT Tryz.prog 236 12 2 1 false := {}
instance : ZeroT Tryz.prog 236 [.int .i64 0, .int .i64 0, .int .i64 0, .int .i64 0, .int .i64 0, .int .i64 0, .int .i64 0, .int .i64 0, .int .i64 0, .int .i64 0, .int .i64 0, .int .i64 0] := {}
instance : Ty Tryz.prog 238 1 false := {}
instance : Ty Tryz.prog 239 1 false := {}
instance : Ty Tryz.prog 240 1 false := {}
instance : Ty Tryz.prog 241 1 false := {}
instance : Ty Tryz.prog 242 1 false := {}
instance : ZeroT Tryz.prog 242 [.int .u64 0] := {}
instance : ZeroV Tryz.prog 242 (.int .u64 0) := {}
instance : IntT Tryz.prog 242 .u64 := {}
instance : Ty Tryz.prog 243 1 false := {}
instance : Ty Tryz.prog 244 1 false := {}
instance : Ty Tryz.prog 245 1 false := {}
instance : Ty Tryz.prog 246 1 false := {}
instance : ZeroT Tryz.prog 246 [.pointer none] := {}
instance : ZeroV Tryz.prog 246 (.pointer none) := {}
instance : Ty Tryz.prog 247 1 false := {}
instance : Ty Tryz.prog 248 1 false := {}
instance : ZeroT Tryz.prog 248 [.pointer none] := {}
instance : ZeroV Tryz.prog 248 (.pointer none) := {}
instance : Ty Tryz.prog 250 2 true := {}
instance : FieldAt Tryz.prog 250 0 0 1 false := {}
instance : FieldAt Tryz.prog 250 1 1 1 false := {}
instance : LayT Tryz.prog 250 [(0, 1), (1, 1)] := {}
instance : ZeroT Tryz.prog 250 [.pointer none, .slice none 0 0] := {}
instance : Ty Tryz.prog 251 1 false := {}
instance : Ty Tryz.prog 253 1 false := {}
instance : Ty Tryz.prog 254 1 false := {}
instance : Ty Tryz.prog 256 1 false := {}
instance : Ty Tryz.prog 258 1 false := {}
instance : Ty Tryz.prog 259 1 false := {}
instance : ZeroT Tryz.prog 259 [.pointer none] := {}
instance : ZeroV Tryz.prog 259 (.pointer none) := {}
instance : Ty Tryz.prog 260 1 false := {}
instance : Ty Tryz.prog 261 1 false := {}
instance : Ty Tryz.prog 262 1 false := {}
instance : ZeroT Tryz.prog 262 [.pointer none] := {}
instance : ZeroV Tryz.prog 262 (.pointer none) := {}
instance : Ty Tryz.prog 264 1 false := {}
instance : Ty Tryz.prog 266 2 true := {}
instance : FieldAt Tryz.prog 266 0 0 1 false := {}
instance : FieldAt Tryz.prog 266 1 1 1 false := {}
instance : LayT Tryz.prog 266 [(0, 1), (1, 1)] := {}
instance : ZeroT Tryz.prog 266 [.int .u8 0, .int .u8 0] := {}
instance : Ty Tryz.prog 267 32 true := {}
instance : ArrT Tryz.prog 267 16 266 2 true := {}
instance : ZeroT Tryz.prog 267 [.int .u8 0, .int .u8 0, .int .u8 0, .int .u8 0, .int .u8 0, .int .u8 0, .int .u8 0, .int .u8 0, .int .u8 0, .int .u8 0, .int .u8 0, .int .u8 0, .int .u8 0, .int .u8 0, .int .u8 0, .int .u8 0, .int .u8 0, .int .u8 0, .int .u8 0, .int .u8 0, .int .u8 0, .int .u8 0, .int .u8 0, .int .u8 0, .int .u8 0, .int .u8 0, .int .u8 0, .int .u8 0, .int .u8 0, .int .u8 0, .int .u8 0, .int .u8 0] := {}
instance : Ty Tryz.prog 268 1 false := {}
instance : ZeroT Tryz.prog 268 [.pointer none] := {}
instance : ZeroV Tryz.prog 268 (.pointer none) := {}
instance : Ty Tryz.prog 269 1 false := {}
instance : Ty Tryz.prog 271 3 true := {}
instance : FieldAt Tryz.prog 271 0 0 1 false := {}
instance : FieldAt Tryz.prog 271 1 1 1 false := {}
instance : FieldAt Tryz.prog 271 2 2 1 false := {}
instance : LayT Tryz.prog 271 [(0, 1), (1, 1), (2, 1)] := {}
instance : ZeroT Tryz.prog 271 [.string ByteArray.empty, .string ByteArray.empty, .nilIface] := {}
instance : Ty Tryz.prog 272 1 false := {}
instance : Ty Tryz.prog 274 1 false := {}
instance : Ty Tryz.prog 275 1 false := {}
instance : Ty Tryz.prog 276 1 false := {}
instance : ZeroT Tryz.prog 276 [.pointer none] := {}
instance : ZeroV Tryz.prog 276 (.pointer none) := {}
instance : Ty Tryz.prog 278 1 true := {}
instance : FieldAt Tryz.prog 278 0 0 1 false := {}
instance : LayT Tryz.prog 278 [(0, 1)] := {}
instance : ZeroT Tryz.prog 278 [.string ByteArray.empty] := {}
instance : Ty Tryz.prog 279 1 false := {}
instance : Ty Tryz.prog 280 24 true := {}
instance : ArrT Tryz.prog 280 24 5 1 false := {}
instance : ZeroT Tryz.prog 280 [.int .u8 0, .int .u8 0, .int .u8 0, .int .u8 0, .int .u8 0, .int .u8 0, .int .u8 0, .int .u8 0, .int .u8 0, .int .u8 0, .int .u8 0, .int .u8 0, .int .u8 0, .int .u8 0, .int .u8 0, .int .u8 0, .int .u8 0, .int .u8 0, .int .u8 0, .int .u8 0, .int .u8 0, .int .u8 0, .int .u8 0, .int .u8 0] := {}
instance : Ty Tryz.prog 281 1 false := {}
instance : Ty Tryz.prog 283 1 false := {}
instance : Ty Tryz.prog 284 1 false := {}
instance : Ty Tryz.prog 285 20 true := {}
instance : ArrT Tryz.prog 285 20 159 1 false := {}
instance : ZeroT Tryz.prog 285 [.int .u64 0, .int .u64 0, .int .u64 0, .int .u64 0, .int .u64 0, .int .u64 0, .int .u64 0, .int .u64 0, .int .u64 0, .int .u64 0, .int .u64 0, .int .u64 0, .int .u64 0, .int .u64 0, .int .u64 0, .int .u64 0, .int .u64 0, .int .u64 0, .int .u64 0, .int .u64 0] := {}
instance : Ty Tryz.prog 286 65 true := {}
instance : ArrT Tryz.prog 286 65 5 1 false := {}
instance : Ty Tryz.prog 287 32 true := {}
instance : ArrT Tryz.prog 287 32 5 1 false := {}
instance : ZeroT Tryz.prog 287 [.int .u8 0, .int .u8 0, .int .u8 0, .int .u8 0, .int .u8 0, .int .u8 0, .int .u8 0, .int .u8 0, .int .u8 0, .int .u8 0, .int .u8 0, .int .u8 0, .int .u8 0, .int .u8 0, .int .u8 0, .int .u8 0, .int .u8 0, .int .u8 0, .int .u8 0, .int .u8 0, .int .u8 0, .int .u8 0, .int .u8 0, .int .u8 0, .int .u8 0, .int .u8 0, .int .u8 0, .int .u8 0, .int .u8 0, .int .u8 0, .int .u8 0, .int .u8 0] := {}
instance : Ty Tryz.prog 288 64 true := {}
instance : ArrT Tryz.prog 288 64 5 1 false := {}
instance : Ty Tryz.prog 291 0 true := {}
instance : ArrT Tryz.prog 291 0 16 1 false := {}
instance : ZeroT Tryz.prog 291 [] := {}
instance : Ty Tryz.prog 294 1 false := {}
instance : Ty Tryz.prog 297 1 false := {}
instance : Ty Tryz.prog 302 1 false := {}
instance : Body Tryz.prog 2 := {}
instance : Body Tryz.prog 3 := {}
instance : Body Tryz.prog 4 := {}
instance : Body Tryz.prog 5 := {}
instance : Body Tryz.prog 6 := {}
instance : Body Tryz.prog 7 := {}
instance : Body Tryz.prog 8 := {}
instance : Body Tryz.prog 9 := {}
instance : Body Tryz.prog 10 := {}
instance : Body Tryz.prog 11 := {}
instance : Body Tryz.prog 12 := {}
instance : Body Tryz.prog 13 := {}
instance : Body Tryz.prog 14 := {}
instance : Body Tryz.prog 15 := {}
instance : Body Tryz.prog 16 := {}
instance : Body Tryz.prog 17 := {}
instance : Body Tryz.prog 18 := {}
instance : Body Tryz.prog 19 := {}
instance : Body Tryz.prog 20 := {}
instance : Body Tryz.prog 21 := {}
instance : Body Tryz.prog 22 := {}
instance : Body Tryz.prog 23 := {}
instance : Body Tryz.prog 24 := {}
instance : Body Tryz.prog 25 := {}
instance : Body Tryz.prog 26 := {}
instance : Body Tryz.prog 27 := {}
instance : Body Tryz.prog 28 := {}
instance : Body Tryz.prog 29 := {}
instance : Body Tryz.prog 30 := {}
instance : Body Tryz.prog 31 := {}
instance : Body Tryz.prog 32 := {}
instance : Body Tryz.prog 33 := {}
instance : Body Tryz.prog 34 := {}
instance : Body Tryz.prog 35 := {}
instance : Body Tryz.prog 36 := {}
instance : Body Tryz.prog 37 := {}
instance : Body Tryz.prog 38 := {}
instance : Body Tryz.prog 39 := {}
instance : Body Tryz.prog 40 := {}
instance : Body Tryz.prog 41 := {}
instance : Body Tryz.prog 42 := {}
instance : Body Tryz.prog 43 := {}
instance : Body Tryz.prog 44 := {}
instance : Body Tryz.prog 45 := {}
instance : Body Tryz.prog 46 := {}
instance : Body Tryz.prog 47 := {}
instance : Body Tryz.prog 48 := {}
instance : Body Tryz.prog 49 := {}
instance : Body Tryz.prog 50 := {}
instance : Body Tryz.prog 51 := {}
instance : Body Tryz.prog 52 := {}
instance : Body Tryz.prog 53 := {}
instance : Body Tryz.prog 54 := {}
instance : Body Tryz.prog 55 := {}
instance : Body Tryz.prog 56 := {}
instance : Body Tryz.prog 57 := {}
instance : Body Tryz.prog 58 := {}
instance : Body Tryz.prog 59 := {}
instance : Body Tryz.prog 60 := {}
instance : Body Tryz.prog 61 := {}
instance : Body Tryz.prog 62 := {}
instance : Body Tryz.prog 63 := {}
instance : Body Tryz.prog 64 := {}
instance : Body Tryz.prog 65 := {}
instance : Body Tryz.prog 66 := {}
instance : Body Tryz.prog 67 := {}
instance : Body Tryz.prog 68 := {}
instance : Body Tryz.prog 69 := {}
instance : Body Tryz.prog 70 := {}
instance : Body Tryz.prog 71 := {}
instance : Body Tryz.prog 72 := {}
instance : Body Tryz.prog 73 := {}
instance : Body Tryz.prog 74 := {}
instance : Body Tryz.prog 75 := {}
instance : Body Tryz.prog 76 := {}
instance : Body Tryz.prog 77 := {}
instance : Body Tryz.prog 78 := {}
instance : Body Tryz.prog 79 := {}
instance : Body Tryz.prog 80 := {}
instance : Body Tryz.prog 81 := {}
instance : Body Tryz.prog 82 := {}
instance : Body Tryz.prog 83 := {}
instance : Body Tryz.prog 84 := {}
instance : Body Tryz.prog 85 := {}
instance : Body Tryz.prog 86 := {}
instance : Body Tryz.prog 87 := {}
instance : Body Tryz.prog 88 := {}
instance : Body Tryz.prog 89 := {}
instance : Body Tryz.prog 90 := {}
instance : Body Tryz.prog 91 := {}
instance : Body Tryz.prog 92 := {}
instance : Body Tryz.prog 93 := {}
instance : Body Tryz.prog 94 := {}
instance : Body Tryz.prog 95 := {}
instance : Body Tryz.prog 96 := {}
instance : Body Tryz.prog 97 := {}
instance : Body Tryz.prog 98 := {}
instance : Body Tryz.prog 99 := {}
instance : Body Tryz.prog 100 := {}
instance : Body Tryz.prog 101 := {}
instance : Body Tryz.prog 102 := {}
instance : Body Tryz.prog 103 := {}
instance : Body Tryz.prog 104 := {}
instance : Body Tryz.prog 105 := {}
instance : Body Tryz.prog 106 := {}
instance : Body Tryz.prog 107 := {}
instance : Body Tryz.prog 108 := {}
instance : Body Tryz.prog 109 := {}
instance : Body Tryz.prog 110 := {}
instance : Body Tryz.prog 111 := {}
instance : Body Tryz.prog 112 := {}
instance : Body Tryz.prog 113 := {}
instance : Body Tryz.prog 114 := {}
instance : Body Tryz.prog 115 := {}
instance : Body Tryz.prog 116 := {}
instance : Body Tryz.prog 117 := {}
instance : Body Tryz.prog 118 := {}
instance : Body Tryz.prog 119 := {}
instance : Body Tryz.prog 120 := {}
instance : Body Tryz.prog 121 := {}
instance : Body Tryz.prog 122 := {}
instance : Body Tryz.prog 123 := {}
instance : Body Tryz.prog 124 := {}
instance : Body Tryz.prog 125 := {}
instance : Body Tryz.prog 126 := {}
instance : Body Tryz.prog 127 := {}
instance : Body Tryz.prog 128 := {}
instance : Body Tryz.prog 129 := {}
instance : Body Tryz.prog 130 := {}
instance : Body Tryz.prog 131 := {}
instance : Body Tryz.prog 132 := {}
instance : Body Tryz.prog 133 := {}
instance : Body Tryz.prog 134 := {}
instance : Body Tryz.prog 135 := {}
instance : Body Tryz.prog 136 := {}
instance : Body Tryz.prog 137 := {}
instance : Body Tryz.prog 138 := {}
instance : Body Tryz.prog 139 := {}
instance : Body Tryz.prog 140 := {}
instance : Body Tryz.prog 141 := {}
instance : Body Tryz.prog 142 := {}
instance : Body Tryz.prog 143 := {}
instance : Body Tryz.prog 144 := {}
instance : Body Tryz.prog 145 := {}
instance : Body Tryz.prog 146 := {}
instance : Body Tryz.prog 147 := {}
instance : Body Tryz.prog 148 := {}
instance : Body Tryz.prog 149 := {}
instance : Body Tryz.prog 150 := {}
instance : Body Tryz.prog 151 := {}
instance : Body Tryz.prog 152 := {}
instance : Body Tryz.prog 153 := {}
instance : Body Tryz.prog 154 := {}
instance : Body Tryz.prog 155 := {}
instance : Body Tryz.prog 156 := {}
instance : Body Tryz.prog 157 := {}
instance : Body Tryz.prog 158 := {}
instance : Body Tryz.prog 159 := {}
instance : Body Tryz.prog 160 := {}
instance : Body Tryz.prog 161 := {}
instance : Body Tryz.prog 162 := {}
instance : Body Tryz.prog 163 := {}
instance : Body Tryz.prog 164 := {}
instance : Body Tryz.prog 165 := {}
instance : Body Tryz.prog 166 := {}
instance : Body Tryz.prog 167 := {}
instance : Body Tryz.prog 169 := {}
instance : Body Tryz.prog 170 := {}
instance : Body Tryz.prog 171 := {}
instance : Body Tryz.prog 172 := {}
instance : Body Tryz.prog 173 := {}
instance : Body Tryz.prog 174 := {}
instance : Body Tryz.prog 175 := {}
instance : Body Tryz.prog 176 := {}
instance : Body Tryz.prog 177 := {}
instance : Body Tryz.prog 178 := {}
instance : Body Tryz.prog 179 := {}
instance : Body Tryz.prog 180 := {}
instance : Body Tryz.prog 181 := {}
instance : Body Tryz.prog 182 := {}
instance : Body Tryz.prog 183 := {}
instance : Body Tryz.prog 184 := {}
instance : Body Tryz.prog 185 := {}
instance : Body Tryz.prog 186 := {}
instance : Body Tryz.prog 187 := {}
instance : Body Tryz.prog 188 := {}
instance : Body Tryz.prog 189 := {}
instance : Body Tryz.prog 190 := {}
instance : Body Tryz.prog 191 := {}
instance : Body Tryz.prog 192 := {}
instance : Body Tryz.prog 193 := {}
instance : Body Tryz.prog 194 := {}
instance : Body Tryz.prog 195 := {}
instance : Body Tryz.prog 196 := {}
instance : Body Tryz.prog 197 := {}
instance : Body Tryz.prog 198 := {}
instance : Body Tryz.prog 199 := {}
instance : Body Tryz.prog 200 := {}
instance : Body Tryz.prog 201 := {}
instance : Body Tryz.prog 202 := {}
instance : Body Tryz.prog 203 := {}
instance : Body Tryz.prog 204 := {}
instance : Body Tryz.prog 205 := {}
instance : Body Tryz.prog 206 := {}
instance : Body Tryz.prog 208 := {}
instance : Body Tryz.prog 209 := {}
instance : Body Tryz.prog 210 := {}
instance : Body Tryz.prog 211 := {}
instance : Body Tryz.prog 212 := {}
instance : Body Tryz.prog 213 := {}
instance : Body Tryz.prog 214 := {}
instance : Body Tryz.prog 215 := {}
instance : Body Tryz.prog 216 := {}
instance : Body Tryz.prog 217 := {}
instance : Body Tryz.prog 218 := {}
instance : Body Tryz.prog 219 := {}
instance : Body Tryz.prog 220 := {}
instance : Body Tryz.prog 222 := {}
instance : Body Tryz.prog 223 := {}
instance : Body Tryz.prog 224 := {}
instance : Body Tryz.prog 225 := {}
instance : Body Tryz.prog 226 := {}
instance : Body Tryz.prog 227 := {}
instance : Body Tryz.prog 228 := {}
instance : Body Tryz.prog 229 := {}
instance : Body Tryz.prog 230 := {}
instance : Body Tryz.prog 231 := {}
instance : Body Tryz.prog 233 := {}
instance : Body Tryz.prog 234 := {}
instance : Body Tryz.prog 235 := {}
instance : Body Tryz.prog 237 := {}
instance : Body Tryz.prog 238 := {}
instance : Body Tryz.prog 239 := {}
instance : Body Tryz.prog 240 := {}
instance : Body Tryz.prog 241 := {}
instance : Body Tryz.prog 242 := {}
instance : Body Tryz.prog 243 := {}
instance : Body Tryz.prog 244 := {}
instance : Body Tryz.prog 245 := {}
instance : Body Tryz.prog 246 := {}
instance : Body Tryz.prog 247 := {}
instance : Body Tryz.prog 248 := {}
instance : Body Tryz.prog 249 := {}
instance : Body Tryz.prog 252 := {}
instance : Body Tryz.prog 253 := {}
instance : Body Tryz.prog 254 := {}
instance : Body Tryz.prog 255 := {}
instance : Body Tryz.prog 256 := {}
instance : Body Tryz.prog 257 := {}
instance : Body Tryz.prog 258 := {}
instance : Body Tryz.prog 259 := {}
instance : Body Tryz.prog 260 := {}
instance : Body Tryz.prog 261 := {}
instance : Body Tryz.prog 262 := {}
instance : Body Tryz.prog 263 := {}
instance : Body Tryz.prog 285 := {}
instance : Body Tryz.prog 286 := {}
instance : Body Tryz.prog 287 := {}
instance : Body Tryz.prog 288 := {}
instance : Body Tryz.prog 289 := {}
instance : Body Tryz.prog 290 := {}
instance : Body Tryz.prog 291 := {}
instance : Body Tryz.prog 292 := {}
instance : Body Tryz.prog 293 := {}
instance : Body Tryz.prog 294 := {}
instance : Body Tryz.prog 295 := {}
instance : Body Tryz.prog 296 := {}
instance : Body Tryz.prog 297 := {}
instance : Body Tryz.prog 298 := {}
instance : Body Tryz.prog 299 := {}
instance : Body Tryz.prog 300 := {}
instance : Body Tryz.prog 301 := {}
open Go.RowKit
theorem ok_ite (w : World) (p : Prop) [Decidable p] (b : Bool) : (if p then Result.ok b w else Result.ok false w) = Result.ok (decide p && b) w := by
 by_cases h : p <;> simp [h]
instance : EqE Tryz.prog 48 DRule DRule.enc where
 h r s w := by
  unfold DRule.enc
  simp [go_sem, toList_inj]
  rcases r with ⟨_, _, _, _, ⟨_, _, _⟩, ⟨_, _⟩, _, _⟩
  rcases s with ⟨_, _, _, _, ⟨_, _, _⟩, ⟨_, _⟩, _, _⟩
  simp only [ok_ite, Result.ok.injEq, and_true]
  rw [Bool.eq_iff_iff]
  simp [and_assoc]
 g := by kernel_rfl
instance : EqE Tryz.prog 56 DEra DEra.enc where
 h r s w := by
  unfold DEra.enc
  simp [go_sem, toList_inj]
  rcases r with ⟨_, _, _, _, _, ⟨_, _, _, ⟨_, _, _⟩, ⟨_, _⟩⟩⟩
  rcases s with ⟨_, _, _, _, _, ⟨_, _, _, ⟨_, _, _⟩, ⟨_, _⟩⟩⟩
  simp only [ok_ite, Result.ok.injEq, and_true]
  rw [Bool.eq_iff_iff]
  simp [and_assoc]
 g := by kernel_rfl
instance : EqE Tryz.prog 60 DLink DLink.enc where
 h r s w := by
  unfold DLink.enc
  simp [go_sem, toList_inj]
  rcases r with ⟨_, _⟩
  rcases s with ⟨_, _⟩
  simp only [ok_ite, Result.ok.injEq, and_true]
  rw [Bool.eq_iff_iff]
  simp [and_assoc]
 g := by kernel_rfl
instance : EqE Tryz.prog 31 DPlace DPlace.enc where
 h r s w := by
  unfold DPlace.enc
  simp [go_sem, toList_inj]
  rcases r with ⟨_, _, _⟩
  rcases s with ⟨_, _, _⟩
  simp only [ok_ite, Result.ok.injEq, and_true]
  rw [Bool.eq_iff_iff]
  simp [and_assoc]
 g := by kernel_rfl
attribute [local irreducible] W RL Does thenQ blockQ retQ Calls Pu Stp RD Qy Ay
theorem drop_cons {α : Type} {xs : List α} {k : Nat} (h : k < xs.length) : xs.drop k = xs[k] :: xs.drop (k + 1) := List.drop_eq_getElem_cons h
theorem dec_cons {α : Type} [DecidableEq α] (x y : α) (xs ys : List α) : decide (x :: xs = y :: ys) = (decide (x = y) && decide (xs = ys)) := by
 rw [Bool.eq_iff_iff]; simp
theorem dec_nil {α : Type} [DecidableEq α] {xs ys : List α} {k : Nat} (hx : xs.length ≤ k) (hy : ys.length ≤ k) : decide (xs.drop k = ys.drop k) = true := by
 rw [List.drop_eq_nil_of_le hx, List.drop_eq_nil_of_le hy]; simp
theorem dec_len {α : Type} [DecidableEq α] {xs ys : List α} (h : xs.length ≠ ys.length) : decide (xs = ys) = false := by
 simp; rintro rfl; exact h rfl
def srcV (Ar Az Al As : Option Addr) (cr cz cl cs : Nat) (s : DSource) : Value := .agg #[.slice Ar s.rules.length cr, .slice Az s.zones.length cz, .slice Al s.links.length cl, .slice As s.shifts.length cs]
def memB (x : ByteArray) : List ByteArray → Bool
 | [] => false
 | y :: l => decide (y = x) || memB x l
def findI {α : Type} (p : α → Bool) : List α → Nat → Int
 | [], _ => -1
 | x :: l, k => if p x then k else findI p l (k + 1)
theorem index_spec (A : Option Addr) (c : Nat) (l : List ByteArray) (x : ByteArray) (w : World) (hA : RdSl w A c strEnc 1 l) :
  Does Tryz.prog 81 [.slice A l.length c, .string x] w (fun v O => v = .int .i64 (findI (fun y => decide (x = y)) l 0) ∧ O = []) := by
 have hs1 := hA.le
 have hs2 := hA.cap
 unfold maxLen at hs2
 generalize hres : findI (fun y => decide (x = y)) l 0 = res
 refine Does_of_W Tryz.func81 rfl rfl rfl rfl ?_
 repeat (first | refine walk ?_)
 refine W_loopF [(0, _), (1, _), (4, _), (7, _)] _ (fun k : Nat => [(8, .int .i64 k)]) (fun _ => []) (fun k => k ≤ l.length ∧ findI (fun y => decide (x = y)) (l.drop k) k = res) (fun k => l.length - k) 0 ⟨rfl, rfl, rfl, rfl, rfl, trivial⟩ (.refl _) ⟨by omega, by simpa using hres⟩ ?_
 rintro k ⟨hk, hi⟩
 repeat (first | refine walk ?_)
 refine W_cond rfl (fun hc => ?_) (fun hc => ?_)
 ·simp only [decide_eq_true_eq, Int.ofNat_lt] at hc
  obtain ⟨hna, hca⟩ := hA.rd k _ (List.getElem?_eq_getElem hc)
  have hnb := hna
  have hcb := hca
  rw [drop_cons hc, findI] at hi
  generalize l[k] = p at *
  repeat (first | (apply RL_pu; rfl; exact PuI) | refine walk1 ?_)
  refine W_cond rfl (fun h3 => ?_) (fun h3 => ?_)
  ·repeat (first | refine walk ?_)
   rw [if_pos h3] at hi
   exact ret_1 _ [] (.tmp rfl) .nil ⟨by rw [← hi], rfl⟩
  repeat (first | refine walk ?_)
  rw [h3] at hi
  exact ⟨k + 1, by omega, ⟨by omega, hi⟩, SFA, SOA⟩
 simp only [decide_eq_false_iff_not, Int.ofNat_lt] at hc
 repeat (first | refine walk ?_)
 exact ret_1 _ [] (.tmp rfl) .nil ⟨by rw [← hi, List.drop_eq_nil_of_le (by omega)]; rfl, rfl⟩
theorem findI_mem (x : ByteArray) : ∀ (l : List ByteArray) (k : Nat), decide (0 ≤ findI (fun y => decide (x = y)) l k) = memB x l
 | [], k => by simp [findI, memB]
 | y :: l, k => by
  have ih := findI_mem x l (k + 1)
  simp only [findI, memB]
  by_cases h : x = y
  ·subst h; simp
  ·rw [← ih]
   have : ¬ y = x := fun e => h e.symm
   simp [h, this]
theorem contains_spec (A : Option Addr) (c : Nat) (l : List ByteArray) (x : ByteArray) (w : World) (hA : RdSl w A c strEnc 1 l) :
  Does Tryz.prog 46 [.slice A l.length c, .string x] w (fun v O => v = .bool (memB x l) ∧ O = []) := by
 refine Does_of_W Tryz.func46 rfl rfl rfl rfl ?_
 repeat (first | (refine js ?_; (refine callE (fun w' hw => index_spec A c l x w' (hA.up hw)) ?_)) | refine walk ?_)
 exact ret_1 _ [] (.tmp rfl) .nil ⟨by rw [findI_mem], rfl⟩
theorem indexFunc_spec (A : Option Addr) (c : Nat) (l : List DRule) (f : FuncId) [Body Tryz.prog f] (us cs : List Value) (p : DRule → Bool) (w : World) (hA : RdSl w A c DRule.enc 11 l)
  (hf : ∀ r w', Bel w.heap.size w w' → Does Tryz.prog f (us ++ [.agg (DRule.enc r).toArray] ++ cs) w' (fun v O => v = .bool (p r) ∧ O = [])) :
  Does Tryz.prog 69 [.slice A l.length c, .func (.func f) us.toArray cs.toArray] w (fun v O => v = .int .i64 (findI p l 0) ∧ O = []) := by
 have hs1 := hA.le
 have hs2 := hA.cap
 unfold maxLen at hs2
 generalize hres : findI p l 0 = res
 refine Does_of_W Tryz.func69 rfl rfl rfl rfl ?_
 repeat (first | refine walk ?_)
 refine W_loopF [(0, _), (1, _), (4, _), (7, _)] _ (fun k : Nat => [(8, .int .i64 k)]) (fun _ => []) (fun k => k ≤ l.length ∧ findI p (l.drop k) k = res) (fun k => l.length - k) 0 ⟨rfl, rfl, rfl, rfl, rfl, trivial⟩ (.refl _) ⟨by omega, by simpa using hres⟩ ?_
 rintro k ⟨hk, hi⟩
 repeat (first | refine walk ?_)
 refine W_cond rfl (fun hc => ?_) (fun hc => ?_)
 ·simp only [decide_eq_true_eq, Int.ofNat_lt] at hc
  obtain ⟨hna, hca⟩ := hA.rd k _ (List.getElem?_eq_getElem hc)
  have hnb := hna
  have hcb := hca
  rw [drop_cons hc, findI] at hi
  generalize l[k] = r at *
  repeat (first | (apply RL_pu; rfl; exact PuI) | (refine js ?_; (refine callV (fun w' hw _ => hf r w' hw) ?_)) | refine walk1 ?_)
  refine W_cond rfl (fun h3 => ?_) (fun h3 => ?_)
  ·repeat (first | refine walk ?_)
   rw [if_pos h3] at hi
   exact ret_1 _ [] (.tmp rfl) .nil ⟨by rw [← hi], rfl⟩
  repeat (first | refine walk ?_)
  rw [h3] at hi
  exact ⟨k + 1, by omega, ⟨by omega, hi⟩, SFA, SOA⟩
 simp only [decide_eq_false_iff_not, Int.ofNat_lt] at hc
 repeat (first | refine walk ?_)
 exact ret_1 _ [] (.tmp rfl) .nil ⟨by rw [← hi, List.drop_eq_nil_of_le (by omega)]; rfl, rfl⟩
end Go.Proofs.YtceekohkjgiabaaGreatDoor
