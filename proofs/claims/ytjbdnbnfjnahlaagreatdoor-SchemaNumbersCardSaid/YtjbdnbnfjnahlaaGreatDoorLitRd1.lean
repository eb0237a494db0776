import Derived.Test.YtjbdnbnfjnahlaaGreatDoorTabRd
import Derived.Test.YtjbdnbnfjnahlaaGreatDoorS8
set_option linter.all false
set_option maxRecDepth 100000
set_option linter.unusedVariables false
open Go Go.Aes Go.Proofs
namespace T
noncomputable def z5 : List AV := [.int .u8 0]
noncomputable def z9 : List AV := [.str []]
noncomputable def z24 : List AV := [.str [], .str [], .sl [] .nil]
noncomputable def z27 : List AV := [.str [], .str []]
noncomputable def z40 : List AV := [.sl [] .nil]
noncomputable def z43 : List AV := [.str [], .str [], .str [], .str [], .str [], .str [], .str [], .str [], .str [], .str [], .str [], .str []]
noncomputable def z44 : List AV := [.str [], .str [], .str [], .str [], .str [], .str [], .str [], .str []]
noncomputable def z52 : List AV := [.str [], .sl [] .nil, .str [], .str [], .int .i64 0]
noncomputable def z64 : List AV := [.sl [] .nil, .int .i64 0, .int .i64 0, .int .i64 0, .bool false]
noncomputable def z71 : List AV := [.int .i64 0, .str [], .sl [] .nil, .sl [] .nil, .sl [] .nil]
noncomputable def z74 : List AV := [.int .i64 0, .str [], .int .i64 0]
noncomputable def z102 : List AV := [.bool false, .bool false, .bool false, .bool false, .bool false, .bool false, .bool false, .bool false, .bool false, .bool false, .bool false, .bool false, .bool false, .bool false, .bool false, .bool false, .bool false, .bool false, .bool false, .bool false, .bool false, .bool false, .bool false, .bool false, .bool false, .bool false, .bool false, .bool false, .bool false, .bool false, .bool false, .bool false, .bool false, .bool false, .bool false, .bool false, .bool false, .bool false, .bool false, .bool false, .bool false, .bool false, .bool false, .bool false, .bool false, .bool false, .bool false, .bool false, .bool false, .bool false, .bool false, .bool false, .bool false, .bool false, .bool false, .bool false, .bool false, .bool false, .bool false, .bool false, .bool false, .bool false, .bool false, .bool false, .bool false, .bool false, .bool false, .bool false, .bool false, .bool false, .bool false, .bool false, .bool false, .bool false, .bool false, .bool false, .bool false, .bool false, .bool false, .bool false, .bool false, .bool false, .bool false, .bool false, .bool false, .bool false, .bool false, .bool false, .bool false, .bool false, .bool false, .bool false, .bool false, .bool false, .bool false, .bool false, .bool false, .bool false, .bool false, .bool false, .bool false, .bool false, .bool false, .bool false, .bool false, .bool false, .bool false, .bool false, .bool false, .bool false, .bool false, .bool false, .bool false, .bool false, .bool false, .bool false, .bool false, .bool false, .bool false, .bool false, .bool false, .bool false, .bool false, .bool false, .bool false, .bool false, .bool false, .bool false, .bool false, .bool false, .bool false, .bool false, .bool false, .bool false, .bool false, .bool false, .bool false, .bool false, .bool false, .bool false, .bool false, .bool false, .bool false, .bool false, .bool false, .bool false, .bool false, .bool false, .bool false, .bool false, .bool false, .bool false, .bool false, .bool false, .bool false, .bool false, .bool false, .bool false, .bool false, .bool false, .bool false, .bool false, .bool false, .bool false, .bool false, .bool false, .bool false, .bool false, .bool false, .bool false, .bool false, .bool false, .bool false, .bool false, .bool false, .bool false, .bool false, .bool false, .bool false, .bool false, .bool false, .bool false, .bool false, .bool false, .bool false, .bool false, .bool false, .bool false, .bool false, .bool false, .bool false, .bool false, .bool false, .bool false, .bool false, .bool false, .bool false, .bool false, .bool false, .bool false, .bool false, .bool false, .bool false, .bool false, .bool false, .bool false, .bool false, .bool false, .bool false, .bool false, .bool false, .bool false, .bool false, .bool false, .bool false, .bool false, .bool false, .bool false, .bool false, .bool false, .bool false, .bool false, .bool false, .bool false, .bool false, .bool false, .bool false, .bool false, .bool false, .bool false, .bool false, .bool false, .bool false, .bool false, .bool false, .bool false, .bool false, .bool false, .bool false, .bool false, .bool false, .bool false, .bool false, .bool false, .bool false, .bool false, .bool false, .bool false, .bool false, .bool false, .bool false, .bool false, .bool false, .bool false, .bool false, .bool false, .bool false, .bool false, .bool false, .bool false, .bool false, .bool false, .bool false, .bool false, .bool false, .bool false, .bool false, .bool false, .bool false, .bool false, .bool false, .bool false, .bool false, .bool false, .bool false, .bool false, .bool false, .bool false, .bool false, .bool false, .bool false, .bool false, .bool false, .bool false, .bool false, .bool false, .bool false, .bool false, .bool false, .bool false, .bool false, .bool false, .bool false, .bool false, .bool false, .bool false, .bool false, .bool false, .bool false, .bool false, .bool false, .bool false, .bool false, .bool false, .bool false, .bool false, .bool false, .bool false, .bool false, .bool false, .bool false, .bool false, .bool false, .bool false, .bool false, .bool false, .bool false, .bool false, .bool false, .bool false, .bool false, .bool false, .bool false, .bool false, .bool false, .bool false, .bool false, .bool false, .bool false, .bool false, .bool false, .bool false, .bool false, .bool false, .bool false, .bool false, .bool false, .bool false, .bool false, .bool false, .bool false, .bool false, .bool false, .bool false, .bool false, .bool false, .bool false, .bool false, .bool false, .bool false, .bool false, .bool false, .bool false, .bool false, .bool false, .bool false, .bool false, .bool false, .bool false, .bool false, .bool false, .bool false, .bool false, .bool false, .bool false, .bool false, .bool false, .bool false, .bool false, .bool false, .bool false, .bool false, .bool false, .bool false, .bool false, .bool false, .bool false, .bool false, .bool false, .bool false, .bool false, .bool false, .bool false, .bool false, .bool false, .bool false, .bool false, .bool false, .bool false, .bool false, .bool false, .bool false, .bool false, .bool false, .bool false, .bool false, .bool false, .bool false, .bool false, .bool false, .bool false, .bool false, .bool false, .bool false, .bool false, .bool false, .bool false, .bool false, .bool false, .bool false, .bool false, .bool false, .bool false, .bool false, .bool false, .bool false, .bool false, .bool false, .bool false, .bool false, .bool false, .bool false, .bool false, .bool false, .bool false, .bool false, .bool false, .bool false, .bool false, .bool false, .bool false, .bool false, .bool false, .bool false, .bool false, .bool false, .bool false, .bool false, .bool false, .bool false, .bool false, .bool false, .bool false, .bool false, .bool false, .bool false, .bool false, .bool false, .bool false, .bool false, .bool false, .bool false, .bool false, .bool false, .bool false, .bool false, .bool false, .bool false, .bool false, .bool false, .bool false, .bool false, .bool false, .bool false, .bool false, .bool false, .bool false, .bool false, .bool false, .bool false, .bool false, .bool false, .bool false, .bool false, .bool false, .bool false, .bool false, .bool false, .bool false, .bool false, .bool false, .bool false, .bool false, .bool false, .bool false, .bool false, .bool false, .bool false, .bool false, .bool false, .bool false, .bool false, .bool false, .bool false, .bool false, .bool false, .bool false, .bool false, .bool false, .bool false, .bool false, .bool false, .bool false, .bool false, .bool false, .bool false, .bool false, .bool false, .bool false, .bool false, .bool false, .bool false, .bool false, .bool false, .bool false, .bool false, .bool false, .bool false, .bool false, .bool false, .bool false, .bool false, .bool false, .bool false, .bool false, .bool false, .bool false, .bool false, .bool false, .bool false, .bool false, .bool false, .bool false, .bool false, .bool false, .bool false, .bool false, .bool false, .bool false, .bool false, .bool false, .bool false, .bool false, .bool false, .bool false, .bool false, .bool false, .bool false, .bool false, .bool false, .bool false, .bool false, .bool false, .bool false, .bool false, .bool false, .bool false, .bool false, .bool false, .bool false, .bool false, .bool false, .bool false, .bool false, .bool false, .bool false, .bool false, .bool false, .bool false, .bool false, .bool false, .bool false, .bool false, .bool false, .bool false, .bool false, .bool false, .bool false, .bool false, .bool false, .bool false, .bool false, .bool false, .bool false, .bool false, .bool false, .bool false, .bool false, .bool false, .bool false, .bool false, .bool false, .bool false, .bool false, .bool false, .bool false, .bool false, .bool false, .bool false, .bool false, .bool false, .bool false, .bool false, .bool false, .bool false, .bool false, .bool false, .bool false, .bool false, .bool false, .bool false, .bool false, .bool false, .bool false, .bool false, .bool false, .bool false, .bool false, .bool false, .bool false, .bool false, .bool false, .bool false, .bool false, .bool false, .bool false, .bool false, .bool false, .bool false, .bool false, .bool false, .bool false, .bool false, .bool false, .bool false, .bool false, .bool false, .bool false, .bool false, .bool false, .bool false, .bool false, .bool false, .bool false, .bool false, .bool false, .bool false, .bool false, .bool false, .bool false, .bool false, .bool false, .bool false, .bool false, .bool false, .bool false, .bool false, .bool false, .bool false, .bool false, .bool false, .bool false, .bool false, .bool false, .bool false, .bool false, .bool false, .bool false, .bool false, .bool false, .bool false, .bool false, .bool false, .bool false, .bool false, .bool false, .bool false, .bool false, .bool false, .bool false, .bool false, .bool false, .bool false, .bool false, .bool false, .bool false, .bool false, .bool false, .bool false, .bool false, .bool false, .bool false, .bool false, .bool false, .bool false, .bool false, .bool false, .bool false, .bool false, .bool false, .bool false, .bool false, .bool false, .bool false, .bool false, .bool false, .bool false, .bool false, .bool false, .bool false, .bool false, .bool false, .bool false, .bool false, .bool false, .bool false, .bool false, .bool false, .bool false, .bool false, .bool false, .bool false, .bool false, .bool false, .bool false, .bool false, .bool false, .bool false, .bool false, .bool false, .bool false, .bool false, .bool false, .bool false, .bool false, .bool false, .bool false, .bool false, .bool false, .bool false, .bool false, .bool false, .bool false, .bool false, .bool false, .bool false, .bool false, .bool false, .bool false, .bool false, .bool false, .bool false, .bool false, .bool false, .bool false, .bool false, .bool false, .bool false, .bool false, .bool false, .bool false, .bool false, .bool false, .bool false, .bool false, .bool false, .bool false, .bool false, .bool false, .bool false, .bool false, .bool false, .bool false, .bool false, .bool false, .bool false, .bool false, .bool false, .bool false, .bool false, .bool false, .bool false, .bool false, .bool false, .bool false, .bool false, .bool false, .bool false, .bool false, .bool false, .bool false, .bool false, .bool false, .bool false, .bool false, .bool false, .bool false, .bool false, .bool false, .bool false, .bool false, .bool false, .bool false, .bool false, .bool false, .bool false, .bool false, .bool false, .bool false, .bool false, .bool false, .bool false, .bool false, .bool false, .bool false, .bool false, .bool false, .bool false, .bool false, .bool false, .bool false, .bool false, .bool false, .bool false, .bool false, .bool false, .bool false, .bool false, .bool false, .bool false, .bool false, .bool false, .bool false, .bool false, .bool false, .bool false, .bool false, .bool false, .bool false, .bool false, .bool false, .bool false, .bool false, .bool false, .bool false, .bool false, .bool false, .bool false, .bool false, .bool false, .bool false, .bool false, .bool false, .bool false, .bool false, .bool false, .bool false, .bool false, .bool false, .bool false, .bool false, .bool false, .bool false, .bool false, .bool false, .bool false, .bool false, .bool false, .bool false, .bool false, .bool false, .bool false, .bool false, .bool false, .bool false, .bool false, .bool false, .bool false, .bool false, .bool false, .bool false, .bool false, .bool false, .bool false, .bool false, .bool false, .bool false, .bool false, .bool false, .bool false, .bool false, .bool false, .bool false, .bool false, .bool false, .bool false, .bool false, .bool false, .bool false, .bool false, .bool false, .bool false, .bool false, .bool false, .bool false, .bool false, .bool false, .bool false, .bool false, .bool false, .bool false, .bool false, .bool false, .bool false, .bool false, .bool false, .bool false, .bool false, .bool false, .bool false, .bool false, .bool false, .bool false, .bool false, .bool false, .bool false, .bool false, .bool false, .bool false, .bool false, .bool false, .bool false, .bool false, .bool false, .bool false, .bool false, .bool false, .bool false, .bool false, .bool false, .bool false, .bool false, .bool false, .bool false, .bool false, .bool false, .bool false, .bool false, .bool false, .bool false, .bool false, .bool false, .bool false, .bool false, .bool false, .bool false, .bool false, .bool false, .bool false, .bool false, .bool false, .bool false, .bool false, .bool false, .bool false, .bool false, .bool false, .bool false, .bool false, .bool false, .bool false, .bool false, .bool false, .bool false, .bool false, .bool false, .bool false, .bool false, .bool false, .bool false, .bool false, .bool false, .bool false, .bool false, .bool false, .bool false, .bool false, .bool false, .bool false, .bool false, .bool false, .bool false, .bool false, .bool false, .bool false, .bool false, .bool false, .bool false, .bool false, .bool false, .bool false, .bool false, .bool false, .bool false, .bool false, .bool false, .bool false, .bool false, .bool false, .bool false, .bool false, .bool false, .bool false, .bool false, .bool false, .bool false, .bool false, .bool false, .bool false, .bool false, .bool false, .bool false, .bool false, .bool false, .bool false, .bool false, .bool false, .bool false, .bool false, .bool false, .bool false, .bool false, .bool false, .bool false, .bool false, .bool false, .bool false, .bool false, .bool false, .bool false, .bool false, .bool false, .bool false, .bool false, .bool false, .bool false, .bool false, .bool false, .bool false, .bool false, .bool false, .bool false, .bool false, .bool false, .bool false, .bool false, .bool false, .bool false, .bool false, .bool false, .bool false, .bool false, .bool false, .bool false, .bool false, .bool false, .bool false, .bool false, .bool false, .bool false, .bool false, .bool false, .bool false, .bool false, .bool false, .bool false, .bool false, .bool false, .bool false, .bool false, .bool false, .bool false, .bool false, .bool false, .bool false, .bool false, .bool false, .bool false, .bool false, .bool false, .bool false, .bool false, .bool false, .bool false, .bool false, .bool false, .bool false, .bool false, .bool false, .bool false, .bool false, .bool false, .bool false, .bool false, .bool false, .bool false, .bool false, .bool false, .bool false, .bool false, .bool false, .bool false, .bool false, .bool false, .bool false, .bool false, .bool false, .bool false, .bool false, .bool false, .bool false, .bool false, .bool false, .bool false, .bool false, .bool false, .bool false, .bool false, .bool false, .bool false, .bool false, .bool false, .bool false, .bool false, .bool false, .bool false, .bool false, .bool false, .bool false, .bool false, .bool false, .bool false, .bool false, .bool false, .bool false, .bool false, .bool false, .bool false, .bool false, .bool false, .bool false, .bool false, .bool false, .bool false, .bool false, .bool false, .bool false, .bool false, .bool false, .bool false, .bool false, .bool false, .bool false, .bool false, .bool false, .bool false, .bool false, .bool false, .bool false, .bool false, .bool false, .bool false, .bool false, .bool false, .bool false, .bool false, .bool false, .bool false, .bool false, .bool false, .bool false, .bool false, .bool false, .bool false, .bool false, .bool false, .bool false, .bool false, .bool false, .bool false, .bool false, .bool false, .bool false, .bool false, .bool false, .bool false, .bool false, .bool false, .bool false, .bool false, .bool false, .bool false, .bool false, .bool false, .bool false, .bool false, .bool false, .bool false, .bool false, .bool false, .bool false, .bool false, .bool false, .bool false, .bool false, .bool false, .bool false, .bool false, .bool false, .bool false, .bool false, .bool false, .bool false, .bool false, .bool false, .bool false, .bool false, .bool false, .bool false, .bool false, .bool false, .bool false, .bool false, .bool false, .bool false, .bool false, .bool false, .bool false, .bool false, .bool false, .bool false, .bool false, .bool false, .bool false, .bool false, .bool false, .bool false, .bool false, .bool false, .bool false, .bool false, .bool false, .bool false, .bool false, .bool false, .bool false, .bool false, .bool false, .bool false, .bool false, .bool false, .bool false, .bool false, .bool false, .bool false, .bool false, .bool false, .bool false, .bool false, .bool false, .bool false, .bool false, .bool false, .bool false, .bool false, .bool false, .bool false, .bool false, .bool false, .bool false, .bool false, .bool false, .bool false, .bool false, .bool false, .bool false, .bool false, .bool false, .bool false, .bool false, .bool false, .bool false, .bool false, .bool false, .bool false, .bool false, .bool false, .bool false, .bool false, .bool false, .bool false, .bool false, .bool false, .bool false, .bool false, .bool false, .bool false, .bool false, .bool false, .bool false, .bool false, .bool false, .bool false, .bool false, .bool false, .bool false, .bool false, .bool false, .bool false, .bool false, .bool false, .bool false, .bool false, .bool false, .bool false, .bool false, .bool false, .bool false, .bool false, .bool false, .bool false, .bool false, .bool false, .bool false, .bool false, .bool false, .bool false, .bool false, .bool false, .bool false, .bool false, .bool false, .bool false, .bool false, .bool false, .bool false, .bool false, .bool false, .bool false, .bool false, .bool false, .bool false, .bool false, .bool false, .bool false, .bool false, .bool false, .bool false, .bool false, .bool false, .bool false, .bool false, .bool false, .bool false, .bool false, .bool false, .bool false, .bool false, .bool false, .bool false, .bool false, .bool false, .bool false, .bool false, .bool false, .bool false, .bool false, .bool false, .bool false, .bool false, .bool false, .bool false, .bool false, .bool false, .bool false, .bool false, .bool false, .bool false, .bool false, .bool false, .bool false, .bool false, .bool false, .bool false, .bool false, .bool false, .bool false, .bool false, .bool false, .bool false, .bool false, .bool false, .bool false, .bool false, .bool false, .bool false, .bool false, .bool false, .bool false, .bool false, .bool false, .bool false, .bool false, .bool false, .bool false, .bool false, .bool false, .bool false, .bool false, .bool false, .bool false, .bool false, .bool false, .bool false, .bool false, .bool false, .bool false, .bool false, .bool false, .bool false, .bool false, .bool false, .bool false, .bool false, .bool false, .bool false, .bool false, .bool false, .bool false, .bool false, .bool false, .bool false, .bool false, .bool false, .bool false, .bool false, .bool false, .bool false, .bool false, .bool false, .bool false, .bool false, .bool false, .bool false, .bool false, .bool false, .bool false, .bool false, .bool false, .bool false, .bool false, .bool false, .bool false, .bool false, .bool false, .bool false, .bool false, .bool false, .bool false, .bool false, .bool false, .bool false, .bool false, .bool false, .bool false, .bool false, .bool false, .bool false, .bool false, .bool false, .bool false, .bool false, .bool false, .bool false, .bool false, .bool false, .bool false, .bool false, .bool false, .bool false, .bool false, .bool false, .bool false, .bool false, .bool false, .bool false, .bool false, .bool false, .bool false, .bool false, .bool false, .bool false, .bool false, .bool false, .bool false, .bool false, .bool false, .bool false, .bool false, .bool false, .bool false, .bool false, .bool false, .bool false, .bool false, .bool false, .bool false, .bool false, .bool false, .bool false, .bool false, .bool false, .bool false, .bool false, .bool false, .bool false, .bool false, .bool false, .bool false, .bool false, .bool false, .bool false, .bool false, .bool false, .bool false, .bool false, .bool false, .bool false, .bool false, .bool false, .bool false, .bool false, .bool false, .bool false, .bool false, .bool false, .bool false, .bool false, .bool false, .bool false, .bool false, .bool false, .bool false, .bool false, .bool false, .bool false, .bool false, .bool false, .bool false, .bool false, .bool false, .bool false, .bool false, .bool false, .bool false, .bool false, .bool false, .bool false, .bool false, .bool false, .bool false, .bool false, .bool false, .bool false, .bool false, .bool false, .bool false, .bool false, .bool false, .bool false, .bool false, .bool false, .bool false, .bool false, .bool false, .bool false, .bool false, .bool false, .bool false, .bool false, .bool false, .bool false, .bool false, .bool false, .bool false, .bool false, .bool false, .bool false, .bool false, .bool false]
noncomputable def z111 : List AV := [.bool false, .bool false, .bool false, .bool false, .bool false, .bool false, .bool false, .bool false, .bool false, .bool false, .bool false, .bool false, .bool false, .bool false, .bool false, .bool false, .bool false, .bool false, .bool false, .bool false, .bool false, .bool false, .bool false, .bool false, .bool false, .bool false, .bool false, .bool false, .bool false, .bool false, .bool false, .bool false, .bool false, .bool false, .bool false, .bool false, .bool false, .bool false, .bool false, .bool false, .bool false, .bool false, .bool false, .bool false, .bool false, .bool false, .bool false, .bool false, .bool false, .bool false, .bool false, .bool false, .bool false, .bool false, .bool false, .bool false, .bool false, .bool false, .bool false, .bool false, .bool false, .bool false, .bool false, .bool false, .bool false, .bool false, .bool false, .bool false, .bool false, .bool false, .bool false, .bool false, .bool false, .bool false, .bool false, .bool false, .bool false, .bool false, .bool false, .bool false, .bool false, .bool false, .bool false, .bool false, .bool false, .bool false, .bool false, .bool false, .bool false, .bool false, .bool false, .bool false, .bool false, .bool false, .bool false, .bool false, .bool false, .bool false, .bool false, .bool false, .bool false, .bool false, .bool false, .bool false, .bool false, .bool false, .bool false, .bool false, .bool false, .bool false, .bool false, .bool false, .bool false, .bool false, .bool false, .bool false, .bool false, .bool false, .bool false, .bool false, .bool false, .bool false, .bool false, .bool false, .bool false, .bool false, .bool false, .bool false, .bool false, .bool false, .bool false, .bool false, .bool false, .bool false, .bool false, .bool false, .bool false, .bool false, .bool false, .bool false, .bool false, .bool false, .bool false, .bool false, .bool false, .bool false, .bool false, .bool false, .bool false, .bool false, .bool false, .bool false, .bool false, .bool false, .bool false, .bool false, .bool false, .bool false, .bool false, .bool false, .bool false, .bool false, .bool false, .bool false, .bool false, .bool false, .bool false, .bool false, .bool false, .bool false, .bool false, .bool false, .bool false, .bool false, .bool false, .bool false, .bool false, .bool false, .bool false, .bool false, .bool false, .bool false, .bool false, .bool false, .bool false, .bool false, .bool false, .bool false, .bool false, .bool false, .bool false, .bool false, .bool false, .bool false, .bool false, .bool false, .bool false, .bool false, .bool false, .bool false, .bool false, .bool false, .bool false, .bool false, .bool false, .bool false, .bool false, .bool false, .bool false, .bool false, .bool false, .bool false, .bool false, .bool false, .bool false, .bool false, .bool false, .bool false, .bool false, .bool false, .bool false, .bool false, .bool false, .bool false, .bool false, .bool false, .bool false, .bool false, .bool false, .bool false, .bool false, .bool false, .bool false, .bool false, .bool false, .bool false, .bool false, .bool false, .bool false, .bool false, .bool false, .bool false, .bool false, .bool false, .bool false, .bool false, .bool false, .bool false, .bool false, .bool false, .bool false, .bool false, .bool false, .bool false, .bool false, .bool false]
noncomputable def z127 : List AV := [.int .i64 0, .str [], .sl [] .nil, .sl [] .nil]
noncomputable def z129 : List AV := [.str [], .str [], .str [], .int .i64 0, .str [], .sl [] .nil, .sl [] .nil]
noncomputable def z156 : List AV := [.int .i64 0, .int .i64 0, .int .i64 0, .int .i64 0, .int .i64 0]
noncomputable def z163 : List AV := [.int .u8 0, .int .u8 0]
noncomputable def z164 : List AV := [.int .u8 0, .int .u8 0, .int .u8 0, .int .u8 0, .int .u8 0, .int .u8 0, .int .u8 0, .int .u8 0, .int .u8 0, .int .u8 0, .int .u8 0, .int .u8 0, .int .u8 0, .int .u8 0, .int .u8 0, .int .u8 0, .int .u8 0, .int .u8 0, .int .u8 0, .int .u8 0, .int .u8 0, .int .u8 0, .int .u8 0, .int .u8 0, .int .u8 0, .int .u8 0, .int .u8 0, .int .u8 0, .int .u8 0, .int .u8 0, .int .u8 0, .int .u8 0]
section
variable {R : Type} [Mon R]
/- refectory/refectorylaw09.SchemaOrder -/
noncomputable def r3_12 (C : CallF) (k : KT R) : KT R := fun fr H => opn 15 fr (fun s0 s1 s2 s3 s8 s9 s10 s11 s12 s13 s14 s15 s40 s48 s64 => 
(qLdA 3 s9 H fun v87 =>
qFa 0 s10 fun v88 =>
qLd v88 H fun v89 =>
qFa 0 s11 fun v90 =>
qLd v90 H fun v91 =>
qLdA 3 s9 H fun v93 =>
qFa 0 s11 fun v94 =>
qLd v94 H fun v95 =>
qFa 0 s10 fun v96 =>
qLd v96 H fun v97 =>
qRes (C 11 [v87, v89, v91] H) fun v92 H =>
qLd v96 H fun w => qSame v97 w (qLd v94 H fun w => qSame v95 w (qLdA 3 s9 H fun w => qSame v93 w (qRes (C 11 [v93, v95, v97] H) fun v98 H =>
qEql X 4 v92 v98 fun v99 =>
qG v99 true (fun k => qRes (C 10 [] H) k) H fun v101 H =>
qPick v99 v101 (.bool false) fun v102 =>
k [s0, s1, s2, s3, v102, s9, s10, s11, s12, s13, s14, s15, s40, s48, s64] H))) : R))
noncomputable def r3_11 (C : CallF) (k : KT R) : KT R := fun fr H => opn 15 fr (fun s0 s1 s2 s3 s8 s9 s10 s11 s12 s13 s14 s15 s40 s48 s64 => 
(qLdA 3 s9 H fun v73 =>
qLdA 2 s10 H fun v74 =>
qLdA 2 s15 H fun v75 =>
qRes (C 8 [v73, v74, v75] H) fun v76 H =>
qG v76 true (fun k => qLdA 3 s9 H fun v => k v H) H fun v78 H =>
qG v76 true (fun k => qLdA 2 s15 H fun v => k v H) H fun v79 H =>
qG v76 true (fun k => qLdA 2 s10 H fun v => k v H) H fun v80 H =>
qG v76 true (fun k => qRes (C 8 [v78, v79, v80] H) k) H fun v81 H =>
qG v76 true (fun k => qNot v81 fun v => k v H) H fun v82 H =>
qPick v76 v82 (.bool false) fun v83 =>
qG v83 true (fun k => qRes (C 10 [] H) k) H fun v85 H =>
qPick v83 v85 (.bool false) fun v86 =>
k [s0, s1, s2, s3, v86, s9, s10, s11, s12, s13, s14, s15, s40, s48, s64] H : R))
noncomputable def r3_10 (k : KT R) : KT R := fun fr H => opn 15 fr (fun s0 s1 s2 s3 s8 s9 s10 s11 s12 s13 s14 s15 s40 s48 s64 => 
(qFa 0 s10 fun v65 =>
qLd v65 H fun v66 =>
qFa 1 s10 fun v67 =>
qLd v67 H fun v68 =>
qSub X 3 s14 (.int .i64 1) fun v70 =>
qSlc Tryz.t9.desc 0 v68 none (some v70) none fun v71 =>
qBld z27 [(0, 1, v66), (1, 1, v71)] fun v72 =>
qNew (.cells z27) .ptr H fun v15 H =>
qSt 2 v15 v72 H fun _ H =>
k [s0, s1, s2, s3, s8, s9, s10, s11, s12, s13, s14, v15, s40, s48, s64] H : R))
noncomputable def r3_9 (k : KT R) : KT R := fun fr H => opn 15 fr (fun s0 s1 s2 s3 s8 s9 s10 s11 s12 s13 s14 s15 s40 s48 s64 => 
(qG s13 true (fun k => k s14 H) H fun v54 H =>
qG s13 true (fun k => qGtr X 3 v54 (.int .i64 0) fun v => k v H) H fun v55 H =>
qPick s13 v55 (.bool false) fun v56 =>
qG v56 true (fun k => qFa 1 s10 fun v => k v H) H fun v58 H =>
qG v56 true (fun k => qLd v58 H fun v => k v H) H fun v59 H =>
qG v56 true (fun k => k s14 H) H fun v60 H =>
qG v56 true (fun k => qSub X 3 v60 (.int .i64 1) fun v => k v H) H fun v61 H =>
qG v56 true (fun k => qIx v59 v61 fun v => k v H) H fun v62 H =>
qG v56 true (fun k => qEql X 5 v62 (.int .u8 33) fun v => k v H) H fun v63 H =>
qPick v56 v63 (.bool false) fun v64 =>
k [s0, s1, s2, s3, s8, s9, s10, s11, s12, s13, s14, s15, s40, s48, v64] H : R))
noncomputable def r3_8 (k : KT R) : KT R := fun fr H => opn 15 fr (fun s0 s1 s2 s3 s8 s9 s10 s11 s12 s13 s14 s15 s40 s48 s64 => 
(qFa 1 s10 fun v49 =>
qLd v49 H fun v50 =>
qLenS v50 fun v51 =>
k [s0, s1, s2, s3, s8, s9, s10, s11, s12, s13, v51, s15, s40, s48, s64] H : R))
noncomputable def r3_7 (k : KT R) : KT R := fun fr H => opn 15 fr (fun s0 s1 s2 s3 s8 s9 s10 s11 s12 s13 s14 s15 s40 s48 s64 => 
(k [s0, s1, s2, s3, (.bool false), s9, s10, s11, s12, s13, s14, s15, s40, s48, s64] H : R))
noncomputable def r3_6 (C : CallF) (k : KT R) : KT R := fun fr H => opn 15 fr (fun s0 s1 s2 s3 s8 s9 s10 s11 s12 s13 s14 s15 s40 s48 s64 => 
(qLdA 3 s9 H fun v43 =>
qLdA 2 s10 H fun v44 =>
qLdA 2 s10 H fun v45 =>
qRes (C 8 [v43, v44, v45] H) fun v46 H =>
qNeq X 4 v46 s13 fun v48 =>
k [s0, s1, s2, s3, s8, s9, s10, s11, s12, s13, s14, s15, s40, v48, s64] H : R))
noncomputable def r3_5 (C : CallF) (k : KT R) : KT R := fun fr H => opn 15 fr (fun s0 s1 s2 s3 s8 s9 s10 s11 s12 s13 s14 s15 s40 s48 s64 => 
(qLdA 2 s10 H fun v41 =>
qRes (C 9 [v41] H) fun v42 H =>
k [s0, s1, s2, s3, s8, s9, s10, s11, s12, v42, s14, s15, s40, s48, s64] H : R))
noncomputable def r3_4 (k : KT R) : KT R := fun fr H => opn 15 fr (fun s0 s1 s2 s3 s8 s9 s10 s11 s12 s13 s14 s15 s40 s48 s64 => 
(k [s0, s1, s2, s3, (.bool false), s9, s10, s11, s12, s13, s14, s15, s40, s48, s64] H : R))
noncomputable def r3_3 (C : CallF) (k : KT R) : KT R := fun fr H => opn 15 fr (fun s0 s1 s2 s3 s8 s9 s10 s11 s12 s13 s14 s15 s40 s48 s64 => 
(qLdA 3 s9 H fun v24 =>
qLdA 2 s10 H fun v25 =>
qLdA 2 s11 H fun v26 =>
qRes (C 8 [v24, v25, v26] H) fun v27 H =>
qG v27 true (fun k => qLdA 3 s9 H fun v => k v H) H fun v29 H =>
qG v27 true (fun k => qLdA 2 s11 H fun v => k v H) H fun v30 H =>
qG v27 true (fun k => qLdA 2 s12 H fun v => k v H) H fun v31 H =>
qG v27 true (fun k => qRes (C 8 [v29, v30, v31] H) k) H fun v32 H =>
qPick v27 v32 (.bool false) fun v33 =>
qG v33 true (fun k => qLdA 3 s9 H fun v => k v H) H fun v35 H =>
qG v33 true (fun k => qLdA 2 s10 H fun v => k v H) H fun v36 H =>
qG v33 true (fun k => qLdA 2 s12 H fun v => k v H) H fun v37 H =>
qG v33 true (fun k => qRes (C 8 [v35, v36, v37] H) k) H fun v38 H =>
qG v33 true (fun k => qNot v38 fun v => k v H) H fun v39 H =>
qPick v33 v39 (.bool false) fun v40 =>
k [s0, s1, s2, s3, s8, s9, s10, s11, s12, s13, s14, s15, v40, s48, s64] H : R))
noncomputable def r3_2 (C : CallF) (k : KT R) : KT R := fun fr H => opn 15 fr (fun s0 s1 s2 s3 s8 s9 s10 s11 s12 s13 s14 s15 s40 s48 s64 => 
(qRes (C 7 [s1] H) fun v19 H =>
qRes (C 7 [s2] H) fun v21 H =>
qRes (C 7 [s3] H) fun v23 H =>
qNew (.cells z27) .ptr H fun v10 H =>
qNew (.cells z27) .ptr H fun v11 H =>
qNew (.cells z27) .ptr H fun v12 H =>
qSt 2 v10 v19 H fun _ H =>
qSt 2 v11 v21 H fun _ H =>
qSt 2 v12 v23 H fun _ H =>
k [s0, s1, s2, s3, s8, s9, v10, v11, v12, s13, s14, s15, s40, s48, s64] H : R))
noncomputable def r3_1 (C : CallF) (k : KT R) : KT R := fun fr H => opn 15 fr (fun s0 s1 s2 s3 s8 s9 s10 s11 s12 s13 s14 s15 s40 s48 s64 => 
(qRes (C 6 [s0] H) fun v17 H =>
qNew (.cells z24) .ptr H fun v9 H =>
qSt 3 v9 v17 H fun _ H =>
k [s0, s1, s2, s3, s8, v9, s10, s11, s12, s13, s14, s15, s40, s48, s64] H : R))
noncomputable def r3_0 (k : KT R) : KT R := fun fr H => opn 15 fr (fun s0 s1 s2 s3 s8 s9 s10 s11 s12 s13 s14 s15 s40 s48 s64 => 
(k [s0, s1, s2, s3, (.bool false), s9, s10, s11, s12, s13, s14, s15, s40, s48, s64] H : R))
noncomputable def c3 (C : CallF) (l0 : List AV) (H : AH) (k : AV → AH → R) : R := opn 4 l0 (fun x0 x1 x2 x3 => (qFn (fun kr => (r3_0 (r3_1 C (r3_2 C (r3_3 C (qCd (sel 12) (fun _ => (r3_4 kr)) (fun k3 => k3) (r3_5 C (r3_6 C (qCd (sel 13) (fun _ => (r3_7 kr)) (fun k2 => k2) (r3_8 (r3_9 (qCd (sel 14) (fun _ => (r3_10 (r3_11 C kr))) (fun k1 => k1) (r3_12 C kr)))))))))))))
(fun fr H => k (sel 4 fr) H) [x0, x1, x2, x3, Aes.undef, Aes.undef, Aes.undef, Aes.undef, Aes.undef, Aes.undef, Aes.undef, Aes.undef, Aes.undef, Aes.undef, Aes.undef] H : R))
/- refectory/refectorylaw09.SchemaNumbers -/
noncomputable def r5_4 (C : CallF) (k : KT R) : KT R := fun fr H => opn 10 fr (fun s0 s1 s2 s3 s4 s10 s11 s12 s13 s14 => 
(qLdA 3 s11 H fun v32 =>
qRes (C 7 [s3] H) fun v36 H =>
qLdA 3 s11 H fun w => qSame v32 w (qRes (C 7 [s4] H) fun v38 H =>
qLdA 3 s11 H fun w => qSame v32 w (qRes (C 14 [v32, s13, s14, v36, v38] H) fun v39 H =>
qG v39 true (fun k => qRes (C 10 [] H) k) H fun v41 H =>
qPick v39 v41 (.bool false) fun v42 =>
k [s0, s1, s2, s3, s4, v42, s11, s12, s13, s14] H)) : R))
noncomputable def r5_3 (C : CallF) (k : KT R) : KT R := fun fr H => opn 10 fr (fun s0 s1 s2 s3 s4 s10 s11 s12 s13 s14 => 
(qLenL s12 fun v21 =>
qLenL s12 fun v28 =>
qRes (C 15 [s1, v21] H) fun v22 H =>
qIa 1 s12 v22 fun v23 =>
qLd v23 H fun v24 =>
qRes (C 15 [s2, v28] H) fun v29 H =>
qLd v23 H fun w => qSame v24 w (qIa 1 s12 v29 fun v30 =>
qLd v30 H fun v31 =>
k [s0, s1, s2, s3, s4, s10, s11, s12, v24, v31] H) : R))
noncomputable def r5_2 (k : KT R) : KT R := fun fr H => opn 10 fr (fun s0 s1 s2 s3 s4 s10 s11 s12 s13 s14 => 
(qRows z9 18 [(0, (.str [81,117,101,114,121])), (1, (.str [78,111,100,101])), (2, (.str [65])), (3, (.str [66])), (4, (.str [84,104,105,110,103])), (5, (.str [75,105,110,100])), (6, (.str [73,110])), (7, (.str [65,110,121])), (8, (.str [73,110,116])), (9, (.str [78,111,110,101])), (10, (.str [77,117,116,97,116,105,111,110])), (11, (.str [76,101,97,102])), (12, (.str [82,111,111,116])), (13, (.str [97])), (14, (.str [105,100])), (15, (.str [95,95,116,121,112,101,110,97,109,101])), (16, (.str [110,101,120,116])), (17, (.str [110,97,109,101]))] fun v17 =>
k [s0, s1, s2, s3, s4, s10, s11, v17, s13, s14] H : R))
noncomputable def r5_1 (C : CallF) (k : KT R) : KT R := fun fr H => opn 10 fr (fun s0 s1 s2 s3 s4 s10 s11 s12 s13 s14 => 
(qRes (C 6 [s0] H) fun v16 H =>
qNew (.cells z24) .ptr H fun v11 H =>
qSt 3 v11 v16 H fun _ H =>
k [s0, s1, s2, s3, s4, s10, v11, s12, s13, s14] H : R))
noncomputable def r5_0 (k : KT R) : KT R := fun fr H => opn 10 fr (fun s0 s1 s2 s3 s4 s10 s11 s12 s13 s14 => 
(k [s0, s1, s2, s3, s4, (.bool false), s11, s12, s13, s14] H : R))
noncomputable def c5 (C : CallF) (l0 : List AV) (H : AH) (k : AV → AH → R) : R := opn 5 l0 (fun x0 x1 x2 x3 x4 => (qFn (fun kr => (r5_0 (r5_1 C (r5_2 (r5_3 C (r5_4 C kr))))))
(fun fr H => k (sel 5 fr) H) [x0, x1, x2, x3, x4, Aes.undef, Aes.undef, Aes.undef, Aes.undef, Aes.undef] H : R))
/- refectory/refectorylaw00.Schema -/
noncomputable def r6_5 (k : KT R) : KT R := fun fr H => opn 5 fr (fun s0 s2 s3 s4 s9 => 
(qLdA 3 s4 H fun v16 =>
qSt 3 s2 v16 H fun _ H =>
k [s0, s2, s3, s4, s9] H : R))
noncomputable def r6_4 (C : CallF) (k : KT R) : KT R := fun fr H => opn 5 fr (fun s0 s2 s3 s4 s9 => 
(qRes (C 12 [s3] H) fun v12 H =>
qExt v12 0 fun v13 =>
qExt v12 1 fun v14 =>
qExt v12 2 fun v15 =>
qNew (.cells z24) .ptr H fun v4 H =>
qSt 3 v4 v13 H fun _ H =>
k [s0, s2, s3, v4, s9] H : R))
noncomputable def r6_3 (k : KT R) : KT R := fun fr H => opn 5 fr (fun s0 s2 s3 s4 s9 => 
(k [s0, s2, (.str [115,99,104,101,109,97,123,113,117,101,114,121,58,82,111,111,116,125,32,116,121,112,101,32,82,111,111,116,123,111,110,101,58,91,91,73,110,116,33,93,93,32,116,119,111,58,91,76,101,97,102,93,32,116,104,114,101,101,40,110,58,73,110,116,33,41,58,76,101,97,102,33,64,99,111,115,116,40,110,58,53,48,41,32,102,111,117,114,58,67,111,108,111,114,33,125,32,116,121,112,101,32,76,101,97,102,123,118,58,73,110,116,33,32,119,58,76,101,97,102,32,120,58,91,76,101,97,102,33,93,125,32,101,110,117,109,32,67,111,108,111,114,123,82,69,68,32,71,82,69,69,78,125]), s4, s9] H : R))
noncomputable def r6_2 (C : CallF) (k : KT R) : KT R := fun fr H => opn 5 fr (fun s0 s2 s3 s4 s9 => 
(qRes (C 15 [s0, (.int .i64 4)] H) fun v8 H =>
qEql X 3 v8 (.int .i64 0) fun v9 =>
k [s0, s2, s3, s4, v9] H : R))
noncomputable def r6_1 (k : KT R) : KT R := fun fr H => opn 5 fr (fun s0 s2 s3 s4 s9 => 
(k [s0, s2, (.str [116,121,112,101,32,81,117,101,114,121,123,97,58,73,110,116,32,98,40,120,58,73,110,116,61,49,32,121,58,91,83,116,114,105,110,103,33,93,41,58,83,116,114,105,110,103,32,99,58,78,111,100,101,32,100,58,91,78,111,100,101,33,93,33,32,101,58,75,105,110,100,32,102,58,84,104,105,110,103,32,103,58,91,84,104,105,110,103,93,32,104,40,105,110,58,73,110,41,58,70,108,111,97,116,33,64,99,111,115,116,40,110,58,53,41,32,105,58,73,68,32,107,40,97,110,121,58,65,110,121,41,58,65,110,121,32,115,101,108,102,58,81,117,101,114,121,33,125,32,105,110,116,101,114,102,97,99,101,32,78,111,100,101,123,105,100,58,73,68,33,32,110,97,109,101,58,83,116,114,105,110,103,32,110,101,120,116,58,78,111,100,101,125,32,116,121,112,101,32,65,32,105,109,112,108,101,109,101,110,116,115,32,78,111,100,101,123,105,100,58,73,68,33,32,110,97,109,101,58,83,116,114,105,110,103,32,110,101,120,116,58,78,111,100,101,32,97,58,73,110,116,64,99,111,115,116,40,110,58,51,41,32,107,105,100,115,58,91,65,93,125,32,116,121,112,101,32,66,32,105,109,112,108,101,109,101,110,116,115,32,78,111,100,101,123,105,100,58,73,68,33,32,110,97,109,101,58,83,116,114,105,110,103,32,110,101,120,116,58,66,32,98,40,122,58,66,111,111,108,101,97,110,33,41,58,66,111,111,108,101,97,110,125,32,117,110,105,111,110,32,84,104,105,110,103,61,65,124,66,32,101,110,117,109,32,75,105,110,100,123,88,32,89,32,90,125,32,105,110,112,117,116,32,73,110,123,112,58,73,110,116,33,32,113,58,91,73,110,116,93,32,114,58,73,110,32,115,58,75,105,110,100,61,88,125,32,115,99,97,108,97,114,32,65,110,121,32,116,121,112,101,32,77,117,116,97,116,105,111,110,123,115,101,116,40,118,58,73,110,116,33,41,58,65,32,97,100,100,40,118,58,91,73,110,116,33,93,41,58,73,110,116,32,98,117,109,112,58,66,125]), s4, s9] H : R))
noncomputable def r6_0 (k : KT R) : KT R := fun fr H => opn 5 fr (fun s0 s2 s3 s4 s9 => 
(qNew (.cells z24) .ptr H fun v2 H =>
k [s0, v2, s3, s4, s9] H : R))
noncomputable def c6 (C : CallF) (l0 : List AV) (H : AH) (k : AV → AH → R) : R := opn 1 l0 (fun x0 => (qFn (fun kr => (r6_0 (r6_1 (r6_2 C (qCd (sel 4) (fun k1 => (r6_3 k1)) (fun k1 => k1) (r6_4 C (r6_5 kr)))))))
(fun fr H => qPtr (sel 1 fr) (qLdA 3 (sel 1 fr) H fun w0 => k w0 H)) [x0, Aes.undef, Aes.undef, Aes.undef, Aes.undef] H : R))
/- refectory/refectorylaw09.Types -/
noncomputable def r7_2 (k : KT R) : KT R := fun fr H => opn 3 fr (fun s0 s2 s3 => 
(qBld z43 [(0, 1, (.str [73,110,116])), (1, 1, (.str [83,116,114,105,110,103])), (2, 1, (.str [78,111,100,101])), (3, 1, (.str [65])), (4, 1, (.str [66])), (5, 1, (.str [84,104,105,110,103])), (6, 1, (.str [75,105,110,100])), (7, 1, (.str [73,110])), (8, 1, (.str [81,117,101,114,121])), (9, 1, (.str [65,110,121])), (10, 1, (.str [78,111,110,101])), (11, 1, (.str [76,101,97,102]))] fun v6 =>
qRem X 3 s3 (.int .i64 12) fun v8 =>
qO (indexOf X 43 v6 v8) fun v9 =>
qBld z44 [(0, 1, (.str [])), (1, 1, (.str [33])), (2, 1, (.str [93])), (3, 1, (.str [93,33])), (4, 1, (.str [33,93])), (5, 1, (.str [33,93,33])), (6, 1, (.str [93,93])), (7, 1, (.str [33,33]))] fun v10 =>
qQuo X 3 s3 (.int .i64 12) fun v12 =>
qRem X 3 v12 (.int .i64 8) fun v13 =>
qO (indexOf X 44 v10 v13) fun v14 =>
qBld z27 [(0, 1, v9), (1, 1, v14)] fun v15 =>
qSt 2 s2 v15 H fun _ H =>
k [s0, s2, s3] H : R))
noncomputable def r7_1 (C : CallF) (k : KT R) : KT R := fun fr H => opn 3 fr (fun s0 s2 s3 => 
(qRes (C 15 [s0, (.int .i64 1048576)] H) fun v5 H =>
k [s0, s2, v5] H : R))
noncomputable def r7_0 (k : KT R) : KT R := fun fr H => opn 3 fr (fun s0 s2 s3 => 
(qNew (.cells z27) .ptr H fun v2 H =>
k [s0, v2, s3] H : R))
noncomputable def c7 (C : CallF) (l0 : List AV) (H : AH) (k : AV → AH → R) : R := opn 1 l0 (fun x0 => (qFn (fun kr => (r7_0 (r7_1 C (r7_2 kr))))
(fun fr H => qPtr (sel 1 fr) (qLdA 2 (sel 1 fr) H fun w0 => k w0 H)) [x0, Aes.undef, Aes.undef] H : R))
/- refectory/schema.Sub -/
noncomputable def r8_10 (k : KT R) : KT R := fun fr H => opn 15 fr (fun s0 s1 s2 s3 s4 s5 s6 s7 s8 s9 s10 s18 s27 s30 s35 => 
(k [s0, s1, s2, s3, s4, s5, (.bool false), s7, s8, s9, s10, s18, s27, s30, s35] H : R))
noncomputable def r8_12 (C : CallF) (k : KT R) : KT R := fun fr H => opn 15 fr (fun s0 s1 s2 s3 s4 s5 s6 s7 s8 s9 s10 s18 s27 s30 s35 => 
(qLdA 3 s3 H fun v38 =>
qFa 0 s4 fun v39 =>
qLd v39 H fun v40 =>
qFa 0 s5 fun v41 =>
qLd v41 H fun v42 =>
qRes (C 19 [v38, v40, v42] H) fun v43 H =>
k [s0, s1, s2, s3, s4, s5, v43, s7, s8, s9, s10, s18, s27, s30, s35] H : R))
noncomputable def r8_11 (k : KT R) : KT R := fun fr H => opn 15 fr (fun s0 s1 s2 s3 s4 s5 s6 s7 s8 s9 s10 s18 s27 s30 s35 => 
(qNot s10 fun v37 =>
k [s0, s1, s2, s3, s4, s5, s6, s7, s8, s9, s10, s18, s27, s30, v37] H : R))
noncomputable def r8_9 (C : CallF) (k : KT R) : KT R := fun fr H => opn 15 fr (fun s0 s1 s2 s3 s4 s5 s6 s7 s8 s9 s10 s18 s27 s30 s35 => 
(qCallV C s7 [s4, (.str [93])] H fun v32 H =>
qNeq X 4 v32 s10 fun v34 =>
k [s0, s1, s2, s3, s4, s5, s6, s7, s8, s9, s10, s18, s27, v34, s35] H : R))
noncomputable def r8_8 (C : CallF) (k : KT R) : KT R := fun fr H => opn 15 fr (fun s0 s1 s2 s3 s4 s5 s6 s7 s8 s9 s10 s18 s27 s30 s35 => 
(qCallV C s7 [s5, (.str [93])] H fun v29 H =>
k [s0, s1, s2, s3, s4, s5, s6, s7, s8, s9, v29, s18, s27, s30, s35] H : R))
noncomputable def r8_7 (k : KT R) : KT R := fun fr H => opn 15 fr (fun s0 s1 s2 s3 s4 s5 s6 s7 s8 s9 s10 s18 s27 s30 s35 => 
(k [s0, s1, s2, s3, s4, s5, (.bool false), s7, s8, s9, s10, s18, s27, s30, s35] H : R))
noncomputable def r8_6 (k : KT R) : KT R := fun fr H => opn 15 fr (fun s0 s1 s2 s3 s4 s5 s6 s7 s8 s9 s10 s18 s27 s30 s35 => 
(qG s8 true (fun k => k s9 H) H fun v25 H =>
qG s8 true (fun k => qNot v25 fun v => k v H) H fun v26 H =>
qPick s8 v26 (.bool false) fun v27 =>
k [s0, s1, s2, s3, s4, s5, s6, s7, s8, s9, s10, s18, v27, s30, s35] H : R))
noncomputable def r8_5 (C : CallF) (k : KT R) : KT R := fun fr H => opn 15 fr (fun s0 s1 s2 s3 s4 s5 s6 s7 s8 s9 s10 s18 s27 s30 s35 => 
(qCallV C s7 [s4, (.str [33])] H fun v22 H =>
k [s0, s1, s2, s3, s4, s5, s6, s7, s8, v22, s10, s18, s27, s30, s35] H : R))
noncomputable def r8_4 (C : CallF) (k : KT R) : KT R := fun fr H => opn 15 fr (fun s0 s1 s2 s3 s4 s5 s6 s7 s8 s9 s10 s18 s27 s30 s35 => 
(qCallV C s7 [s5, (.str [33])] H fun v20 H =>
k [s0, s1, s2, s3, s4, s5, s6, s7, v20, s9, s10, s18, s27, s30, s35] H : R))
noncomputable def l8_7 (C : CallF) (kr : KT R) : KT R → KT R := fun k2 => (qBl (fun k3 => (r8_4 C (r8_5 C (r8_6 (qCd (sel 12) (fun _ => (r8_7 kr)) (fun k7 => k7) (r8_8 C (qBl (fun k4 => (r8_9 C (qCd (sel 13) (fun _ => (r8_10 kr)) (fun k5 => (r8_11 (qCd (sel 14) (fun _ => (r8_12 C kr)) (fun k6 => k6) k5))) k4))) k3))))))) k2)
noncomputable def r8_3 (k : KT R) : KT R := fun fr H => opn 15 fr (fun s0 s1 s2 s3 s4 s5 s6 s7 s8 s9 s10 s18 s27 s30 s35 => 
(k [s0, s1, s2, s3, s4, s5, s6, (.fn (.func 17) [] []), s8, s9, s10, s18, s27, s30, s35] H : R))
noncomputable def r8_2 (k : KT R) : KT R := fun fr H => opn 15 fr (fun s0 s1 s2 s3 s4 s5 s6 s7 s8 s9 s10 s18 s27 s30 s35 => 
(k [s0, s1, s2, s3, s4, s5, (.bool false), s7, s8, s9, s10, s18, s27, s30, s35] H : R))
noncomputable def r8_1 (C : CallF) (k : KT R) : KT R := fun fr H => opn 15 fr (fun s0 s1 s2 s3 s4 s5 s6 s7 s8 s9 s10 s18 s27 s30 s35 => 
(qLdA 2 s4 H fun v11 =>
qRes (C 16 [v11] H) fun v12 H =>
qNot v12 fun v13 =>
qG v13 false (fun k => qLdA 2 s5 H fun v => k v H) H fun v15 H =>
qG v13 false (fun k => qRes (C 16 [v15] H) k) H fun v16 H =>
qG v13 false (fun k => qNot v16 fun v => k v H) H fun v17 H =>
qPick v13 (.bool true) v17 fun v18 =>
k [s0, s1, s2, s3, s4, s5, s6, s7, s8, s9, s10, v18, s27, s30, s35] H : R))
noncomputable def r8_0 (k : KT R) : KT R := fun fr H => opn 15 fr (fun s0 s1 s2 s3 s4 s5 s6 s7 s8 s9 s10 s18 s27 s30 s35 => 
(qBox s0 H fun v3 H =>
qBox s1 H fun v4 H =>
qBox s2 H fun v5 H =>
k [s0, s1, s2, v3, v4, v5, (.bool false), s7, s8, s9, s10, s18, s27, s30, s35] H : R))
noncomputable def c8 (C : CallF) (l0 : List AV) (H : AH) (k : AV → AH → R) : R := opn 3 l0 (fun x0 x1 x2 => (qFn (fun kr => (r8_0 (r8_1 C (qCd (sel 11) (fun _ => (r8_2 kr)) (fun k8 => k8) (r8_3 (qBl (fun k1 => (qLoop (l8_7 C kr))) kr))))))
(fun fr H => k (sel 6 fr) H) [x0, x1, x2, Aes.undef, Aes.undef, Aes.undef, Aes.undef, Aes.undef, Aes.undef, Aes.undef, Aes.undef, Aes.undef, Aes.undef, Aes.undef, Aes.undef] H : R))
/- refectory/refectoryref05.CheckType -/
noncomputable def r9_9 (C : CallF) (k : KT R) : KT R := fun fr H => opn 8 fr (fun s0 s1 s2 s3 s4 s9 s42 s47 => 
(qLeq X 3 s3 (.int .i64 12) fun v51 =>
qG v51 true (fun k => qFa 0 s1 fun v => k v H) H fun v53 H =>
qG v51 true (fun k => qLd v53 H fun v => k v H) H fun v54 H =>
qG v51 true (fun k => qRes (C 20 [v54] H) k) H fun v55 H =>
qPick v51 v55 (.bool false) fun v56 =>
k [s0, s1, v56, s3, s4, s9, s42, s47] H : R))
noncomputable def r9_4 (k : KT R) : KT R := fun fr H => opn 8 fr (fun s0 s1 s2 s3 s4 s9 s42 s47 => 
(qAdd X 3 s4 (.int .i64 1) fun v11 =>
k [s0, s1, s2, s3, v11, s9, s42, s47] H : R))
noncomputable def r9_8 (k : KT R) : KT R := fun fr H => opn 8 fr (fun s0 s1 s2 s3 s4 s9 s42 s47 => 
(qAdd X 3 s3 (.int .i64 1) fun v49 =>
k [s0, s1, s2, v49, s4, s9, s42, s47] H : R))
noncomputable def r9_7 (k : KT R) : KT R := fun fr H => opn 8 fr (fun s0 s1 s2 s3 s4 s9 s42 s47 => 
(qFa 1 s1 fun v43 =>
qLd v43 H fun v44 =>
qIx v44 s4 fun v46 =>
qEql X 5 v46 (.int .u8 93) fun v47 =>
k [s0, s1, s2, s3, s4, s9, s42, v47] H : R))
noncomputable def r9_6 (k : KT R) : KT R := fun fr H => opn 8 fr (fun s0 s1 s2 s3 s4 s9 s42 s47 => 
(k [s0, s1, (.bool false), s3, s4, s9, s42, s47] H : R))
noncomputable def r9_5 (k : KT R) : KT R := fun fr H => opn 8 fr (fun s0 s1 s2 s3 s4 s9 s42 s47 => 
(qFa 1 s1 fun v12 =>
qLd v12 H fun v13 =>
qIx v13 s4 fun v15 =>
qNeq X 5 v15 (.int .u8 33) fun v16 =>
qG v16 true (fun k => qFa 1 s1 fun v => k v H) H fun v18 H =>
qG v16 true (fun k => qLd v18 H fun v => k v H) H fun v19 H =>
qG v16 true (fun k => k s4 H) H fun v20 H =>
qG v16 true (fun k => qIx v19 v20 fun v => k v H) H fun v21 H =>
qG v16 true (fun k => qNeq X 5 v21 (.int .u8 93) fun v => k v H) H fun v22 H =>
qPick v16 v22 (.bool false) fun v23 =>
qG v23 false (fun k => k s4 H) H fun v25 H =>
qG v23 false (fun k => qGtr X 3 v25 (.int .i64 0) fun v => k v H) H fun v26 H =>
qG v23 false (fun k => k v26 H) H fun v27 H =>
qG v27 true (fun k => qFa 1 s1 fun v => k v H) H fun v28 H =>
qG v27 true (fun k => qLd v28 H fun v => k v H) H fun v29 H =>
qG v27 true (fun k => k s4 H) H fun v30 H =>
qG v27 true (fun k => qIx v29 v30 fun v => k v H) H fun v31 H =>
qG v27 true (fun k => qEql X 5 v31 (.int .u8 33) fun v => k v H) H fun v32 H =>
qG v23 false (fun k => qPick v27 v32 (.bool false) fun v => k v H) H fun v33 H =>
qG v23 false (fun k => k v33 H) H fun v34 H =>
qG v34 true (fun k => qFa 1 s1 fun v => k v H) H fun v35 H =>
qG v34 true (fun k => qLd v35 H fun v => k v H) H fun v36 H =>
qG v34 true (fun k => k s4 H) H fun v37 H =>
qG v34 true (fun k => qSub X 3 v37 (.int .i64 1) fun v => k v H) H fun v38 H =>
qG v34 true (fun k => qIx v36 v38 fun v => k v H) H fun v39 H =>
qG v34 true (fun k => qEql X 5 v39 (.int .u8 33) fun v => k v H) H fun v40 H =>
qG v23 false (fun k => qPick v34 v40 (.bool false) fun v => k v H) H fun v41 H =>
qPick v23 (.bool true) v41 fun v42 =>
k [s0, s1, s2, s3, s4, s9, v42, s47] H : R))
noncomputable def r9_3 (k : KT R) : KT R := fun fr H => opn 8 fr (fun s0 s1 s2 s3 s4 s9 s42 s47 => 
(qFa 1 s1 fun v6 =>
qLd v6 H fun v7 =>
qLenS v7 fun v8 =>
qLss X 3 s4 v8 fun v9 =>
k [s0, s1, s2, s3, s4, v9, s42, s47] H : R))
noncomputable def l9_6 (k1 : KT R) (kr : KT R) : KT R → KT R := fun k2 => (r9_3 (qCd (sel 5) (fun k6 => k6) (fun _ => k1) (qBl (fun k3 => (r9_5 (qCd (sel 6) (fun _ => (r9_6 kr)) (fun k5 => k5) (r9_7 (qCd (sel 7) (fun k4 => (r9_8 k4)) (fun k4 => k4) k3))))) (r9_4 k2))))
noncomputable def r9_2 (k : KT R) : KT R := fun fr H => opn 8 fr (fun s0 s1 s2 s3 s4 s9 s42 s47 => 
(k [s0, s1, s2, s3, (.int .i64 0), s9, s42, s47] H : R))
noncomputable def r9_1 (k : KT R) : KT R := fun fr H => opn 8 fr (fun s0 s1 s2 s3 s4 s9 s42 s47 => 
(k [s0, s1, s2, (.int .i64 0), s4, s9, s42, s47] H : R))
noncomputable def r9_0 (k : KT R) : KT R := fun fr H => opn 8 fr (fun s0 s1 s2 s3 s4 s9 s42 s47 => 
(qBox s0 H fun v1 H =>
k [s0, v1, (.bool false), s3, s4, s9, s42, s47] H : R))
noncomputable def c9 (C : CallF) (l0 : List AV) (H : AH) (k : AV → AH → R) : R := opn 1 l0 (fun x0 => (qFn (fun kr => (r9_0 (r9_1 (r9_2 (qBl (fun k1 => (qLoop (l9_6 k1 kr))) (r9_9 C kr))))))
(fun fr H => k (sel 2 fr) H) [x0, Aes.undef, Aes.undef, Aes.undef, Aes.undef, Aes.undef, Aes.undef, Aes.undef] H : R))
/- refectory/refectorylaw09.awake -/
noncomputable def r10_3 (C : CallF) (k : KT R) : KT R := fun fr H => opn 4 fr (fun s0 s1 s2 s3 => 
(qLdA 3 s1 H fun v10 =>
qRes (C 22 [v10, (.str [73,68])] H) fun v11 H =>
qEql X 3 v11 (.int .i64 1) fun v12 =>
qG v12 true (fun k => qLdA 3 s1 H fun v => k v H) H fun v14 H =>
qG v12 true (fun k => qRes (C 22 [v14, (.str [78,111,100,101])] H) k) H fun v15 H =>
qG v12 true (fun k => qEql X 3 v15 (.int .i64 3) fun v => k v H) H fun v16 H =>
qPick v12 v16 (.bool false) fun v17 =>
qG v17 true (fun k => k s3 H) H fun v19 H =>
qPick v17 v19 (.bool false) fun v20 =>
qG v20 true (fun k => qFa 2 s2 fun v => k v H) H fun v22 H =>
qG v20 true (fun k => qFa 0 v22 fun v => k v H) H fun v23 H =>
qG v20 true (fun k => qLd v23 H fun v => k v H) H fun v24 H =>
qG v20 true (fun k => qEql X 9 v24 (.str [83,116,114,105,110,103]) fun v => k v H) H fun v25 H =>
qPick v20 v25 (.bool false) fun v26 =>
qG v26 true (fun k => qLdA 3 s1 H fun v => k v H) H fun v28 H =>
qG v26 true (fun k => qRes (C 23 [v28, (.str [84,104,105,110,103])] H) k) H fun v29 H =>
qG v26 true (fun k => qLenL v29 fun v => k v H) H fun v30 H =>
qG v26 true (fun k => qEql X 3 v30 (.int .i64 2) fun v => k v H) H fun v31 H =>
qPick v26 v31 (.bool false) fun v32 =>
qG v32 true (fun k => qLdA 3 s1 H fun v => k v H) H fun v34 H =>
qG v32 true (fun k => qRes (C 11 [v34, (.str [78,111,100,101]), (.str [84,104,105,110,103])] H) k) H fun v35 H =>
qPick v32 v35 (.bool false) fun v36 =>
k [v36, s1, s2, s3] H : R))
noncomputable def r10_2 (C : CallF) (k : KT R) : KT R := fun fr H => opn 4 fr (fun s0 s1 s2 s3 => 
(qLdA 3 s1 H fun v6 =>
qRes (C 21 [v6, (.str [78,111,100,101]), (.str [95,95,116,121,112,101,110,97,109,101])] H) fun v7 H =>
qExt v7 0 fun v8 =>
qExt v7 1 fun v9 =>
qNew (.cells z52) .ptr H fun v2 H =>
qSt 5 v2 v8 H fun _ H =>
k [s0, s1, v2, v9] H : R))
noncomputable def r10_1 (C : CallF) (k : KT R) : KT R := fun fr H => opn 4 fr (fun s0 s1 s2 s3 => 
(qRes (C 6 [(.int .i64 1)] H) fun v4 H =>
qNew (.cells z24) .ptr H fun v1 H =>
qSt 3 v1 v4 H fun _ H =>
k [s0, v1, s2, s3] H : R))
noncomputable def r10_0 (k : KT R) : KT R := fun fr H => opn 4 fr (fun s0 s1 s2 s3 => 
(k [(.bool false), s1, s2, s3] H : R))
noncomputable def c10 (C : CallF) (l0 : List AV) (H : AH) (k : AV → AH → R) : R := opn 0 l0 ((qFn (fun kr => (r10_0 (r10_1 C (r10_2 C (r10_3 C kr)))))
(fun fr H => k (sel 0 fr) H) [Aes.undef, Aes.undef, Aes.undef, Aes.undef] H : R))
/- refectory/schema.Meets -/
noncomputable def r11_2 (C : CallF) (k : KT R) : KT R := fun fr H => opn 6 fr (fun s0 s1 s2 s3 s6 s7 => 
(qLdA 3 s3 H fun v11 =>
qRes (C 23 [v11, s1] H) fun v13 H =>
qRes (C 24 [v13, (.fn (.func 25) [] [s7])] H) fun v15 H =>
k [s0, s1, s2, s3, v15, s7] H : R))
noncomputable def r11_1 (C : CallF) (k : KT R) : KT R := fun fr H => opn 6 fr (fun s0 s1 s2 s3 s6 s7 => 
(qLdA 3 s3 H fun v8 =>
qRes (C 23 [v8, s2] H) fun v10 H =>
qNew (.cells z40) .ptr H fun v7 H =>
qSt 1 v7 v10 H fun _ H =>
k [s0, s1, s2, s3, s6, v7] H : R))
noncomputable def r11_0 (k : KT R) : KT R := fun fr H => opn 6 fr (fun s0 s1 s2 s3 s6 s7 => 
(qBox s0 H fun v3 H =>
k [s0, s1, s2, v3, (.bool false), s7] H : R))
noncomputable def c11 (C : CallF) (l0 : List AV) (H : AH) (k : AV → AH → R) : R := opn 3 l0 (fun x0 x1 x2 => (qFn (fun kr => (r11_0 (r11_1 C (r11_2 C kr))))
(fun fr H => k (sel 4 fr) H) [x0, x1, x2, Aes.undef, Aes.undef, Aes.undef] H : R))
/- refectory/refectoryref08.Parse -/
noncomputable def r12_25 (k : KT R) : KT R := fun fr H => opn 19 fr (fun s0 s2 s3 s4 s5 s6 s7 s8 s9 s10 s11 s19 s40 s48 s62 s71 s87 s93 s102 => 
(qLdA 3 s9 H fun v104 =>
qSt 3 s2 v104 H fun _ H =>
k [s0, s2, (.int .i64 0), (.int .i64 0), s5, s6, s7, s8, s9, s10, s11, s19, s40, s48, s62, s71, s87, s93, s102] H : R))
noncomputable def r12_22 (k : KT R) : KT R := fun fr H => opn 19 fr (fun s0 s2 s3 s4 s5 s6 s7 s8 s9 s10 s11 s19 s40 s48 s62 s71 s87 s93 s102 => 
(qAdd X 3 s11 (.int .i64 1) fun v95 =>
k [s0, s2, s3, s4, s5, s6, s7, s8, s9, s10, v95, s19, s40, s48, s62, s71, s87, s93, s102] H : R))
noncomputable def r12_24 (k : KT R) : KT R := fun fr H => opn 19 fr (fun s0 s2 s3 s4 s5 s6 s7 s8 s9 s10 s11 s19 s40 s48 s62 s71 s87 s93 s102 => 
(qFa 1 s9 fun v103 =>
qSt 1 v103 (.str [77,117,116,97,116,105,111,110]) H fun _ H =>
k [s0, s2, s3, s4, s5, s6, s7, s8, s9, s10, s11, s19, s40, s48, s62, s71, s87, s93, s102] H : R))
noncomputable def r12_23 (k : KT R) : KT R := fun fr H => opn 19 fr (fun s0 s2 s3 s4 s5 s6 s7 s8 s9 s10 s11 s19 s40 s48 s62 s71 s87 s93 s102 => 
(qFa 2 s9 fun v96 =>
qLd v96 H fun v97 =>
qIa 5 v97 s11 fun v99 =>
qFa 1 v99 fun v100 =>
qLd v100 H fun v101 =>
qEql X 9 v101 (.str [77,117,116,97,116,105,111,110]) fun v102 =>
k [s0, s2, s3, s4, s5, s6, s7, s8, s9, s10, s11, s19, s40, s48, s62, s71, s87, s93, v102] H : R))
noncomputable def r12_21 (k : KT R) : KT R := fun fr H => opn 19 fr (fun s0 s2 s3 s4 s5 s6 s7 s8 s9 s10 s11 s19 s40 s48 s62 s71 s87 s93 s102 => 
(qFa 2 s9 fun v90 =>
qLd v90 H fun v91 =>
qLenL v91 fun v92 =>
qLss X 3 s11 v92 fun v93 =>
k [s0, s2, s3, s4, s5, s6, s7, s8, s9, s10, s11, s19, s40, s48, s62, s71, s87, v93, s102] H : R))
noncomputable def l12_6 (k2 : KT R) : KT R → KT R := fun k3 => (r12_21 (qCd (sel 17) (fun k6 => k6) (fun _ => k2) (qBl (fun k4 => (r12_23 (qCd (sel 18) (fun k5 => (r12_24 k5)) (fun k5 => k5) k4))) (r12_22 k3))))
noncomputable def r12_20 (k : KT R) : KT R := fun fr H => opn 19 fr (fun s0 s2 s3 s4 s5 s6 s7 s8 s9 s10 s11 s19 s40 s48 s62 s71 s87 s93 s102 => 
(k [s0, s2, s3, s4, s5, s6, s7, s8, s9, s10, (.int .i64 0), s19, s40, s48, s62, s71, s87, s93, s102] H : R))
noncomputable def r12_19 (k : KT R) : KT R := fun fr H => opn 19 fr (fun s0 s2 s3 s4 s5 s6 s7 s8 s9 s10 s11 s19 s40 s48 s62 s71 s87 s93 s102 => 
(qFa 0 s9 fun v88 =>
qSt 1 v88 (.str [81,117,101,114,121]) H fun _ H =>
k [s0, s2, s3, s4, s5, s6, s7, s8, s9, s10, s11, s19, s40, s48, s62, s71, s87, s93, s102] H : R))
noncomputable def r12_18 (k : KT R) : KT R := fun fr H => opn 19 fr (fun s0 s2 s3 s4 s5 s6 s7 s8 s9 s10 s11 s19 s40 s48 s62 s71 s87 s93 s102 => 
(qNot s10 fun v87 =>
k [s0, s2, s3, s4, s5, s6, s7, s8, s9, s10, s11, s19, s40, s48, s62, s71, v87, s93, s102] H : R))
noncomputable def r12_17 (k : KT R) : KT R := fun fr H => opn 19 fr (fun s0 s2 s3 s4 s5 s6 s7 s8 s9 s10 s11 s19 s40 s48 s62 s71 s87 s93 s102 => 
(qBld z24 [] fun v80 =>
qNc s8 fun v83 =>
qFa 2 v83 fun v84 =>
qLd v84 H fun v85 =>
qSt 3 s2 v80 H fun _ H =>
qLd v84 H fun w => qSame v85 w (k [s0, s2, s6, v85, s5, s6, s7, s8, s9, s10, s11, s19, s40, s48, s62, s71, s87, s93, s102] H) : R))
noncomputable def r12_16 (k : KT R) : KT R := fun fr H => opn 19 fr (fun s0 s2 s3 s4 s5 s6 s7 s8 s9 s10 s11 s19 s40 s48 s62 s71 s87 s93 s102 => 
(qNc s8 fun v74 =>
qFa 3 v74 fun v75 =>
qLd v75 H fun v76 =>
qIa 3 s5 v76 fun v77 =>
qFa 2 v77 fun v78 =>
qLd v78 H fun v79 =>
k [s0, s2, s3, s4, s5, v79, s7, s8, s9, s10, s11, s19, s40, s48, s62, s71, s87, s93, s102] H : R))
noncomputable def r12_15 (k : KT R) : KT R := fun fr H => opn 19 fr (fun s0 s2 s3 s4 s5 s6 s7 s8 s9 s10 s11 s19 s40 s48 s62 s71 s87 s93 s102 => 
(qNc s8 fun v66 =>
qFa 3 v66 fun v67 =>
qLd v67 H fun v68 =>
qLenL s5 fun v70 =>
qLss X 3 v68 v70 fun v71 =>
k [s0, s2, s3, s4, s5, s6, s7, s8, s9, s10, s11, s19, s40, s48, s62, v71, s87, s93, s102] H : R))
noncomputable def r12_14 (k : KT R) : KT R := fun fr H => opn 19 fr (fun s0 s2 s3 s4 s5 s6 s7 s8 s9 s10 s11 s19 s40 s48 s62 s71 s87 s93 s102 => 
(qLenS s0 fun v64 =>
k [s0, s2, s3, s4, s5, v64, s7, s8, s9, s10, s11, s19, s40, s48, s62, s71, s87, s93, s102] H : R))
noncomputable def r12_13 (k : KT R) : KT R := fun fr H => opn 19 fr (fun s0 s2 s3 s4 s5 s6 s7 s8 s9 s10 s11 s19 s40 s48 s62 s71 s87 s93 s102 => 
(qNc s8 fun v59 =>
qFa 2 v59 fun v60 =>
qLd v60 H fun v61 =>
qNeq X 34 v61 (.int .i64 0) fun v62 =>
k [s0, s2, s3, s4, s5, s6, s7, s8, s9, s10, s11, s19, s40, s48, v62, s71, s87, s93, s102] H : R))
noncomputable def r12_12 (C : CallF) (k : KT R) : KT R := fun fr H => opn 19 fr (fun s0 s2 s3 s4 s5 s6 s7 s8 s9 s10 s11 s19 s40 s48 s62 s71 s87 s93 s102 => 
(qFa 2 s9 fun v51 =>
qLd v51 H fun v52 =>
qRes (C 31 [s8] H) fun v54 H =>
qLd v51 H fun w => qSame v52 w (qRows z71 1 [(0, v54)] fun v55 =>
qApp 5 96 v52 v55 false none H fun v56 H =>
qFa 2 s9 fun v57 =>
qSt 1 v57 v56 H fun _ H =>
k [s0, s2, s3, s4, s5, s6, s7, s8, s9, s10, s11, s19, s40, s48, s62, s71, s87, s93, s102] H) : R))
noncomputable def r12_11 (C : CallF) (k : KT R) : KT R := fun fr H => opn 19 fr (fun s0 s2 s3 s4 s5 s6 s7 s8 s9 s10 s11 s19 s40 s48 s62 s71 s87 s93 s102 => 
(qRes (C 30 [s8, s9] H) fun v50 H =>
k [s0, s2, s3, s4, s5, s6, s7, s8, s9, s10, s11, s19, s40, s48, s62, s71, s87, s93, s102] H : R))
noncomputable def r12_10 (k : KT R) : KT R := fun fr H => opn 19 fr (fun s0 s2 s3 s4 s5 s6 s7 s8 s9 s10 s11 s19 s40 s48 s62 s71 s87 s93 s102 => 
(k [s0, s2, s3, s4, s5, s6, s7, s8, s9, (.bool true), s11, s19, s40, s48, s62, s71, s87, s93, s102] H : R))
noncomputable def r12_9 (C : CallF) (k : KT R) : KT R := fun fr H => opn 19 fr (fun s0 s2 s3 s4 s5 s6 s7 s8 s9 s10 s11 s19 s40 s48 s62 s71 s87 s93 s102 => 
(qNot s10 fun v44 =>
qG v44 true (fun k => k s8 H) H fun v46 H =>
qG v44 true (fun k => qRes (C 29 [v46, (.int .i64 1), (.str [115,99,104,101,109,97])] H) k) H fun v47 H =>
qPick v44 v47 (.bool false) fun v48 =>
k [s0, s2, s3, s4, s5, s6, s7, s8, s9, s10, s11, s19, s40, v48, s62, s71, s87, s93, s102] H : R))
noncomputable def r12_8 (C : CallF) (k : KT R) : KT R := fun fr H => opn 19 fr (fun s0 s2 s3 s4 s5 s6 s7 s8 s9 s10 s11 s19 s40 s48 s62 s71 s87 s93 s102 => 
(qRes (C 28 [s8] H) fun v42 H =>
k [s0, s2, s3, s4, s5, s6, s7, s8, s9, s10, s11, s19, s40, s48, s62, s71, s87, s93, s102] H : R))
noncomputable def r12_7 (k : KT R) : KT R := fun fr H => opn 19 fr (fun s0 s2 s3 s4 s5 s6 s7 s8 s9 s10 s11 s19 s40 s48 s62 s71 s87 s93 s102 => 
(qNc s8 fun v28 =>
qFa 2 v28 fun v29 =>
qLd v29 H fun v30 =>
qEql X 34 v30 (.int .i64 0) fun v31 =>
qG v31 true (fun k => k s8 H) H fun v33 H =>
qG v31 true (fun k => qNc v33 fun v => k v H) H fun v34 H =>
qG v31 true (fun k => qFa 1 v34 fun v => k v H) H fun v35 H =>
qG v31 true (fun k => qLd v35 H fun v => k v H) H fun v36 H =>
qG v31 true (fun k => k s5 H) H fun v37 H =>
qG v31 true (fun k => qLenL v37 fun v => k v H) H fun v38 H =>
qG v31 true (fun k => qLss X 3 v36 v38 fun v => k v H) H fun v39 H =>
qPick v31 v39 (.bool false) fun v40 =>
k [s0, s2, s3, s4, s5, s6, s7, s8, s9, s10, s11, s19, v40, s48, s62, s71, s87, s93, s102] H : R))
noncomputable def l12_13 (C : CallF) (k9 : KT R) : KT R → KT R := fun k10 => (r12_7 (qCd (sel 12) (fun k13 => k13) (fun _ => k9) (qBl (fun k11 => (r12_8 C (r12_9 C (qCd (sel 13) (fun _ => (r12_10 (r12_11 C k11))) (fun k12 => k12) (r12_12 C k11))))) k10)))
noncomputable def r12_6 (k : KT R) : KT R := fun fr H => opn 19 fr (fun s0 s2 s3 s4 s5 s6 s7 s8 s9 s10 s11 s19 s40 s48 s62 s71 s87 s93 s102 => 
(k [s0, s2, s3, s4, s5, s6, s7, s8, s9, (.bool false), s11, s19, s40, s48, s62, s71, s87, s93, s102] H : R))
noncomputable def r12_5 (k : KT R) : KT R := fun fr H => opn 19 fr (fun s0 s2 s3 s4 s5 s6 s7 s8 s9 s10 s11 s19 s40 s48 s62 s71 s87 s93 s102 => 
(qBld z24 [] fun v26 =>
qNew (.cells z24) .ptr H fun v9 H =>
qSt 3 v9 v26 H fun _ H =>
k [s0, s2, s3, s4, s5, s6, s7, s8, v9, s10, s11, s19, s40, s48, s62, s71, s87, s93, s102] H : R))
noncomputable def r12_4 (k : KT R) : KT R := fun fr H => opn 19 fr (fun s0 s2 s3 s4 s5 s6 s7 s8 s9 s10 s11 s19 s40 s48 s62 s71 s87 s93 s102 => 
(qBld z64 [(0, 1, s5)] fun v24 =>
qBox v24 H fun v25 H =>
k [s0, s2, s3, s4, s5, s6, s7, v25, s9, s10, s11, s19, s40, s48, s62, s71, s87, s93, s102] H : R))
noncomputable def r12_3 (k : KT R) : KT R := fun fr H => opn 19 fr (fun s0 s2 s3 s4 s5 s6 s7 s8 s9 s10 s11 s19 s40 s48 s62 s71 s87 s93 s102 => 
(qBld z24 [] fun v20 =>
qSt 3 s2 v20 H fun _ H =>
k [s0, s2, s6, s7, s5, s6, s7, s8, s9, s10, s11, s19, s40, s48, s62, s71, s87, s93, s102] H : R))
noncomputable def r12_2 (k : KT R) : KT R := fun fr H => opn 19 fr (fun s0 s2 s3 s4 s5 s6 s7 s8 s9 s10 s11 s19 s40 s48 s62 s71 s87 s93 s102 => 
(qNeq X 34 s7 (.int .i64 0) fun v19 =>
k [s0, s2, s3, s4, s5, s6, s7, s8, s9, s10, s11, v19, s40, s48, s62, s71, s87, s93, s102] H : R))
noncomputable def r12_1 (C : CallF) (k : KT R) : KT R := fun fr H => opn 19 fr (fun s0 s2 s3 s4 s5 s6 s7 s8 s9 s10 s11 s19 s40 s48 s62 s71 s87 s93 s102 => 
(qRes (C 27 [s0] H) fun v14 H =>
qExt v14 0 fun v15 =>
qExt v14 1 fun v16 =>
qExt v14 2 fun v17 =>
k [s0, s2, s3, s4, v15, v16, v17, s8, s9, s10, s11, s19, s40, s48, s62, s71, s87, s93, s102] H : R))
noncomputable def r12_0 (k : KT R) : KT R := fun fr H => opn 19 fr (fun s0 s2 s3 s4 s5 s6 s7 s8 s9 s10 s11 s19 s40 s48 s62 s71 s87 s93 s102 => 
(qNew (.cells z24) .ptr H fun v2 H =>
k [s0, v2, (.int .i64 0), (.int .i64 0), s5, s6, s7, s8, s9, s10, s11, s19, s40, s48, s62, s71, s87, s93, s102] H : R))
noncomputable def c12 (C : CallF) (l0 : List AV) (H : AH) (k : AV → AH → R) : R := opn 1 l0 (fun x0 => (qFn (fun kr => (r12_0 (r12_1 C (r12_2 (qCd (sel 11) (fun _ => (r12_3 kr)) (fun k14 => k14) (r12_4 (r12_5 (r12_6 (qBl (fun k9 => (qLoop (l12_13 C k9))) (r12_13 (qCd (sel 14) (fun _ => (r12_14 (r12_15 (qCd (sel 15) (fun k8 => (r12_16 k8)) (fun k8 => k8) (r12_17 kr))))) (fun k7 => k7) (r12_18 (qCd (sel 16) (fun k1 => (r12_19 (r12_20 (qBl (fun k2 => (qLoop (l12_6 k2))) k1)))) (fun k1 => k1) (r12_25 kr))))))))))))))
(fun fr H => qPtr (sel 1 fr) (qLdA 3 (sel 1 fr) H fun w0 => k (.tup [w0, (sel 2 fr), (sel 3 fr)]) H)) [x0, Aes.undef, Aes.undef, Aes.undef, Aes.undef, Aes.undef, Aes.undef, Aes.undef, Aes.undef, Aes.undef, Aes.undef, Aes.undef, Aes.undef, Aes.undef, Aes.undef, Aes.undef, Aes.undef, Aes.undef, Aes.undef] H : R))
/- refectory/refectorylaw09.one -/
noncomputable def r14_7 (C : CallF) (k : KT R) : KT R := fun fr H => opn 21 fr (fun s0 s1 s2 s3 s4 s5 s8 s9 s10 s11 s12 s13 s14 s15 s16 s17 s18 s19 s20 s21 s22 => 
(qLdA 3 s19 H fun v61 =>
qLdA 3 s20 H fun v62 =>
qRes (C 45 [v61, v62] H) fun v63 H =>
qG v63 true (fun k => k s12 H) H fun v65 H =>
qG v63 true (fun k => k s14 H) H fun v66 H =>
qG v63 true (fun k => qEql X 4 v65 v66 fun v => k v H) H fun v67 H =>
qPick v63 v67 (.bool false) fun v68 =>
qG v68 true (fun k => qLdA 5 s21 H fun v => k v H) H fun v70 H =>
qG v68 true (fun k => qRows z71 1 [(0, v70)] fun v => k v H) H fun v71 H =>
qG v68 true (fun k => qBld z24 [(2, 1, v71)] fun v => k v H) H fun v72 H =>
qG v68 true (fun k => qLdA 5 s22 H fun v => k v H) H fun v73 H =>
qG v68 true (fun k => qRows z71 1 [(0, v73)] fun v => k v H) H fun v74 H =>
qG v68 true (fun k => qBld z24 [(2, 1, v74)] fun v => k v H) H fun v75 H =>
qG v68 true (fun k => qRes (C 45 [v72, v75] H) k) H fun v76 H =>
qPick v68 v76 (.bool false) fun v77 =>
qG v77 true (fun k => k s16 H) H fun v79 H =>
qG v77 true (fun k => k s18 H) H fun v80 H =>
qG v77 true (fun k => qEql X 4 v79 v80 fun v => k v H) H fun v81 H =>
qPick v77 v81 (.bool false) fun v82 =>
qG v82 true (fun k => qLdA 3 s5 H fun v => k v H) H fun v84 H =>
qG v82 true (fun k => k s1 H) H fun v85 H =>
qG v82 true (fun k => qLdA 3 s5 H fun v => k v H) H fun v87 H =>
qG v82 true (fun k => k s1 H) H fun v88 H =>
qG v82 true (fun k => qRes (C 22 [v84, v85] H) fun v H => qLdA 3 s5 H fun w => qSame v87 w (k v H)) H fun v86 H =>
qG v82 true (fun k => qRes (C 35 [v87, v88] H) k) H fun v89 H =>
qG v82 true (fun k => qEql X 3 v86 v89 fun v => k v H) H fun v90 H =>
qPick v82 v90 (.bool false) fun v91 =>
qG v91 true (fun k => qLdA 3 s5 H fun v => k v H) H fun v93 H =>
qG v91 true (fun k => k s1 H) H fun v94 H =>
qG v91 true (fun k => qLdA 3 s5 H fun v => k v H) H fun v96 H =>
qG v91 true (fun k => k s1 H) H fun v97 H =>
qG v91 true (fun k => qRes (C 23 [v93, v94] H) fun v H => qLdA 3 s5 H fun w => qSame v96 w (k v H)) H fun v95 H =>
qG v91 true (fun k => qRes (C 47 [v96, v97] H) k) H fun v98 H =>
qG v91 true (fun k => qRes (C 46 [v95, v98] H) k) H fun v99 H =>
qPick v91 v99 (.bool false) fun v100 =>
qG v100 true (fun k => qLdA 3 s5 H fun v => k v H) H fun v102 H =>
qG v100 true (fun k => k s1 H) H fun v103 H =>
qG v100 true (fun k => k s2 H) H fun v104 H =>
qG v100 true (fun k => qLdA 3 s5 H fun v => k v H) H fun v106 H =>
qG v100 true (fun k => k s1 H) H fun v107 H =>
qG v100 true (fun k => k s2 H) H fun v108 H =>
qG v100 true (fun k => qRes (C 11 [v102, v103, v104] H) fun v H => qLdA 3 s5 H fun w => qSame v106 w (k v H)) H fun v105 H =>
qG v100 true (fun k => qRes (C 48 [v106, v107, v108] H) k) H fun v109 H =>
qG v100 true (fun k => qEql X 4 v105 v109 fun v => k v H) H fun v110 H =>
qPick v100 v110 (.bool false) fun v111 =>
qG v111 true (fun k => qLdA 3 s5 H fun v => k v H) H fun v113 H =>
qG v111 true (fun k => qLdA 2 s8 H fun v => k v H) H fun v114 H =>
qG v111 true (fun k => qLdA 2 s9 H fun v => k v H) H fun v115 H =>
qG v111 true (fun k => qLdA 3 s5 H fun v => k v H) H fun v117 H =>
qG v111 true (fun k => qLdA 2 s8 H fun v => k v H) H fun v118 H =>
qG v111 true (fun k => qLdA 2 s9 H fun v => k v H) H fun v119 H =>
qG v111 true (fun k => qRes (C 8 [v113, v114, v115] H) fun v H => qLdA 2 s9 H fun w => qSame v119 w (qLdA 2 s8 H fun w => qSame v118 w (qLdA 3 s5 H fun w => qSame v117 w (k v H)))) H fun v116 H =>
qG v111 true (fun k => qRes (C 49 [v117, v118, v119] H) k) H fun v120 H =>
qG v111 true (fun k => qEql X 4 v116 v120 fun v => k v H) H fun v121 H =>
qPick v111 v121 (.bool false) fun v122 =>
qG v122 true (fun k => qLdA 3 s5 H fun v => k v H) H fun v124 H =>
qG v122 true (fun k => qLdA 2 s8 H fun v => k v H) H fun v125 H =>
qG v122 true (fun k => qLdA 3 s5 H fun v => k v H) H fun v127 H =>
qG v122 true (fun k => qLdA 2 s8 H fun v => k v H) H fun v128 H =>
qG v122 true (fun k => qRes (C 50 [v124, v125] H) fun v H => qLdA 2 s8 H fun w => qSame v128 w (qLdA 3 s5 H fun w => qSame v127 w (k v H))) H fun v126 H =>
qG v122 true (fun k => qRes (C 51 [v127, v128] H) k) H fun v129 H =>
qG v122 true (fun k => qEql X 4 v126 v129 fun v => k v H) H fun v130 H =>
qPick v122 v130 (.bool false) fun v131 =>
qG v131 true (fun k => qLdA 3 s5 H fun v => k v H) H fun v133 H =>
qG v131 true (fun k => qLdA 2 s8 H fun v => k v H) H fun v134 H =>
qG v131 true (fun k => qLdA 3 s5 H fun v => k v H) H fun v136 H =>
qG v131 true (fun k => qLdA 2 s8 H fun v => k v H) H fun v137 H =>
qG v131 true (fun k => qRes (C 52 [v133, v134] H) fun v H => qLdA 2 s8 H fun w => qSame v137 w (qLdA 3 s5 H fun w => qSame v136 w (k v H))) H fun v135 H =>
qG v131 true (fun k => qRes (C 53 [v136, v137] H) k) H fun v138 H =>
qG v131 true (fun k => qEql X 4 v135 v138 fun v => k v H) H fun v139 H =>
qPick v131 v139 (.bool false) fun v140 =>
k [s0, s1, s2, s3, s4, s5, s8, s9, v140, s11, s12, s13, s14, s15, s16, s17, s18, s19, s20, s21, s22] H : R))
noncomputable def r14_6 (k : KT R) : KT R := fun fr H => opn 21 fr (fun s0 s1 s2 s3 s4 s5 s8 s9 s10 s11 s12 s13 s14 s15 s16 s17 s18 s19 s20 s21 s22 => 
(qLdA 5 s15 H fun v55 =>
qRows z52 1 [(0, v55)] fun v56 =>
qBld z71 [(3, 1, v56)] fun v57 =>
qLdA 5 s17 H fun v58 =>
qRows z52 1 [(0, v58)] fun v59 =>
qBld z71 [(3, 1, v59)] fun v60 =>
qNew (.cells z71) .ptr H fun v21 H =>
qNew (.cells z71) .ptr H fun v22 H =>
qSt 5 v21 v57 H fun _ H =>
qLdA 5 s17 H fun w => qSame v58 w (qSt 5 v22 v60 H fun _ H =>
k [s0, s1, s2, s3, s4, s5, s8, s9, s10, s11, s12, s13, s14, s15, s16, s17, s18, s19, s20, v21, v22] H) : R))
noncomputable def r14_5 (k : KT R) : KT R := fun fr H => opn 21 fr (fun s0 s1 s2 s3 s4 s5 s8 s9 s10 s11 s12 s13 s14 s15 s16 s17 s18 s19 s20 s21 s22 => 
(qLdA 5 s11 H fun v49 =>
qRows z71 1 [(0, v49)] fun v50 =>
qBld z24 [(2, 1, v50)] fun v51 =>
qLdA 5 s13 H fun v52 =>
qRows z71 1 [(0, v52)] fun v53 =>
qBld z24 [(2, 1, v53)] fun v54 =>
qNew (.cells z24) .ptr H fun v19 H =>
qNew (.cells z24) .ptr H fun v20 H =>
qSt 3 v19 v51 H fun _ H =>
qLdA 5 s13 H fun w => qSame v52 w (qSt 3 v20 v54 H fun _ H =>
k [s0, s1, s2, s3, s4, s5, s8, s9, s10, s11, s12, s13, s14, s15, s16, s17, s18, v19, v20, s21, s22] H) : R))
noncomputable def r14_4 (C : CallF) (k : KT R) : KT R := fun fr H => opn 21 fr (fun s0 s1 s2 s3 s4 s5 s8 s9 s10 s11 s12 s13 s14 s15 s16 s17 s18 s19 s20 s21 s22 => 
(qLdA 3 s5 H fun v43 =>
qRes (C 44 [v43, s1, s2] H) fun v46 H =>
qExt v46 0 fun v47 =>
qExt v46 1 fun v48 =>
qNew (.cells z52) .ptr H fun v17 H =>
qSt 5 v17 v47 H fun _ H =>
k [s0, s1, s2, s3, s4, s5, s8, s9, s10, s11, s12, s13, s14, s15, s16, v17, v48, s19, s20, s21, s22] H : R))
noncomputable def r14_3 (C : CallF) (k : KT R) : KT R := fun fr H => opn 21 fr (fun s0 s1 s2 s3 s4 s5 s8 s9 s10 s11 s12 s13 s14 s15 s16 s17 s18 s19 s20 s21 s22 => 
(qLdA 3 s5 H fun v36 =>
qRes (C 21 [v36, s1, s2] H) fun v39 H =>
qExt v39 0 fun v40 =>
qExt v39 1 fun v41 =>
qNew (.cells z52) .ptr H fun v15 H =>
qSt 5 v15 v40 H fun _ H =>
k [s0, s1, s2, s3, s4, s5, s8, s9, s10, s11, s12, s13, s14, v15, v41, s17, s18, s19, s20, s21, s22] H : R))
noncomputable def r14_2 (C : CallF) (k : KT R) : KT R := fun fr H => opn 21 fr (fun s0 s1 s2 s3 s4 s5 s8 s9 s10 s11 s12 s13 s14 s15 s16 s17 s18 s19 s20 s21 s22 => 
(qLdA 3 s5 H fun v30 =>
qRes (C 43 [v30, s1] H) fun v32 H =>
qExt v32 0 fun v33 =>
qExt v32 1 fun v34 =>
qNew (.cells z71) .ptr H fun v13 H =>
qSt 5 v13 v33 H fun _ H =>
k [s0, s1, s2, s3, s4, s5, s8, s9, s10, s11, s12, v13, v34, s15, s16, s17, s18, s19, s20, s21, s22] H : R))
noncomputable def r14_1 (C : CallF) (k : KT R) : KT R := fun fr H => opn 21 fr (fun s0 s1 s2 s3 s4 s5 s8 s9 s10 s11 s12 s13 s14 s15 s16 s17 s18 s19 s20 s21 s22 => 
(qLdA 3 s5 H fun v24 =>
qRes (C 42 [v24, s1] H) fun v26 H =>
qExt v26 0 fun v27 =>
qExt v26 1 fun v28 =>
qNew (.cells z71) .ptr H fun v11 H =>
qSt 5 v11 v27 H fun _ H =>
k [s0, s1, s2, s3, s4, s5, s8, s9, s10, v11, v28, s13, s14, s15, s16, s17, s18, s19, s20, s21, s22] H : R))
noncomputable def r14_0 (k : KT R) : KT R := fun fr H => opn 21 fr (fun s0 s1 s2 s3 s4 s5 s8 s9 s10 s11 s12 s13 s14 s15 s16 s17 s18 s19 s20 s21 s22 => 
(qBox s0 H fun v5 H =>
qBox s3 H fun v8 H =>
qBox s4 H fun v9 H =>
k [s0, s1, s2, s3, s4, v5, v8, v9, (.bool false), s11, s12, s13, s14, s15, s16, s17, s18, s19, s20, s21, s22] H : R))
noncomputable def c14 (C : CallF) (l0 : List AV) (H : AH) (k : AV → AH → R) : R := opn 5 l0 (fun x0 x1 x2 x3 x4 => (qFn (fun kr => (r14_0 (r14_1 C (r14_2 C (r14_3 C (r14_4 C (r14_5 (r14_6 (r14_7 C kr)))))))))
(fun fr H => k (sel 8 fr) H) [x0, x1, x2, x3, x4, Aes.undef, Aes.undef, Aes.undef, Aes.undef, Aes.undef, Aes.undef, Aes.undef, Aes.undef, Aes.undef, Aes.undef, Aes.undef, Aes.undef, Aes.undef, Aes.undef, Aes.undef, Aes.undef] H : R))
/- refectory/refectorylaw00.Place -/
noncomputable def r15_4 (k : KT R) : KT R := fun fr H => opn 5 fr (fun s0 s1 s4 s5 s10 => 
(k [s0, s1, s5, s5, s10] H : R))
noncomputable def r15_3 (k : KT R) : KT R := fun fr H => opn 5 fr (fun s0 s1 s4 s5 s10 => 
(qAdd X 3 s5 s1 fun v13 =>
k [s0, s1, s4, v13, s10] H : R))
noncomputable def r15_2 (k : KT R) : KT R := fun fr H => opn 5 fr (fun s0 s1 s4 s5 s10 => 
(qLss X 3 s5 (.int .i64 0) fun v10 =>
k [s0, s1, s4, s5, v10] H : R))
noncomputable def r15_1 (k : KT R) : KT R := fun fr H => opn 5 fr (fun s0 s1 s4 s5 s10 => 
(qRem X 3 s0 s1 fun v8 =>
k [s0, s1, s4, v8, s10] H : R))
noncomputable def r15_0 (k : KT R) : KT R := fun fr H => opn 5 fr (fun s0 s1 s4 s5 s10 => 
(k [s0, s1, (.int .i64 0), s5, s10] H : R))
noncomputable def c15 (C : CallF) (l0 : List AV) (H : AH) (k : AV → AH → R) : R := opn 2 l0 (fun x0 x1 => (qFn (fun kr => (r15_0 (r15_1 (r15_2 (qCd (sel 4) (fun k1 => (r15_3 k1)) (fun k1 => k1) (r15_4 kr))))))
(fun fr H => k (sel 2 fr) H) [x0, x1, Aes.undef, Aes.undef, Aes.undef] H : R))
/- refectory/value.CheckType -/
noncomputable def r16_1 (C : CallF) (k : KT R) : KT R := fun fr H => opn 3 fr (fun s0 s1 s2 => 
(qFa 0 s1 fun v3 =>
qLd v3 H fun v4 =>
qRes (C 54 [v4] H) fun v5 H =>
qG v5 true (fun k => qFa 1 s1 fun v => k v H) H fun v7 H =>
qG v5 true (fun k => qLd v7 H fun v => k v H) H fun v8 H =>
qG v5 true (fun k => qRes (C 55 [v8, (.str [33,93])] H) k) H fun v9 H =>
qG v5 true (fun k => qEql X 9 v9 (.str []) fun v => k v H) H fun v10 H =>
qPick v5 v10 (.bool false) fun v11 =>
qG v11 true (fun k => qFa 1 s1 fun v => k v H) H fun v13 H =>
qG v11 true (fun k => qLd v13 H fun v => k v H) H fun v14 H =>
qG v11 true (fun k => qRes (C 56 [v14, (.str [33,33])] H) k) H fun v15 H =>
qG v11 true (fun k => qNot v15 fun v => k v H) H fun v16 H =>
qPick v11 v16 (.bool false) fun v17 =>
qG v17 true (fun k => qFa 1 s1 fun v => k v H) H fun v19 H =>
qG v17 true (fun k => qLd v19 H fun v => k v H) H fun v20 H =>
qG v17 true (fun k => qRes (C 57 [v20, (.str [93])] H) k) H fun v21 H =>
qG v17 true (fun k => qLeq X 3 v21 (.int .i64 12) fun v => k v H) H fun v22 H =>
qPick v17 v22 (.bool false) fun v23 =>
k [s0, s1, v23] H : R))
noncomputable def r16_0 (k : KT R) : KT R := fun fr H => opn 3 fr (fun s0 s1 s2 => 
(qBox s0 H fun v1 H =>
k [s0, v1, (.bool false)] H : R))
noncomputable def c16 (C : CallF) (l0 : List AV) (H : AH) (k : AV → AH → R) : R := opn 1 l0 (fun x0 => (qFn (fun kr => (r16_0 (r16_1 C kr)))
(fun fr H => k (sel 2 fr) H) [x0, Aes.undef, Aes.undef] H : R))
/- refectory/schema.Sub$1 -/
noncomputable def r17_3 (k : KT R) : KT R := fun fr H => opn 5 fr (fun s0 s1 s4 s5 s6 => 
(k [s0, s1, s6, s5, s6] H : R))
noncomputable def r17_2 (k : KT R) : KT R := fun fr H => opn 5 fr (fun s0 s1 s4 s5 s6 => 
(qNc s0 fun v18 =>
qFa 1 v18 fun v19 =>
qSt 1 v19 s5 H fun _ H =>
k [s0, s1, s4, s5, s6] H : R))
noncomputable def r17_1 (C : CallF) (k : KT R) : KT R := fun fr H => opn 5 fr (fun s0 s1 s4 s5 s6 => 
(qNc s0 fun v9 =>
qFa 1 v9 fun v10 =>
qLd v10 H fun v11 =>
qRes (C 18 [v11, s1] H) fun v13 H =>
qExt v13 0 fun v14 =>
qExt v13 1 fun v15 =>
k [s0, s1, s4, v14, v15] H : R))
noncomputable def r17_0 (k : KT R) : KT R := fun fr H => opn 5 fr (fun s0 s1 s4 s5 s6 => 
(k [s0, s1, (.bool false), s5, s6] H : R))
noncomputable def c17 (C : CallF) (l0 : List AV) (H : AH) (k : AV → AH → R) : R := opn 2 l0 (fun x0 x1 => (qFn (fun kr => (r17_0 (r17_1 C (r17_2 (r17_3 kr)))))
(fun fr H => k (sel 2 fr) H) [x0, x1, Aes.undef, Aes.undef, Aes.undef] H : R))
/- strings.CutSuffix -/
noncomputable def r18_1 (C : CallF) (k : KT R) : KT R := fun fr H => opn 4 fr (fun s0 s1 s4 s5 => 
(qRes (C 58 [s0, s1] H) fun v8 H =>
qExt v8 0 fun v9 =>
qExt v8 1 fun v10 =>
k [s0, s1, v9, v10] H : R))
noncomputable def r18_0 (k : KT R) : KT R := fun fr H => opn 4 fr (fun s0 s1 s4 s5 => 
(k [s0, s1, (.str []), (.bool false)] H : R))
noncomputable def c18 (C : CallF) (l0 : List AV) (H : AH) (k : AV → AH → R) : R := opn 2 l0 (fun x0 x1 => (qFn (fun kr => (r18_0 (r18_1 C kr)))
(fun fr H => k (.tup [(sel 2 fr), (sel 3 fr)]) H) [x0, x1, Aes.undef, Aes.undef] H : R))
/- refectory/schema.below -/
noncomputable def r19_3 (C : CallF) (k : KT R) : KT R := fun fr H => opn 7 fr (fun s0 s1 s2 s3 s6 s7 s9 => 
(qEql X 9 s1 s2 fun v25 =>
qG v25 false (fun k => qFa 0 s7 fun v => k v H) H fun v27 H =>
qG v25 false (fun k => qLd v27 H fun v => k v H) H fun v28 H =>
qG v25 false (fun k => qEql X 3 v28 (.int .i64 2) fun v => k v H) H fun v29 H =>
qG v25 false (fun k => k v29 H) H fun v30 H =>
qG v30 false (fun k => qFa 0 s7 fun v => k v H) H fun v31 H =>
qG v30 false (fun k => qLd v31 H fun v => k v H) H fun v32 H =>
qG v30 false (fun k => qEql X 3 v32 (.int .i64 3) fun v => k v H) H fun v33 H =>
qG v25 false (fun k => qPick v30 (.bool true) v33 fun v => k v H) H fun v34 H =>
qG v25 false (fun k => k v34 H) H fun v35 H =>
qG v35 true (fun k => qFa 0 s9 fun v => k v H) H fun v36 H =>
qG v35 true (fun k => qLd v36 H fun v => k v H) H fun v37 H =>
qG v35 true (fun k => qEql X 3 v37 (.int .i64 3) fun v => k v H) H fun v38 H =>
qG v25 false (fun k => qPick v35 v38 (.bool false) fun v => k v H) H fun v39 H =>
qG v25 false (fun k => k v39 H) H fun v40 H =>
qG v40 true (fun k => qFa 2 s7 fun v => k v H) H fun v41 H =>
qG v40 true (fun k => qLd v41 H fun v => k v H) H fun v42 H =>
qG v40 true (fun k => k s2 H) H fun v43 H =>
qG v40 true (fun k => qRes (C 26 [v42, v43] H) k) H fun v44 H =>
qG v25 false (fun k => qPick v40 v44 (.bool false) fun v => k v H) H fun v45 H =>
qPick v25 (.bool true) v45 fun v46 =>
qG v46 false (fun k => qFa 0 s7 fun v => k v H) H fun v48 H =>
qG v46 false (fun k => qLd v48 H fun v => k v H) H fun v49 H =>
qG v46 false (fun k => qEql X 3 v49 (.int .i64 2) fun v => k v H) H fun v50 H =>
qG v46 false (fun k => k v50 H) H fun v51 H =>
qG v51 true (fun k => qFa 0 s9 fun v => k v H) H fun v52 H =>
qG v51 true (fun k => qLd v52 H fun v => k v H) H fun v53 H =>
qG v51 true (fun k => qEql X 3 v53 (.int .i64 4) fun v => k v H) H fun v54 H =>
qG v46 false (fun k => qPick v51 v54 (.bool false) fun v => k v H) H fun v55 H =>
qG v46 false (fun k => k v55 H) H fun v56 H =>
qG v56 true (fun k => qFa 2 s9 fun v => k v H) H fun v57 H =>
qG v56 true (fun k => qLd v57 H fun v => k v H) H fun v58 H =>
qG v56 true (fun k => k s1 H) H fun v59 H =>
qG v56 true (fun k => qRes (C 26 [v58, v59] H) k) H fun v60 H =>
qG v46 false (fun k => qPick v56 v60 (.bool false) fun v => k v H) H fun v61 H =>
qPick v46 (.bool true) v61 fun v62 =>
k [s0, s1, s2, s3, v62, s7, s9] H : R))
noncomputable def r19_2 (C : CallF) (k : KT R) : KT R := fun fr H => opn 7 fr (fun s0 s1 s2 s3 s6 s7 s9 => 
(qLdA 3 s3 H fun v18 =>
qRes (C 42 [v18, s2] H) fun v20 H =>
qExt v20 0 fun v21 =>
qExt v20 1 fun v22 =>
qNew (.cells z71) .ptr H fun v9 H =>
qSt 5 v9 v21 H fun _ H =>
k [s0, s1, s2, s3, s6, s7, v9] H : R))
noncomputable def r19_1 (C : CallF) (k : KT R) : KT R := fun fr H => opn 7 fr (fun s0 s1 s2 s3 s6 s7 s9 => 
(qLdA 3 s3 H fun v12 =>
qRes (C 42 [v12, s1] H) fun v14 H =>
qExt v14 0 fun v15 =>
qExt v14 1 fun v16 =>
qNew (.cells z71) .ptr H fun v7 H =>
qSt 5 v7 v15 H fun _ H =>
k [s0, s1, s2, s3, s6, v7, s9] H : R))
noncomputable def r19_0 (k : KT R) : KT R := fun fr H => opn 7 fr (fun s0 s1 s2 s3 s6 s7 s9 => 
(qBox s0 H fun v3 H =>
k [s0, s1, s2, v3, (.bool false), s7, s9] H : R))
noncomputable def c19 (C : CallF) (l0 : List AV) (H : AH) (k : AV → AH → R) : R := opn 3 l0 (fun x0 x1 x2 => (qFn (fun kr => (r19_0 (r19_1 C (r19_2 C (r19_3 C kr)))))
(fun fr H => k (sel 4 fr) H) [x0, x1, x2, Aes.undef, Aes.undef, Aes.undef, Aes.undef] H : R))
/- refectory/refectoryref01.Name -/
noncomputable def r20_6 (k : KT R) : KT R := fun fr H => opn 5 fr (fun s0 s2 s3 s7 s25 => 
(qLenS s0 fun v27 =>
qGeq X 3 v27 (.int .i64 1) fun v28 =>
qG v28 true (fun k => k s0 H) H fun v30 H =>
qG v28 true (fun k => qLenS v30 fun v => k v H) H fun v31 H =>
qG v28 true (fun k => qLeq X 3 v31 (.int .i64 40) fun v => k v H) H fun v32 H =>
qPick v28 v32 (.bool false) fun v33 =>
k [s0, v33, s3, s7, s25] H : R))
noncomputable def r20_3 (k : KT R) : KT R := fun fr H => opn 5 fr (fun s0 s2 s3 s7 s25 => 
(qAdd X 3 s3 (.int .i64 1) fun v9 =>
k [s0, s2, v9, s7, s25] H : R))
noncomputable def r20_5 (k : KT R) : KT R := fun fr H => opn 5 fr (fun s0 s2 s3 s7 s25 => 
(k [s0, (.bool false), s3, s7, s25] H : R))
noncomputable def r20_4 (C : CallF) (k : KT R) : KT R := fun fr H => opn 5 fr (fun s0 s2 s3 s7 s25 => 
(qIx s0 s3 fun v12 =>
qRes (C 59 [v12] H) fun v13 H =>
qNot v13 fun v14 =>
qG v14 true (fun k => k s3 H) H fun v16 H =>
qG v14 true (fun k => qEql X 3 v16 (.int .i64 0) fun v => k v H) H fun v17 H =>
qG v14 true (fun k => k v17 H) H fun v18 H =>
qG v18 false (fun k => k s0 H) H fun v19 H =>
qG v18 false (fun k => k s3 H) H fun v20 H =>
qG v18 false (fun k => qIx v19 v20 fun v => k v H) H fun v21 H =>
qG v18 false (fun k => qRes (C 60 [v21] H) k) H fun v22 H =>
qG v18 false (fun k => qNot v22 fun v => k v H) H fun v23 H =>
qG v14 true (fun k => qPick v18 (.bool true) v23 fun v => k v H) H fun v24 H =>
qPick v14 v24 (.bool false) fun v25 =>
k [s0, s2, s3, s7, v25] H : R))
noncomputable def r20_2 (k : KT R) : KT R := fun fr H => opn 5 fr (fun s0 s2 s3 s7 s25 => 
(qLenS s0 fun v6 =>
qLss X 3 s3 v6 fun v7 =>
k [s0, s2, s3, v7, s25] H : R))
noncomputable def l20_5 (C : CallF) (k1 : KT R) (kr : KT R) : KT R → KT R := fun k2 => (r20_2 (qCd (sel 3) (fun k5 => k5) (fun _ => k1) (qBl (fun k3 => (r20_4 C (qCd (sel 4) (fun _ => (r20_5 kr)) (fun k4 => k4) k3))) (r20_3 k2))))
noncomputable def r20_1 (k : KT R) : KT R := fun fr H => opn 5 fr (fun s0 s2 s3 s7 s25 => 
(k [s0, s2, (.int .i64 0), s7, s25] H : R))
noncomputable def r20_0 (k : KT R) : KT R := fun fr H => opn 5 fr (fun s0 s2 s3 s7 s25 => 
(k [s0, (.bool false), s3, s7, s25] H : R))
noncomputable def c20 (C : CallF) (l0 : List AV) (H : AH) (k : AV → AH → R) : R := opn 1 l0 (fun x0 => (qFn (fun kr => (r20_0 (r20_1 (qBl (fun k1 => (qLoop (l20_5 C k1 kr))) (r20_6 kr)))))
(fun fr H => k (sel 1 fr) H) [x0, Aes.undef, Aes.undef, Aes.undef, Aes.undef] H : R))
/- refectory/schema.Field -/
noncomputable def r21_8 (k : KT R) : KT R := fun fr H => opn 12 fr (fun s0 s1 s2 s3 s5 s6 s7 s8 s10 s11 s35 s47 => 
(qFa 3 s8 fun v49 =>
qLd v49 H fun v50 =>
qIa 5 v50 s11 fun v52 =>
qLdA 5 v52 H fun v53 =>
qSt 5 s6 v53 H fun _ H =>
k [s0, s1, s2, s3, s5, s6, (.bool true), s8, s10, s11, s35, s47] H : R))
noncomputable def r21_7 (k : KT R) : KT R := fun fr H => opn 12 fr (fun s0 s1 s2 s3 s5 s6 s7 s8 s10 s11 s35 s47 => 
(qBld z52 [] fun v48 =>
qSt 5 s6 v48 H fun _ H =>
k [s0, s1, s2, s3, s5, s6, (.bool false), s8, s10, s11, s35, s47] H : R))
noncomputable def r21_6 (k : KT R) : KT R := fun fr H => opn 12 fr (fun s0 s1 s2 s3 s5 s6 s7 s8 s10 s11 s35 s47 => 
(qNot s10 fun v43 =>
qG v43 false (fun k => k s11 H) H fun v45 H =>
qG v43 false (fun k => qLss X 3 v45 (.int .i64 0) fun v => k v H) H fun v46 H =>
qPick v43 (.bool true) v46 fun v47 =>
k [s0, s1, s2, s3, s5, s6, s7, s8, s10, s11, s35, v47] H : R))
noncomputable def r21_5 (C : CallF) (k : KT R) : KT R := fun fr H => opn 12 fr (fun s0 s1 s2 s3 s5 s6 s7 s8 s10 s11 s35 s47 => 
(qFa 3 s8 fun v38 =>
qLd v38 H fun v39 =>
qRes (C 61 [v39, (.fn (.func 62) [] [s5])] H) fun v41 H =>
k [s0, s1, s2, s3, s5, s6, s7, s8, s10, v41, s35, s47] H : R))
noncomputable def r21_4 (k : KT R) : KT R := fun fr H => opn 12 fr (fun s0 s1 s2 s3 s5 s6 s7 s8 s10 s11 s35 s47 => 
(qBld z27 [(0, 1, (.str [83,116,114,105,110,103])), (1, 1, (.str [33]))] fun v36 =>
qBld z52 [(0, 1, (.str [95,95,116,121,112,101,110,97,109,101])), (2, 2, v36), (4, 1, (.int .i64 1))] fun v37 =>
qSt 5 s6 v37 H fun _ H =>
k [s0, s1, s2, s3, s5, s6, (.bool true), s8, s10, s11, s35, s47] H : R))
noncomputable def r21_3 (k : KT R) : KT R := fun fr H => opn 12 fr (fun s0 s1 s2 s3 s5 s6 s7 s8 s10 s11 s35 s47 => 
(qLd s5 H fun v26 =>
qEql X 9 v26 (.str [95,95,116,121,112,101,110,97,109,101]) fun v27 =>
qG v27 true (fun k => k s10 H) H fun v29 H =>
qG v27 true (fun k => k v29 H) H fun v30 H =>
qG v30 false (fun k => qFa 0 s8 fun v => k v H) H fun v31 H =>
qG v30 false (fun k => qLd v31 H fun v => k v H) H fun v32 H =>
qG v30 false (fun k => qEql X 3 v32 (.int .i64 4) fun v => k v H) H fun v33 H =>
qG v27 true (fun k => qPick v30 (.bool true) v33 fun v => k v H) H fun v34 H =>
qPick v27 v34 (.bool false) fun v35 =>
k [s0, s1, s2, s3, s5, s6, s7, s8, s10, s11, v35, s47] H : R))
noncomputable def r21_2 (k : KT R) : KT R := fun fr H => opn 12 fr (fun s0 s1 s2 s3 s5 s6 s7 s8 s10 s11 s35 s47 => 
(qFa 0 s8 fun v18 =>
qLd v18 H fun v19 =>
qEql X 3 v19 (.int .i64 2) fun v20 =>
qG v20 false (fun k => qFa 0 s8 fun v => k v H) H fun v22 H =>
qG v20 false (fun k => qLd v22 H fun v => k v H) H fun v23 H =>
qG v20 false (fun k => qEql X 3 v23 (.int .i64 3) fun v => k v H) H fun v24 H =>
qPick v20 (.bool true) v24 fun v25 =>
k [s0, s1, s2, s3, s5, s6, s7, s8, v25, s11, s35, s47] H : R))
noncomputable def r21_1 (C : CallF) (k : KT R) : KT R := fun fr H => opn 12 fr (fun s0 s1 s2 s3 s5 s6 s7 s8 s10 s11 s35 s47 => 
(qLdA 3 s3 H fun v13 =>
qRes (C 42 [v13, s1] H) fun v15 H =>
qExt v15 0 fun v16 =>
qExt v15 1 fun v17 =>
qNew (.cells z71) .ptr H fun v8 H =>
qSt 5 v8 v16 H fun _ H =>
k [s0, s1, s2, s3, s5, s6, s7, v8, s10, s11, s35, s47] H : R))
noncomputable def r21_0 (k : KT R) : KT R := fun fr H => opn 12 fr (fun s0 s1 s2 s3 s5 s6 s7 s8 s10 s11 s35 s47 => 
(qBox s0 H fun v3 H =>
qBox s2 H fun v5 H =>
qNew (.cells z52) .ptr H fun v6 H =>
k [s0, s1, s2, v3, v5, v6, (.bool false), s8, s10, s11, s35, s47] H : R))
noncomputable def c21 (C : CallF) (l0 : List AV) (H : AH) (k : AV → AH → R) : R := opn 3 l0 (fun x0 x1 x2 => (qFn (fun kr => (r21_0 (r21_1 C (r21_2 (r21_3 (qCd (sel 10) (fun _ => (r21_4 kr)) (fun k2 => k2) (r21_5 C (r21_6 (qCd (sel 11) (fun _ => (r21_7 kr)) (fun k1 => k1) (r21_8 kr))))))))))
(fun fr H => qPtr (sel 5 fr) (qLdA 5 (sel 5 fr) H fun w0 => k (.tup [w0, (sel 6 fr)]) H)) [x0, x1, x2, Aes.undef, Aes.undef, Aes.undef, Aes.undef, Aes.undef, Aes.undef, Aes.undef, Aes.undef, Aes.undef] H : R))
/- refectory/schema.Kind -/
noncomputable def r22_2 (k : KT R) : KT R := fun fr H => opn 5 fr (fun s0 s1 s2 s4 s5 => 
(qFa 0 s5 fun v13 =>
qLd v13 H fun v14 =>
k [s0, s1, s2, v14, s5] H : R))
noncomputable def r22_1 (C : CallF) (k : KT R) : KT R := fun fr H => opn 5 fr (fun s0 s1 s2 s4 s5 => 
(qLdA 3 s2 H fun v8 =>
qRes (C 42 [v8, s1] H) fun v10 H =>
qExt v10 0 fun v11 =>
qExt v10 1 fun v12 =>
qNew (.cells z71) .ptr H fun v5 H =>
qSt 5 v5 v11 H fun _ H =>
k [s0, s1, s2, s4, v5] H : R))
noncomputable def r22_0 (k : KT R) : KT R := fun fr H => opn 5 fr (fun s0 s1 s2 s4 s5 => 
(qBox s0 H fun v2 H =>
k [s0, s1, v2, (.int .i64 0), s5] H : R))
noncomputable def c22 (C : CallF) (l0 : List AV) (H : AH) (k : AV → AH → R) : R := opn 2 l0 (fun x0 x1 => (qFn (fun kr => (r22_0 (r22_1 C (r22_2 kr))))
(fun fr H => k (sel 3 fr) H) [x0, x1, Aes.undef, Aes.undef, Aes.undef] H : R))
/- refectory/schema.Possible -/
noncomputable def r23_10 (k : KT R) : KT R := fun fr H => opn 13 fr (fun s0 s1 s2 s4 s5 s7 s9 s10 s18 s19 s20 s21 s75 => 
(k [s0, s1, s2, s7, s5, s7, s9, s10, s18, s19, s20, s21, s75] H : R))
noncomputable def r23_9 (k : KT R) : KT R := fun fr H => opn 13 fr (fun s0 s1 s2 s4 s5 s7 s9 s10 s18 s19 s20 s21 s75 => 
(qAdd X 3 s20 (.int .i64 1) fun v81 =>
k [s0, s1, s2, s4, s5, s7, s9, s10, s18, s19, v81, s21, s75] H : R))
noncomputable def r23_8 (k : KT R) : KT R := fun fr H => opn 13 fr (fun s0 s1 s2 s4 s5 s7 s9 s10 s18 s19 s20 s21 s75 => 
(qFa 1 s9 fun v77 =>
qLd v77 H fun v78 =>
qRows z9 1 [(0, v78)] fun v79 =>
qApp 1 16 s7 v79 false none H fun v80 H =>
k [s0, s1, s2, s4, s5, v80, s9, s10, s18, s19, s20, s21, s75] H : R))
noncomputable def r23_7 (C : CallF) (k : KT R) : KT R := fun fr H => opn 13 fr (fun s0 s1 s2 s4 s5 s7 s9 s10 s18 s19 s20 s21 s75 => 
(qG s10 true (fun k => qLdA 3 s2 H fun v => k v H) H fun v58 H =>
qG s10 true (fun k => qFa 1 s9 fun v => k v H) H fun v59 H =>
qG s10 true (fun k => qLd v59 H fun v => k v H) H fun v60 H =>
qG s10 true (fun k => qRes (C 22 [v58, v60] H) k) H fun v61 H =>
qG s10 true (fun k => qEql X 3 v61 (.int .i64 2) fun v => k v H) H fun v62 H =>
qPick s10 v62 (.bool false) fun v63 =>
qG v63 true (fun k => qFa 0 s9 fun v => k v H) H fun v65 H =>
qG v63 true (fun k => qLd v65 H fun v => k v H) H fun v66 H =>
qG v63 true (fun k => qEql X 3 v66 (.int .i64 2) fun v => k v H) H fun v67 H =>
qPick v63 v67 (.bool false) fun v68 =>
qG v68 true (fun k => k s7 H) H fun v70 H =>
qG v68 true (fun k => qFa 1 s9 fun v => k v H) H fun v71 H =>
qG v68 true (fun k => qLd v71 H fun v => k v H) H fun v72 H =>
qG v68 true (fun k => qRes (C 26 [v70, v72] H) k) H fun v73 H =>
qG v68 true (fun k => qNot v73 fun v => k v H) H fun v74 H =>
qPick v68 v74 (.bool false) fun v75 =>
k [s0, s1, s2, s4, s5, s7, s9, s10, s18, s19, s20, s21, v75] H : R))
noncomputable def r23_6 (C : CallF) (k : KT R) : KT R := fun fr H => opn 13 fr (fun s0 s1 s2 s4 s5 s7 s9 s10 s18 s19 s20 s21 s75 => 
(qFa 0 s5 fun v24 =>
qLd v24 H fun v25 =>
qEql X 3 v25 (.int .i64 2) fun v26 =>
qG v26 true (fun k => qFa 1 s9 fun v => k v H) H fun v28 H =>
qG v26 true (fun k => qLd v28 H fun v => k v H) H fun v29 H =>
qG v26 true (fun k => k s1 H) H fun v30 H =>
qG v26 true (fun k => qEql X 9 v29 v30 fun v => k v H) H fun v31 H =>
qPick v26 v31 (.bool false) fun v32 =>
qG v32 false (fun k => qFa 0 s5 fun v => k v H) H fun v34 H =>
qG v32 false (fun k => qLd v34 H fun v => k v H) H fun v35 H =>
qG v32 false (fun k => qEql X 3 v35 (.int .i64 3) fun v => k v H) H fun v36 H =>
qG v32 false (fun k => k v36 H) H fun v37 H =>
qG v37 true (fun k => qFa 2 s9 fun v => k v H) H fun v38 H =>
qG v37 true (fun k => qLd v38 H fun v => k v H) H fun v39 H =>
qG v37 true (fun k => k s1 H) H fun v40 H =>
qG v37 true (fun k => qRes (C 26 [v39, v40] H) k) H fun v41 H =>
qG v32 false (fun k => qPick v37 v41 (.bool false) fun v => k v H) H fun v42 H =>
qPick v32 (.bool true) v42 fun v43 =>
qG v43 false (fun k => qFa 0 s5 fun v => k v H) H fun v45 H =>
qG v43 false (fun k => qLd v45 H fun v => k v H) H fun v46 H =>
qG v43 false (fun k => qEql X 3 v46 (.int .i64 4) fun v => k v H) H fun v47 H =>
qG v43 false (fun k => k v47 H) H fun v48 H =>
qG v48 true (fun k => qFa 2 s5 fun v => k v H) H fun v49 H =>
qG v48 true (fun k => qLd v49 H fun v => k v H) H fun v50 H =>
qG v48 true (fun k => qFa 1 s9 fun v => k v H) H fun v51 H =>
qG v48 true (fun k => qLd v51 H fun v => k v H) H fun v52 H =>
qG v48 true (fun k => qRes (C 26 [v50, v52] H) k) H fun v53 H =>
qG v43 false (fun k => qPick v48 v53 (.bool false) fun v => k v H) H fun v54 H =>
qPick v43 (.bool true) v54 fun v55 =>
k [s0, s1, s2, s4, s5, s7, s9, v55, s18, s19, s20, s21, s75] H : R))
noncomputable def r23_5 (k : KT R) : KT R := fun fr H => opn 13 fr (fun s0 s1 s2 s4 s5 s7 s9 s10 s18 s19 s20 s21 s75 => 
(qIa 5 s18 s20 fun v22 =>
qLdA 5 v22 H fun v23 =>
qNew (.cells z71) .ptr H fun v9 H =>
qSt 5 v9 v23 H fun _ H =>
k [s0, s1, s2, s4, s5, s7, v9, s10, s18, s19, s20, s21, s75] H : R))
noncomputable def r23_4 (k : KT R) : KT R := fun fr H => opn 13 fr (fun s0 s1 s2 s4 s5 s7 s9 s10 s18 s19 s20 s21 s75 => 
(qLss X 3 s20 s19 fun v21 =>
k [s0, s1, s2, s4, s5, s7, s9, s10, s18, s19, s20, v21, s75] H : R))
noncomputable def l23_5 (C : CallF) (k1 : KT R) : KT R → KT R := fun k2 => (r23_4 (qCd (sel 11) (fun k5 => k5) (fun _ => k1) (qBl (fun k3 => (r23_5 (r23_6 C (r23_7 C (qCd (sel 12) (fun k4 => (r23_8 k4)) (fun k4 => k4) k3))))) (r23_9 k2))))
noncomputable def r23_3 (k : KT R) : KT R := fun fr H => opn 13 fr (fun s0 s1 s2 s4 s5 s7 s9 s10 s18 s19 s20 s21 s75 => 
(qFa 2 s2 fun v17 =>
qLd v17 H fun v18 =>
qLenL v18 fun v19 =>
k [s0, s1, s2, s4, s5, s7, s9, s10, v18, v19, (.int .i64 0), s21, s75] H : R))
noncomputable def r23_2 (k : KT R) : KT R := fun fr H => opn 13 fr (fun s0 s1 s2 s4 s5 s7 s9 s10 s18 s19 s20 s21 s75 => 
(k [s0, s1, s2, s4, s5, (.sl [] .nil), s9, s10, s18, s19, s20, s21, s75] H : R))
noncomputable def r23_1 (C : CallF) (k : KT R) : KT R := fun fr H => opn 13 fr (fun s0 s1 s2 s4 s5 s7 s9 s10 s18 s19 s20 s21 s75 => 
(qLdA 3 s2 H fun v12 =>
qRes (C 42 [v12, s1] H) fun v14 H =>
qExt v14 0 fun v15 =>
qExt v14 1 fun v16 =>
qNew (.cells z71) .ptr H fun v5 H =>
qSt 5 v5 v15 H fun _ H =>
k [s0, s1, s2, s4, v5, s7, s9, s10, s18, s19, s20, s21, s75] H : R))
noncomputable def r23_0 (k : KT R) : KT R := fun fr H => opn 13 fr (fun s0 s1 s2 s4 s5 s7 s9 s10 s18 s19 s20 s21 s75 => 
(qBox s0 H fun v2 H =>
k [s0, s1, v2, (.sl [] .nil), s5, s7, s9, s10, s18, s19, s20, s21, s75] H : R))
noncomputable def c23 (C : CallF) (l0 : List AV) (H : AH) (k : AV → AH → R) : R := opn 2 l0 (fun x0 x1 => (qFn (fun kr => (r23_0 (r23_1 C (r23_2 (r23_3 (qBl (fun k1 => (qLoop (l23_5 C k1))) (r23_10 kr)))))))
(fun fr H => k (sel 3 fr) H) [x0, x1, Aes.undef, Aes.undef, Aes.undef, Aes.undef, Aes.undef, Aes.undef, Aes.undef, Aes.undef, Aes.undef, Aes.undef, Aes.undef] H : R))
/- slices.ContainsFunc[[]string,string] -/
noncomputable def r24_1 (C : CallF) (k : KT R) : KT R := fun fr H => opn 3 fr (fun s0 s1 s4 => 
(qRes (C 63 [s0, s1] H) fun v7 H =>
qGeq X 3 v7 (.int .i64 0) fun v8 =>
k [s0, s1, v8] H : R))
noncomputable def r24_0 (k : KT R) : KT R := fun fr H => opn 3 fr (fun s0 s1 s4 => 
(k [s0, s1, (.bool false)] H : R))
noncomputable def c24 (C : CallF) (l0 : List AV) (H : AH) (k : AV → AH → R) : R := opn 2 l0 (fun x0 x1 => (qFn (fun kr => (r24_0 (r24_1 C kr)))
(fun fr H => k (sel 2 fr) H) [x0, x1, Aes.undef] H : R))
/- refectory/schema.Meets$1 -/
noncomputable def r25_1 (C : CallF) (k : KT R) : KT R := fun fr H => opn 3 fr (fun s0 s1 s3 => 
(qLd s1 H fun v4 =>
qRes (C 26 [v4, s0] H) fun v6 H =>
k [s0, s1, v6] H : R))
noncomputable def r25_0 (k : KT R) : KT R := fun fr H => opn 3 fr (fun s0 s1 s3 => 
(k [s0, s1, (.bool false)] H : R))
noncomputable def c25 (C : CallF) (l0 : List AV) (H : AH) (k : AV → AH → R) : R := opn 2 l0 (fun x0 x1 => (qFn (fun kr => (r25_0 (r25_1 C kr)))
(fun fr H => k (sel 2 fr) H) [x0, x1, Aes.undef] H : R))
/- slices.Contains[[]string,string] -/
noncomputable def r26_1 (C : CallF) (k : KT R) : KT R := fun fr H => opn 3 fr (fun s0 s1 s4 => 
(qRes (C 64 [s0, s1] H) fun v7 H =>
qGeq X 3 v7 (.int .i64 0) fun v8 =>
k [s0, s1, v8] H : R))
noncomputable def r26_0 (k : KT R) : KT R := fun fr H => opn 3 fr (fun s0 s1 s4 => 
(k [s0, s1, (.bool false)] H : R))
noncomputable def c26 (C : CallF) (l0 : List AV) (H : AH) (k : AV → AH → R) : R := opn 2 l0 (fun x0 x1 => (qFn (fun kr => (r26_0 (r26_1 C kr)))
(fun fr H => k (sel 2 fr) H) [x0, x1, Aes.undef] H : R))
/- refectory/refectoryref04.All -/
noncomputable def r27_21 (k : KT R) : KT R := fun fr H => opn 16 fr (fun s0 s2 s3 s4 s5 s6 s7 s8 s9 s12 s16 s19 s28 s35 s43 s60 => 
(k [s0, s5, (.int .i64 0), (.int .i64 0), s5, s6, s7, s8, s9, s12, s16, s19, s28, s35, s43, s60] H : R))
noncomputable def r27_17 (k : KT R) : KT R := fun fr H => opn 16 fr (fun s0 s2 s3 s4 s5 s6 s7 s8 s9 s12 s16 s19 s28 s35 s43 s60 => 
(qAdd X 3 s6 (.int .i64 1) fun v42 =>
k [s0, s2, s3, s4, s5, v42, s7, s8, s9, s12, s16, s19, s28, s35, s43, s60] H : R))
noncomputable def r27_20 (k : KT R) : KT R := fun fr H => opn 16 fr (fun s0 s2 s3 s4 s5 s6 s7 s8 s9 s12 s16 s19 s28 s35 s43 s60 => 
(qAdd X 3 s6 (.int .i64 1) fun v62 =>
k [s0, s2, s3, s4, s5, v62, s7, s8, s9, s12, s16, s19, s28, s35, s43, s60] H : R))
noncomputable def r27_19 (k : KT R) : KT R := fun fr H => opn 16 fr (fun s0 s2 s3 s4 s5 s6 s7 s8 s9 s12 s16 s19 s28 s35 s43 s60 => 
(qLenS s0 fun v47 =>
qLss X 3 s6 v47 fun v48 =>
qG v48 true (fun k => k s0 H) H fun v50 H =>
qG v48 true (fun k => k s6 H) H fun v51 H =>
qG v48 true (fun k => qIx v50 v51 fun v => k v H) H fun v52 H =>
qG v48 true (fun k => qNeq X 5 v52 (.int .u8 10) fun v => k v H) H fun v53 H =>
qPick v48 v53 (.bool false) fun v54 =>
qG v54 true (fun k => k s0 H) H fun v56 H =>
qG v54 true (fun k => k s6 H) H fun v57 H =>
qG v54 true (fun k => qIx v56 v57 fun v => k v H) H fun v58 H =>
qG v54 true (fun k => qNeq X 5 v58 (.int .u8 13) fun v => k v H) H fun v59 H =>
qPick v54 v59 (.bool false) fun v60 =>
k [s0, s2, s3, s4, s5, s6, s7, s8, s9, s12, s16, s19, s28, s35, s43, v60] H : R))
noncomputable def l27_10 (k7 : KT R) : KT R → KT R := fun k8 => (r27_19 (qCd (sel 15) (fun k10 => k10) (fun _ => k7) (qBl (fun k9 => (r27_20 k9)) k8)))
noncomputable def r27_11 (k : KT R) : KT R := fun fr H => opn 16 fr (fun s0 s2 s3 s4 s5 s6 s7 s8 s9 s12 s16 s19 s28 s35 s43 s60 => 
(k [s0, s2, s3, s4, s5, s8, s7, s8, s9, s12, s16, s19, s28, s35, s43, s60] H : R))
noncomputable def r27_10 (k : KT R) : KT R := fun fr H => opn 16 fr (fun s0 s2 s3 s4 s5 s6 s7 s8 s9 s12 s16 s19 s28 s35 s43 s60 => 
(qLdA 3 s7 H fun v31 =>
qRows z74 1 [(0, v31)] fun v32 =>
qApp 3 32 s5 v32 false none H fun v33 H =>
k [s0, s2, s3, s4, v33, s6, s7, s8, s9, s12, s16, s19, s28, s35, s43, s60] H : R))
noncomputable def r27_9 (k : KT R) : KT R := fun fr H => opn 16 fr (fun s0 s2 s3 s4 s5 s6 s7 s8 s9 s12 s16 s19 s28 s35 s43 s60 => 
(k [s0, (.sl [] .nil), s6, (.int .i64 2), s5, s6, s7, s8, s9, s12, s16, s19, s28, s35, s43, s60] H : R))
noncomputable def r27_8 (k : KT R) : KT R := fun fr H => opn 16 fr (fun s0 s2 s3 s4 s5 s6 s7 s8 s9 s12 s16 s19 s28 s35 s43 s60 => 
(qNot s9 fun v28 =>
k [s0, s2, s3, s4, s5, s6, s7, s8, s9, s12, s16, s19, v28, s35, s43, s60] H : R))
noncomputable def r27_7 (C : CallF) (k : KT R) : KT R := fun fr H => opn 16 fr (fun s0 s2 s3 s4 s5 s6 s7 s8 s9 s12 s16 s19 s28 s35 s43 s60 => 
(qRes (C 65 [s0, s6] H) fun v23 H =>
qExt v23 0 fun v24 =>
qExt v23 1 fun v25 =>
qExt v23 2 fun v26 =>
qNew (.cells z74) .ptr H fun v7 H =>
qSt 3 v7 v24 H fun _ H =>
k [s0, s2, s3, s4, s5, s6, v7, v25, v26, s12, s16, s19, s28, s35, s43, s60] H : R))
noncomputable def r27_18 (k : KT R) : KT R := fun fr H => opn 16 fr (fun s0 s2 s3 s4 s5 s6 s7 s8 s9 s12 s16 s19 s28 s35 s43 s60 => 
(qEql X 5 s19 (.int .u8 35) fun v44 =>
k [s0, s2, s3, s4, s5, s6, s7, s8, s9, s12, s16, s19, s28, s35, v44, s60] H : R))
noncomputable def r27_16 (k : KT R) : KT R := fun fr H => opn 16 fr (fun s0 s2 s3 s4 s5 s6 s7 s8 s9 s12 s16 s19 s28 s35 s43 s60 => 
(qEql X 5 s19 (.int .u8 44) fun v40 =>
k [s0, s2, s3, s4, s5, s6, s7, s8, s9, s12, s16, s19, s28, v40, s43, s60] H : R))
noncomputable def r27_15 (k : KT R) : KT R := fun fr H => opn 16 fr (fun s0 s2 s3 s4 s5 s6 s7 s8 s9 s12 s16 s19 s28 s35 s43 s60 => 
(qEql X 5 s19 (.int .u8 13) fun v39 =>
k [s0, s2, s3, s4, s5, s6, s7, s8, s9, s12, s16, s19, s28, v39, s43, s60] H : R))
noncomputable def r27_14 (k : KT R) : KT R := fun fr H => opn 16 fr (fun s0 s2 s3 s4 s5 s6 s7 s8 s9 s12 s16 s19 s28 s35 s43 s60 => 
(qEql X 5 s19 (.int .u8 10) fun v38 =>
k [s0, s2, s3, s4, s5, s6, s7, s8, s9, s12, s16, s19, s28, v38, s43, s60] H : R))
noncomputable def r27_13 (k : KT R) : KT R := fun fr H => opn 16 fr (fun s0 s2 s3 s4 s5 s6 s7 s8 s9 s12 s16 s19 s28 s35 s43 s60 => 
(qEql X 5 s19 (.int .u8 9) fun v37 =>
k [s0, s2, s3, s4, s5, s6, s7, s8, s9, s12, s16, s19, s28, v37, s43, s60] H : R))
noncomputable def r27_12 (k : KT R) : KT R := fun fr H => opn 16 fr (fun s0 s2 s3 s4 s5 s6 s7 s8 s9 s12 s16 s19 s28 s35 s43 s60 => 
(qEql X 5 s19 (.int .u8 32) fun v36 =>
k [s0, s2, s3, s4, s5, s6, s7, s8, s9, s12, s16, s19, s28, v36, s43, s60] H : R))
noncomputable def r27_6 (k : KT R) : KT R := fun fr H => opn 16 fr (fun s0 s2 s3 s4 s5 s6 s7 s8 s9 s12 s16 s19 s28 s35 s43 s60 => 
(qIx s0 s6 fun v19 =>
k [s0, s2, s3, s4, s5, s6, s7, s8, s9, s12, s16, v19, s28, s35, s43, s60] H : R))
noncomputable def r27_5 (k : KT R) : KT R := fun fr H => opn 16 fr (fun s0 s2 s3 s4 s5 s6 s7 s8 s9 s12 s16 s19 s28 s35 s43 s60 => 
(qLenS s0 fun v15 =>
qLss X 3 s6 v15 fun v16 =>
k [s0, s2, s3, s4, s5, s6, s7, s8, s9, s12, v16, s19, s28, s35, s43, s60] H : R))
noncomputable def l27_16 (C : CallF) (k1 : KT R) (kr : KT R) : KT R → KT R := fun k2 => (r27_5 (qCd (sel 10) (fun k16 => k16) (fun _ => k1) (qBl (fun k3 => (r27_6 (qBl (fun k4 => (r27_12 (qCd (sel 13) (fun k12 => k12) (fun k12 => (r27_13 (qCd (sel 13) (fun k13 => k13) (fun k13 => (r27_14 (qCd (sel 13) (fun k14 => k14) (fun k14 => (r27_15 (qCd (sel 13) (fun k15 => k15) (fun k15 => (r27_16 k15)) k14))) k13))) k12))) (qCd (sel 13) (fun k5 => (r27_17 k5)) (fun k5 => (r27_18 (qCd (sel 14) (fun k6 => (qBl (fun k7 => (qLoop (l27_10 k7))) k6)) (fun k6 => (r27_7 C (r27_8 (qCd (sel 12) (fun _ => (r27_9 kr)) (fun k11 => k11) (r27_10 (r27_11 k6)))))) k5))) k4)))) k3))) k2)))
noncomputable def r27_4 (k : KT R) : KT R := fun fr H => opn 16 fr (fun s0 s2 s3 s4 s5 s6 s7 s8 s9 s12 s16 s19 s28 s35 s43 s60 => 
(k [s0, s2, s3, s4, s5, (.int .i64 0), s7, s8, s9, s12, s16, s19, s28, s35, s43, s60] H : R))
noncomputable def r27_3 (k : KT R) : KT R := fun fr H => opn 16 fr (fun s0 s2 s3 s4 s5 s6 s7 s8 s9 s12 s16 s19 s28 s35 s43 s60 => 
(k [s0, s2, s3, s4, (.sl [] .nil), s6, s7, s8, s9, s12, s16, s19, s28, s35, s43, s60] H : R))
noncomputable def r27_2 (k : KT R) : KT R := fun fr H => opn 16 fr (fun s0 s2 s3 s4 s5 s6 s7 s8 s9 s12 s16 s19 s28 s35 s43 s60 => 
(k [s0, (.sl [] .nil), (.int .i64 0), (.int .i64 3), s5, s6, s7, s8, s9, s12, s16, s19, s28, s35, s43, s60] H : R))
noncomputable def r27_1 (k : KT R) : KT R := fun fr H => opn 16 fr (fun s0 s2 s3 s4 s5 s6 s7 s8 s9 s12 s16 s19 s28 s35 s43 s60 => 
(qLenS s0 fun v11 =>
qGtr X 3 v11 (.int .i64 8000) fun v12 =>
k [s0, s2, s3, s4, s5, s6, s7, s8, s9, v12, s16, s19, s28, s35, s43, s60] H : R))
noncomputable def r27_0 (k : KT R) : KT R := fun fr H => opn 16 fr (fun s0 s2 s3 s4 s5 s6 s7 s8 s9 s12 s16 s19 s28 s35 s43 s60 => 
(k [s0, (.sl [] .nil), (.int .i64 0), (.int .i64 0), s5, s6, s7, s8, s9, s12, s16, s19, s28, s35, s43, s60] H : R))
noncomputable def c27 (C : CallF) (l0 : List AV) (H : AH) (k : AV → AH → R) : R := opn 1 l0 (fun x0 => (qFn (fun kr => (r27_0 (r27_1 (qCd (sel 9) (fun _ => (r27_2 kr)) (fun k17 => k17) (r27_3 (r27_4 (qBl (fun k1 => (qLoop (l27_16 C k1 kr))) (r27_21 kr))))))))
(fun fr H => k (.tup [(sel 1 fr), (sel 2 fr), (sel 3 fr)]) H) [x0, Aes.undef, Aes.undef, Aes.undef, Aes.undef, Aes.undef, Aes.undef, Aes.undef, Aes.undef, Aes.undef, Aes.undef, Aes.undef, Aes.undef, Aes.undef, Aes.undef, Aes.undef] H : R))
/- refectory/refectoryref08.said -/
noncomputable def r28_1 (k : KT R) : KT R := fun fr H => opn 2 fr (fun s0 s4 => 
(qNc s0 fun v6 =>
qFa 1 v6 fun v7 =>
qLd v7 H fun v8 =>
qAdd X 3 v8 (.int .i64 1) fun v9 =>
qNc s0 fun v10 =>
qFa 1 v10 fun v11 =>
qSt 1 v11 v9 H fun _ H =>
k [s0, s4] H : R))
noncomputable def r28_0 (C : CallF) (k : KT R) : KT R := fun fr H => opn 2 fr (fun s0 s4 => 
(qRes (C 66 [s0] H) fun v3 H =>
qEql X 3 v3 (.int .i64 4) fun v4 =>
k [s0, v4] H : R))
noncomputable def c28 (C : CallF) (l0 : List AV) (H : AH) (k : AV → AH → R) : R := opn 1 l0 (fun x0 => (qFn (fun kr => (r28_0 C (qCd (sel 1) (fun k1 => (r28_1 k1)) (fun k1 => k1) kr)))
(fun fr H => k (.tup []) H) [x0, Aes.undef] H : R))
/- (*refectory/refectoryref05.P).Take -/
noncomputable def r29_4 (k : KT R) : KT R := fun fr H => opn 6 fr (fun s0 s1 s2 s6 s7 s12 => 
(k [s0, s1, s2, s7, s7, s12] H : R))
noncomputable def r29_3 (k : KT R) : KT R := fun fr H => opn 6 fr (fun s0 s1 s2 s6 s7 s12 => 
(qNc s0 fun v14 =>
qFa 1 v14 fun v15 =>
qLd v15 H fun v16 =>
qAdd X 3 v16 (.int .i64 1) fun v17 =>
qNc s0 fun v18 =>
qFa 1 v18 fun v19 =>
qSt 1 v19 v17 H fun _ H =>
k [s0, s1, s2, s6, s7, s12] H : R))
noncomputable def r29_2 (k : KT R) : KT R := fun fr H => opn 6 fr (fun s0 s1 s2 s6 s7 s12 => 
(k [s0, s1, s2, s6, s7, s7] H : R))
noncomputable def r29_1 (C : CallF) (k : KT R) : KT R := fun fr H => opn 6 fr (fun s0 s1 s2 s6 s7 s12 => 
(qRes (C 67 [s0, s1, s2] H) fun v11 H =>
k [s0, s1, s2, s6, v11, s12] H : R))
noncomputable def r29_0 (k : KT R) : KT R := fun fr H => opn 6 fr (fun s0 s1 s2 s6 s7 s12 => 
(k [s0, s1, s2, (.bool false), s7, s12] H : R))
noncomputable def c29 (C : CallF) (l0 : List AV) (H : AH) (k : AV → AH → R) : R := opn 3 l0 (fun x0 x1 x2 => (qFn (fun kr => (r29_0 (r29_1 C (r29_2 (qCd (sel 5) (fun k1 => (r29_3 k1)) (fun k1 => k1) (r29_4 kr))))))
(fun fr H => k (sel 3 fr) H) [x0, x1, x2, Aes.undef, Aes.undef, Aes.undef] H : R))
/- refectory/refectoryref08.roots -/
noncomputable def r30_8 (C : CallF) (k : KT R) : KT R := fun fr H => opn 4 fr (fun s0 s1 s8 s19 => 
(qRes (C 68 [s0, (.str [125])] H) fun v28 H =>
k [s0, s1, s8, s19] H : R))
noncomputable def r30_7 (C : CallF) (k : KT R) : KT R := fun fr H => opn 4 fr (fun s0 s1 s8 s19 => 
(qRes (C 70 [s0] H) fun v24 H =>
qNc s1 fun v25 =>
qFa 1 v25 fun v26 =>
qSt 1 v26 v24 H fun _ H =>
k [s0, s1, s8, s19] H : R))
noncomputable def r30_6 (C : CallF) (k : KT R) : KT R := fun fr H => opn 4 fr (fun s0 s1 s8 s19 => 
(qRes (C 68 [s0, (.str [58])] H) fun v21 H =>
k [s0, s1, s8, s19] H : R))
noncomputable def r30_5 (C : CallF) (k : KT R) : KT R := fun fr H => opn 4 fr (fun s0 s1 s8 s19 => 
(qRes (C 29 [s0, (.int .i64 1), (.str [109,117,116,97,116,105,111,110])] H) fun v19 H =>
k [s0, s1, s8, v19] H : R))
noncomputable def r30_4 (C : CallF) (k : KT R) : KT R := fun fr H => opn 4 fr (fun s0 s1 s8 s19 => 
(qRes (C 70 [s0] H) fun v15 H =>
qNc s1 fun v16 =>
qFa 0 v16 fun v17 =>
qSt 1 v17 v15 H fun _ H =>
k [s0, s1, s8, s19] H : R))
noncomputable def r30_3 (C : CallF) (k : KT R) : KT R := fun fr H => opn 4 fr (fun s0 s1 s8 s19 => 
(qRes (C 68 [s0, (.str [58])] H) fun v12 H =>
k [s0, s1, s8, s19] H : R))
noncomputable def r30_2 (C : CallF) (k : KT R) : KT R := fun fr H => opn 4 fr (fun s0 s1 s8 s19 => 
(qRes (C 69 [s0] H) fun v10 H =>
k [s0, s1, s8, s19] H : R))
noncomputable def r30_1 (C : CallF) (k : KT R) : KT R := fun fr H => opn 4 fr (fun s0 s1 s8 s19 => 
(qRes (C 29 [s0, (.int .i64 1), (.str [113,117,101,114,121])] H) fun v7 H =>
qNot v7 fun v8 =>
k [s0, s1, v8, s19] H : R))
noncomputable def r30_0 (C : CallF) (k : KT R) : KT R := fun fr H => opn 4 fr (fun s0 s1 s8 s19 => 
(qRes (C 68 [s0, (.str [123])] H) fun v5 H =>
k [s0, s1, s8, s19] H : R))
noncomputable def c30 (C : CallF) (l0 : List AV) (H : AH) (k : AV → AH → R) : R := opn 2 l0 (fun x0 x1 => (qFn (fun kr => (r30_0 C (r30_1 C (qCd (sel 2) (fun k2 => (r30_2 C k2)) (fun k2 => k2) (r30_3 C (r30_4 C (r30_5 C (qCd (sel 3) (fun k1 => (r30_6 C (r30_7 C k1))) (fun k1 => k1) (r30_8 C kr)))))))))
(fun fr H => k (.tup []) H) [x0, x1, Aes.undef, Aes.undef] H : R))
/- refectory/refectoryref08.def -/
noncomputable def r31_23 (k : KT R) : KT R := fun fr H => opn 10 fr (fun s0 s2 s3 s7 s14 s22 s29 s39 s51 s61 => 
(qLdA 5 s3 H fun v71 =>
qSt 5 s2 v71 H fun _ H =>
k [s0, s2, s3, s7, s14, s22, s29, s39, s51, s61] H : R))
noncomputable def r31_4 (C : CallF) (k : KT R) : KT R := fun fr H => opn 10 fr (fun s0 s2 s3 s7 s14 s22 s29 s39 s51 s61 => 
(qRes (C 70 [s0] H) fun v11 H =>
qFa 0 s3 fun v12 =>
qSt 1 v12 (.int .i64 1) H fun _ H =>
qFa 1 s3 fun v13 =>
qSt 1 v13 v11 H fun _ H =>
k [s0, s2, s3, s7, s14, s22, s29, s39, s51, s61] H : R))
noncomputable def r31_9 (C : CallF) (k : KT R) : KT R := fun fr H => opn 10 fr (fun s0 s2 s3 s7 s14 s22 s29 s39 s51 s61 => 
(qRes (C 72 [s0] H) fun v27 H =>
qFa 3 s3 fun v28 =>
qSt 1 v28 v27 H fun _ H =>
k [s0, s2, s3, s7, s14, s22, s29, s39, s51, s61] H : R))
noncomputable def r31_8 (C : CallF) (k : KT R) : KT R := fun fr H => opn 10 fr (fun s0 s2 s3 s7 s14 s22 s29 s39 s51 s61 => 
(qRes (C 71 [s0, (.str [38])] H) fun v24 H =>
qFa 2 s3 fun v25 =>
qSt 1 v25 v24 H fun _ H =>
k [s0, s2, s3, s7, s14, s22, s29, s39, s51, s61] H : R))
noncomputable def r31_7 (C : CallF) (k : KT R) : KT R := fun fr H => opn 10 fr (fun s0 s2 s3 s7 s14 s22 s29 s39 s51 s61 => 
(qRes (C 29 [s0, (.int .i64 1), (.str [105,109,112,108,101,109,101,110,116,115])] H) fun v22 H =>
k [s0, s2, s3, s7, s14, v22, s29, s39, s51, s61] H : R))
noncomputable def r31_6 (C : CallF) (k : KT R) : KT R := fun fr H => opn 10 fr (fun s0 s2 s3 s7 s14 s22 s29 s39 s51 s61 => 
(qRes (C 70 [s0] H) fun v18 H =>
qFa 0 s3 fun v19 =>
qSt 1 v19 (.int .i64 2) H fun _ H =>
qFa 1 s3 fun v20 =>
qSt 1 v20 v18 H fun _ H =>
k [s0, s2, s3, s7, s14, s22, s29, s39, s51, s61] H : R))
noncomputable def r31_12 (C : CallF) (k : KT R) : KT R := fun fr H => opn 10 fr (fun s0 s2 s3 s7 s14 s22 s29 s39 s51 s61 => 
(qRes (C 72 [s0] H) fun v37 H =>
qFa 3 s3 fun v38 =>
qSt 1 v38 v37 H fun _ H =>
k [s0, s2, s3, s7, s14, s22, s29, s39, s51, s61] H : R))
noncomputable def r31_11 (C : CallF) (k : KT R) : KT R := fun fr H => opn 10 fr (fun s0 s2 s3 s7 s14 s22 s29 s39 s51 s61 => 
(qRes (C 70 [s0] H) fun v33 H =>
qFa 0 s3 fun v34 =>
qSt 1 v34 (.int .i64 3) H fun _ H =>
qFa 1 s3 fun v35 =>
qSt 1 v35 v33 H fun _ H =>
k [s0, s2, s3, s7, s14, s22, s29, s39, s51, s61] H : R))
noncomputable def r31_16 (C : CallF) (k : KT R) : KT R := fun fr H => opn 10 fr (fun s0 s2 s3 s7 s14 s22 s29 s39 s51 s61 => 
(qRes (C 71 [s0, (.str [124])] H) fun v49 H =>
qFa 2 s3 fun v50 =>
qSt 1 v50 v49 H fun _ H =>
k [s0, s2, s3, s7, s14, s22, s29, s39, s51, s61] H : R))
noncomputable def r31_15 (C : CallF) (k : KT R) : KT R := fun fr H => opn 10 fr (fun s0 s2 s3 s7 s14 s22 s29 s39 s51 s61 => 
(qRes (C 68 [s0, (.str [61])] H) fun v47 H =>
k [s0, s2, s3, s7, s14, s22, s29, s39, s51, s61] H : R))
noncomputable def r31_14 (C : CallF) (k : KT R) : KT R := fun fr H => opn 10 fr (fun s0 s2 s3 s7 s14 s22 s29 s39 s51 s61 => 
(qRes (C 70 [s0] H) fun v43 H =>
qFa 0 s3 fun v44 =>
qSt 1 v44 (.int .i64 4) H fun _ H =>
qFa 1 s3 fun v45 =>
qSt 1 v45 v43 H fun _ H =>
k [s0, s2, s3, s7, s14, s22, s29, s39, s51, s61] H : R))
noncomputable def r31_19 (C : CallF) (k : KT R) : KT R := fun fr H => opn 10 fr (fun s0 s2 s3 s7 s14 s22 s29 s39 s51 s61 => 
(qRes (C 73 [s0] H) fun v59 H =>
qFa 2 s3 fun v60 =>
qSt 1 v60 v59 H fun _ H =>
k [s0, s2, s3, s7, s14, s22, s29, s39, s51, s61] H : R))
noncomputable def r31_18 (C : CallF) (k : KT R) : KT R := fun fr H => opn 10 fr (fun s0 s2 s3 s7 s14 s22 s29 s39 s51 s61 => 
(qRes (C 70 [s0] H) fun v55 H =>
qFa 0 s3 fun v56 =>
qSt 1 v56 (.int .i64 5) H fun _ H =>
qFa 1 s3 fun v57 =>
qSt 1 v57 v55 H fun _ H =>
k [s0, s2, s3, s7, s14, s22, s29, s39, s51, s61] H : R))
noncomputable def r31_22 (C : CallF) (k : KT R) : KT R := fun fr H => opn 10 fr (fun s0 s2 s3 s7 s14 s22 s29 s39 s51 s61 => 
(qRes (C 74 [s0, (.str [123]), (.str [125])] H) fun v69 H =>
qFa 4 s3 fun v70 =>
qSt 1 v70 v69 H fun _ H =>
k [s0, s2, s3, s7, s14, s22, s29, s39, s51, s61] H : R))
noncomputable def r31_21 (C : CallF) (k : KT R) : KT R := fun fr H => opn 10 fr (fun s0 s2 s3 s7 s14 s22 s29 s39 s51 s61 => 
(qRes (C 70 [s0] H) fun v65 H =>
qFa 0 s3 fun v66 =>
qSt 1 v66 (.int .i64 6) H fun _ H =>
qFa 1 s3 fun v67 =>
qSt 1 v67 v65 H fun _ H =>
k [s0, s2, s3, s7, s14, s22, s29, s39, s51, s61] H : R))
noncomputable def r31_2 (C : CallF) (k : KT R) : KT R := fun fr H => opn 10 fr (fun s0 s2 s3 s7 s14 s22 s29 s39 s51 s61 => 
(qRes (C 69 [s0] H) fun v6 H =>
k [s0, s2, s3, s7, s14, s22, s29, s39, s51, s61] H : R))
noncomputable def r31_20 (C : CallF) (k : KT R) : KT R := fun fr H => opn 10 fr (fun s0 s2 s3 s7 s14 s22 s29 s39 s51 s61 => 
(qRes (C 29 [s0, (.int .i64 1), (.str [105,110,112,117,116])] H) fun v63 H =>
k [s0, s2, s3, s7, s14, s22, s29, s39, s51, v63] H : R))
noncomputable def r31_17 (C : CallF) (k : KT R) : KT R := fun fr H => opn 10 fr (fun s0 s2 s3 s7 s14 s22 s29 s39 s51 s61 => 
(qRes (C 29 [s0, (.int .i64 1), (.str [101,110,117,109])] H) fun v53 H =>
k [s0, s2, s3, s7, s14, s22, s29, s39, v53, s61] H : R))
noncomputable def r31_13 (C : CallF) (k : KT R) : KT R := fun fr H => opn 10 fr (fun s0 s2 s3 s7 s14 s22 s29 s39 s51 s61 => 
(qRes (C 29 [s0, (.int .i64 1), (.str [117,110,105,111,110])] H) fun v41 H =>
k [s0, s2, s3, s7, s14, s22, s29, v41, s51, s61] H : R))
noncomputable def r31_10 (C : CallF) (k : KT R) : KT R := fun fr H => opn 10 fr (fun s0 s2 s3 s7 s14 s22 s29 s39 s51 s61 => 
(qRes (C 29 [s0, (.int .i64 1), (.str [105,110,116,101,114,102,97,99,101])] H) fun v31 H =>
k [s0, s2, s3, s7, s14, s22, v31, s39, s51, s61] H : R))
noncomputable def r31_5 (C : CallF) (k : KT R) : KT R := fun fr H => opn 10 fr (fun s0 s2 s3 s7 s14 s22 s29 s39 s51 s61 => 
(qRes (C 29 [s0, (.int .i64 1), (.str [116,121,112,101])] H) fun v16 H =>
k [s0, s2, s3, s7, v16, s22, s29, s39, s51, s61] H : R))
noncomputable def r31_3 (C : CallF) (k : KT R) : KT R := fun fr H => opn 10 fr (fun s0 s2 s3 s7 s14 s22 s29 s39 s51 s61 => 
(qRes (C 29 [s0, (.int .i64 1), (.str [115,99,97,108,97,114])] H) fun v9 H =>
k [s0, s2, s3, v9, s14, s22, s29, s39, s51, s61] H : R))
noncomputable def r31_1 (k : KT R) : KT R := fun fr H => opn 10 fr (fun s0 s2 s3 s7 s14 s22 s29 s39 s51 s61 => 
(qBld z71 [] fun v4 =>
qNew (.cells z71) .ptr H fun v3 H =>
qSt 5 v3 v4 H fun _ H =>
k [s0, s2, v3, s7, s14, s22, s29, s39, s51, s61] H : R))
noncomputable def r31_0 (k : KT R) : KT R := fun fr H => opn 10 fr (fun s0 s2 s3 s7 s14 s22 s29 s39 s51 s61 => 
(qNew (.cells z71) .ptr H fun v2 H =>
k [s0, v2, s3, s7, s14, s22, s29, s39, s51, s61] H : R))
noncomputable def c31 (C : CallF) (l0 : List AV) (H : AH) (k : AV → AH → R) : R := opn 1 l0 (fun x0 => (qFn (fun kr => (r31_0 (r31_1 (qBl (fun k1 => (r31_3 C (qCd (sel 3) (fun k2 => (r31_4 C k2)) (fun k2 => (r31_5 C (qCd (sel 4) (fun k3 => (r31_6 C (r31_7 C (qCd (sel 5) (fun k4 => (r31_8 C k4)) (fun k4 => k4) (r31_9 C k3))))) (fun k3 => (r31_10 C (qCd (sel 6) (fun k5 => (r31_11 C (r31_12 C k5))) (fun k5 => (r31_13 C (qCd (sel 7) (fun k6 => (r31_14 C (r31_15 C (r31_16 C k6)))) (fun k6 => (r31_17 C (qCd (sel 8) (fun k7 => (r31_18 C (r31_19 C k7))) (fun k7 => (r31_20 C (qCd (sel 9) (fun k8 => (r31_21 C (r31_22 C k8))) (fun k8 => (r31_2 C k8)) k7))) k6))) k5))) k3))) k2))) k1))) (r31_23 kr)))))
(fun fr H => qPtr (sel 1 fr) (qLdA 5 (sel 1 fr) H fun w0 => k w0 H)) [x0, Aes.undef, Aes.undef, Aes.undef, Aes.undef, Aes.undef, Aes.undef, Aes.undef, Aes.undef, Aes.undef] H : R))
/- refectory/refectoryref09.Kind -/
noncomputable def r35_2 (k : KT R) : KT R := fun fr H => opn 5 fr (fun s0 s1 s2 s4 s5 => 
(qFa 0 s5 fun v13 =>
qLd v13 H fun v14 =>
k [s0, s1, s2, v14, s5] H : R))
noncomputable def r35_1 (C : CallF) (k : KT R) : KT R := fun fr H => opn 5 fr (fun s0 s1 s2 s4 s5 => 
(qLdA 3 s2 H fun v8 =>
qRes (C 43 [v8, s1] H) fun v10 H =>
qExt v10 0 fun v11 =>
qExt v10 1 fun v12 =>
qNew (.cells z71) .ptr H fun v5 H =>
qSt 5 v5 v11 H fun _ H =>
k [s0, s1, s2, s4, v5] H : R))
noncomputable def r35_0 (k : KT R) : KT R := fun fr H => opn 5 fr (fun s0 s1 s2 s4 s5 => 
(qBox s0 H fun v2 H =>
k [s0, s1, v2, (.int .i64 0), s5] H : R))
noncomputable def c35 (C : CallF) (l0 : List AV) (H : AH) (k : AV → AH → R) : R := opn 2 l0 (fun x0 x1 => (qFn (fun kr => (r35_0 (r35_1 C (r35_2 kr))))
(fun fr H => k (sel 3 fr) H) [x0, x1, Aes.undef, Aes.undef, Aes.undef] H : R))
/- refectory/schema.Find -/
noncomputable def r42_6 (k : KT R) : KT R := fun fr H => opn 9 fr (fun s0 s1 s2 s3 s4 s5 s6 s11 s19 => 
(qBld z71 [] fun v24 =>
qSt 5 s4 v24 H fun _ H =>
k [s0, s1, s2, s3, s4, (.bool false), s6, s11, s19] H : R))
noncomputable def r42_3 (k : KT R) : KT R := fun fr H => opn 9 fr (fun s0 s1 s2 s3 s4 s5 s6 s11 s19 => 
(qFa 2 s2 fun v14 =>
qLd v14 H fun v15 =>
qIa 5 v15 s6 fun v17 =>
qLdA 5 v17 H fun v18 =>
qSt 5 s4 v18 H fun _ H =>
k [s0, s1, s2, s3, s4, (.bool true), s6, s11, s19] H : R))
noncomputable def r42_5 (k : KT R) : KT R := fun fr H => opn 9 fr (fun s0 s1 s2 s3 s4 s5 s6 s11 s19 => 
(qLd s3 H fun v22 =>
qBld z71 [(0, 1, (.int .i64 1)), (1, 1, v22)] fun v23 =>
qSt 5 s4 v23 H fun _ H =>
k [s0, s1, s2, s3, s4, (.bool true), s6, s11, s19] H : R))
noncomputable def r42_4 (C : CallF) (k : KT R) : KT R := fun fr H => opn 9 fr (fun s0 s1 s2 s3 s4 s5 s6 s11 s19 => 
(qLd s3 H fun v20 =>
qRes (C 86 [v20] H) fun v21 H =>
k [s0, s1, s2, s3, s4, s5, s6, s11, v21] H : R))
noncomputable def r42_2 (k : KT R) : KT R := fun fr H => opn 9 fr (fun s0 s1 s2 s3 s4 s5 s6 s11 s19 => 
(qGeq X 3 s6 (.int .i64 0) fun v13 =>
k [s0, s1, s2, s3, s4, s5, s6, v13, s19] H : R))
noncomputable def r42_1 (C : CallF) (k : KT R) : KT R := fun fr H => opn 9 fr (fun s0 s1 s2 s3 s4 s5 s6 s11 s19 => 
(qFa 2 s2 fun v7 =>
qLd v7 H fun v8 =>
qRes (C 84 [v8, (.fn (.func 85) [] [s3])] H) fun v10 H =>
k [s0, s1, s2, s3, s4, s5, v10, s11, s19] H : R))
noncomputable def r42_0 (k : KT R) : KT R := fun fr H => opn 9 fr (fun s0 s1 s2 s3 s4 s5 s6 s11 s19 => 
(qBox s0 H fun v2 H =>
qBox s1 H fun v3 H =>
qNew (.cells z71) .ptr H fun v4 H =>
k [s0, s1, v2, v3, v4, (.bool false), s6, s11, s19] H : R))
noncomputable def c42 (C : CallF) (l0 : List AV) (H : AH) (k : AV → AH → R) : R := opn 2 l0 (fun x0 x1 => (qFn (fun kr => (r42_0 (r42_1 C (qBl (fun k1 => (r42_2 (qCd (sel 7) (fun _ => (r42_3 kr)) (fun k2 => (r42_4 C (qCd (sel 8) (fun _ => (r42_5 kr)) (fun k3 => k3) k2))) k1))) (r42_6 kr)))))
(fun fr H => qPtr (sel 4 fr) (qLdA 5 (sel 4 fr) H fun w0 => k (.tup [w0, (sel 5 fr)]) H)) [x0, x1, Aes.undef, Aes.undef, Aes.undef, Aes.undef, Aes.undef, Aes.undef, Aes.undef] H : R))
/- refectory/refectoryref09.Find -/
noncomputable def r43_8 (k : KT R) : KT R := fun fr H => opn 9 fr (fun s0 s1 s2 s4 s5 s6 s11 s21 s28 => 
(qBld z71 [] fun v31 =>
qSt 5 s4 v31 H fun _ H =>
k [s0, s1, s2, s4, (.bool false), s6, s11, s21, s28] H : R))
noncomputable def r43_7 (k : KT R) : KT R := fun fr H => opn 9 fr (fun s0 s1 s2 s4 s5 s6 s11 s21 s28 => 
(qBld z71 [(0, 1, (.int .i64 1)), (1, 1, s1)] fun v30 =>
qSt 5 s4 v30 H fun _ H =>
k [s0, s1, s2, s4, (.bool true), s6, s11, s21, s28] H : R))
noncomputable def r43_6 (C : CallF) (k : KT R) : KT R := fun fr H => opn 9 fr (fun s0 s1 s2 s4 s5 s6 s11 s21 s28 => 
(qRes (C 78 [s1] H) fun v28 H =>
k [s0, s1, s2, s4, s5, s6, s11, s21, v28] H : R))
noncomputable def r43_3 (k : KT R) : KT R := fun fr H => opn 9 fr (fun s0 s1 s2 s4 s5 s6 s11 s21 s28 => 
(qAdd X 3 s6 (.int .i64 1) fun v13 =>
k [s0, s1, s2, s4, s5, v13, s11, s21, s28] H : R))
noncomputable def r43_5 (k : KT R) : KT R := fun fr H => opn 9 fr (fun s0 s1 s2 s4 s5 s6 s11 s21 s28 => 
(qFa 2 s2 fun v22 =>
qLd v22 H fun v23 =>
qIa 5 v23 s6 fun v25 =>
qLdA 5 v25 H fun v26 =>
qSt 5 s4 v26 H fun _ H =>
k [s0, s1, s2, s4, (.bool true), s6, s11, s21, s28] H : R))
noncomputable def r43_4 (k : KT R) : KT R := fun fr H => opn 9 fr (fun s0 s1 s2 s4 s5 s6 s11 s21 s28 => 
(qFa 2 s2 fun v14 =>
qLd v14 H fun v15 =>
qIa 5 v15 s6 fun v17 =>
qFa 1 v17 fun v18 =>
qLd v18 H fun v19 =>
qEql X 9 v19 s1 fun v21 =>
k [s0, s1, s2, s4, s5, s6, s11, v21, s28] H : R))
noncomputable def r43_2 (k : KT R) : KT R := fun fr H => opn 9 fr (fun s0 s1 s2 s4 s5 s6 s11 s21 s28 => 
(qFa 2 s2 fun v8 =>
qLd v8 H fun v9 =>
qLenL v9 fun v10 =>
qLss X 3 s6 v10 fun v11 =>
k [s0, s1, s2, s4, s5, s6, v11, s21, s28] H : R))
noncomputable def l43_6 (k2 : KT R) (kr : KT R) : KT R → KT R := fun k3 => (r43_2 (qCd (sel 6) (fun k6 => k6) (fun _ => k2) (qBl (fun k4 => (r43_4 (qCd (sel 7) (fun _ => (r43_5 kr)) (fun k5 => k5) k4))) (r43_3 k3))))
noncomputable def r43_1 (k : KT R) : KT R := fun fr H => opn 9 fr (fun s0 s1 s2 s4 s5 s6 s11 s21 s28 => 
(k [s0, s1, s2, s4, s5, (.int .i64 0), s11, s21, s28] H : R))
noncomputable def r43_0 (k : KT R) : KT R := fun fr H => opn 9 fr (fun s0 s1 s2 s4 s5 s6 s11 s21 s28 => 
(qBox s0 H fun v2 H =>
qNew (.cells z71) .ptr H fun v4 H =>
k [s0, s1, v2, v4, (.bool false), s6, s11, s21, s28] H : R))
noncomputable def c43 (C : CallF) (l0 : List AV) (H : AH) (k : AV → AH → R) : R := opn 2 l0 (fun x0 x1 => (qFn (fun kr => (r43_0 (r43_1 (qBl (fun k2 => (qLoop (l43_6 k2 kr))) (r43_6 C (qCd (sel 8) (fun _ => (r43_7 kr)) (fun k1 => k1) (r43_8 kr)))))))
(fun fr H => qPtr (sel 3 fr) (qLdA 5 (sel 3 fr) H fun w0 => k (.tup [w0, (sel 4 fr)]) H)) [x0, x1, Aes.undef, Aes.undef, Aes.undef, Aes.undef, Aes.undef, Aes.undef, Aes.undef] H : R))
/- refectory/refectoryref09.Field -/
noncomputable def r44_11 (k : KT R) : KT R := fun fr H => opn 12 fr (fun s0 s1 s2 s3 s6 s7 s8 s10 s29 s32 s45 s55 => 
(qBld z52 [] fun v61 =>
qSt 5 s6 v61 H fun _ H =>
k [s0, s1, s2, s3, s6, (.bool false), s8, s10, s29, s32, s45, s55] H : R))
noncomputable def r44_8 (k : KT R) : KT R := fun fr H => opn 12 fr (fun s0 s1 s2 s3 s6 s7 s8 s10 s29 s32 s45 s55 => 
(qAdd X 3 s10 (.int .i64 1) fun v47 =>
k [s0, s1, s2, s3, s6, s7, s8, v47, s29, s32, s45, s55] H : R))
noncomputable def r44_10 (k : KT R) : KT R := fun fr H => opn 12 fr (fun s0 s1 s2 s3 s6 s7 s8 s10 s29 s32 s45 s55 => 
(qFa 3 s8 fun v56 =>
qLd v56 H fun v57 =>
qIa 5 v57 s10 fun v59 =>
qLdA 5 v59 H fun v60 =>
qSt 5 s6 v60 H fun _ H =>
k [s0, s1, s2, s3, s6, (.bool true), s8, s10, s29, s32, s45, s55] H : R))
noncomputable def r44_9 (k : KT R) : KT R := fun fr H => opn 12 fr (fun s0 s1 s2 s3 s6 s7 s8 s10 s29 s32 s45 s55 => 
(qFa 3 s8 fun v48 =>
qLd v48 H fun v49 =>
qIa 5 v49 s10 fun v51 =>
qFa 0 v51 fun v52 =>
qLd v52 H fun v53 =>
qEql X 9 v53 s2 fun v55 =>
k [s0, s1, s2, s3, s6, s7, s8, s10, s29, s32, s45, v55] H : R))
noncomputable def r44_7 (k : KT R) : KT R := fun fr H => opn 12 fr (fun s0 s1 s2 s3 s6 s7 s8 s10 s29 s32 s45 s55 => 
(qFa 3 s8 fun v37 =>
qLd v37 H fun v38 =>
qLenL v38 fun v39 =>
qLss X 3 s10 v39 fun v40 =>
qG v40 true (fun k => qFa 0 s8 fun v => k v H) H fun v42 H =>
qG v40 true (fun k => qLd v42 H fun v => k v H) H fun v43 H =>
qG v40 true (fun k => qNeq X 3 v43 (.int .i64 4) fun v => k v H) H fun v44 H =>
qPick v40 v44 (.bool false) fun v45 =>
k [s0, s1, s2, s3, s6, s7, s8, s10, s29, s32, v45, s55] H : R))
noncomputable def l44_5 (k1 : KT R) (kr : KT R) : KT R → KT R := fun k2 => (r44_7 (qCd (sel 10) (fun k5 => k5) (fun _ => k1) (qBl (fun k3 => (r44_9 (qCd (sel 11) (fun _ => (r44_10 kr)) (fun k4 => k4) k3))) (r44_8 k2))))
noncomputable def r44_6 (k : KT R) : KT R := fun fr H => opn 12 fr (fun s0 s1 s2 s3 s6 s7 s8 s10 s29 s32 s45 s55 => 
(k [s0, s1, s2, s3, s6, s7, s8, (.int .i64 0), s29, s32, s45, s55] H : R))
noncomputable def r44_5 (k : KT R) : KT R := fun fr H => opn 12 fr (fun s0 s1 s2 s3 s6 s7 s8 s10 s29 s32 s45 s55 => 
(qBld z27 [(0, 1, (.str [83,116,114,105,110,103])), (1, 1, (.str [33]))] fun v34 =>
qBld z52 [(0, 1, s2), (2, 2, v34), (4, 1, (.int .i64 1))] fun v35 =>
qSt 5 s6 v35 H fun _ H =>
k [s0, s1, s2, s3, s6, (.bool true), s8, s10, s29, s32, s45, s55] H : R))
noncomputable def r44_4 (k : KT R) : KT R := fun fr H => opn 12 fr (fun s0 s1 s2 s3 s6 s7 s8 s10 s29 s32 s45 s55 => 
(qEql X 9 s2 (.str [95,95,116,121,112,101,110,97,109,101]) fun v32 =>
k [s0, s1, s2, s3, s6, s7, s8, s10, s29, v32, s45, s55] H : R))
noncomputable def r44_3 (k : KT R) : KT R := fun fr H => opn 12 fr (fun s0 s1 s2 s3 s6 s7 s8 s10 s29 s32 s45 s55 => 
(qBld z52 [] fun v30 =>
qSt 5 s6 v30 H fun _ H =>
k [s0, s1, s2, s3, s6, (.bool false), s8, s10, s29, s32, s45, s55] H : R))
noncomputable def r44_2 (k : KT R) : KT R := fun fr H => opn 12 fr (fun s0 s1 s2 s3 s6 s7 s8 s10 s29 s32 s45 s55 => 
(qFa 0 s8 fun v17 =>
qLd v17 H fun v18 =>
qNeq X 3 v18 (.int .i64 2) fun v19 =>
qG v19 true (fun k => qFa 0 s8 fun v => k v H) H fun v21 H =>
qG v19 true (fun k => qLd v21 H fun v => k v H) H fun v22 H =>
qG v19 true (fun k => qNeq X 3 v22 (.int .i64 3) fun v => k v H) H fun v23 H =>
qPick v19 v23 (.bool false) fun v24 =>
qG v24 true (fun k => qFa 0 s8 fun v => k v H) H fun v26 H =>
qG v24 true (fun k => qLd v26 H fun v => k v H) H fun v27 H =>
qG v24 true (fun k => qNeq X 3 v27 (.int .i64 4) fun v => k v H) H fun v28 H =>
qPick v24 v28 (.bool false) fun v29 =>
k [s0, s1, s2, s3, s6, s7, s8, s10, v29, s32, s45, s55] H : R))
noncomputable def r44_1 (C : CallF) (k : KT R) : KT R := fun fr H => opn 12 fr (fun s0 s1 s2 s3 s6 s7 s8 s10 s29 s32 s45 s55 => 
(qLdA 3 s3 H fun v12 =>
qRes (C 43 [v12, s1] H) fun v14 H =>
qExt v14 0 fun v15 =>
qExt v14 1 fun v16 =>
qNew (.cells z71) .ptr H fun v8 H =>
qSt 5 v8 v15 H fun _ H =>
k [s0, s1, s2, s3, s6, s7, v8, s10, s29, s32, s45, s55] H : R))
noncomputable def r44_0 (k : KT R) : KT R := fun fr H => opn 12 fr (fun s0 s1 s2 s3 s6 s7 s8 s10 s29 s32 s45 s55 => 
(qBox s0 H fun v3 H =>
qNew (.cells z52) .ptr H fun v6 H =>
k [s0, s1, s2, v3, v6, (.bool false), s8, s10, s29, s32, s45, s55] H : R))
noncomputable def c44 (C : CallF) (l0 : List AV) (H : AH) (k : AV → AH → R) : R := opn 3 l0 (fun x0 x1 x2 => (qFn (fun kr => (r44_0 (r44_1 C (r44_2 (qCd (sel 8) (fun _ => (r44_3 kr)) (fun k7 => k7) (r44_4 (qCd (sel 9) (fun _ => (r44_5 kr)) (fun k6 => k6) (r44_6 (qBl (fun k1 => (qLoop (l44_5 k1 kr))) (r44_11 kr))))))))))
(fun fr H => qPtr (sel 4 fr) (qLdA 5 (sel 4 fr) H fun w0 => k (.tup [w0, (sel 5 fr)]) H)) [x0, x1, x2, Aes.undef, Aes.undef, Aes.undef, Aes.undef, Aes.undef, Aes.undef, Aes.undef, Aes.undef, Aes.undef] H : R))
/- refectory/refectoryref08.Same -/
noncomputable def r45_9 (k : KT R) : KT R := fun fr H => opn 11 fr (fun s0 s1 s2 s3 s4 s5 s6 s7 s28 s33 s81 => 
(k [s0, s1, s2, s3, (.bool true), s5, s6, s7, s28, s33, s81] H : R))
noncomputable def r45_5 (k : KT R) : KT R := fun fr H => opn 11 fr (fun s0 s1 s2 s3 s4 s5 s6 s7 s28 s33 s81 => 
(qAdd X 3 s5 (.int .i64 1) fun v35 =>
k [s0, s1, s2, s3, s4, v35, s6, s7, s28, s33, s81] H : R))
noncomputable def r45_8 (k : KT R) : KT R := fun fr H => opn 11 fr (fun s0 s1 s2 s3 s4 s5 s6 s7 s28 s33 s81 => 
(k [s0, s1, s2, s3, (.bool false), s5, s6, s7, s28, s33, s81] H : R))
noncomputable def r45_7 (C : CallF) (k : KT R) : KT R := fun fr H => opn 11 fr (fun s0 s1 s2 s3 s4 s5 s6 s7 s28 s33 s81 => 
(qFa 0 s6 fun v46 =>
qLd v46 H fun v47 =>
qFa 0 s7 fun v48 =>
qLd v48 H fun v49 =>
qNeq X 3 v47 v49 fun v50 =>
qG v50 false (fun k => qFa 1 s6 fun v => k v H) H fun v52 H =>
qG v50 false (fun k => qLd v52 H fun v => k v H) H fun v53 H =>
qG v50 false (fun k => qFa 1 s7 fun v => k v H) H fun v54 H =>
qG v50 false (fun k => qLd v54 H fun v => k v H) H fun v55 H =>
qG v50 false (fun k => qNeq X 9 v53 v55 fun v => k v H) H fun v56 H =>
qPick v50 (.bool true) v56 fun v57 =>
qG v57 false (fun k => qFa 2 s6 fun v => k v H) H fun v59 H =>
qG v57 false (fun k => qLd v59 H fun v => k v H) H fun v60 H =>
qG v57 false (fun k => qFa 2 s7 fun v => k v H) H fun v61 H =>
qG v57 false (fun k => qLd v61 H fun v => k v H) H fun v62 H =>
qG v57 false (fun k => qRes (C 87 [v60, v62] H) k) H fun v63 H =>
qG v57 false (fun k => qNot v63 fun v => k v H) H fun v64 H =>
qPick v57 (.bool true) v64 fun v65 =>
qG v65 false (fun k => qFa 3 s6 fun v => k v H) H fun v67 H =>
qG v65 false (fun k => qLd v67 H fun v => k v H) H fun v68 H =>
qG v65 false (fun k => qFa 3 s7 fun v => k v H) H fun v69 H =>
qG v65 false (fun k => qLd v69 H fun v => k v H) H fun v70 H =>
qG v65 false (fun k => qRes (C 88 [v68, v70] H) k) H fun v71 H =>
qG v65 false (fun k => qNot v71 fun v => k v H) H fun v72 H =>
qPick v65 (.bool true) v72 fun v73 =>
qG v73 false (fun k => qFa 4 s6 fun v => k v H) H fun v75 H =>
qG v73 false (fun k => qLd v75 H fun v => k v H) H fun v76 H =>
qG v73 false (fun k => qFa 4 s7 fun v => k v H) H fun v77 H =>
qG v73 false (fun k => qLd v77 H fun v => k v H) H fun v78 H =>
qG v73 false (fun k => qRes (C 89 [v76, v78] H) k) H fun v79 H =>
qG v73 false (fun k => qNot v79 fun v => k v H) H fun v80 H =>
qPick v73 (.bool true) v80 fun v81 =>
k [s0, s1, s2, s3, s4, s5, s6, s7, s28, s33, v81] H : R))
noncomputable def r45_6 (k : KT R) : KT R := fun fr H => opn 11 fr (fun s0 s1 s2 s3 s4 s5 s6 s7 s28 s33 s81 => 
(qFa 2 s2 fun v36 =>
qLd v36 H fun v37 =>
qIa 5 v37 s5 fun v39 =>
qLdA 5 v39 H fun v40 =>
qFa 2 s3 fun v41 =>
qLd v41 H fun v42 =>
qIa 5 v42 s5 fun v44 =>
qLdA 5 v44 H fun v45 =>
qNew (.cells z71) .ptr H fun v6 H =>
qNew (.cells z71) .ptr H fun v7 H =>
qSt 5 v6 v40 H fun _ H =>
qLdA 5 v44 H fun w => qSame v45 w (qLd v41 H fun w => qSame v42 w (qSt 5 v7 v45 H fun _ H =>
k [s0, s1, s2, s3, s4, s5, v6, v7, s28, s33, s81] H)) : R))
noncomputable def r45_4 (k : KT R) : KT R := fun fr H => opn 11 fr (fun s0 s1 s2 s3 s4 s5 s6 s7 s28 s33 s81 => 
(qFa 2 s2 fun v30 =>
qLd v30 H fun v31 =>
qLenL v31 fun v32 =>
qLss X 3 s5 v32 fun v33 =>
k [s0, s1, s2, s3, s4, s5, s6, s7, s28, v33, s81] H : R))
noncomputable def l45_5 (C : CallF) (k1 : KT R) (kr : KT R) : KT R → KT R := fun k2 => (r45_4 (qCd (sel 9) (fun k5 => k5) (fun _ => k1) (qBl (fun k3 => (r45_6 (r45_7 C (qCd (sel 10) (fun _ => (r45_8 kr)) (fun k4 => k4) k3)))) (r45_5 k2))))
noncomputable def r45_3 (k : KT R) : KT R := fun fr H => opn 11 fr (fun s0 s1 s2 s3 s4 s5 s6 s7 s28 s33 s81 => 
(k [s0, s1, s2, s3, s4, (.int .i64 0), s6, s7, s28, s33, s81] H : R))
noncomputable def r45_2 (k : KT R) : KT R := fun fr H => opn 11 fr (fun s0 s1 s2 s3 s4 s5 s6 s7 s28 s33 s81 => 
(k [s0, s1, s2, s3, (.bool false), s5, s6, s7, s28, s33, s81] H : R))
noncomputable def r45_1 (k : KT R) : KT R := fun fr H => opn 11 fr (fun s0 s1 s2 s3 s4 s5 s6 s7 s28 s33 s81 => 
(qFa 0 s2 fun v8 =>
qLd v8 H fun v9 =>
qFa 0 s3 fun v10 =>
qLd v10 H fun v11 =>
qNeq X 9 v9 v11 fun v12 =>
qG v12 false (fun k => qFa 1 s2 fun v => k v H) H fun v14 H =>
qG v12 false (fun k => qLd v14 H fun v => k v H) H fun v15 H =>
qG v12 false (fun k => qFa 1 s3 fun v => k v H) H fun v16 H =>
qG v12 false (fun k => qLd v16 H fun v => k v H) H fun v17 H =>
qG v12 false (fun k => qNeq X 9 v15 v17 fun v => k v H) H fun v18 H =>
qPick v12 (.bool true) v18 fun v19 =>
qG v19 false (fun k => qFa 2 s2 fun v => k v H) H fun v21 H =>
qG v19 false (fun k => qLd v21 H fun v => k v H) H fun v22 H =>
qG v19 false (fun k => qLenL v22 fun v => k v H) H fun v23 H =>
qG v19 false (fun k => qFa 2 s3 fun v => k v H) H fun v24 H =>
qG v19 false (fun k => qLd v24 H fun v => k v H) H fun v25 H =>
qG v19 false (fun k => qLenL v25 fun v => k v H) H fun v26 H =>
qG v19 false (fun k => qNeq X 3 v23 v26 fun v => k v H) H fun v27 H =>
qPick v19 (.bool true) v27 fun v28 =>
k [s0, s1, s2, s3, s4, s5, s6, s7, v28, s33, s81] H : R))
noncomputable def r45_0 (k : KT R) : KT R := fun fr H => opn 11 fr (fun s0 s1 s2 s3 s4 s5 s6 s7 s28 s33 s81 => 
(qBox s0 H fun v2 H =>
qBox s1 H fun v3 H =>
k [s0, s1, v2, v3, (.bool false), s5, s6, s7, s28, s33, s81] H : R))
noncomputable def c45 (C : CallF) (l0 : List AV) (H : AH) (k : AV → AH → R) : R := opn 2 l0 (fun x0 x1 => (qFn (fun kr => (r45_0 (r45_1 (qCd (sel 8) (fun _ => (r45_2 kr)) (fun k6 => k6) (r45_3 (qBl (fun k1 => (qLoop (l45_5 C k1 kr))) (r45_9 kr)))))))
(fun fr H => k (sel 4 fr) H) [x0, x1, Aes.undef, Aes.undef, Aes.undef, Aes.undef, Aes.undef, Aes.undef, Aes.undef, Aes.undef, Aes.undef] H : R))
/- refectory/refectorylaw00.SameStrings -/
noncomputable def r46_8 (k : KT R) : KT R := fun fr H => opn 7 fr (fun s0 s1 s4 s5 s10 s14 s25 => 
(k [s0, s1, (.bool true), s5, s10, s14, s25] H : R))
noncomputable def r46_5 (k : KT R) : KT R := fun fr H => opn 7 fr (fun s0 s1 s4 s5 s10 s14 s25 => 
(qAdd X 3 s5 (.int .i64 1) fun v16 =>
k [s0, s1, s4, v16, s10, s14, s25] H : R))
noncomputable def r46_7 (k : KT R) : KT R := fun fr H => opn 7 fr (fun s0 s1 s4 s5 s10 s14 s25 => 
(k [s0, s1, (.bool false), s5, s10, s14, s25] H : R))
noncomputable def r46_6 (k : KT R) : KT R := fun fr H => opn 7 fr (fun s0 s1 s4 s5 s10 s14 s25 => 
(qIa 1 s0 s5 fun v19 =>
qLd v19 H fun v20 =>
qIa 1 s1 s5 fun v23 =>
qLd v23 H fun v24 =>
qNeq X 9 v20 v24 fun v25 =>
k [s0, s1, s4, s5, s10, s14, v25] H : R))
noncomputable def r46_4 (k : KT R) : KT R := fun fr H => opn 7 fr (fun s0 s1 s4 s5 s10 s14 s25 => 
(qLenL s0 fun v13 =>
qLss X 3 s5 v13 fun v14 =>
k [s0, s1, s4, s5, s10, v14, s25] H : R))
noncomputable def l46_5 (k1 : KT R) (kr : KT R) : KT R → KT R := fun k2 => (r46_4 (qCd (sel 5) (fun k5 => k5) (fun _ => k1) (qBl (fun k3 => (r46_6 (qCd (sel 6) (fun _ => (r46_7 kr)) (fun k4 => k4) k3))) (r46_5 k2))))
noncomputable def r46_3 (k : KT R) : KT R := fun fr H => opn 7 fr (fun s0 s1 s4 s5 s10 s14 s25 => 
(k [s0, s1, s4, (.int .i64 0), s10, s14, s25] H : R))
noncomputable def r46_2 (k : KT R) : KT R := fun fr H => opn 7 fr (fun s0 s1 s4 s5 s10 s14 s25 => 
(k [s0, s1, (.bool false), s5, s10, s14, s25] H : R))
noncomputable def r46_1 (k : KT R) : KT R := fun fr H => opn 7 fr (fun s0 s1 s4 s5 s10 s14 s25 => 
(qLenL s0 fun v7 =>
qLenL s1 fun v9 =>
qNeq X 3 v7 v9 fun v10 =>
k [s0, s1, s4, s5, v10, s14, s25] H : R))
noncomputable def r46_0 (k : KT R) : KT R := fun fr H => opn 7 fr (fun s0 s1 s4 s5 s10 s14 s25 => 
(k [s0, s1, (.bool false), s5, s10, s14, s25] H : R))
noncomputable def c46 (C : CallF) (l0 : List AV) (H : AH) (k : AV → AH → R) : R := opn 2 l0 (fun x0 x1 => (qFn (fun kr => (r46_0 (r46_1 (qCd (sel 4) (fun _ => (r46_2 kr)) (fun k6 => k6) (r46_3 (qBl (fun k1 => (qLoop (l46_5 k1 kr))) (r46_8 kr)))))))
(fun fr H => k (sel 2 fr) H) [x0, x1, Aes.undef, Aes.undef, Aes.undef, Aes.undef, Aes.undef] H : R))
/- refectory/refectoryref09.Possible -/
noncomputable def r47_12 (k : KT R) : KT R := fun fr H => opn 13 fr (fun s0 s1 s2 s4 s5 s7 s8 s9 s10 s22 s38 s48 s80 => 
(k [s0, s1, s2, s7, s5, s7, s8, s9, s10, s22, s38, s48, s80] H : R))
noncomputable def r47_5 (k : KT R) : KT R := fun fr H => opn 13 fr (fun s0 s1 s2 s4 s5 s7 s8 s9 s10 s22 s38 s48 s80 => 
(qAdd X 3 s8 (.int .i64 1) fun v24 =>
k [s0, s1, s2, s4, s5, s7, v24, s9, s10, s22, s38, s48, s80] H : R))
noncomputable def r47_11 (k : KT R) : KT R := fun fr H => opn 13 fr (fun s0 s1 s2 s4 s5 s7 s8 s9 s10 s22 s38 s48 s80 => 
(qFa 1 s9 fun v82 =>
qLd v82 H fun v83 =>
qRows z9 1 [(0, v83)] fun v84 =>
qApp 1 16 s7 v84 false none H fun v85 H =>
k [s0, s1, s2, s4, s5, v85, s8, s9, s10, s22, s38, s48, s80] H : R))
noncomputable def r47_10 (C : CallF) (k : KT R) : KT R := fun fr H => opn 13 fr (fun s0 s1 s2 s4 s5 s7 s8 s9 s10 s22 s38 s48 s80 => 
(qFa 0 s5 fun v49 =>
qLd v49 H fun v50 =>
qEql X 3 v50 (.int .i64 2) fun v51 =>
qG v51 true (fun k => qFa 1 s9 fun v => k v H) H fun v53 H =>
qG v51 true (fun k => qLd v53 H fun v => k v H) H fun v54 H =>
qG v51 true (fun k => k s1 H) H fun v55 H =>
qG v51 true (fun k => qEql X 9 v54 v55 fun v => k v H) H fun v56 H =>
qPick v51 v56 (.bool false) fun v57 =>
qG v57 false (fun k => qFa 0 s5 fun v => k v H) H fun v59 H =>
qG v57 false (fun k => qLd v59 H fun v => k v H) H fun v60 H =>
qG v57 false (fun k => qEql X 3 v60 (.int .i64 3) fun v => k v H) H fun v61 H =>
qG v57 false (fun k => k v61 H) H fun v62 H =>
qG v62 true (fun k => qFa 2 s9 fun v => k v H) H fun v63 H =>
qG v62 true (fun k => qLd v63 H fun v => k v H) H fun v64 H =>
qG v62 true (fun k => k s1 H) H fun v65 H =>
qG v62 true (fun k => qRes (C 90 [v64, v65] H) k) H fun v66 H =>
qG v57 false (fun k => qPick v62 v66 (.bool false) fun v => k v H) H fun v67 H =>
qPick v57 (.bool true) v67 fun v68 =>
qG v68 false (fun k => qFa 0 s5 fun v => k v H) H fun v70 H =>
qG v68 false (fun k => qLd v70 H fun v => k v H) H fun v71 H =>
qG v68 false (fun k => qEql X 3 v71 (.int .i64 4) fun v => k v H) H fun v72 H =>
qG v68 false (fun k => k v72 H) H fun v73 H =>
qG v73 true (fun k => qFa 2 s5 fun v => k v H) H fun v74 H =>
qG v73 true (fun k => qLd v74 H fun v => k v H) H fun v75 H =>
qG v73 true (fun k => qFa 1 s9 fun v => k v H) H fun v76 H =>
qG v73 true (fun k => qLd v76 H fun v => k v H) H fun v77 H =>
qG v73 true (fun k => qRes (C 90 [v75, v77] H) k) H fun v78 H =>
qG v68 false (fun k => qPick v73 v78 (.bool false) fun v => k v H) H fun v79 H =>
qPick v68 (.bool true) v79 fun v80 =>
k [s0, s1, s2, s4, s5, s7, s8, s9, s10, s22, s38, s48, v80] H : R))
noncomputable def r47_9 (k : KT R) : KT R := fun fr H => opn 13 fr (fun s0 s1 s2 s4 s5 s7 s8 s9 s10 s22 s38 s48 s80 => 
(qFa 0 s10 fun v46 =>
qLd v46 H fun v47 =>
qNeq X 3 v47 (.int .i64 2) fun v48 =>
k [s0, s1, s2, s4, s5, s7, s8, s9, s10, s22, s38, v48, s80] H : R))
noncomputable def r47_8 (C : CallF) (k : KT R) : KT R := fun fr H => opn 13 fr (fun s0 s1 s2 s4 s5 s7 s8 s9 s10 s22 s38 s48 s80 => 
(qLdA 3 s2 H fun v40 =>
qFa 1 s9 fun v41 =>
qLd v41 H fun v42 =>
qRes (C 43 [v40, v42] H) fun v43 H =>
qExt v43 0 fun v44 =>
qExt v43 1 fun v45 =>
qNew (.cells z71) .ptr H fun v10 H =>
qSt 5 v10 v44 H fun _ H =>
k [s0, s1, s2, s4, s5, s7, s8, s9, v10, s22, s38, s48, s80] H : R))
noncomputable def r47_7 (C : CallF) (k : KT R) : KT R := fun fr H => opn 13 fr (fun s0 s1 s2 s4 s5 s7 s8 s9 s10 s22 s38 s48 s80 => 
(qFa 0 s9 fun v30 =>
qLd v30 H fun v31 =>
qNeq X 3 v31 (.int .i64 2) fun v32 =>
qG v32 false (fun k => k s7 H) H fun v34 H =>
qG v32 false (fun k => qFa 1 s9 fun v => k v H) H fun v35 H =>
qG v32 false (fun k => qLd v35 H fun v => k v H) H fun v36 H =>
qG v32 false (fun k => qRes (C 90 [v34, v36] H) k) H fun v37 H =>
qPick v32 (.bool true) v37 fun v38 =>
k [s0, s1, s2, s4, s5, s7, s8, s9, s10, s22, v38, s48, s80] H : R))
noncomputable def r47_6 (k : KT R) : KT R := fun fr H => opn 13 fr (fun s0 s1 s2 s4 s5 s7 s8 s9 s10 s22 s38 s48 s80 => 
(qFa 2 s2 fun v25 =>
qLd v25 H fun v26 =>
qIa 5 v26 s8 fun v28 =>
qLdA 5 v28 H fun v29 =>
qNew (.cells z71) .ptr H fun v9 H =>
qSt 5 v9 v29 H fun _ H =>
k [s0, s1, s2, s4, s5, s7, s8, v9, s10, s22, s38, s48, s80] H : R))
noncomputable def r47_4 (k : KT R) : KT R := fun fr H => opn 13 fr (fun s0 s1 s2 s4 s5 s7 s8 s9 s10 s22 s38 s48 s80 => 
(qFa 2 s2 fun v19 =>
qLd v19 H fun v20 =>
qLenL v20 fun v21 =>
qLss X 3 s8 v21 fun v22 =>
k [s0, s1, s2, s4, s5, s7, s8, s9, s10, v22, s38, s48, s80] H : R))
noncomputable def l47_7 (C : CallF) (k1 : KT R) : KT R → KT R := fun k2 => (r47_4 (qCd (sel 9) (fun k7 => k7) (fun _ => k1) (qBl (fun k3 => (r47_6 (r47_7 C (qCd (sel 10) (fun _ => k3) (fun k6 => k6) (r47_8 C (r47_9 (qCd (sel 11) (fun _ => k3) (fun k5 => k5) (r47_10 C (qCd (sel 12) (fun k4 => (r47_11 k4)) (fun k4 => k4) k3))))))))) (r47_5 k2))))
noncomputable def r47_3 (k : KT R) : KT R := fun fr H => opn 13 fr (fun s0 s1 s2 s4 s5 s7 s8 s9 s10 s22 s38 s48 s80 => 
(k [s0, s1, s2, s4, s5, s7, (.int .i64 0), s9, s10, s22, s38, s48, s80] H : R))
noncomputable def r47_2 (k : KT R) : KT R := fun fr H => opn 13 fr (fun s0 s1 s2 s4 s5 s7 s8 s9 s10 s22 s38 s48 s80 => 
(k [s0, s1, s2, s4, s5, (.sl [] .nil), s8, s9, s10, s22, s38, s48, s80] H : R))
noncomputable def r47_1 (C : CallF) (k : KT R) : KT R := fun fr H => opn 13 fr (fun s0 s1 s2 s4 s5 s7 s8 s9 s10 s22 s38 s48 s80 => 
(qLdA 3 s2 H fun v13 =>
qRes (C 43 [v13, s1] H) fun v15 H =>
qExt v15 0 fun v16 =>
qExt v15 1 fun v17 =>
qNew (.cells z71) .ptr H fun v5 H =>
qSt 5 v5 v16 H fun _ H =>
k [s0, s1, s2, s4, v5, s7, s8, s9, s10, s22, s38, s48, s80] H : R))
noncomputable def r47_0 (k : KT R) : KT R := fun fr H => opn 13 fr (fun s0 s1 s2 s4 s5 s7 s8 s9 s10 s22 s38 s48 s80 => 
(qBox s0 H fun v2 H =>
k [s0, s1, v2, (.sl [] .nil), s5, s7, s8, s9, s10, s22, s38, s48, s80] H : R))
noncomputable def c47 (C : CallF) (l0 : List AV) (H : AH) (k : AV → AH → R) : R := opn 2 l0 (fun x0 x1 => (qFn (fun kr => (r47_0 (r47_1 C (r47_2 (r47_3 (qBl (fun k1 => (qLoop (l47_7 C k1))) (r47_12 kr)))))))
(fun fr H => k (sel 3 fr) H) [x0, x1, Aes.undef, Aes.undef, Aes.undef, Aes.undef, Aes.undef, Aes.undef, Aes.undef, Aes.undef, Aes.undef, Aes.undef, Aes.undef] H : R))
/- refectory/refectoryref09.Meets -/
noncomputable def r48_7 (k : KT R) : KT R := fun fr H => opn 10 fr (fun s0 s1 s2 s3 s6 s7 s8 s9 s19 s27 => 
(k [s0, s1, s2, s3, (.bool false), s7, s8, s9, s19, s27] H : R))
noncomputable def r48_4 (k : KT R) : KT R := fun fr H => opn 10 fr (fun s0 s1 s2 s3 s6 s7 s8 s9 s19 s27 => 
(qAdd X 3 s9 (.int .i64 1) fun v21 =>
k [s0, s1, s2, s3, s6, s7, s8, v21, s19, s27] H : R))
noncomputable def r48_6 (k : KT R) : KT R := fun fr H => opn 10 fr (fun s0 s1 s2 s3 s6 s7 s8 s9 s19 s27 => 
(k [s0, s1, s2, s3, (.bool true), s7, s8, s9, s19, s27] H : R))
noncomputable def r48_5 (C : CallF) (k : KT R) : KT R := fun fr H => opn 10 fr (fun s0 s1 s2 s3 s6 s7 s8 s9 s19 s27 => 
(qIa 1 s7 s9 fun v25 =>
qLd v25 H fun v26 =>
qRes (C 90 [s8, v26] H) fun v27 H =>
k [s0, s1, s2, s3, s6, s7, s8, s9, s19, v27] H : R))
noncomputable def r48_3 (k : KT R) : KT R := fun fr H => opn 10 fr (fun s0 s1 s2 s3 s6 s7 s8 s9 s19 s27 => 
(qLenL s7 fun v18 =>
qLss X 3 s9 v18 fun v19 =>
k [s0, s1, s2, s3, s6, s7, s8, s9, v19, s27] H : R))
noncomputable def l48_5 (C : CallF) (k1 : KT R) (kr : KT R) : KT R → KT R := fun k2 => (r48_3 (qCd (sel 8) (fun k5 => k5) (fun _ => k1) (qBl (fun k3 => (r48_5 C (qCd (sel 9) (fun _ => (r48_6 kr)) (fun k4 => k4) k3))) (r48_4 k2))))
noncomputable def r48_2 (k : KT R) : KT R := fun fr H => opn 10 fr (fun s0 s1 s2 s3 s6 s7 s8 s9 s19 s27 => 
(k [s0, s1, s2, s3, s6, s7, s8, (.int .i64 0), s19, s27] H : R))
noncomputable def r48_1 (C : CallF) (k : KT R) : KT R := fun fr H => opn 10 fr (fun s0 s1 s2 s3 s6 s7 s8 s9 s19 s27 => 
(qLdA 3 s3 H fun v10 =>
qLdA 3 s3 H fun v13 =>
qRes (C 47 [v10, s1] H) fun v12 H =>
qLdA 3 s3 H fun w => qSame v13 w (qRes (C 47 [v13, s2] H) fun v15 H =>
k [s0, s1, s2, s3, s6, v12, v15, s9, s19, s27] H) : R))
noncomputable def r48_0 (k : KT R) : KT R := fun fr H => opn 10 fr (fun s0 s1 s2 s3 s6 s7 s8 s9 s19 s27 => 
(qBox s0 H fun v3 H =>
k [s0, s1, s2, v3, (.bool false), s7, s8, s9, s19, s27] H : R))
noncomputable def c48 (C : CallF) (l0 : List AV) (H : AH) (k : AV → AH → R) : R := opn 3 l0 (fun x0 x1 x2 => (qFn (fun kr => (r48_0 (r48_1 C (r48_2 (qBl (fun k1 => (qLoop (l48_5 C k1 kr))) (r48_7 kr))))))
(fun fr H => k (sel 4 fr) H) [x0, x1, x2, Aes.undef, Aes.undef, Aes.undef, Aes.undef, Aes.undef, Aes.undef, Aes.undef] H : R))
/- refectory/refectoryref09.Sub -/
noncomputable def r49_1 (C : CallF) (k : KT R) : KT R := fun fr H => opn 7 fr (fun s0 s1 s2 s3 s4 s5 s6 => 
(qLdA 2 s4 H fun v7 =>
qRes (C 9 [v7] H) fun v8 H =>
qG v8 true (fun k => qLdA 2 s5 H fun v => k v H) H fun v10 H =>
qG v8 true (fun k => qRes (C 9 [v10] H) k) H fun v11 H =>
qPick v8 v11 (.bool false) fun v12 =>
qG v12 true (fun k => qLdA 3 s3 H fun v => k v H) H fun v14 H =>
qG v12 true (fun k => qLdA 2 s4 H fun v => k v H) H fun v15 H =>
qG v12 true (fun k => qLdA 2 s5 H fun v => k v H) H fun v16 H =>
qG v12 true (fun k => qRes (C 91 [v14, v15, v16] H) k) H fun v17 H =>
qPick v12 v17 (.bool false) fun v18 =>
k [s0, s1, s2, s3, s4, s5, v18] H : R))
noncomputable def r49_0 (k : KT R) : KT R := fun fr H => opn 7 fr (fun s0 s1 s2 s3 s4 s5 s6 => 
(qBox s0 H fun v3 H =>
qBox s1 H fun v4 H =>
qBox s2 H fun v5 H =>
k [s0, s1, s2, v3, v4, v5, (.bool false)] H : R))
noncomputable def c49 (C : CallF) (l0 : List AV) (H : AH) (k : AV → AH → R) : R := opn 3 l0 (fun x0 x1 x2 => (qFn (fun kr => (r49_0 (r49_1 C kr)))
(fun fr H => k (sel 6 fr) H) [x0, x1, x2, Aes.undef, Aes.undef, Aes.undef, Aes.undef] H : R))
/- refectory/schema.In -/
noncomputable def r50_2 (C : CallF) (k : KT R) : KT R := fun fr H => opn 6 fr (fun s0 s1 s2 s3 s4 s5 => 
(qLdA 2 s3 H fun v10 =>
qRes (C 16 [v10] H) fun v11 H =>
qG v11 true (fun k => k s5 H) H fun v13 H =>
qG v11 true (fun k => qEql X 3 v13 (.int .i64 1) fun v => k v H) H fun v14 H =>
qG v11 true (fun k => k v14 H) H fun v15 H =>
qG v15 false (fun k => k s5 H) H fun v16 H =>
qG v15 false (fun k => qEql X 3 v16 (.int .i64 5) fun v => k v H) H fun v17 H =>
qG v11 true (fun k => qPick v15 (.bool true) v17 fun v => k v H) H fun v18 H =>
qG v11 true (fun k => k v18 H) H fun v19 H =>
qG v19 false (fun k => k s5 H) H fun v20 H =>
qG v19 false (fun k => qEql X 3 v20 (.int .i64 6) fun v => k v H) H fun v21 H =>
qG v11 true (fun k => qPick v19 (.bool true) v21 fun v => k v H) H fun v22 H =>
qPick v11 v22 (.bool false) fun v23 =>
k [s0, s1, s2, s3, v23, s5] H : R))
noncomputable def r50_1 (C : CallF) (k : KT R) : KT R := fun fr H => opn 6 fr (fun s0 s1 s2 s3 s4 s5 => 
(qLdA 3 s2 H fun v6 =>
qFa 0 s3 fun v7 =>
qLd v7 H fun v8 =>
qRes (C 22 [v6, v8] H) fun v9 H =>
k [s0, s1, s2, s3, s4, v9] H : R))
noncomputable def r50_0 (k : KT R) : KT R := fun fr H => opn 6 fr (fun s0 s1 s2 s3 s4 s5 => 
(qBox s0 H fun v2 H =>
qBox s1 H fun v3 H =>
k [s0, s1, v2, v3, (.bool false), s5] H : R))
noncomputable def c50 (C : CallF) (l0 : List AV) (H : AH) (k : AV → AH → R) : R := opn 2 l0 (fun x0 x1 => (qFn (fun kr => (r50_0 (r50_1 C (r50_2 C kr))))
(fun fr H => k (sel 4 fr) H) [x0, x1, Aes.undef, Aes.undef, Aes.undef, Aes.undef] H : R))
/- refectory/refectoryref09.In -/
noncomputable def r51_2 (C : CallF) (k : KT R) : KT R := fun fr H => opn 6 fr (fun s0 s1 s2 s3 s4 s5 => 
(qLdA 2 s3 H fun v10 =>
qRes (C 9 [v10] H) fun v11 H =>
qG v11 true (fun k => k s5 H) H fun v13 H =>
qG v11 true (fun k => qEql X 3 v13 (.int .i64 1) fun v => k v H) H fun v14 H =>
qG v11 true (fun k => k v14 H) H fun v15 H =>
qG v15 false (fun k => k s5 H) H fun v16 H =>
qG v15 false (fun k => qEql X 3 v16 (.int .i64 5) fun v => k v H) H fun v17 H =>
qG v11 true (fun k => qPick v15 (.bool true) v17 fun v => k v H) H fun v18 H =>
qG v11 true (fun k => k v18 H) H fun v19 H =>
qG v19 false (fun k => k s5 H) H fun v20 H =>
qG v19 false (fun k => qEql X 3 v20 (.int .i64 6) fun v => k v H) H fun v21 H =>
qG v11 true (fun k => qPick v19 (.bool true) v21 fun v => k v H) H fun v22 H =>
qPick v11 v22 (.bool false) fun v23 =>
k [s0, s1, s2, s3, v23, s5] H : R))
noncomputable def r51_1 (C : CallF) (k : KT R) : KT R := fun fr H => opn 6 fr (fun s0 s1 s2 s3 s4 s5 => 
(qLdA 3 s2 H fun v6 =>
qFa 0 s3 fun v7 =>
qLd v7 H fun v8 =>
qRes (C 35 [v6, v8] H) fun v9 H =>
k [s0, s1, s2, s3, s4, v9] H : R))
noncomputable def r51_0 (k : KT R) : KT R := fun fr H => opn 6 fr (fun s0 s1 s2 s3 s4 s5 => 
(qBox s0 H fun v2 H =>
qBox s1 H fun v3 H =>
k [s0, s1, v2, v3, (.bool false), s5] H : R))
noncomputable def c51 (C : CallF) (l0 : List AV) (H : AH) (k : AV → AH → R) : R := opn 2 l0 (fun x0 x1 => (qFn (fun kr => (r51_0 (r51_1 C (r51_2 C kr))))
(fun fr H => k (sel 4 fr) H) [x0, x1, Aes.undef, Aes.undef, Aes.undef, Aes.undef] H : R))
/- refectory/schema.Out -/
noncomputable def r52_2 (C : CallF) (k : KT R) : KT R := fun fr H => opn 6 fr (fun s0 s1 s2 s3 s4 s5 => 
(qLdA 2 s3 H fun v10 =>
qRes (C 16 [v10] H) fun v11 H =>
qG v11 true (fun k => k s5 H) H fun v13 H =>
qG v11 true (fun k => qEql X 3 v13 (.int .i64 1) fun v => k v H) H fun v14 H =>
qG v11 true (fun k => k v14 H) H fun v15 H =>
qG v15 false (fun k => k s5 H) H fun v16 H =>
qG v15 false (fun k => qEql X 3 v16 (.int .i64 5) fun v => k v H) H fun v17 H =>
qG v11 true (fun k => qPick v15 (.bool true) v17 fun v => k v H) H fun v18 H =>
qG v11 true (fun k => k v18 H) H fun v19 H =>
qG v19 false (fun k => k s5 H) H fun v20 H =>
qG v19 false (fun k => qEql X 3 v20 (.int .i64 2) fun v => k v H) H fun v21 H =>
qG v11 true (fun k => qPick v19 (.bool true) v21 fun v => k v H) H fun v22 H =>
qG v11 true (fun k => k v22 H) H fun v23 H =>
qG v23 false (fun k => k s5 H) H fun v24 H =>
qG v23 false (fun k => qEql X 3 v24 (.int .i64 3) fun v => k v H) H fun v25 H =>
qG v11 true (fun k => qPick v23 (.bool true) v25 fun v => k v H) H fun v26 H =>
qG v11 true (fun k => k v26 H) H fun v27 H =>
qG v27 false (fun k => k s5 H) H fun v28 H =>
qG v27 false (fun k => qEql X 3 v28 (.int .i64 4) fun v => k v H) H fun v29 H =>
qG v11 true (fun k => qPick v27 (.bool true) v29 fun v => k v H) H fun v30 H =>
qPick v11 v30 (.bool false) fun v31 =>
k [s0, s1, s2, s3, v31, s5] H : R))
noncomputable def r52_1 (C : CallF) (k : KT R) : KT R := fun fr H => opn 6 fr (fun s0 s1 s2 s3 s4 s5 => 
(qLdA 3 s2 H fun v6 =>
qFa 0 s3 fun v7 =>
qLd v7 H fun v8 =>
qRes (C 22 [v6, v8] H) fun v9 H =>
k [s0, s1, s2, s3, s4, v9] H : R))
noncomputable def r52_0 (k : KT R) : KT R := fun fr H => opn 6 fr (fun s0 s1 s2 s3 s4 s5 => 
(qBox s0 H fun v2 H =>
qBox s1 H fun v3 H =>
k [s0, s1, v2, v3, (.bool false), s5] H : R))
noncomputable def c52 (C : CallF) (l0 : List AV) (H : AH) (k : AV → AH → R) : R := opn 2 l0 (fun x0 x1 => (qFn (fun kr => (r52_0 (r52_1 C (r52_2 C kr))))
(fun fr H => k (sel 4 fr) H) [x0, x1, Aes.undef, Aes.undef, Aes.undef, Aes.undef] H : R))
/- refectory/refectoryref09.Out -/
noncomputable def r53_2 (C : CallF) (k : KT R) : KT R := fun fr H => opn 6 fr (fun s0 s1 s2 s3 s4 s5 => 
(qLdA 2 s3 H fun v10 =>
qRes (C 9 [v10] H) fun v11 H =>
qG v11 true (fun k => k s5 H) H fun v13 H =>
qG v11 true (fun k => qGeq X 3 v13 (.int .i64 1) fun v => k v H) H fun v14 H =>
qPick v11 v14 (.bool false) fun v15 =>
qG v15 true (fun k => k s5 H) H fun v17 H =>
qG v15 true (fun k => qLeq X 3 v17 (.int .i64 5) fun v => k v H) H fun v18 H =>
qPick v15 v18 (.bool false) fun v19 =>
k [s0, s1, s2, s3, v19, s5] H : R))
noncomputable def r53_1 (C : CallF) (k : KT R) : KT R := fun fr H => opn 6 fr (fun s0 s1 s2 s3 s4 s5 => 
(qLdA 3 s2 H fun v6 =>
qFa 0 s3 fun v7 =>
qLd v7 H fun v8 =>
qRes (C 35 [v6, v8] H) fun v9 H =>
k [s0, s1, s2, s3, s4, v9] H : R))
noncomputable def r53_0 (k : KT R) : KT R := fun fr H => opn 6 fr (fun s0 s1 s2 s3 s4 s5 => 
(qBox s0 H fun v2 H =>
qBox s1 H fun v3 H =>
k [s0, s1, v2, v3, (.bool false), s5] H : R))
noncomputable def c53 (C : CallF) (l0 : List AV) (H : AH) (k : AV → AH → R) : R := opn 2 l0 (fun x0 x1 => (qFn (fun kr => (r53_0 (r53_1 C (r53_2 C kr))))
(fun fr H => k (sel 4 fr) H) [x0, x1, Aes.undef, Aes.undef, Aes.undef, Aes.undef] H : R))
/- refectory/runes.Name -/
noncomputable def r54_7 (k : KT R) : KT R := fun fr H => opn 9 fr (fun s0 s2 s3 s4 s5 s7 s8 s9 s43 => 
(qLenS s0 fun v45 =>
qGeq X 3 v45 (.int .i64 1) fun v46 =>
qG v46 true (fun k => k s0 H) H fun v48 H =>
qG v46 true (fun k => qLenS v48 fun v => k v H) H fun v49 H =>
qG v46 true (fun k => qLeq X 3 v49 (.int .i64 40) fun v => k v H) H fun v50 H =>
qPick v46 v50 (.bool false) fun v51 =>
k [s0, v51, s3, s4, s5, s7, s8, s9, s43] H : R))
noncomputable def r54_6 (k : KT R) : KT R := fun fr H => opn 9 fr (fun s0 s2 s3 s4 s5 s7 s8 s9 s43 => 
(k [s0, (.bool false), s3, s4, s5, s7, s8, s9, s43] H : R))
noncomputable def r54_5 (k : KT R) : KT R := fun fr H => opn 9 fr (fun s0 s2 s3 s4 s5 s7 s8 s9 s43 => 
(qNot s5 fun v31 =>
qG v31 true (fun k => k s3 H) H fun v33 H =>
qG v31 true (fun k => qEql X 3 v33 (.int .i64 0) fun v => k v H) H fun v34 H =>
qG v31 true (fun k => k v34 H) H fun v35 H =>
qG v35 false (fun k => k s4 H) H fun v36 H =>
qG v35 false (fun k => qLss X 21 v36 (.int .i32 48) fun v => k v H) H fun v37 H =>
qG v31 true (fun k => qPick v35 (.bool true) v37 fun v => k v H) H fun v38 H =>
qG v31 true (fun k => k v38 H) H fun v39 H =>
qG v39 false (fun k => k s4 H) H fun v40 H =>
qG v39 false (fun k => qGtr X 21 v40 (.int .i32 57) fun v => k v H) H fun v41 H =>
qG v31 true (fun k => qPick v39 (.bool true) v41 fun v => k v H) H fun v42 H =>
qPick v31 v42 (.bool false) fun v43 =>
k [s0, s2, s3, s4, s5, s7, s8, s9, v43] H : R))
noncomputable def r54_4 (k : KT R) : KT R := fun fr H => opn 9 fr (fun s0 s2 s3 s4 s5 s7 s8 s9 s43 => 
(qGeq X 21 s4 (.int .i32 97) fun v13 =>
qG v13 true (fun k => k s4 H) H fun v15 H =>
qG v13 true (fun k => qLeq X 21 v15 (.int .i32 122) fun v => k v H) H fun v16 H =>
qPick v13 v16 (.bool false) fun v17 =>
qG v17 false (fun k => k s4 H) H fun v19 H =>
qG v17 false (fun k => qGeq X 21 v19 (.int .i32 65) fun v => k v H) H fun v20 H =>
qG v17 false (fun k => k v20 H) H fun v21 H =>
qG v21 true (fun k => k s4 H) H fun v22 H =>
qG v21 true (fun k => qLeq X 21 v22 (.int .i32 90) fun v => k v H) H fun v23 H =>
qG v17 false (fun k => qPick v21 v23 (.bool false) fun v => k v H) H fun v24 H =>
qPick v17 (.bool true) v24 fun v25 =>
qG v25 false (fun k => k s4 H) H fun v27 H =>
qG v25 false (fun k => qEql X 21 v27 (.int .i32 95) fun v => k v H) H fun v28 H =>
qPick v25 (.bool true) v28 fun v29 =>
k [s0, s2, s3, s4, v29, s7, s8, s9, s43] H : R))
noncomputable def r54_3 (k : KT R) : KT R := fun fr H => opn 9 fr (fun s0 s2 s3 s4 s5 s7 s8 s9 s43 => 
(qExt s8 1 fun v10 =>
qExt s8 2 fun v11 =>
k [s0, s2, v10, v11, s5, s7, s8, s9, s43] H : R))
noncomputable def r54_2 (k : KT R) : KT R := fun fr H => opn 9 fr (fun s0 s2 s3 s4 s5 s7 s8 s9 s43 => 
(qNext s7 H fun v8 H =>
qExt v8 0 fun v9 =>
k [s0, s2, s3, s4, s5, s7, v8, v9, s43] H : R))
noncomputable def l54_5 (k1 : KT R) (kr : KT R) : KT R → KT R := fun k2 => (r54_2 (qCd (sel 7) (fun k5 => k5) (fun _ => k1) (qBl (fun k3 => (r54_3 (r54_4 (r54_5 (qCd (sel 8) (fun _ => (r54_6 kr)) (fun k4 => k4) k3))))) k2)))
noncomputable def r54_1 (k : KT R) : KT R := fun fr H => opn 9 fr (fun s0 s2 s3 s4 s5 s7 s8 s9 s43 => 
(qRange s0 H fun v7 H =>
k [s0, s2, s3, s4, s5, v7, s8, s9, s43] H : R))
noncomputable def r54_0 (k : KT R) : KT R := fun fr H => opn 9 fr (fun s0 s2 s3 s4 s5 s7 s8 s9 s43 => 
(k [s0, (.bool false), s3, s4, s5, s7, s8, s9, s43] H : R))
noncomputable def c54 (C : CallF) (l0 : List AV) (H : AH) (k : AV → AH → R) : R := opn 1 l0 (fun x0 => (qFn (fun kr => (r54_0 (r54_1 (qBl (fun k1 => (qLoop (l54_5 k1 kr))) (r54_7 kr)))))
(fun fr H => k (sel 1 fr) H) [x0, Aes.undef, Aes.undef, Aes.undef, Aes.undef, Aes.undef, Aes.undef, Aes.undef, Aes.undef] H : R))
/- strings.Trim -/
noncomputable def r55_8 (C : CallF) (k : KT R) : KT R := fun fr H => opn 8 fr (fun s0 s1 s4 s5 s6 s12 s21 s34 => 
(qRes (C 98 [s0, s1] H) fun v40 H =>
qRes (C 97 [v40, s1] H) fun v42 H =>
k [s0, s1, v42, s5, s6, s12, s21, s34] H : R))
noncomputable def r55_7 (C : CallF) (k : KT R) : KT R := fun fr H => opn 8 fr (fun s0 s1 s4 s5 s6 s12 s21 s34 => 
(qRes (C 96 [s0, s5] H) fun v36 H =>
qRes (C 95 [v36, s5] H) fun v37 H =>
k [s0, s1, v37, s5, s6, s12, s21, s34] H : R))
noncomputable def r55_6 (k : KT R) : KT R := fun fr H => opn 8 fr (fun s0 s1 s4 s5 s6 s12 s21 s34 => 
(k [s0, s1, s4, s5, s6, s12, s21, s6] H : R))
noncomputable def r55_5 (C : CallF) (k : KT R) : KT R := fun fr H => opn 8 fr (fun s0 s1 s4 s5 s6 s12 s21 s34 => 
(qRes (C 94 [s1] H) fun v31 H =>
qExt v31 0 fun v32 =>
qExt v31 1 fun v33 =>
qNew (.cells z111) .ptr H fun v5 H =>
qSt 256 v5 v32 H fun _ H =>
k [s0, s1, s4, v5, v33, s12, s21, s34] H : R))
noncomputable def r55_4 (C : CallF) (k : KT R) : KT R := fun fr H => opn 8 fr (fun s0 s1 s4 s5 s6 s12 s21 s34 => 
(qIx s1 (.int .i64 0) fun v24 =>
qIx s1 (.int .i64 0) fun v27 =>
qRes (C 93 [s0, v24] H) fun v25 H =>
qRes (C 92 [v25, v27] H) fun v28 H =>
k [s0, s1, v28, s5, s6, s12, s21, s34] H : R))
noncomputable def r55_3 (k : KT R) : KT R := fun fr H => opn 8 fr (fun s0 s1 s4 s5 s6 s12 s21 s34 => 
(qLenS s1 fun v15 =>
qEql X 3 v15 (.int .i64 1) fun v16 =>
qG v16 true (fun k => k s1 H) H fun v18 H =>
qG v16 true (fun k => qIx v18 (.int .i64 0) fun v => k v H) H fun v19 H =>
qG v16 true (fun k => qLss X 5 v19 (.int .u8 128) fun v => k v H) H fun v20 H =>
qPick v16 v20 (.bool false) fun v21 =>
k [s0, s1, s4, s5, s6, s12, v21, s34] H : R))
noncomputable def r55_2 (k : KT R) : KT R := fun fr H => opn 8 fr (fun s0 s1 s4 s5 s6 s12 s21 s34 => 
(k [s0, s1, s0, s5, s6, s12, s21, s34] H : R))
noncomputable def r55_1 (k : KT R) : KT R := fun fr H => opn 8 fr (fun s0 s1 s4 s5 s6 s12 s21 s34 => 
(qEql X 9 s0 (.str []) fun v8 =>
qG v8 false (fun k => k s1 H) H fun v10 H =>
qG v8 false (fun k => qEql X 9 v10 (.str []) fun v => k v H) H fun v11 H =>
qPick v8 (.bool true) v11 fun v12 =>
k [s0, s1, s4, s5, s6, v12, s21, s34] H : R))
noncomputable def r55_0 (k : KT R) : KT R := fun fr H => opn 8 fr (fun s0 s1 s4 s5 s6 s12 s21 s34 => 
(k [s0, s1, (.str []), s5, s6, s12, s21, s34] H : R))
noncomputable def c55 (C : CallF) (l0 : List AV) (H : AH) (k : AV → AH → R) : R := opn 2 l0 (fun x0 x1 => (qFn (fun kr => (r55_0 (r55_1 (qCd (sel 5) (fun _ => (r55_2 kr)) (fun k3 => k3) (r55_3 (qCd (sel 6) (fun _ => (r55_4 C kr)) (fun k2 => k2) (r55_5 C (r55_6 (qCd (sel 7) (fun _ => (r55_7 C kr)) (fun k1 => k1) (r55_8 C kr))))))))))
(fun fr H => k (sel 2 fr) H) [x0, x1, Aes.undef, Aes.undef, Aes.undef, Aes.undef, Aes.undef, Aes.undef] H : R))
/- strings.Contains -/
noncomputable def r56_1 (C : CallF) (k : KT R) : KT R := fun fr H => opn 3 fr (fun s0 s1 s4 => 
(qRes (C 99 [s0, s1] H) fun v7 H =>
qGeq X 3 v7 (.int .i64 0) fun v8 =>
k [s0, s1, v8] H : R))
noncomputable def r56_0 (k : KT R) : KT R := fun fr H => opn 3 fr (fun s0 s1 s4 => 
(k [s0, s1, (.bool false)] H : R))
noncomputable def c56 (C : CallF) (l0 : List AV) (H : AH) (k : AV → AH → R) : R := opn 2 l0 (fun x0 x1 => (qFn (fun kr => (r56_0 (r56_1 C kr)))
(fun fr H => k (sel 2 fr) H) [x0, x1, Aes.undef] H : R))
/- strings.Count -/
noncomputable def r57_10 (k : KT R) : KT R := fun fr H => opn 8 fr (fun s0 s1 s4 s5 s6 s9 s15 s24 => 
(qLenS s1 fun v31 =>
qAdd X 3 s6 v31 fun v32 =>
qSlc Tryz.t9.desc 0 s0 (some v32) none none fun v33 =>
k [v33, s1, s4, s5, s6, s9, s15, s24] H : R))
noncomputable def r57_9 (k : KT R) : KT R := fun fr H => opn 8 fr (fun s0 s1 s4 s5 s6 s9 s15 s24 => 
(qAdd X 3 s5 (.int .i64 1) fun v27 =>
k [s0, s1, s4, v27, s6, s9, s15, s24] H : R))
noncomputable def r57_8 (k : KT R) : KT R := fun fr H => opn 8 fr (fun s0 s1 s4 s5 s6 s9 s15 s24 => 
(k [s0, s1, s5, s5, s6, s9, s15, s24] H : R))
noncomputable def r57_7 (k : KT R) : KT R := fun fr H => opn 8 fr (fun s0 s1 s4 s5 s6 s9 s15 s24 => 
(qEql X 3 s6 (.int .i64 (-1)) fun v24 =>
k [s0, s1, s4, s5, s6, s9, s15, v24] H : R))
noncomputable def r57_6 (C : CallF) (k : KT R) : KT R := fun fr H => opn 8 fr (fun s0 s1 s4 s5 s6 s9 s15 s24 => 
(qRes (C 99 [s0, s1] H) fun v22 H =>
k [s0, s1, s4, s5, v22, s9, s15, s24] H : R))
noncomputable def l57_4 (C : CallF) (kr : KT R) : KT R → KT R := fun k2 => (qBl (fun k3 => (r57_6 C (r57_7 (qCd (sel 7) (fun _ => (r57_8 kr)) (fun k4 => k4) (r57_9 (r57_10 k3)))))) k2)
noncomputable def r57_5 (k : KT R) : KT R := fun fr H => opn 8 fr (fun s0 s1 s4 s5 s6 s9 s15 s24 => 
(k [s0, s1, s4, (.int .i64 0), s6, s9, s15, s24] H : R))
noncomputable def r57_4 (C : CallF) (k : KT R) : KT R := fun fr H => opn 8 fr (fun s0 s1 s4 s5 s6 s9 s15 s24 => 
(qIx s1 (.int .i64 0) fun v18 =>
qRes (C 101 [s0, v18] H) fun v19 H =>
k [s0, s1, v19, s5, s6, s9, s15, s24] H : R))
noncomputable def r57_3 (k : KT R) : KT R := fun fr H => opn 8 fr (fun s0 s1 s4 s5 s6 s9 s15 s24 => 
(qLenS s1 fun v14 =>
qEql X 3 v14 (.int .i64 1) fun v15 =>
k [s0, s1, s4, s5, s6, s9, v15, s24] H : R))
noncomputable def r57_2 (C : CallF) (k : KT R) : KT R := fun fr H => opn 8 fr (fun s0 s1 s4 s5 s6 s9 s15 s24 => 
(qRes (C 100 [s0] H) fun v11 H =>
qAdd X 3 v11 (.int .i64 1) fun v12 =>
k [s0, s1, v12, s5, s6, s9, s15, s24] H : R))
noncomputable def r57_1 (k : KT R) : KT R := fun fr H => opn 8 fr (fun s0 s1 s4 s5 s6 s9 s15 s24 => 
(qLenS s1 fun v8 =>
qEql X 3 v8 (.int .i64 0) fun v9 =>
k [s0, s1, s4, s5, s6, v9, s15, s24] H : R))
noncomputable def r57_0 (k : KT R) : KT R := fun fr H => opn 8 fr (fun s0 s1 s4 s5 s6 s9 s15 s24 => 
(k [s0, s1, (.int .i64 0), s5, s6, s9, s15, s24] H : R))
noncomputable def c57 (C : CallF) (l0 : List AV) (H : AH) (k : AV → AH → R) : R := opn 2 l0 (fun x0 x1 => (qFn (fun kr => (r57_0 (r57_1 (qCd (sel 5) (fun _ => (r57_2 C kr)) (fun k6 => k6) (r57_3 (qCd (sel 6) (fun _ => (r57_4 C kr)) (fun k5 => k5) (r57_5 (qBl (fun k1 => (qLoop (l57_4 C kr))) kr))))))))
(fun fr H => k (sel 2 fr) H) [x0, x1, Aes.undef, Aes.undef, Aes.undef, Aes.undef, Aes.undef, Aes.undef] H : R))
/- internal/stringslite.CutSuffix -/
noncomputable def r58_3 (k : KT R) : KT R := fun fr H => opn 5 fr (fun s0 s1 s4 s5 s9 => 
(qLenS s0 fun v13 =>
qLenS s1 fun v15 =>
qSub X 3 v13 v15 fun v16 =>
qSlc Tryz.t9.desc 0 s0 none (some v16) none fun v17 =>
k [s0, s1, v17, (.bool true), s9] H : R))
noncomputable def r58_2 (k : KT R) : KT R := fun fr H => opn 5 fr (fun s0 s1 s4 s5 s9 => 
(k [s0, s1, s0, (.bool false), s9] H : R))
noncomputable def r58_1 (C : CallF) (k : KT R) : KT R := fun fr H => opn 5 fr (fun s0 s1 s4 s5 s9 => 
(qRes (C 102 [s0, s1] H) fun v8 H =>
qNot v8 fun v9 =>
k [s0, s1, s4, s5, v9] H : R))
noncomputable def r58_0 (k : KT R) : KT R := fun fr H => opn 5 fr (fun s0 s1 s4 s5 s9 => 
(k [s0, s1, (.str []), (.bool false), s9] H : R))
noncomputable def c58 (C : CallF) (l0 : List AV) (H : AH) (k : AV → AH → R) : R := opn 2 l0 (fun x0 x1 => (qFn (fun kr => (r58_0 (r58_1 C (qCd (sel 4) (fun _ => (r58_2 kr)) (fun k1 => k1) (r58_3 kr)))))
(fun fr H => k (.tup [(sel 2 fr), (sel 3 fr)]) H) [x0, x1, Aes.undef, Aes.undef, Aes.undef] H : R))
/- refectory/refectoryref01.Letter -/
noncomputable def r59_1 (k : KT R) : KT R := fun fr H => opn 2 fr (fun s0 s2 => 
(qGeq X 5 s0 (.int .u8 97) fun v4 =>
qG v4 true (fun k => k s0 H) H fun v6 H =>
qG v4 true (fun k => qLeq X 5 v6 (.int .u8 122) fun v => k v H) H fun v7 H =>
qPick v4 v7 (.bool false) fun v8 =>
qG v8 false (fun k => k s0 H) H fun v10 H =>
qG v8 false (fun k => qGeq X 5 v10 (.int .u8 65) fun v => k v H) H fun v11 H =>
qG v8 false (fun k => k v11 H) H fun v12 H =>
qG v12 true (fun k => k s0 H) H fun v13 H =>
qG v12 true (fun k => qLeq X 5 v13 (.int .u8 90) fun v => k v H) H fun v14 H =>
qG v8 false (fun k => qPick v12 v14 (.bool false) fun v => k v H) H fun v15 H =>
qPick v8 (.bool true) v15 fun v16 =>
qG v16 false (fun k => k s0 H) H fun v18 H =>
qG v16 false (fun k => qEql X 5 v18 (.int .u8 95) fun v => k v H) H fun v19 H =>
qPick v16 (.bool true) v19 fun v20 =>
k [s0, v20] H : R))
noncomputable def r59_0 (k : KT R) : KT R := fun fr H => opn 2 fr (fun s0 s2 => 
(k [s0, (.bool false)] H : R))
noncomputable def c59 (C : CallF) (l0 : List AV) (H : AH) (k : AV → AH → R) : R := opn 1 l0 (fun x0 => (qFn (fun kr => (r59_0 (r59_1 kr)))
(fun fr H => k (sel 1 fr) H) [x0, Aes.undef] H : R))
/- refectory/refectoryref01.Digit -/
noncomputable def r60_1 (k : KT R) : KT R := fun fr H => opn 2 fr (fun s0 s2 => 
(qGeq X 5 s0 (.int .u8 48) fun v4 =>
qG v4 true (fun k => k s0 H) H fun v6 H =>
qG v4 true (fun k => qLeq X 5 v6 (.int .u8 57) fun v => k v H) H fun v7 H =>
qPick v4 v7 (.bool false) fun v8 =>
k [s0, v8] H : R))
noncomputable def r60_0 (k : KT R) : KT R := fun fr H => opn 2 fr (fun s0 s2 => 
(k [s0, (.bool false)] H : R))
noncomputable def c60 (C : CallF) (l0 : List AV) (H : AH) (k : AV → AH → R) : R := opn 1 l0 (fun x0 => (qFn (fun kr => (r60_0 (r60_1 kr)))
(fun fr H => k (sel 1 fr) H) [x0, Aes.undef] H : R))
/- slices.IndexFunc[[]refectory/api.FieldDef,refectory/api.FieldDef] -/
noncomputable def r61_7 (k : KT R) : KT R := fun fr H => opn 8 fr (fun s0 s1 s4 s5 s7 s8 s9 s16 => 
(k [s0, s1, (.int .i64 (-1)), s5, s7, s8, s9, s16] H : R))
noncomputable def r61_6 (k : KT R) : KT R := fun fr H => opn 8 fr (fun s0 s1 s4 s5 s7 s8 s9 s16 => 
(qAdd X 3 s8 (.int .i64 1) fun v18 =>
k [s0, s1, s4, s5, s7, v18, s9, s16] H : R))
noncomputable def r61_5 (k : KT R) : KT R := fun fr H => opn 8 fr (fun s0 s1 s4 s5 s7 s8 s9 s16 => 
(k [s0, s1, s5, s5, s7, s8, s9, s16] H : R))
noncomputable def r61_4 (C : CallF) (k : KT R) : KT R := fun fr H => opn 8 fr (fun s0 s1 s4 s5 s7 s8 s9 s16 => 
(qIa 5 s0 s5 fun v14 =>
qLdA 5 v14 H fun v15 =>
qCallV C s1 [v15] H fun v16 H =>
k [s0, s1, s4, s5, s7, s8, s9, v16] H : R))
noncomputable def r61_3 (k : KT R) : KT R := fun fr H => opn 8 fr (fun s0 s1 s4 s5 s7 s8 s9 s16 => 
(k [s0, s1, s4, s8, s7, s8, s9, s16] H : R))
noncomputable def r61_2 (k : KT R) : KT R := fun fr H => opn 8 fr (fun s0 s1 s4 s5 s7 s8 s9 s16 => 
(qLss X 3 s8 s7 fun v9 =>
k [s0, s1, s4, s5, s7, s8, v9, s16] H : R))
noncomputable def l61_5 (C : CallF) (k1 : KT R) (kr : KT R) : KT R → KT R := fun k2 => (r61_2 (qCd (sel 6) (fun k5 => k5) (fun _ => k1) (qBl (fun k3 => (r61_3 (r61_4 C (qCd (sel 7) (fun _ => (r61_5 kr)) (fun k4 => k4) k3)))) (r61_6 k2))))
noncomputable def r61_1 (k : KT R) : KT R := fun fr H => opn 8 fr (fun s0 s1 s4 s5 s7 s8 s9 s16 => 
(qLenL s0 fun v7 =>
k [s0, s1, s4, s5, v7, (.int .i64 0), s9, s16] H : R))
noncomputable def r61_0 (k : KT R) : KT R := fun fr H => opn 8 fr (fun s0 s1 s4 s5 s7 s8 s9 s16 => 
(k [s0, s1, (.int .i64 0), s5, s7, s8, s9, s16] H : R))
noncomputable def c61 (C : CallF) (l0 : List AV) (H : AH) (k : AV → AH → R) : R := opn 2 l0 (fun x0 x1 => (qFn (fun kr => (r61_0 (r61_1 (qBl (fun k1 => (qLoop (l61_5 C k1 kr))) (r61_7 kr)))))
(fun fr H => k (sel 2 fr) H) [x0, x1, Aes.undef, Aes.undef, Aes.undef, Aes.undef, Aes.undef, Aes.undef] H : R))
/- refectory/schema.Field$1 -/
noncomputable def r62_1 (k : KT R) : KT R := fun fr H => opn 4 fr (fun s0 s1 s2 s3 => 
(qFa 0 s2 fun v4 =>
qLd v4 H fun v5 =>
qLd s1 H fun v6 =>
qEql X 9 v5 v6 fun v7 =>
k [s0, s1, s2, v7] H : R))
noncomputable def r62_0 (k : KT R) : KT R := fun fr H => opn 4 fr (fun s0 s1 s2 s3 => 
(qBox s0 H fun v2 H =>
k [s0, s1, v2, (.bool false)] H : R))
noncomputable def c62 (C : CallF) (l0 : List AV) (H : AH) (k : AV → AH → R) : R := opn 2 l0 (fun x0 x1 => (qFn (fun kr => (r62_0 (r62_1 kr)))
(fun fr H => k (sel 3 fr) H) [x0, x1, Aes.undef, Aes.undef] H : R))
/- slices.IndexFunc[[]string,string] -/
noncomputable def r63_7 (k : KT R) : KT R := fun fr H => opn 8 fr (fun s0 s1 s4 s5 s7 s8 s9 s16 => 
(k [s0, s1, (.int .i64 (-1)), s5, s7, s8, s9, s16] H : R))
noncomputable def r63_6 (k : KT R) : KT R := fun fr H => opn 8 fr (fun s0 s1 s4 s5 s7 s8 s9 s16 => 
(qAdd X 3 s8 (.int .i64 1) fun v18 =>
k [s0, s1, s4, s5, s7, v18, s9, s16] H : R))
noncomputable def r63_5 (k : KT R) : KT R := fun fr H => opn 8 fr (fun s0 s1 s4 s5 s7 s8 s9 s16 => 
(k [s0, s1, s5, s5, s7, s8, s9, s16] H : R))
noncomputable def r63_4 (C : CallF) (k : KT R) : KT R := fun fr H => opn 8 fr (fun s0 s1 s4 s5 s7 s8 s9 s16 => 
(qIa 1 s0 s5 fun v14 =>
qLd v14 H fun v15 =>
qCallV C s1 [v15] H fun v16 H =>
k [s0, s1, s4, s5, s7, s8, s9, v16] H : R))
noncomputable def r63_3 (k : KT R) : KT R := fun fr H => opn 8 fr (fun s0 s1 s4 s5 s7 s8 s9 s16 => 
(k [s0, s1, s4, s8, s7, s8, s9, s16] H : R))
noncomputable def r63_2 (k : KT R) : KT R := fun fr H => opn 8 fr (fun s0 s1 s4 s5 s7 s8 s9 s16 => 
(qLss X 3 s8 s7 fun v9 =>
k [s0, s1, s4, s5, s7, s8, v9, s16] H : R))
noncomputable def l63_5 (C : CallF) (k1 : KT R) (kr : KT R) : KT R → KT R := fun k2 => (r63_2 (qCd (sel 6) (fun k5 => k5) (fun _ => k1) (qBl (fun k3 => (r63_3 (r63_4 C (qCd (sel 7) (fun _ => (r63_5 kr)) (fun k4 => k4) k3)))) (r63_6 k2))))
noncomputable def r63_1 (k : KT R) : KT R := fun fr H => opn 8 fr (fun s0 s1 s4 s5 s7 s8 s9 s16 => 
(qLenL s0 fun v7 =>
k [s0, s1, s4, s5, v7, (.int .i64 0), s9, s16] H : R))
noncomputable def r63_0 (k : KT R) : KT R := fun fr H => opn 8 fr (fun s0 s1 s4 s5 s7 s8 s9 s16 => 
(k [s0, s1, (.int .i64 0), s5, s7, s8, s9, s16] H : R))
noncomputable def c63 (C : CallF) (l0 : List AV) (H : AH) (k : AV → AH → R) : R := opn 2 l0 (fun x0 x1 => (qFn (fun kr => (r63_0 (r63_1 (qBl (fun k1 => (qLoop (l63_5 C k1 kr))) (r63_7 kr)))))
(fun fr H => k (sel 2 fr) H) [x0, x1, Aes.undef, Aes.undef, Aes.undef, Aes.undef, Aes.undef, Aes.undef] H : R))
/- slices.Index[[]string,string] -/
noncomputable def r64_7 (k : KT R) : KT R := fun fr H => opn 8 fr (fun s0 s1 s4 s5 s7 s8 s9 s16 => 
(k [s0, s1, (.int .i64 (-1)), s5, s7, s8, s9, s16] H : R))
noncomputable def r64_6 (k : KT R) : KT R := fun fr H => opn 8 fr (fun s0 s1 s4 s5 s7 s8 s9 s16 => 
(qAdd X 3 s8 (.int .i64 1) fun v18 =>
k [s0, s1, s4, s5, s7, v18, s9, s16] H : R))
noncomputable def r64_5 (k : KT R) : KT R := fun fr H => opn 8 fr (fun s0 s1 s4 s5 s7 s8 s9 s16 => 
(k [s0, s1, s5, s5, s7, s8, s9, s16] H : R))
noncomputable def r64_4 (k : KT R) : KT R := fun fr H => opn 8 fr (fun s0 s1 s4 s5 s7 s8 s9 s16 => 
(qIa 1 s0 s5 fun v14 =>
qLd v14 H fun v15 =>
qEql X 9 s1 v15 fun v16 =>
k [s0, s1, s4, s5, s7, s8, s9, v16] H : R))
noncomputable def r64_3 (k : KT R) : KT R := fun fr H => opn 8 fr (fun s0 s1 s4 s5 s7 s8 s9 s16 => 
(k [s0, s1, s4, s8, s7, s8, s9, s16] H : R))
noncomputable def r64_2 (k : KT R) : KT R := fun fr H => opn 8 fr (fun s0 s1 s4 s5 s7 s8 s9 s16 => 
(qLss X 3 s8 s7 fun v9 =>
k [s0, s1, s4, s5, s7, s8, v9, s16] H : R))
noncomputable def l64_5 (k1 : KT R) (kr : KT R) : KT R → KT R := fun k2 => (r64_2 (qCd (sel 6) (fun k5 => k5) (fun _ => k1) (qBl (fun k3 => (r64_3 (r64_4 (qCd (sel 7) (fun _ => (r64_5 kr)) (fun k4 => k4) k3)))) (r64_6 k2))))
noncomputable def r64_1 (k : KT R) : KT R := fun fr H => opn 8 fr (fun s0 s1 s4 s5 s7 s8 s9 s16 => 
(qLenL s0 fun v7 =>
k [s0, s1, s4, s5, v7, (.int .i64 0), s9, s16] H : R))
noncomputable def r64_0 (k : KT R) : KT R := fun fr H => opn 8 fr (fun s0 s1 s4 s5 s7 s8 s9 s16 => 
(k [s0, s1, (.int .i64 0), s5, s7, s8, s9, s16] H : R))
noncomputable def c64 (C : CallF) (l0 : List AV) (H : AH) (k : AV → AH → R) : R := opn 2 l0 (fun x0 x1 => (qFn (fun kr => (r64_0 (r64_1 (qBl (fun k1 => (qLoop (l64_5 k1 kr))) (r64_7 kr)))))
(fun fr H => k (sel 2 fr) H) [x0, x1, Aes.undef, Aes.undef, Aes.undef, Aes.undef, Aes.undef, Aes.undef] H : R))
/- refectory/refectoryref04.one -/
noncomputable def r65_24 (k : KT R) : KT R := fun fr H => opn 22 fr (fun s0 s1 s4 s5 s6 s7 s8 s9 s10 s11 s12 s13 s14 s19 s37 s51 s67 s78 s95 s110 s129 s135 => 
(qBld z74 [] fun v145 =>
qSt 3 s4 v145 H fun _ H =>
k [s0, s1, s4, s1, (.bool false), s7, s8, s9, s10, s11, s12, s13, s14, s19, s37, s51, s67, s78, s95, s110, s129, s135] H : R))
noncomputable def r65_21 (k : KT R) : KT R := fun fr H => opn 22 fr (fun s0 s1 s4 s5 s6 s7 s8 s9 s10 s11 s12 s13 s14 s19 s37 s51 s67 s78 s95 s110 s129 s135 => 
(qAdd X 3 s14 (.int .i64 1) fun v131 =>
k [s0, s1, s4, s5, s6, s7, s8, s9, s10, s11, s12, s13, v131, s19, s37, s51, s67, s78, s95, s110, s129, s135] H : R))
noncomputable def r65_23 (k : KT R) : KT R := fun fr H => opn 22 fr (fun s0 s1 s4 s5 s6 s7 s8 s9 s10 s11 s12 s13 s14 s19 s37 s51 s67 s78 s95 s110 s129 s135 => 
(qAdd X 3 s1 (.int .i64 1) fun v139 =>
qSlc Tryz.t9.desc 0 s0 (some s1) (some v139) none fun v140 =>
qBld z74 [(0, 1, (.int .i64 5)), (1, 1, v140), (2, 1, s1)] fun v142 =>
qAdd X 3 s1 (.int .i64 1) fun v144 =>
qSt 3 s4 v142 H fun _ H =>
k [s0, s1, s4, v144, (.bool true), s7, s8, s9, s10, s11, s12, s13, s14, s19, s37, s51, s67, s78, s95, s110, s129, s135] H : R))
noncomputable def r65_22 (k : KT R) : KT R := fun fr H => opn 22 fr (fun s0 s1 s4 s5 s6 s7 s8 s9 s10 s11 s12 s13 s14 s19 s37 s51 s67 s78 s95 s110 s129 s135 => 
(qIx (.str [33,36,38,40,41,58,61,64,91,93,123,124,125]) s14 fun v133 =>
qEql X 5 v133 s7 fun v135 =>
k [s0, s1, s4, s5, s6, s7, s8, s9, s10, s11, s12, s13, s14, s19, s37, s51, s67, s78, s95, s110, s129, v135] H : R))
noncomputable def r65_20 (k : KT R) : KT R := fun fr H => opn 22 fr (fun s0 s1 s4 s5 s6 s7 s8 s9 s10 s11 s12 s13 s14 s19 s37 s51 s67 s78 s95 s110 s129 s135 => 
(qLss X 3 s14 (.int .i64 13) fun v129 =>
k [s0, s1, s4, s5, s6, s7, s8, s9, s10, s11, s12, s13, s14, s19, s37, s51, s67, s78, s95, s110, v129, s135] H : R))
noncomputable def l65_5 (k1 : KT R) (kr : KT R) : KT R → KT R := fun k2 => (r65_20 (qCd (sel 20) (fun k5 => k5) (fun _ => k1) (qBl (fun k3 => (r65_22 (qCd (sel 21) (fun _ => (r65_23 kr)) (fun k4 => k4) k3))) (r65_21 k2))))
noncomputable def r65_19 (k : KT R) : KT R := fun fr H => opn 22 fr (fun s0 s1 s4 s5 s6 s7 s8 s9 s10 s11 s12 s13 s14 s19 s37 s51 s67 s78 s95 s110 s129 s135 => 
(k [s0, s1, s4, s5, s6, s7, s8, s9, s10, s11, s12, s13, (.int .i64 0), s19, s37, s51, s67, s78, s95, s110, s129, s135] H : R))
noncomputable def r65_6 (k : KT R) : KT R := fun fr H => opn 22 fr (fun s0 s1 s4 s5 s6 s7 s8 s9 s10 s11 s12 s13 s14 s19 s37 s51 s67 s78 s95 s110 s129 s135 => 
(qSlc Tryz.t9.desc 0 s0 (some s1) (some s8) none fun v43 =>
qBld z74 [(0, 1, (.int .i64 1)), (1, 1, v43), (2, 1, s1)] fun v45 =>
qSub X 3 s8 s1 fun v49 =>
qLeq X 3 v49 (.int .i64 40) fun v50 =>
qSt 3 s4 v45 H fun _ H =>
k [s0, s1, s4, s8, v50, s7, s8, s9, s10, s11, s12, s13, s14, s19, s37, s51, s67, s78, s95, s110, s129, s135] H : R))
noncomputable def r65_5 (k : KT R) : KT R := fun fr H => opn 22 fr (fun s0 s1 s4 s5 s6 s7 s8 s9 s10 s11 s12 s13 s14 s19 s37 s51 s67 s78 s95 s110 s129 s135 => 
(qAdd X 3 s8 (.int .i64 1) fun v39 =>
k [s0, s1, s4, s5, s6, s7, v39, s9, s10, s11, s12, s13, s14, s19, s37, s51, s67, s78, s95, s110, s129, s135] H : R))
noncomputable def r65_4 (C : CallF) (k : KT R) : KT R := fun fr H => opn 22 fr (fun s0 s1 s4 s5 s6 s7 s8 s9 s10 s11 s12 s13 s14 s19 s37 s51 s67 s78 s95 s110 s129 s135 => 
(qLenS s0 fun v24 =>
qLss X 3 s8 v24 fun v25 =>
qG v25 true (fun k => k s0 H) H fun v27 H =>
qG v25 true (fun k => k s8 H) H fun v28 H =>
qG v25 true (fun k => qIx v27 v28 fun v => k v H) H fun v29 H =>
qG v25 true (fun k => qRes (C 59 [v29] H) k) H fun v30 H =>
qG v25 true (fun k => k v30 H) H fun v31 H =>
qG v31 false (fun k => k s0 H) H fun v32 H =>
qG v31 false (fun k => k s8 H) H fun v33 H =>
qG v31 false (fun k => qIx v32 v33 fun v => k v H) H fun v34 H =>
qG v31 false (fun k => qRes (C 60 [v34] H) k) H fun v35 H =>
qG v25 true (fun k => qPick v31 (.bool true) v35 fun v => k v H) H fun v36 H =>
qPick v25 v36 (.bool false) fun v37 =>
k [s0, s1, s4, s5, s6, s7, s8, s9, s10, s11, s12, s13, s14, s19, v37, s51, s67, s78, s95, s110, s129, s135] H : R))
noncomputable def l65_11 (C : CallF) (k8 : KT R) : KT R → KT R := fun k9 => (r65_4 C (qCd (sel 14) (fun k11 => k11) (fun _ => k8) (qBl (fun k10 => (r65_5 k10)) k9)))
noncomputable def r65_13 (k : KT R) : KT R := fun fr H => opn 22 fr (fun s0 s1 s4 s5 s6 s7 s8 s9 s10 s11 s12 s13 s14 s19 s37 s51 s67 s78 s95 s110 s129 s135 => 
(qSlc Tryz.t9.desc 0 s0 (some s1) (some s8) none fun v90 =>
qBld z74 [(0, 1, (.int .i64 3)), (1, 1, v90), (2, 1, s1)] fun v92 =>
qSt 3 s4 v92 H fun _ H =>
k [s0, s1, s4, s8, s10, s7, s8, s9, s10, s11, s12, s13, s14, s19, s37, s51, s67, s78, s95, s110, s129, s135] H : R))
noncomputable def r65_12 (k : KT R) : KT R := fun fr H => opn 22 fr (fun s0 s1 s4 s5 s6 s7 s8 s9 s10 s11 s12 s13 s14 s19 s37 s51 s67 s78 s95 s110 s129 s135 => 
(qSlc Tryz.t9.desc 0 s0 (some s1) (some s8) none fun v82 =>
qBld z74 [(0, 1, (.int .i64 2)), (1, 1, v82), (2, 1, s1)] fun v84 =>
qSt 3 s4 v84 H fun _ H =>
k [s0, s1, s4, s8, s10, s7, s8, s9, s10, s11, s12, s13, s14, s19, s37, s51, s67, s78, s95, s110, s129, s135] H : R))
noncomputable def r65_11 (k : KT R) : KT R := fun fr H => opn 22 fr (fun s0 s1 s4 s5 s6 s7 s8 s9 s10 s11 s12 s13 s14 s19 s37 s51 s67 s78 s95 s110 s129 s135 => 
(k [s0, s1, s4, s5, s6, s7, s8, s9, s10, s11, s12, s13, s14, s19, s37, s51, s67, s9, s95, s110, s129, s135] H : R))
noncomputable def r65_10 (C : CallF) (k : KT R) : KT R := fun fr H => opn 22 fr (fun s0 s1 s4 s5 s6 s7 s8 s9 s10 s11 s12 s13 s14 s19 s37 s51 s67 s78 s95 s110 s129 s135 => 
(qSlc Tryz.t9.desc 0 s0 (some s1) (some s8) none fun v74 =>
qRes (C 104 [v74] H) fun v75 H =>
qExt v75 0 fun v76 =>
qExt v75 1 fun v77 =>
k [s0, s1, s4, s5, s6, s7, s8, v76, v77, s11, s12, s13, s14, s19, s37, s51, s67, s78, s95, s110, s129, s135] H : R))
noncomputable def r65_9 (k : KT R) : KT R := fun fr H => opn 22 fr (fun s0 s1 s4 s5 s6 s7 s8 s9 s10 s11 s12 s13 s14 s19 s37 s51 s67 s78 s95 s110 s129 s135 => 
(qAdd X 3 s8 (.int .i64 1) fun v69 =>
k [s0, s1, s4, s5, s6, s7, v69, s9, s10, s11, s12, s13, s14, s19, s37, s51, s67, s78, s95, s110, s129, s135] H : R))
noncomputable def r65_8 (C : CallF) (k : KT R) : KT R := fun fr H => opn 22 fr (fun s0 s1 s4 s5 s6 s7 s8 s9 s10 s11 s12 s13 s14 s19 s37 s51 s67 s78 s95 s110 s129 s135 => 
(qLenS s0 fun v60 =>
qLss X 3 s8 v60 fun v61 =>
qG v61 true (fun k => k s0 H) H fun v63 H =>
qG v61 true (fun k => k s8 H) H fun v64 H =>
qG v61 true (fun k => qIx v63 v64 fun v => k v H) H fun v65 H =>
qG v61 true (fun k => qRes (C 103 [v65] H) k) H fun v66 H =>
qPick v61 v66 (.bool false) fun v67 =>
k [s0, s1, s4, s5, s6, s7, s8, s9, s10, s11, s12, s13, s14, s19, s37, s51, v67, s78, s95, s110, s129, s135] H : R))
noncomputable def l65_17 (C : CallF) (k14 : KT R) : KT R → KT R := fun k15 => (r65_8 C (qCd (sel 16) (fun k17 => k17) (fun _ => k14) (qBl (fun k16 => (r65_9 k16)) k15)))
noncomputable def r65_16 (k : KT R) : KT R := fun fr H => opn 22 fr (fun s0 s1 s4 s5 s6 s7 s8 s9 s10 s11 s12 s13 s14 s19 s37 s51 s67 s78 s95 s110 s129 s135 => 
(qBld z74 [(0, 1, (.int .i64 4)), (1, 1, s11), (2, 1, s1)] fun v107 =>
qSt 3 s4 v107 H fun _ H =>
k [s0, s1, s4, s12, s13, s7, s8, s9, s10, s11, s12, s13, s14, s19, s37, s51, s67, s78, s95, s110, s129, s135] H : R))
noncomputable def r65_15 (C : CallF) (k : KT R) : KT R := fun fr H => opn 22 fr (fun s0 s1 s4 s5 s6 s7 s8 s9 s10 s11 s12 s13 s14 s19 s37 s51 s67 s78 s95 s110 s129 s135 => 
(qRes (C 105 [s0, s1] H) fun v101 H =>
qExt v101 0 fun v102 =>
qExt v101 1 fun v103 =>
qExt v101 2 fun v104 =>
k [s0, s1, s4, s5, s6, s7, s8, s9, s10, v102, v103, v104, s14, s19, s37, s51, s67, s78, s95, s110, s129, s135] H : R))
noncomputable def r65_18 (k : KT R) : KT R := fun fr H => opn 22 fr (fun s0 s1 s4 s5 s6 s7 s8 s9 s10 s11 s12 s13 s14 s19 s37 s51 s67 s78 s95 s110 s129 s135 => 
(qBld z74 [(0, 1, (.int .i64 5)), (1, 1, (.str [46,46,46])), (2, 1, s1)] fun v125 =>
qAdd X 3 s1 (.int .i64 3) fun v127 =>
qSt 3 s4 v125 H fun _ H =>
k [s0, s1, s4, v127, (.bool true), s7, s8, s9, s10, s11, s12, s13, s14, s19, s37, s51, s67, s78, s95, s110, s129, s135] H : R))
noncomputable def r65_17 (k : KT R) : KT R := fun fr H => opn 22 fr (fun s0 s1 s4 s5 s6 s7 s8 s9 s10 s11 s12 s13 s14 s19 s37 s51 s67 s78 s95 s110 s129 s135 => 
(qLenS s0 fun v112 =>
qSub X 3 v112 s1 fun v114 =>
qGeq X 3 v114 (.int .i64 3) fun v115 =>
qG v115 true (fun k => k s0 H) H fun v117 H =>
qG v115 true (fun k => k s1 H) H fun v118 H =>
qG v115 true (fun k => k s1 H) H fun v119 H =>
qG v115 true (fun k => qAdd X 3 v119 (.int .i64 3) fun v => k v H) H fun v120 H =>
qG v115 true (fun k => qSlc Tryz.t9.desc 0 v117 (some v118) (some v120) none fun v => k v H) H fun v121 H =>
qG v115 true (fun k => qEql X 9 v121 (.str [46,46,46]) fun v => k v H) H fun v122 H =>
qPick v115 v122 (.bool false) fun v123 =>
k [s0, s1, s4, s5, s6, s7, s8, s9, s10, s11, s12, s13, s14, s19, s37, s51, s67, s78, s95, v123, s129, s135] H : R))
noncomputable def r65_14 (k : KT R) : KT R := fun fr H => opn 22 fr (fun s0 s1 s4 s5 s6 s7 s8 s9 s10 s11 s12 s13 s14 s19 s37 s51 s67 s78 s95 s110 s129 s135 => 
(qEql X 5 s7 (.int .u8 34) fun v97 =>
k [s0, s1, s4, s5, s6, s7, s8, s9, s10, s11, s12, s13, s14, s19, s37, s51, s67, s78, v97, s110, s129, s135] H : R))
noncomputable def r65_7 (C : CallF) (k : KT R) : KT R := fun fr H => opn 22 fr (fun s0 s1 s4 s5 s6 s7 s8 s9 s10 s11 s12 s13 s14 s19 s37 s51 s67 s78 s95 s110 s129 s135 => 
(qEql X 5 s7 (.int .u8 45) fun v53 =>
qG v53 false (fun k => k s7 H) H fun v55 H =>
qG v53 false (fun k => qRes (C 60 [v55] H) k) H fun v56 H =>
qPick v53 (.bool true) v56 fun v57 =>
k [s0, s1, s4, s5, s6, s7, s8, s9, s10, s11, s12, s13, s14, s19, s37, v57, s67, s78, s95, s110, s129, s135] H : R))
noncomputable def r65_3 (C : CallF) (k : KT R) : KT R := fun fr H => opn 22 fr (fun s0 s1 s4 s5 s6 s7 s8 s9 s10 s11 s12 s13 s14 s19 s37 s51 s67 s78 s95 s110 s129 s135 => 
(qRes (C 59 [s7] H) fun v21 H =>
k [s0, s1, s4, s5, s6, s7, s8, s9, s10, s11, s12, s13, s14, v21, s37, s51, s67, s78, s95, s110, s129, s135] H : R))
noncomputable def r65_2 (k : KT R) : KT R := fun fr H => opn 22 fr (fun s0 s1 s4 s5 s6 s7 s8 s9 s10 s11 s12 s13 s14 s19 s37 s51 s67 s78 s95 s110 s129 s135 => 
(k [s0, s1, s4, s5, s6, s7, s1, s9, s10, s11, s12, s13, s14, s19, s37, s51, s67, s78, s95, s110, s129, s135] H : R))
noncomputable def r65_1 (k : KT R) : KT R := fun fr H => opn 22 fr (fun s0 s1 s4 s5 s6 s7 s8 s9 s10 s11 s12 s13 s14 s19 s37 s51 s67 s78 s95 s110 s129 s135 => 
(qIx s0 s1 fun v17 =>
k [s0, s1, s4, s5, s6, v17, s8, s9, s10, s11, s12, s13, s14, s19, s37, s51, s67, s78, s95, s110, s129, s135] H : R))
noncomputable def r65_0 (k : KT R) : KT R := fun fr H => opn 22 fr (fun s0 s1 s4 s5 s6 s7 s8 s9 s10 s11 s12 s13 s14 s19 s37 s51 s67 s78 s95 s110 s129 s135 => 
(qNew (.cells z74) .ptr H fun v4 H =>
k [s0, s1, v4, (.int .i64 0), (.bool false), s7, s8, s9, s10, s11, s12, s13, s14, s19, s37, s51, s67, s78, s95, s110, s129, s135] H : R))
noncomputable def c65 (C : CallF) (l0 : List AV) (H : AH) (k : AV → AH → R) : R := opn 2 l0 (fun x0 x1 => (qFn (fun kr => (r65_0 (r65_1 (r65_2 (qBl (fun k6 => (r65_3 C (qCd (sel 13) (fun _ => (qBl (fun k8 => (qLoop (l65_11 C k8))) (r65_6 kr))) (fun k7 => (r65_7 C (qCd (sel 15) (fun _ => (qBl (fun k14 => (qLoop (l65_17 C k14))) (r65_10 C (r65_11 (qCd (sel 17) (fun _ => (r65_12 kr)) (fun k13 => k13) (r65_13 kr)))))) (fun k12 => (r65_14 (qCd (sel 18) (fun _ => (r65_15 C (r65_16 kr))) (fun k18 => (r65_17 (qCd (sel 19) (fun _ => (r65_18 kr)) (fun k19 => k19) k18))) k12))) k7))) k6))) (r65_19 (qBl (fun k1 => (qLoop (l65_5 k1 kr))) (r65_24 kr))))))))
(fun fr H => qPtr (sel 2 fr) (qLdA 3 (sel 2 fr) H fun w0 => k (.tup [w0, (sel 3 fr), (sel 4 fr)]) H)) [x0, x1, Aes.undef, Aes.undef, Aes.undef, Aes.undef, Aes.undef, Aes.undef, Aes.undef, Aes.undef, Aes.undef, Aes.undef, Aes.undef, Aes.undef, Aes.undef, Aes.undef, Aes.undef, Aes.undef, Aes.undef, Aes.undef, Aes.undef, Aes.undef] H : R))
/- (*refectory/refectoryref05.P).Kind -/
noncomputable def r66_3 (k : KT R) : KT R := fun fr H => opn 3 fr (fun s0 s2 s26 => 
(qNc s0 fun v28 =>
qFa 0 v28 fun v29 =>
qLd v29 H fun v30 =>
qNc s0 fun v32 =>
qFa 1 v32 fun v33 =>
qLd v33 H fun v34 =>
qIa 3 v30 v34 fun v35 =>
qFa 0 v35 fun v36 =>
qLd v36 H fun v37 =>
k [s0, v37, s26] H : R))
noncomputable def r66_2 (k : KT R) : KT R := fun fr H => opn 3 fr (fun s0 s2 s26 => 
(k [s0, (.int .i64 0), s26] H : R))
noncomputable def r66_1 (k : KT R) : KT R := fun fr H => opn 3 fr (fun s0 s2 s26 => 
(qNc s0 fun v4 =>
qFa 2 v4 fun v5 =>
qLd v5 H fun v6 =>
qNeq X 34 v6 (.int .i64 0) fun v7 =>
qG v7 false (fun k => k s0 H) H fun v9 H =>
qG v7 false (fun k => qNc v9 fun v => k v H) H fun v10 H =>
qG v7 false (fun k => qFa 1 v10 fun v => k v H) H fun v11 H =>
qG v7 false (fun k => qLd v11 H fun v => k v H) H fun v12 H =>
qG v7 false (fun k => qLss X 3 v12 (.int .i64 0) fun v => k v H) H fun v13 H =>
qPick v7 (.bool true) v13 fun v14 =>
qG v14 false (fun k => k s0 H) H fun v16 H =>
qG v14 false (fun k => qNc v16 fun v => k v H) H fun v17 H =>
qG v14 false (fun k => qFa 1 v17 fun v => k v H) H fun v18 H =>
qG v14 false (fun k => qLd v18 H fun v => k v H) H fun v19 H =>
qG v14 false (fun k => k s0 H) H fun v20 H =>
qG v14 false (fun k => qNc v20 fun v => k v H) H fun v21 H =>
qG v14 false (fun k => qFa 0 v21 fun v => k v H) H fun v22 H =>
qG v14 false (fun k => qLd v22 H fun v => k v H) H fun v23 H =>
qG v14 false (fun k => qLenL v23 fun v => k v H) H fun v24 H =>
qG v14 false (fun k => qGeq X 3 v19 v24 fun v => k v H) H fun v25 H =>
qPick v14 (.bool true) v25 fun v26 =>
k [s0, s2, v26] H : R))
noncomputable def r66_0 (k : KT R) : KT R := fun fr H => opn 3 fr (fun s0 s2 s26 => 
(k [s0, (.int .i64 0), s26] H : R))
noncomputable def c66 (C : CallF) (l0 : List AV) (H : AH) (k : AV → AH → R) : R := opn 1 l0 (fun x0 => (qFn (fun kr => (r66_0 (r66_1 (qCd (sel 2) (fun _ => (r66_2 kr)) (fun k1 => k1) (r66_3 kr)))))
(fun fr H => k (sel 1 fr) H) [x0, Aes.undef, Aes.undef] H : R))
/- (*refectory/refectoryref05.P).Is -/
noncomputable def r67_1 (k : KT R) : KT R := fun fr H => opn 4 fr (fun s0 s1 s2 s6 => 
(qNc s0 fun v8 =>
qFa 2 v8 fun v9 =>
qLd v9 H fun v10 =>
qEql X 34 v10 (.int .i64 0) fun v11 =>
qG v11 true (fun k => k s0 H) H fun v13 H =>
qG v11 true (fun k => qNc v13 fun v => k v H) H fun v14 H =>
qG v11 true (fun k => qFa 1 v14 fun v => k v H) H fun v15 H =>
qG v11 true (fun k => qLd v15 H fun v => k v H) H fun v16 H =>
qG v11 true (fun k => qGeq X 3 v16 (.int .i64 0) fun v => k v H) H fun v17 H =>
qPick v11 v17 (.bool false) fun v18 =>
qG v18 true (fun k => k s0 H) H fun v20 H =>
qG v18 true (fun k => qNc v20 fun v => k v H) H fun v21 H =>
qG v18 true (fun k => qFa 1 v21 fun v => k v H) H fun v22 H =>
qG v18 true (fun k => qLd v22 H fun v => k v H) H fun v23 H =>
qG v18 true (fun k => k s0 H) H fun v24 H =>
qG v18 true (fun k => qNc v24 fun v => k v H) H fun v25 H =>
qG v18 true (fun k => qFa 0 v25 fun v => k v H) H fun v26 H =>
qG v18 true (fun k => qLd v26 H fun v => k v H) H fun v27 H =>
qG v18 true (fun k => qLenL v27 fun v => k v H) H fun v28 H =>
qG v18 true (fun k => qLss X 3 v23 v28 fun v => k v H) H fun v29 H =>
qPick v18 v29 (.bool false) fun v30 =>
qG v30 true (fun k => k s0 H) H fun v32 H =>
qG v30 true (fun k => qNc v32 fun v => k v H) H fun v33 H =>
qG v30 true (fun k => qFa 0 v33 fun v => k v H) H fun v34 H =>
qG v30 true (fun k => qLd v34 H fun v => k v H) H fun v35 H =>
qG v30 true (fun k => k s0 H) H fun v36 H =>
qG v30 true (fun k => qNc v36 fun v => k v H) H fun v37 H =>
qG v30 true (fun k => qFa 1 v37 fun v => k v H) H fun v38 H =>
qG v30 true (fun k => qLd v38 H fun v => k v H) H fun v39 H =>
qG v30 true (fun k => qIa 3 v35 v39 fun v => k v H) H fun v40 H =>
qG v30 true (fun k => qFa 0 v40 fun v => k v H) H fun v41 H =>
qG v30 true (fun k => qLd v41 H fun v => k v H) H fun v42 H =>
qG v30 true (fun k => k s1 H) H fun v43 H =>
qG v30 true (fun k => qEql X 3 v42 v43 fun v => k v H) H fun v44 H =>
qPick v30 v44 (.bool false) fun v45 =>
qG v45 true (fun k => k s0 H) H fun v47 H =>
qG v45 true (fun k => qNc v47 fun v => k v H) H fun v48 H =>
qG v45 true (fun k => qFa 0 v48 fun v => k v H) H fun v49 H =>
qG v45 true (fun k => qLd v49 H fun v => k v H) H fun v50 H =>
qG v45 true (fun k => k s0 H) H fun v51 H =>
qG v45 true (fun k => qNc v51 fun v => k v H) H fun v52 H =>
qG v45 true (fun k => qFa 1 v52 fun v => k v H) H fun v53 H =>
qG v45 true (fun k => qLd v53 H fun v => k v H) H fun v54 H =>
qG v45 true (fun k => qIa 3 v50 v54 fun v => k v H) H fun v55 H =>
qG v45 true (fun k => qFa 1 v55 fun v => k v H) H fun v56 H =>
qG v45 true (fun k => qLd v56 H fun v => k v H) H fun v57 H =>
qG v45 true (fun k => k s2 H) H fun v58 H =>
qG v45 true (fun k => qEql X 9 v57 v58 fun v => k v H) H fun v59 H =>
qPick v45 v59 (.bool false) fun v60 =>
k [s0, s1, s2, v60] H : R))
noncomputable def r67_0 (k : KT R) : KT R := fun fr H => opn 4 fr (fun s0 s1 s2 s6 => 
(k [s0, s1, s2, (.bool false)] H : R))
noncomputable def c67 (C : CallF) (l0 : List AV) (H : AH) (k : AV → AH → R) : R := opn 3 l0 (fun x0 x1 x2 => (qFn (fun kr => (r67_0 (r67_1 kr)))
(fun fr H => k (sel 3 fr) H) [x0, x1, x2, Aes.undef] H : R))
/- (*refectory/refectoryref05.P).Must -/
noncomputable def r68_1 (C : CallF) (k : KT R) : KT R := fun fr H => opn 3 fr (fun s0 s1 s7 => 
(qNc s0 fun v10 =>
qFa 1 v10 fun v11 =>
qLd v11 H fun v12 =>
qRes (C 106 [s0, (.int .i64 2), v12] H) fun v13 H =>
k [s0, s1, s7] H : R))
noncomputable def r68_0 (C : CallF) (k : KT R) : KT R := fun fr H => opn 3 fr (fun s0 s1 s7 => 
(qRes (C 29 [s0, (.int .i64 5), s1] H) fun v6 H =>
qNot v6 fun v7 =>
k [s0, s1, v7] H : R))
noncomputable def c68 (C : CallF) (l0 : List AV) (H : AH) (k : AV → AH → R) : R := opn 2 l0 (fun x0 x1 => (qFn (fun kr => (r68_0 C (qCd (sel 2) (fun k1 => (r68_1 C k1)) (fun k1 => k1) kr)))
(fun fr H => k (.tup []) H) [x0, x1, Aes.undef] H : R))
/- (*refectory/refectoryref05.P).Fail -/
noncomputable def r69_0 (C : CallF) (k : KT R) : KT R := fun fr H => opn 1 fr (fun s0 => 
(qNc s0 fun v4 =>
qFa 1 v4 fun v5 =>
qLd v5 H fun v6 =>
qRes (C 106 [s0, (.int .i64 2), v6] H) fun v7 H =>
k [s0] H : R))
noncomputable def c69 (C : CallF) (l0 : List AV) (H : AH) (k : AV → AH → R) : R := opn 1 l0 (fun x0 => (qFn (fun kr => (r69_0 C kr))
(fun fr H => k (.tup []) H) [x0] H : R))
/- (*refectory/refectoryref05.P).Name -/
noncomputable def r70_5 (k : KT R) : KT R := fun fr H => opn 3 fr (fun s0 s2 s5 => 
(qNc s0 fun v20 =>
qFa 0 v20 fun v21 =>
qLd v21 H fun v22 =>
qNc s0 fun v24 =>
qFa 1 v24 fun v25 =>
qLd v25 H fun v26 =>
qSub X 3 v26 (.int .i64 1) fun v27 =>
qIa 3 v22 v27 fun v28 =>
qFa 1 v28 fun v29 =>
qLd v29 H fun v30 =>
k [s0, v30, s5] H : R))
noncomputable def r70_4 (k : KT R) : KT R := fun fr H => opn 3 fr (fun s0 s2 s5 => 
(qNc s0 fun v13 =>
qFa 1 v13 fun v14 =>
qLd v14 H fun v15 =>
qAdd X 3 v15 (.int .i64 1) fun v16 =>
qNc s0 fun v17 =>
qFa 1 v17 fun v18 =>
qSt 1 v18 v16 H fun _ H =>
k [s0, s2, s5] H : R))
noncomputable def r70_3 (k : KT R) : KT R := fun fr H => opn 3 fr (fun s0 s2 s5 => 
(k [s0, (.str []), s5] H : R))
noncomputable def r70_2 (C : CallF) (k : KT R) : KT R := fun fr H => opn 3 fr (fun s0 s2 s5 => 
(qNc s0 fun v8 =>
qFa 1 v8 fun v9 =>
qLd v9 H fun v10 =>
qRes (C 106 [s0, (.int .i64 2), v10] H) fun v11 H =>
k [s0, s2, s5] H : R))
noncomputable def r70_1 (C : CallF) (k : KT R) : KT R := fun fr H => opn 3 fr (fun s0 s2 s5 => 
(qRes (C 66 [s0] H) fun v4 H =>
qNeq X 3 v4 (.int .i64 1) fun v5 =>
k [s0, s2, v5] H : R))
noncomputable def r70_0 (k : KT R) : KT R := fun fr H => opn 3 fr (fun s0 s2 s5 => 
(k [s0, (.str []), s5] H : R))
noncomputable def c70 (C : CallF) (l0 : List AV) (H : AH) (k : AV → AH → R) : R := opn 1 l0 (fun x0 => (qFn (fun kr => (r70_0 (r70_1 C (qCd (sel 2) (fun _ => (r70_2 C (r70_3 kr))) (fun k1 => k1) (r70_4 (r70_5 kr))))))
(fun fr H => k (sel 1 fr) H) [x0, Aes.undef, Aes.undef] H : R))
/- refectory/refectoryref08.names -/
noncomputable def r71_4 (k : KT R) : KT R := fun fr H => opn 5 fr (fun s0 s1 s4 s5 s11 => 
(k [s0, s1, s5, s5, s11] H : R))
noncomputable def r71_3 (C : CallF) (k : KT R) : KT R := fun fr H => opn 5 fr (fun s0 s1 s4 s5 s11 => 
(qRes (C 70 [s0] H) fun v14 H =>
qRows z9 1 [(0, v14)] fun v15 =>
qApp 1 16 s5 v15 false none H fun v16 H =>
k [s0, s1, s4, v16, s11] H : R))
noncomputable def r71_2 (C : CallF) (k : KT R) : KT R := fun fr H => opn 5 fr (fun s0 s1 s4 s5 s11 => 
(qRes (C 29 [s0, (.int .i64 5), s1] H) fun v11 H =>
k [s0, s1, s4, s5, v11] H : R))
noncomputable def l71_4 (C : CallF) (k1 : KT R) : KT R → KT R := fun k2 => (r71_2 C (qCd (sel 4) (fun k4 => k4) (fun _ => k1) (qBl (fun k3 => (r71_3 C k3)) k2)))
noncomputable def r71_1 (C : CallF) (k : KT R) : KT R := fun fr H => opn 5 fr (fun s0 s1 s4 s5 s11 => 
(qRes (C 70 [s0] H) fun v7 H =>
qRows z9 1 [(0, v7)] fun v8 =>
k [s0, s1, s4, v8, s11] H : R))
noncomputable def r71_0 (k : KT R) : KT R := fun fr H => opn 5 fr (fun s0 s1 s4 s5 s11 => 
(k [s0, s1, (.sl [] .nil), s5, s11] H : R))
noncomputable def c71 (C : CallF) (l0 : List AV) (H : AH) (k : AV → AH → R) : R := opn 2 l0 (fun x0 x1 => (qFn (fun kr => (r71_0 (r71_1 C (qBl (fun k1 => (qLoop (l71_4 C k1))) (r71_4 kr)))))
(fun fr H => k (sel 2 fr) H) [x0, x1, Aes.undef, Aes.undef, Aes.undef] H : R))
/- refectory/refectoryref08.fields -/
noncomputable def r72_12 (k : KT R) : KT R := fun fr H => opn 6 fr (fun s0 s2 s3 s4 s21 s28 => 
(k [s0, s3, s3, s4, s21, s28] H : R))
noncomputable def r72_11 (k : KT R) : KT R := fun fr H => opn 6 fr (fun s0 s2 s3 s4 s21 s28 => 
(qLdA 5 s4 H fun v41 =>
qRows z52 1 [(0, v41)] fun v42 =>
qApp 5 80 s3 v42 false none H fun v43 H =>
k [s0, s2, v43, s4, s21, s28] H : R))
noncomputable def r72_10 (C : CallF) (k : KT R) : KT R := fun fr H => opn 6 fr (fun s0 s2 s3 s4 s21 s28 => 
(qRes (C 108 [s0] H) fun v38 H =>
qFa 4 s4 fun v39 =>
qSt 1 v39 v38 H fun _ H =>
k [s0, s2, s3, s4, s21, s28] H : R))
noncomputable def r72_9 (C : CallF) (k : KT R) : KT R := fun fr H => opn 6 fr (fun s0 s2 s3 s4 s21 s28 => 
(qRes (C 107 [s0] H) fun v35 H =>
qFa 2 s4 fun v36 =>
qSt 2 v36 v35 H fun _ H =>
k [s0, s2, s3, s4, s21, s28] H : R))
noncomputable def r72_8 (C : CallF) (k : KT R) : KT R := fun fr H => opn 6 fr (fun s0 s2 s3 s4 s21 s28 => 
(qRes (C 68 [s0, (.str [58])] H) fun v33 H =>
k [s0, s2, s3, s4, s21, s28] H : R))
noncomputable def r72_7 (C : CallF) (k : KT R) : KT R := fun fr H => opn 6 fr (fun s0 s2 s3 s4 s21 s28 => 
(qRes (C 74 [s0, (.str [40]), (.str [41])] H) fun v30 H =>
qFa 1 s4 fun v31 =>
qSt 1 v31 v30 H fun _ H =>
k [s0, s2, s3, s4, s21, s28] H : R))
noncomputable def r72_6 (C : CallF) (k : KT R) : KT R := fun fr H => opn 6 fr (fun s0 s2 s3 s4 s21 s28 => 
(qRes (C 67 [s0, (.int .i64 5), (.str [40])] H) fun v28 H =>
k [s0, s2, s3, s4, s21, v28] H : R))
noncomputable def r72_5 (C : CallF) (k : KT R) : KT R := fun fr H => opn 6 fr (fun s0 s2 s3 s4 s21 s28 => 
(qRes (C 70 [s0] H) fun v25 H =>
qBld z52 [(0, 1, v25)] fun v26 =>
qNew (.cells z52) .ptr H fun v4 H =>
qSt 5 v4 v26 H fun _ H =>
k [s0, s2, s3, v4, s21, s28] H : R))
noncomputable def r72_4 (C : CallF) (k : KT R) : KT R := fun fr H => opn 6 fr (fun s0 s2 s3 s4 s21 s28 => 
(qRes (C 28 [s0] H) fun v23 H =>
k [s0, s2, s3, s4, s21, s28] H : R))
noncomputable def r72_3 (C : CallF) (k : KT R) : KT R := fun fr H => opn 6 fr (fun s0 s2 s3 s4 s21 s28 => 
(qNc s0 fun v8 =>
qFa 2 v8 fun v9 =>
qLd v9 H fun v10 =>
qEql X 34 v10 (.int .i64 0) fun v11 =>
qG v11 true (fun k => k s3 H) H fun v13 H =>
qG v11 true (fun k => qLenL v13 fun v => k v H) H fun v14 H =>
qG v11 true (fun k => qEql X 3 v14 (.int .i64 0) fun v => k v H) H fun v15 H =>
qG v11 true (fun k => k v15 H) H fun v16 H =>
qG v16 false (fun k => k s0 H) H fun v17 H =>
qG v16 false (fun k => qRes (C 29 [v17, (.int .i64 5), (.str [125])] H) k) H fun v18 H =>
qG v16 false (fun k => qNot v18 fun v => k v H) H fun v19 H =>
qG v11 true (fun k => qPick v16 (.bool true) v19 fun v => k v H) H fun v20 H =>
qPick v11 v20 (.bool false) fun v21 =>
k [s0, s2, s3, s4, v21, s28] H : R))
noncomputable def l72_5 (C : CallF) (k1 : KT R) : KT R → KT R := fun k2 => (r72_3 C (qCd (sel 4) (fun k5 => k5) (fun _ => k1) (qBl (fun k3 => (r72_4 C (r72_5 C (r72_6 C (qCd (sel 5) (fun k4 => (r72_7 C k4)) (fun k4 => k4) (r72_8 C (r72_9 C (r72_10 C (r72_11 k3))))))))) k2)))
noncomputable def r72_2 (C : CallF) (k : KT R) : KT R := fun fr H => opn 6 fr (fun s0 s2 s3 s4 s21 s28 => 
(qRes (C 68 [s0, (.str [123])] H) fun v6 H =>
k [s0, s2, s3, s4, s21, s28] H : R))
noncomputable def r72_1 (k : KT R) : KT R := fun fr H => opn 6 fr (fun s0 s2 s3 s4 s21 s28 => 
(k [s0, s2, (.sl [] .nil), s4, s21, s28] H : R))
noncomputable def r72_0 (k : KT R) : KT R := fun fr H => opn 6 fr (fun s0 s2 s3 s4 s21 s28 => 
(k [s0, (.sl [] .nil), s3, s4, s21, s28] H : R))
noncomputable def c72 (C : CallF) (l0 : List AV) (H : AH) (k : AV → AH → R) : R := opn 1 l0 (fun x0 => (qFn (fun kr => (r72_0 (r72_1 (r72_2 C (qBl (fun k1 => (qLoop (l72_5 C k1))) (r72_12 kr))))))
(fun fr H => k (sel 1 fr) H) [x0, Aes.undef, Aes.undef, Aes.undef, Aes.undef, Aes.undef] H : R))
/- refectory/refectoryref08.values -/
noncomputable def r73_6 (k : KT R) : KT R := fun fr H => opn 4 fr (fun s0 s2 s3 s20 => 
(k [s0, s3, s3, s20] H : R))
noncomputable def r73_5 (C : CallF) (k : KT R) : KT R := fun fr H => opn 4 fr (fun s0 s2 s3 s20 => 
(qRes (C 70 [s0] H) fun v25 H =>
qRows z9 1 [(0, v25)] fun v26 =>
qApp 1 16 s3 v26 false none H fun v27 H =>
k [s0, s2, v27, s20] H : R))
noncomputable def r73_4 (C : CallF) (k : KT R) : KT R := fun fr H => opn 4 fr (fun s0 s2 s3 s20 => 
(qRes (C 28 [s0] H) fun v22 H =>
k [s0, s2, s3, s20] H : R))
noncomputable def r73_3 (C : CallF) (k : KT R) : KT R := fun fr H => opn 4 fr (fun s0 s2 s3 s20 => 
(qNc s0 fun v7 =>
qFa 2 v7 fun v8 =>
qLd v8 H fun v9 =>
qEql X 34 v9 (.int .i64 0) fun v10 =>
qG v10 true (fun k => k s3 H) H fun v12 H =>
qG v10 true (fun k => qLenL v12 fun v => k v H) H fun v13 H =>
qG v10 true (fun k => qEql X 3 v13 (.int .i64 0) fun v => k v H) H fun v14 H =>
qG v10 true (fun k => k v14 H) H fun v15 H =>
qG v15 false (fun k => k s0 H) H fun v16 H =>
qG v15 false (fun k => qRes (C 29 [v16, (.int .i64 5), (.str [125])] H) k) H fun v17 H =>
qG v15 false (fun k => qNot v17 fun v => k v H) H fun v18 H =>
qG v10 true (fun k => qPick v15 (.bool true) v18 fun v => k v H) H fun v19 H =>
qPick v10 v19 (.bool false) fun v20 =>
k [s0, s2, s3, v20] H : R))
noncomputable def l73_4 (C : CallF) (k1 : KT R) : KT R → KT R := fun k2 => (r73_3 C (qCd (sel 3) (fun k4 => k4) (fun _ => k1) (qBl (fun k3 => (r73_4 C (r73_5 C k3))) k2)))
noncomputable def r73_2 (C : CallF) (k : KT R) : KT R := fun fr H => opn 4 fr (fun s0 s2 s3 s20 => 
(qRes (C 68 [s0, (.str [123])] H) fun v5 H =>
k [s0, s2, s3, s20] H : R))
noncomputable def r73_1 (k : KT R) : KT R := fun fr H => opn 4 fr (fun s0 s2 s3 s20 => 
(k [s0, s2, (.sl [] .nil), s20] H : R))
noncomputable def r73_0 (k : KT R) : KT R := fun fr H => opn 4 fr (fun s0 s2 s3 s20 => 
(k [s0, (.sl [] .nil), s3, s20] H : R))
noncomputable def c73 (C : CallF) (l0 : List AV) (H : AH) (k : AV → AH → R) : R := opn 1 l0 (fun x0 => (qFn (fun kr => (r73_0 (r73_1 (r73_2 C (qBl (fun k1 => (qLoop (l73_4 C k1))) (r73_6 kr))))))
(fun fr H => k (sel 1 fr) H) [x0, Aes.undef, Aes.undef, Aes.undef] H : R))
/- refectory/refectoryref08.inputs -/
noncomputable def r74_5 (k : KT R) : KT R := fun fr H => opn 6 fr (fun s0 s1 s2 s6 s7 s26 => 
(k [s0, s1, s2, s7, s7, s26] H : R))
noncomputable def r74_4 (C : CallF) (k : KT R) : KT R := fun fr H => opn 6 fr (fun s0 s1 s2 s6 s7 s26 => 
(qRes (C 109 [s0] H) fun v29 H =>
qRows z129 1 [(0, v29)] fun v30 =>
qApp 7 120 s7 v30 false none H fun v31 H =>
k [s0, s1, s2, s6, v31, s26] H : R))
noncomputable def r74_3 (C : CallF) (k : KT R) : KT R := fun fr H => opn 6 fr (fun s0 s1 s2 s6 s7 s26 => 
(qNc s0 fun v12 =>
qFa 2 v12 fun v13 =>
qLd v13 H fun v14 =>
qEql X 34 v14 (.int .i64 0) fun v15 =>
qG v15 true (fun k => k s7 H) H fun v17 H =>
qG v15 true (fun k => qLenL v17 fun v => k v H) H fun v18 H =>
qG v15 true (fun k => qEql X 3 v18 (.int .i64 0) fun v => k v H) H fun v19 H =>
qG v15 true (fun k => k v19 H) H fun v20 H =>
qG v20 false (fun k => k s0 H) H fun v21 H =>
qG v20 false (fun k => k s2 H) H fun v22 H =>
qG v20 false (fun k => qRes (C 29 [v21, (.int .i64 5), v22] H) k) H fun v23 H =>
qG v20 false (fun k => qNot v23 fun v => k v H) H fun v24 H =>
qG v15 true (fun k => qPick v20 (.bool true) v24 fun v => k v H) H fun v25 H =>
qPick v15 v25 (.bool false) fun v26 =>
k [s0, s1, s2, s6, s7, v26] H : R))
noncomputable def l74_4 (C : CallF) (k1 : KT R) : KT R → KT R := fun k2 => (r74_3 C (qCd (sel 5) (fun k4 => k4) (fun _ => k1) (qBl (fun k3 => (r74_4 C k3)) k2)))
noncomputable def r74_2 (C : CallF) (k : KT R) : KT R := fun fr H => opn 6 fr (fun s0 s1 s2 s6 s7 s26 => 
(qRes (C 68 [s0, s1] H) fun v10 H =>
k [s0, s1, s2, s6, s7, s26] H : R))
noncomputable def r74_1 (k : KT R) : KT R := fun fr H => opn 6 fr (fun s0 s1 s2 s6 s7 s26 => 
(k [s0, s1, s2, s6, (.sl [] .nil), s26] H : R))
noncomputable def r74_0 (k : KT R) : KT R := fun fr H => opn 6 fr (fun s0 s1 s2 s6 s7 s26 => 
(k [s0, s1, s2, (.sl [] .nil), s7, s26] H : R))
noncomputable def c74 (C : CallF) (l0 : List AV) (H : AH) (k : AV → AH → R) : R := opn 3 l0 (fun x0 x1 x2 => (qFn (fun kr => (r74_0 (r74_1 (r74_2 C (qBl (fun k1 => (qLoop (l74_4 C k1))) (r74_5 kr))))))
(fun fr H => k (sel 3 fr) H) [x0, x1, x2, Aes.undef, Aes.undef, Aes.undef] H : R))
/- refectory/refectoryref09.Builtin -/
noncomputable def r78_1 (k : KT R) : KT R := fun fr H => opn 2 fr (fun s0 s2 => 
(qEql X 9 s0 (.str [73,110,116]) fun v4 =>
qG v4 false (fun k => k s0 H) H fun v6 H =>
qG v4 false (fun k => qEql X 9 v6 (.str [70,108,111,97,116]) fun v => k v H) H fun v7 H =>
qPick v4 (.bool true) v7 fun v8 =>
qG v8 false (fun k => k s0 H) H fun v10 H =>
qG v8 false (fun k => qEql X 9 v10 (.str [83,116,114,105,110,103]) fun v => k v H) H fun v11 H =>
qPick v8 (.bool true) v11 fun v12 =>
qG v12 false (fun k => k s0 H) H fun v14 H =>
qG v12 false (fun k => qEql X 9 v14 (.str [66,111,111,108,101,97,110]) fun v => k v H) H fun v15 H =>
qPick v12 (.bool true) v15 fun v16 =>
qG v16 false (fun k => k s0 H) H fun v18 H =>
qG v16 false (fun k => qEql X 9 v18 (.str [73,68]) fun v => k v H) H fun v19 H =>
qPick v16 (.bool true) v19 fun v20 =>
k [s0, v20] H : R))
noncomputable def r78_0 (k : KT R) : KT R := fun fr H => opn 2 fr (fun s0 s2 => 
(k [s0, (.bool false)] H : R))
noncomputable def c78 (C : CallF) (l0 : List AV) (H : AH) (k : AV → AH → R) : R := opn 1 l0 (fun x0 => (qFn (fun kr => (r78_0 (r78_1 kr)))
(fun fr H => k (sel 1 fr) H) [x0, Aes.undef] H : R))
/- slices.IndexFunc[[]refectory/api.TypeDef,refectory/api.TypeDef] -/
noncomputable def r84_7 (k : KT R) : KT R := fun fr H => opn 8 fr (fun s0 s1 s4 s5 s7 s8 s9 s16 => 
(k [s0, s1, (.int .i64 (-1)), s5, s7, s8, s9, s16] H : R))
noncomputable def r84_6 (k : KT R) : KT R := fun fr H => opn 8 fr (fun s0 s1 s4 s5 s7 s8 s9 s16 => 
(qAdd X 3 s8 (.int .i64 1) fun v18 =>
k [s0, s1, s4, s5, s7, v18, s9, s16] H : R))
noncomputable def r84_5 (k : KT R) : KT R := fun fr H => opn 8 fr (fun s0 s1 s4 s5 s7 s8 s9 s16 => 
(k [s0, s1, s5, s5, s7, s8, s9, s16] H : R))
noncomputable def r84_4 (C : CallF) (k : KT R) : KT R := fun fr H => opn 8 fr (fun s0 s1 s4 s5 s7 s8 s9 s16 => 
(qIa 5 s0 s5 fun v14 =>
qLdA 5 v14 H fun v15 =>
qCallV C s1 [v15] H fun v16 H =>
k [s0, s1, s4, s5, s7, s8, s9, v16] H : R))
noncomputable def r84_3 (k : KT R) : KT R := fun fr H => opn 8 fr (fun s0 s1 s4 s5 s7 s8 s9 s16 => 
(k [s0, s1, s4, s8, s7, s8, s9, s16] H : R))
noncomputable def r84_2 (k : KT R) : KT R := fun fr H => opn 8 fr (fun s0 s1 s4 s5 s7 s8 s9 s16 => 
(qLss X 3 s8 s7 fun v9 =>
k [s0, s1, s4, s5, s7, s8, v9, s16] H : R))
noncomputable def l84_5 (C : CallF) (k1 : KT R) (kr : KT R) : KT R → KT R := fun k2 => (r84_2 (qCd (sel 6) (fun k5 => k5) (fun _ => k1) (qBl (fun k3 => (r84_3 (r84_4 C (qCd (sel 7) (fun _ => (r84_5 kr)) (fun k4 => k4) k3)))) (r84_6 k2))))
noncomputable def r84_1 (k : KT R) : KT R := fun fr H => opn 8 fr (fun s0 s1 s4 s5 s7 s8 s9 s16 => 
(qLenL s0 fun v7 =>
k [s0, s1, s4, s5, v7, (.int .i64 0), s9, s16] H : R))
noncomputable def r84_0 (k : KT R) : KT R := fun fr H => opn 8 fr (fun s0 s1 s4 s5 s7 s8 s9 s16 => 
(k [s0, s1, (.int .i64 0), s5, s7, s8, s9, s16] H : R))
noncomputable def c84 (C : CallF) (l0 : List AV) (H : AH) (k : AV → AH → R) : R := opn 2 l0 (fun x0 x1 => (qFn (fun kr => (r84_0 (r84_1 (qBl (fun k1 => (qLoop (l84_5 C k1 kr))) (r84_7 kr)))))
(fun fr H => k (sel 2 fr) H) [x0, x1, Aes.undef, Aes.undef, Aes.undef, Aes.undef, Aes.undef, Aes.undef] H : R))
/- refectory/schema.Find$1 -/
noncomputable def r85_1 (k : KT R) : KT R := fun fr H => opn 4 fr (fun s0 s1 s2 s3 => 
(qFa 1 s2 fun v4 =>
qLd v4 H fun v5 =>
qLd s1 H fun v6 =>
qEql X 9 v5 v6 fun v7 =>
k [s0, s1, s2, v7] H : R))
noncomputable def r85_0 (k : KT R) : KT R := fun fr H => opn 4 fr (fun s0 s1 s2 s3 => 
(qBox s0 H fun v2 H =>
k [s0, s1, v2, (.bool false)] H : R))
noncomputable def c85 (C : CallF) (l0 : List AV) (H : AH) (k : AV → AH → R) : R := opn 2 l0 (fun x0 x1 => (qFn (fun kr => (r85_0 (r85_1 kr)))
(fun fr H => k (sel 3 fr) H) [x0, x1, Aes.undef, Aes.undef] H : R))
/- refectory/schema.own -/
noncomputable def r86_1 (C : CallF) (k : KT R) : KT R := fun fr H => opn 2 fr (fun s0 s2 => 
(qRows z9 5 [(0, (.str [73,110,116])), (1, (.str [70,108,111,97,116])), (2, (.str [83,116,114,105,110,103])), (3, (.str [66,111,111,108,101,97,110])), (4, (.str [73,68]))] fun v3 =>
qRes (C 26 [v3, s0] H) fun v5 H =>
k [s0, v5] H : R))
noncomputable def r86_0 (k : KT R) : KT R := fun fr H => opn 2 fr (fun s0 s2 => 
(k [s0, (.bool false)] H : R))
noncomputable def c86 (C : CallF) (l0 : List AV) (H : AH) (k : AV → AH → R) : R := opn 1 l0 (fun x0 => (qFn (fun kr => (r86_0 (r86_1 C kr)))
(fun fr H => k (sel 1 fr) H) [x0, Aes.undef] H : R))
/- refectory/refectoryref08.sameNames -/
noncomputable def r87_8 (k : KT R) : KT R := fun fr H => opn 7 fr (fun s0 s1 s4 s5 s10 s14 s25 => 
(k [s0, s1, (.bool true), s5, s10, s14, s25] H : R))
noncomputable def r87_5 (k : KT R) : KT R := fun fr H => opn 7 fr (fun s0 s1 s4 s5 s10 s14 s25 => 
(qAdd X 3 s5 (.int .i64 1) fun v16 =>
k [s0, s1, s4, v16, s10, s14, s25] H : R))
noncomputable def r87_7 (k : KT R) : KT R := fun fr H => opn 7 fr (fun s0 s1 s4 s5 s10 s14 s25 => 
(k [s0, s1, (.bool false), s5, s10, s14, s25] H : R))
noncomputable def r87_6 (k : KT R) : KT R := fun fr H => opn 7 fr (fun s0 s1 s4 s5 s10 s14 s25 => 
(qIa 1 s0 s5 fun v19 =>
qLd v19 H fun v20 =>
qIa 1 s1 s5 fun v23 =>
qLd v23 H fun v24 =>
qNeq X 9 v20 v24 fun v25 =>
k [s0, s1, s4, s5, s10, s14, v25] H : R))
noncomputable def r87_4 (k : KT R) : KT R := fun fr H => opn 7 fr (fun s0 s1 s4 s5 s10 s14 s25 => 
(qLenL s0 fun v13 =>
qLss X 3 s5 v13 fun v14 =>
k [s0, s1, s4, s5, s10, v14, s25] H : R))
noncomputable def l87_5 (k1 : KT R) (kr : KT R) : KT R → KT R := fun k2 => (r87_4 (qCd (sel 5) (fun k5 => k5) (fun _ => k1) (qBl (fun k3 => (r87_6 (qCd (sel 6) (fun _ => (r87_7 kr)) (fun k4 => k4) k3))) (r87_5 k2))))
noncomputable def r87_3 (k : KT R) : KT R := fun fr H => opn 7 fr (fun s0 s1 s4 s5 s10 s14 s25 => 
(k [s0, s1, s4, (.int .i64 0), s10, s14, s25] H : R))
noncomputable def r87_2 (k : KT R) : KT R := fun fr H => opn 7 fr (fun s0 s1 s4 s5 s10 s14 s25 => 
(k [s0, s1, (.bool false), s5, s10, s14, s25] H : R))
noncomputable def r87_1 (k : KT R) : KT R := fun fr H => opn 7 fr (fun s0 s1 s4 s5 s10 s14 s25 => 
(qLenL s0 fun v7 =>
qLenL s1 fun v9 =>
qNeq X 3 v7 v9 fun v10 =>
k [s0, s1, s4, s5, v10, s14, s25] H : R))
noncomputable def r87_0 (k : KT R) : KT R := fun fr H => opn 7 fr (fun s0 s1 s4 s5 s10 s14 s25 => 
(k [s0, s1, (.bool false), s5, s10, s14, s25] H : R))
noncomputable def c87 (C : CallF) (l0 : List AV) (H : AH) (k : AV → AH → R) : R := opn 2 l0 (fun x0 x1 => (qFn (fun kr => (r87_0 (r87_1 (qCd (sel 4) (fun _ => (r87_2 kr)) (fun k6 => k6) (r87_3 (qBl (fun k1 => (qLoop (l87_5 k1 kr))) (r87_8 kr)))))))
(fun fr H => k (sel 2 fr) H) [x0, x1, Aes.undef, Aes.undef, Aes.undef, Aes.undef, Aes.undef] H : R))
/- refectory/refectoryref08.sameFields -/
noncomputable def r88_8 (k : KT R) : KT R := fun fr H => opn 7 fr (fun s0 s1 s4 s5 s10 s14 s68 => 
(k [s0, s1, (.bool true), s5, s10, s14, s68] H : R))
noncomputable def r88_5 (k : KT R) : KT R := fun fr H => opn 7 fr (fun s0 s1 s4 s5 s10 s14 s68 => 
(qAdd X 3 s5 (.int .i64 1) fun v16 =>
k [s0, s1, s4, v16, s10, s14, s68] H : R))
noncomputable def r88_7 (k : KT R) : KT R := fun fr H => opn 7 fr (fun s0 s1 s4 s5 s10 s14 s68 => 
(k [s0, s1, (.bool false), s5, s10, s14, s68] H : R))
noncomputable def r88_6 (C : CallF) (k : KT R) : KT R := fun fr H => opn 7 fr (fun s0 s1 s4 s5 s10 s14 s68 => 
(qIa 5 s0 s5 fun v19 =>
qFa 0 v19 fun v20 =>
qLd v20 H fun v21 =>
qIa 5 s1 s5 fun v24 =>
qFa 0 v24 fun v25 =>
qLd v25 H fun v26 =>
qNeq X 9 v21 v26 fun v27 =>
qG v27 false (fun k => k s0 H) H fun v29 H =>
qG v27 false (fun k => k s5 H) H fun v30 H =>
qG v27 false (fun k => qIa 5 v29 v30 fun v => k v H) H fun v31 H =>
qG v27 false (fun k => qFa 4 v31 fun v => k v H) H fun v32 H =>
qG v27 false (fun k => qLd v32 H fun v => k v H) H fun v33 H =>
qG v27 false (fun k => k s1 H) H fun v34 H =>
qG v27 false (fun k => k s5 H) H fun v35 H =>
qG v27 false (fun k => qIa 5 v34 v35 fun v => k v H) H fun v36 H =>
qG v27 false (fun k => qFa 4 v36 fun v => k v H) H fun v37 H =>
qG v27 false (fun k => qLd v37 H fun v => k v H) H fun v38 H =>
qG v27 false (fun k => qNeq X 3 v33 v38 fun v => k v H) H fun v39 H =>
qPick v27 (.bool true) v39 fun v40 =>
qG v40 false (fun k => k s0 H) H fun v42 H =>
qG v40 false (fun k => k s5 H) H fun v43 H =>
qG v40 false (fun k => qIa 5 v42 v43 fun v => k v H) H fun v44 H =>
qG v40 false (fun k => qFa 2 v44 fun v => k v H) H fun v45 H =>
qG v40 false (fun k => qLdA 2 v45 H fun v => k v H) H fun v46 H =>
qG v40 false (fun k => k s1 H) H fun v47 H =>
qG v40 false (fun k => k s5 H) H fun v48 H =>
qG v40 false (fun k => qIa 5 v47 v48 fun v => k v H) H fun v49 H =>
qG v40 false (fun k => qFa 2 v49 fun v => k v H) H fun v50 H =>
qG v40 false (fun k => qLdA 2 v50 H fun v => k v H) H fun v51 H =>
qG v40 false (fun k => qRes (C 113 [v46, v51] H) k) H fun v52 H =>
qG v40 false (fun k => qNot v52 fun v => k v H) H fun v53 H =>
qPick v40 (.bool true) v53 fun v54 =>
qG v54 false (fun k => k s0 H) H fun v56 H =>
qG v54 false (fun k => k s5 H) H fun v57 H =>
qG v54 false (fun k => qIa 5 v56 v57 fun v => k v H) H fun v58 H =>
qG v54 false (fun k => qFa 1 v58 fun v => k v H) H fun v59 H =>
qG v54 false (fun k => qLd v59 H fun v => k v H) H fun v60 H =>
qG v54 false (fun k => k s1 H) H fun v61 H =>
qG v54 false (fun k => k s5 H) H fun v62 H =>
qG v54 false (fun k => qIa 5 v61 v62 fun v => k v H) H fun v63 H =>
qG v54 false (fun k => qFa 1 v63 fun v => k v H) H fun v64 H =>
qG v54 false (fun k => qLd v64 H fun v => k v H) H fun v65 H =>
qG v54 false (fun k => qRes (C 89 [v60, v65] H) k) H fun v66 H =>
qG v54 false (fun k => qNot v66 fun v => k v H) H fun v67 H =>
qPick v54 (.bool true) v67 fun v68 =>
k [s0, s1, s4, s5, s10, s14, v68] H : R))
noncomputable def r88_4 (k : KT R) : KT R := fun fr H => opn 7 fr (fun s0 s1 s4 s5 s10 s14 s68 => 
(qLenL s0 fun v13 =>
qLss X 3 s5 v13 fun v14 =>
k [s0, s1, s4, s5, s10, v14, s68] H : R))
noncomputable def l88_5 (C : CallF) (k1 : KT R) (kr : KT R) : KT R → KT R := fun k2 => (r88_4 (qCd (sel 5) (fun k5 => k5) (fun _ => k1) (qBl (fun k3 => (r88_6 C (qCd (sel 6) (fun _ => (r88_7 kr)) (fun k4 => k4) k3))) (r88_5 k2))))
noncomputable def r88_3 (k : KT R) : KT R := fun fr H => opn 7 fr (fun s0 s1 s4 s5 s10 s14 s68 => 
(k [s0, s1, s4, (.int .i64 0), s10, s14, s68] H : R))
noncomputable def r88_2 (k : KT R) : KT R := fun fr H => opn 7 fr (fun s0 s1 s4 s5 s10 s14 s68 => 
(k [s0, s1, (.bool false), s5, s10, s14, s68] H : R))
noncomputable def r88_1 (k : KT R) : KT R := fun fr H => opn 7 fr (fun s0 s1 s4 s5 s10 s14 s68 => 
(qLenL s0 fun v7 =>
qLenL s1 fun v9 =>
qNeq X 3 v7 v9 fun v10 =>
k [s0, s1, s4, s5, v10, s14, s68] H : R))
noncomputable def r88_0 (k : KT R) : KT R := fun fr H => opn 7 fr (fun s0 s1 s4 s5 s10 s14 s68 => 
(k [s0, s1, (.bool false), s5, s10, s14, s68] H : R))
noncomputable def c88 (C : CallF) (l0 : List AV) (H : AH) (k : AV → AH → R) : R := opn 2 l0 (fun x0 x1 => (qFn (fun kr => (r88_0 (r88_1 (qCd (sel 4) (fun _ => (r88_2 kr)) (fun k6 => k6) (r88_3 (qBl (fun k1 => (qLoop (l88_5 C k1 kr))) (r88_8 kr)))))))
(fun fr H => k (sel 2 fr) H) [x0, x1, Aes.undef, Aes.undef, Aes.undef, Aes.undef, Aes.undef] H : R))
/- refectory/refectoryref08.sameInputs -/
noncomputable def r89_8 (k : KT R) : KT R := fun fr H => opn 7 fr (fun s0 s1 s4 s5 s10 s14 s55 => 
(k [s0, s1, (.bool true), s5, s10, s14, s55] H : R))
noncomputable def r89_5 (k : KT R) : KT R := fun fr H => opn 7 fr (fun s0 s1 s4 s5 s10 s14 s55 => 
(qAdd X 3 s5 (.int .i64 1) fun v16 =>
k [s0, s1, s4, v16, s10, s14, s55] H : R))
noncomputable def r89_7 (k : KT R) : KT R := fun fr H => opn 7 fr (fun s0 s1 s4 s5 s10 s14 s55 => 
(k [s0, s1, (.bool false), s5, s10, s14, s55] H : R))
noncomputable def r89_6 (C : CallF) (k : KT R) : KT R := fun fr H => opn 7 fr (fun s0 s1 s4 s5 s10 s14 s55 => 
(qIa 7 s0 s5 fun v19 =>
qFa 0 v19 fun v20 =>
qLd v20 H fun v21 =>
qIa 7 s1 s5 fun v24 =>
qFa 0 v24 fun v25 =>
qLd v25 H fun v26 =>
qNeq X 9 v21 v26 fun v27 =>
qG v27 false (fun k => k s0 H) H fun v29 H =>
qG v27 false (fun k => k s5 H) H fun v30 H =>
qG v27 false (fun k => qIa 7 v29 v30 fun v => k v H) H fun v31 H =>
qG v27 false (fun k => qFa 1 v31 fun v => k v H) H fun v32 H =>
qG v27 false (fun k => qLdA 2 v32 H fun v => k v H) H fun v33 H =>
qG v27 false (fun k => k s1 H) H fun v34 H =>
qG v27 false (fun k => k s5 H) H fun v35 H =>
qG v27 false (fun k => qIa 7 v34 v35 fun v => k v H) H fun v36 H =>
qG v27 false (fun k => qFa 1 v36 fun v => k v H) H fun v37 H =>
qG v27 false (fun k => qLdA 2 v37 H fun v => k v H) H fun v38 H =>
qG v27 false (fun k => qRes (C 113 [v33, v38] H) k) H fun v39 H =>
qG v27 false (fun k => qNot v39 fun v => k v H) H fun v40 H =>
qPick v27 (.bool true) v40 fun v41 =>
qG v41 false (fun k => k s0 H) H fun v43 H =>
qG v41 false (fun k => k s5 H) H fun v44 H =>
qG v41 false (fun k => qIa 7 v43 v44 fun v => k v H) H fun v45 H =>
qG v41 false (fun k => qFa 3 v45 fun v => k v H) H fun v46 H =>
qG v41 false (fun k => qLdA 4 v46 H fun v => k v H) H fun v47 H =>
qG v41 false (fun k => k s1 H) H fun v48 H =>
qG v41 false (fun k => k s5 H) H fun v49 H =>
qG v41 false (fun k => qIa 7 v48 v49 fun v => k v H) H fun v50 H =>
qG v41 false (fun k => qFa 3 v50 fun v => k v H) H fun v51 H =>
qG v41 false (fun k => qLdA 4 v51 H fun v => k v H) H fun v52 H =>
qG v41 false (fun k => qRes (C 114 [v47, v52] H) k) H fun v53 H =>
qG v41 false (fun k => qNot v53 fun v => k v H) H fun v54 H =>
qPick v41 (.bool true) v54 fun v55 =>
k [s0, s1, s4, s5, s10, s14, v55] H : R))
noncomputable def r89_4 (k : KT R) : KT R := fun fr H => opn 7 fr (fun s0 s1 s4 s5 s10 s14 s55 => 
(qLenL s0 fun v13 =>
qLss X 3 s5 v13 fun v14 =>
k [s0, s1, s4, s5, s10, v14, s55] H : R))
noncomputable def l89_5 (C : CallF) (k1 : KT R) (kr : KT R) : KT R → KT R := fun k2 => (r89_4 (qCd (sel 5) (fun k5 => k5) (fun _ => k1) (qBl (fun k3 => (r89_6 C (qCd (sel 6) (fun _ => (r89_7 kr)) (fun k4 => k4) k3))) (r89_5 k2))))
noncomputable def r89_3 (k : KT R) : KT R := fun fr H => opn 7 fr (fun s0 s1 s4 s5 s10 s14 s55 => 
(k [s0, s1, s4, (.int .i64 0), s10, s14, s55] H : R))
noncomputable def r89_2 (k : KT R) : KT R := fun fr H => opn 7 fr (fun s0 s1 s4 s5 s10 s14 s55 => 
(k [s0, s1, (.bool false), s5, s10, s14, s55] H : R))
noncomputable def r89_1 (k : KT R) : KT R := fun fr H => opn 7 fr (fun s0 s1 s4 s5 s10 s14 s55 => 
(qLenL s0 fun v7 =>
qLenL s1 fun v9 =>
qNeq X 3 v7 v9 fun v10 =>
k [s0, s1, s4, s5, v10, s14, s55] H : R))
noncomputable def r89_0 (k : KT R) : KT R := fun fr H => opn 7 fr (fun s0 s1 s4 s5 s10 s14 s55 => 
(k [s0, s1, (.bool false), s5, s10, s14, s55] H : R))
noncomputable def c89 (C : CallF) (l0 : List AV) (H : AH) (k : AV → AH → R) : R := opn 2 l0 (fun x0 x1 => (qFn (fun kr => (r89_0 (r89_1 (qCd (sel 4) (fun _ => (r89_2 kr)) (fun k6 => k6) (r89_3 (qBl (fun k1 => (qLoop (l89_5 C k1 kr))) (r89_8 kr)))))))
(fun fr H => k (sel 2 fr) H) [x0, x1, Aes.undef, Aes.undef, Aes.undef, Aes.undef, Aes.undef] H : R))
/- refectory/refectoryref05.Has -/
noncomputable def r90_6 (k : KT R) : KT R := fun fr H => opn 6 fr (fun s0 s1 s4 s5 s9 s17 => 
(k [s0, s1, (.bool false), s5, s9, s17] H : R))
noncomputable def r90_3 (k : KT R) : KT R := fun fr H => opn 6 fr (fun s0 s1 s4 s5 s9 s17 => 
(qAdd X 3 s5 (.int .i64 1) fun v11 =>
k [s0, s1, s4, v11, s9, s17] H : R))
noncomputable def r90_5 (k : KT R) : KT R := fun fr H => opn 6 fr (fun s0 s1 s4 s5 s9 s17 => 
(k [s0, s1, (.bool true), s5, s9, s17] H : R))
noncomputable def r90_4 (k : KT R) : KT R := fun fr H => opn 6 fr (fun s0 s1 s4 s5 s9 s17 => 
(qIa 1 s0 s5 fun v14 =>
qLd v14 H fun v15 =>
qEql X 9 v15 s1 fun v17 =>
k [s0, s1, s4, s5, s9, v17] H : R))
noncomputable def r90_2 (k : KT R) : KT R := fun fr H => opn 6 fr (fun s0 s1 s4 s5 s9 s17 => 
(qLenL s0 fun v8 =>
qLss X 3 s5 v8 fun v9 =>
k [s0, s1, s4, s5, v9, s17] H : R))
noncomputable def l90_5 (k1 : KT R) (kr : KT R) : KT R → KT R := fun k2 => (r90_2 (qCd (sel 4) (fun k5 => k5) (fun _ => k1) (qBl (fun k3 => (r90_4 (qCd (sel 5) (fun _ => (r90_5 kr)) (fun k4 => k4) k3))) (r90_3 k2))))
noncomputable def r90_1 (k : KT R) : KT R := fun fr H => opn 6 fr (fun s0 s1 s4 s5 s9 s17 => 
(k [s0, s1, s4, (.int .i64 0), s9, s17] H : R))
noncomputable def r90_0 (k : KT R) : KT R := fun fr H => opn 6 fr (fun s0 s1 s4 s5 s9 s17 => 
(k [s0, s1, (.bool false), s5, s9, s17] H : R))
noncomputable def c90 (C : CallF) (l0 : List AV) (H : AH) (k : AV → AH → R) : R := opn 2 l0 (fun x0 x1 => (qFn (fun kr => (r90_0 (r90_1 (qBl (fun k1 => (qLoop (l90_5 k1 kr))) (r90_6 kr)))))
(fun fr H => k (sel 2 fr) H) [x0, x1, Aes.undef, Aes.undef, Aes.undef, Aes.undef] H : R))
/- refectory/refectoryref09.sub -/
noncomputable def r91_13 (C : CallF) (k : KT R) : KT R := fun fr H => opn 14 fr (fun s0 s1 s2 s3 s4 s5 s6 s7 s9 s11 s26 s35 s57 s79 => 
(qFa 0 s9 fun v95 =>
qLd v95 H fun v96 =>
qEql X 3 v96 (.int .i64 4) fun v97 =>
qG v97 true (fun k => qFa 0 s7 fun v => k v H) H fun v99 H =>
qG v97 true (fun k => qLd v99 H fun v => k v H) H fun v100 H =>
qG v97 true (fun k => qEql X 3 v100 (.int .i64 2) fun v => k v H) H fun v101 H =>
qPick v97 v101 (.bool false) fun v102 =>
qG v102 true (fun k => qFa 2 s9 fun v => k v H) H fun v104 H =>
qG v102 true (fun k => qLd v104 H fun v => k v H) H fun v105 H =>
qG v102 true (fun k => qFa 0 s4 fun v => k v H) H fun v106 H =>
qG v102 true (fun k => qLd v106 H fun v => k v H) H fun v107 H =>
qG v102 true (fun k => qRes (C 90 [v105, v107] H) k) H fun v108 H =>
qPick v102 v108 (.bool false) fun v109 =>
k [s0, s1, s2, s3, s4, s5, v109, s7, s9, s11, s26, s35, s57, s79] H : R))
noncomputable def r91_12 (C : CallF) (k : KT R) : KT R := fun fr H => opn 14 fr (fun s0 s1 s2 s3 s4 s5 s6 s7 s9 s11 s26 s35 s57 s79 => 
(qFa 0 s7 fun v80 =>
qLd v80 H fun v81 =>
qEql X 3 v81 (.int .i64 2) fun v82 =>
qG v82 false (fun k => qFa 0 s7 fun v => k v H) H fun v84 H =>
qG v82 false (fun k => qLd v84 H fun v => k v H) H fun v85 H =>
qG v82 false (fun k => qEql X 3 v85 (.int .i64 3) fun v => k v H) H fun v86 H =>
qPick v82 (.bool true) v86 fun v87 =>
qG v87 true (fun k => qFa 2 s7 fun v => k v H) H fun v89 H =>
qG v87 true (fun k => qLd v89 H fun v => k v H) H fun v90 H =>
qG v87 true (fun k => qFa 0 s5 fun v => k v H) H fun v91 H =>
qG v87 true (fun k => qLd v91 H fun v => k v H) H fun v92 H =>
qG v87 true (fun k => qRes (C 90 [v90, v92] H) k) H fun v93 H =>
qPick v87 v93 (.bool false) fun v94 =>
k [s0, s1, s2, s3, s4, s5, v94, s7, s9, s11, s26, s35, s57, s79] H : R))
noncomputable def r91_11 (k : KT R) : KT R := fun fr H => opn 14 fr (fun s0 s1 s2 s3 s4 s5 s6 s7 s9 s11 s26 s35 s57 s79 => 
(qFa 0 s9 fun v77 =>
qLd v77 H fun v78 =>
qEql X 3 v78 (.int .i64 3) fun v79 =>
k [s0, s1, s2, s3, s4, s5, s6, s7, s9, s11, s26, s35, s57, v79] H : R))
noncomputable def r91_10 (C : CallF) (k : KT R) : KT R := fun fr H => opn 14 fr (fun s0 s1 s2 s3 s4 s5 s6 s7 s9 s11 s26 s35 s57 s79 => 
(qLdA 3 s3 H fun v71 =>
qFa 0 s5 fun v72 =>
qLd v72 H fun v73 =>
qRes (C 43 [v71, v73] H) fun v74 H =>
qExt v74 0 fun v75 =>
qExt v74 1 fun v76 =>
qNew (.cells z71) .ptr H fun v9 H =>
qSt 5 v9 v75 H fun _ H =>
k [s0, s1, s2, s3, s4, s5, s6, s7, v9, s11, s26, s35, s57, s79] H : R))
noncomputable def r91_9 (C : CallF) (k : KT R) : KT R := fun fr H => opn 14 fr (fun s0 s1 s2 s3 s4 s5 s6 s7 s9 s11 s26 s35 s57 s79 => 
(qLdA 3 s3 H fun v64 =>
qFa 0 s4 fun v65 =>
qLd v65 H fun v66 =>
qRes (C 43 [v64, v66] H) fun v67 H =>
qExt v67 0 fun v68 =>
qExt v67 1 fun v69 =>
qNew (.cells z71) .ptr H fun v7 H =>
qSt 5 v7 v68 H fun _ H =>
k [s0, s1, s2, s3, s4, s5, s6, v7, s9, s11, s26, s35, s57, s79] H : R))
noncomputable def r91_2 (C : CallF) (k : KT R) : KT R := fun fr H => opn 14 fr (fun s0 s1 s2 s3 s4 s5 s6 s7 s9 s11 s26 s35 s57 s79 => 
(qLdA 2 s4 H fun v15 =>
qRes (C 112 [v15] H) fun v16 H =>
qEql X 5 v16 (.int .u8 33) fun v17 =>
qG v17 true (fun k => qLdA 3 s3 H fun v => k v H) H fun v19 H =>
qG v17 true (fun k => qLdA 2 s4 H fun v => k v H) H fun v20 H =>
qG v17 true (fun k => qLdA 2 s5 H fun v => k v H) H fun v22 H =>
qG v17 true (fun k => qRes (C 115 [v20] H) fun v H => qLdA 2 s5 H fun w => qSame v22 w (qLdA 3 s3 H fun w => qSame v19 w (k v H))) H fun v21 H =>
qG v17 true (fun k => qRes (C 115 [v22] H) fun v H => qLdA 3 s3 H fun w => qSame v19 w (k v H)) H fun v23 H =>
qG v17 true (fun k => qRes (C 91 [v19, v21, v23] H) k) H fun v24 H =>
qPick v17 v24 (.bool false) fun v25 =>
k [s0, s1, s2, s3, s4, s5, v25, s7, s9, s11, s26, s35, s57, s79] H : R))
noncomputable def r91_4 (C : CallF) (k : KT R) : KT R := fun fr H => opn 14 fr (fun s0 s1 s2 s3 s4 s5 s6 s7 s9 s11 s26 s35 s57 s79 => 
(qLdA 3 s3 H fun v30 =>
qLdA 2 s4 H fun v31 =>
qLdA 2 s5 H fun v33 =>
qRes (C 115 [v31] H) fun v32 H =>
qLdA 2 s5 H fun w => qSame v33 w (qLdA 3 s3 H fun w => qSame v30 w (qRes (C 91 [v30, v32, v33] H) fun v34 H =>
k [s0, s1, s2, s3, s4, s5, v34, s7, s9, s11, s26, s35, s57, s79] H)) : R))
noncomputable def r91_6 (C : CallF) (k : KT R) : KT R := fun fr H => opn 14 fr (fun s0 s1 s2 s3 s4 s5 s6 s7 s9 s11 s26 s35 s57 s79 => 
(qLdA 2 s4 H fun v44 =>
qLdA 2 s5 H fun v46 =>
qRes (C 112 [v44] H) fun v45 H =>
qLdA 2 s5 H fun w => qSame v46 w (qRes (C 112 [v46] H) fun v47 H =>
qEql X 5 v45 v47 fun v48 =>
qG v48 true (fun k => qLdA 3 s3 H fun v => k v H) H fun v50 H =>
qG v48 true (fun k => qLdA 2 s4 H fun v => k v H) H fun v51 H =>
qG v48 true (fun k => qLdA 2 s5 H fun v => k v H) H fun v53 H =>
qG v48 true (fun k => qRes (C 115 [v51] H) fun v H => qLdA 2 s5 H fun w => qSame v53 w (qLdA 3 s3 H fun w => qSame v50 w (k v H))) H fun v52 H =>
qG v48 true (fun k => qRes (C 115 [v53] H) fun v H => qLdA 3 s3 H fun w => qSame v50 w (k v H)) H fun v54 H =>
qG v48 true (fun k => qRes (C 91 [v50, v52, v54] H) k) H fun v55 H =>
qPick v48 v55 (.bool false) fun v56 =>
k [s0, s1, s2, s3, s4, s5, v56, s7, s9, s11, s26, s35, s57, s79] H) : R))
noncomputable def r91_8 (k : KT R) : KT R := fun fr H => opn 14 fr (fun s0 s1 s2 s3 s4 s5 s6 s7 s9 s11 s26 s35 s57 s79 => 
(k [s0, s1, s2, s3, s4, s5, (.bool true), s7, s9, s11, s26, s35, s57, s79] H : R))
noncomputable def r91_7 (k : KT R) : KT R := fun fr H => opn 14 fr (fun s0 s1 s2 s3 s4 s5 s6 s7 s9 s11 s26 s35 s57 s79 => 
(qFa 0 s4 fun v58 =>
qLd v58 H fun v59 =>
qFa 0 s5 fun v60 =>
qLd v60 H fun v61 =>
qEql X 9 v59 v61 fun v62 =>
k [s0, s1, s2, s3, s4, s5, s6, s7, s9, s11, s26, s35, v62, s79] H : R))
noncomputable def r91_5 (C : CallF) (k : KT R) : KT R := fun fr H => opn 14 fr (fun s0 s1 s2 s3 s4 s5 s6 s7 s9 s11 s26 s35 s57 s79 => 
(qLdA 2 s4 H fun v36 =>
qRes (C 112 [v36] H) fun v37 H =>
qEql X 5 v37 (.int .u8 93) fun v38 =>
qG v38 false (fun k => qLdA 2 s5 H fun v => k v H) H fun v40 H =>
qG v38 false (fun k => qRes (C 112 [v40] H) k) H fun v41 H =>
qG v38 false (fun k => qEql X 5 v41 (.int .u8 93) fun v => k v H) H fun v42 H =>
qPick v38 (.bool true) v42 fun v43 =>
k [s0, s1, s2, s3, s4, s5, s6, s7, s9, s11, s26, v43, s57, s79] H : R))
noncomputable def r91_3 (C : CallF) (k : KT R) : KT R := fun fr H => opn 14 fr (fun s0 s1 s2 s3 s4 s5 s6 s7 s9 s11 s26 s35 s57 s79 => 
(qLdA 2 s4 H fun v27 =>
qRes (C 112 [v27] H) fun v28 H =>
qEql X 5 v28 (.int .u8 33) fun v29 =>
k [s0, s1, s2, s3, s4, s5, s6, s7, s9, s11, v29, s35, s57, s79] H : R))
noncomputable def r91_1 (C : CallF) (k : KT R) : KT R := fun fr H => opn 14 fr (fun s0 s1 s2 s3 s4 s5 s6 s7 s9 s11 s26 s35 s57 s79 => 
(qLdA 2 s5 H fun v12 =>
qRes (C 112 [v12] H) fun v13 H =>
qEql X 5 v13 (.int .u8 33) fun v14 =>
k [s0, s1, s2, s3, s4, s5, s6, s7, s9, v14, s26, s35, s57, s79] H : R))
noncomputable def r91_0 (k : KT R) : KT R := fun fr H => opn 14 fr (fun s0 s1 s2 s3 s4 s5 s6 s7 s9 s11 s26 s35 s57 s79 => 
(qBox s0 H fun v3 H =>
qBox s1 H fun v4 H =>
qBox s2 H fun v5 H =>
k [s0, s1, s2, v3, v4, v5, (.bool false), s7, s9, s11, s26, s35, s57, s79] H : R))
noncomputable def c91 (C : CallF) (l0 : List AV) (H : AH) (k : AV → AH → R) : R := opn 3 l0 (fun x0 x1 x2 => (qFn (fun kr => (r91_0 (qBl (fun k2 => (r91_1 C (qCd (sel 9) (fun _ => (r91_2 C kr)) (fun k3 => (r91_3 C (qCd (sel 10) (fun _ => (r91_4 C kr)) (fun k4 => (r91_5 C (qCd (sel 11) (fun _ => (r91_6 C kr)) (fun k5 => (r91_7 (qCd (sel 12) (fun _ => (r91_8 kr)) (fun k6 => k6) k5))) k4))) k3))) k2))) (r91_9 C (r91_10 C (r91_11 (qCd (sel 13) (fun _ => (r91_12 C kr)) (fun k1 => k1) (r91_13 C kr))))))))
(fun fr H => k (sel 6 fr) H) [x0, x1, x2, Aes.undef, Aes.undef, Aes.undef, Aes.undef, Aes.undef, Aes.undef, Aes.undef, Aes.undef, Aes.undef, Aes.undef, Aes.undef] H : R))
/- strings.trimLeftByte -/
noncomputable def r92_3 (k : KT R) : KT R := fun fr H => opn 4 fr (fun s0 s1 s4 s13 => 
(k [s0, s1, s0, s13] H : R))
noncomputable def r92_2 (k : KT R) : KT R := fun fr H => opn 4 fr (fun s0 s1 s4 s13 => 
(qSlc Tryz.t9.desc 0 s0 (some (.int .i64 1)) none none fun v15 =>
k [v15, s1, s4, s13] H : R))
noncomputable def r92_1 (k : KT R) : KT R := fun fr H => opn 4 fr (fun s0 s1 s4 s13 => 
(qLenS s0 fun v6 =>
qGtr X 3 v6 (.int .i64 0) fun v7 =>
qG v7 true (fun k => k s0 H) H fun v9 H =>
qG v7 true (fun k => qIx v9 (.int .i64 0) fun v => k v H) H fun v10 H =>
qG v7 true (fun k => k s1 H) H fun v11 H =>
qG v7 true (fun k => qEql X 5 v10 v11 fun v => k v H) H fun v12 H =>
qPick v7 v12 (.bool false) fun v13 =>
k [s0, s1, s4, v13] H : R))
noncomputable def l92_4 (k1 : KT R) : KT R → KT R := fun k2 => (r92_1 (qCd (sel 3) (fun k4 => k4) (fun _ => k1) (qBl (fun k3 => (r92_2 k3)) k2)))
noncomputable def r92_0 (k : KT R) : KT R := fun fr H => opn 4 fr (fun s0 s1 s4 s13 => 
(k [s0, s1, (.str []), s13] H : R))
noncomputable def c92 (C : CallF) (l0 : List AV) (H : AH) (k : AV → AH → R) : R := opn 2 l0 (fun x0 x1 => (qFn (fun kr => (r92_0 (qBl (fun k1 => (qLoop (l92_4 k1))) (r92_3 kr))))
(fun fr H => k (sel 2 fr) H) [x0, x1, Aes.undef, Aes.undef] H : R))
/- strings.trimRightByte -/
noncomputable def r93_3 (k : KT R) : KT R := fun fr H => opn 4 fr (fun s0 s1 s4 s16 => 
(k [s0, s1, s0, s16] H : R))
noncomputable def r93_2 (k : KT R) : KT R := fun fr H => opn 4 fr (fun s0 s1 s4 s16 => 
(qLenS s0 fun v19 =>
qSub X 3 v19 (.int .i64 1) fun v20 =>
qSlc Tryz.t9.desc 0 s0 none (some v20) none fun v21 =>
k [v21, s1, s4, s16] H : R))
noncomputable def r93_1 (k : KT R) : KT R := fun fr H => opn 4 fr (fun s0 s1 s4 s16 => 
(qLenS s0 fun v6 =>
qGtr X 3 v6 (.int .i64 0) fun v7 =>
qG v7 true (fun k => k s0 H) H fun v9 H =>
qG v7 true (fun k => k s0 H) H fun v10 H =>
qG v7 true (fun k => qLenS v10 fun v => k v H) H fun v11 H =>
qG v7 true (fun k => qSub X 3 v11 (.int .i64 1) fun v => k v H) H fun v12 H =>
qG v7 true (fun k => qIx v9 v12 fun v => k v H) H fun v13 H =>
qG v7 true (fun k => k s1 H) H fun v14 H =>
qG v7 true (fun k => qEql X 5 v13 v14 fun v => k v H) H fun v15 H =>
qPick v7 v15 (.bool false) fun v16 =>
k [s0, s1, s4, v16] H : R))
noncomputable def l93_4 (k1 : KT R) : KT R → KT R := fun k2 => (r93_1 (qCd (sel 3) (fun k4 => k4) (fun _ => k1) (qBl (fun k3 => (r93_2 k3)) k2)))
noncomputable def r93_0 (k : KT R) : KT R := fun fr H => opn 4 fr (fun s0 s1 s4 s16 => 
(k [s0, s1, (.str []), s16] H : R))
noncomputable def c93 (C : CallF) (l0 : List AV) (H : AH) (k : AV → AH → R) : R := opn 2 l0 (fun x0 x1 => (qFn (fun kr => (r93_0 (qBl (fun k1 => (qLoop (l93_4 k1))) (r93_3 kr))))
(fun fr H => k (sel 2 fr) H) [x0, x1, Aes.undef, Aes.undef] H : R))
/- strings.makeASCIISet -/
noncomputable def r94_8 (k : KT R) : KT R := fun fr H => opn 7 fr (fun s0 s2 s3 s4 s5 s9 s16 => 
(qLdA 256 s2 H fun v20 =>
qSt 256 s2 v20 H fun _ H =>
k [s0, s2, (.bool true), s4, s5, s9, s16] H : R))
noncomputable def r94_3 (k : KT R) : KT R := fun fr H => opn 7 fr (fun s0 s2 s3 s4 s5 s9 s16 => 
(qAdd X 3 s4 (.int .i64 1) fun v11 =>
k [s0, s2, s3, v11, s5, s9, s16] H : R))
noncomputable def r94_7 (k : KT R) : KT R := fun fr H => opn 7 fr (fun s0 s2 s3 s4 s5 s9 s16 => 
(qIaA 256 1 s2 s5 fun v19 =>
qSt 1 v19 (.bool true) H fun _ H =>
k [s0, s2, s3, s4, s5, s9, s16] H : R))
noncomputable def r94_6 (k : KT R) : KT R := fun fr H => opn 7 fr (fun s0 s2 s3 s4 s5 s9 s16 => 
(qLdA 256 s2 H fun v17 =>
qSt 256 s2 v17 H fun _ H =>
k [s0, s2, (.bool false), s4, s5, s9, s16] H : R))
noncomputable def r94_5 (k : KT R) : KT R := fun fr H => opn 7 fr (fun s0 s2 s3 s4 s5 s9 s16 => 
(qGeq X 5 s5 (.int .u8 128) fun v16 =>
k [s0, s2, s3, s4, s5, s9, v16] H : R))
noncomputable def r94_4 (k : KT R) : KT R := fun fr H => opn 7 fr (fun s0 s2 s3 s4 s5 s9 s16 => 
(qIx s0 s4 fun v14 =>
k [s0, s2, s3, s4, v14, s9, s16] H : R))
noncomputable def r94_2 (k : KT R) : KT R := fun fr H => opn 7 fr (fun s0 s2 s3 s4 s5 s9 s16 => 
(qLenS s0 fun v8 =>
qLss X 3 s4 v8 fun v9 =>
k [s0, s2, s3, s4, s5, v9, s16] H : R))
noncomputable def l94_5 (k1 : KT R) (kr : KT R) : KT R → KT R := fun k2 => (r94_2 (qCd (sel 5) (fun k5 => k5) (fun _ => k1) (qBl (fun k3 => (r94_4 (r94_5 (qCd (sel 6) (fun _ => (r94_6 kr)) (fun k4 => k4) (r94_7 k3))))) (r94_3 k2))))
noncomputable def r94_1 (k : KT R) : KT R := fun fr H => opn 7 fr (fun s0 s2 s3 s4 s5 s9 s16 => 
(k [s0, s2, s3, (.int .i64 0), s5, s9, s16] H : R))
noncomputable def r94_0 (k : KT R) : KT R := fun fr H => opn 7 fr (fun s0 s2 s3 s4 s5 s9 s16 => 
(qNew (.cells z111) .ptr H fun v2 H =>
k [s0, v2, (.bool false), s4, s5, s9, s16] H : R))
noncomputable def c94 (C : CallF) (l0 : List AV) (H : AH) (k : AV → AH → R) : R := opn 1 l0 (fun x0 => (qFn (fun kr => (r94_0 (r94_1 (qBl (fun k1 => (qLoop (l94_5 k1 kr))) (r94_8 kr)))))
(fun fr H => qPtr (sel 1 fr) (qLdA 256 (sel 1 fr) H fun w0 => k (.tup [w0, (sel 2 fr)]) H)) [x0, Aes.undef, Aes.undef, Aes.undef, Aes.undef, Aes.undef, Aes.undef] H : R))
/- strings.trimLeftASCII -/
noncomputable def r95_4 (k : KT R) : KT R := fun fr H => opn 5 fr (fun s0 s1 s4 s7 s12 => 
(k [s0, s1, s0, s7, s12] H : R))
noncomputable def r95_3 (k : KT R) : KT R := fun fr H => opn 5 fr (fun s0 s1 s4 s7 s12 => 
(qSlc Tryz.t9.desc 0 s0 (some (.int .i64 1)) none none fun v14 =>
k [v14, s1, s4, s7, s12] H : R))
noncomputable def r95_2 (C : CallF) (k : KT R) : KT R := fun fr H => opn 5 fr (fun s0 s1 s4 s7 s12 => 
(qIx s0 (.int .i64 0) fun v10 =>
qRes (C 116 [s1, v10] H) fun v11 H =>
qNot v11 fun v12 =>
k [s0, s1, s4, s7, v12] H : R))
noncomputable def r95_1 (k : KT R) : KT R := fun fr H => opn 5 fr (fun s0 s1 s4 s7 s12 => 
(qLenS s0 fun v6 =>
qGtr X 3 v6 (.int .i64 0) fun v7 =>
k [s0, s1, s4, v7, s12] H : R))
noncomputable def l95_5 (C : CallF) (k1 : KT R) : KT R → KT R := fun k2 => (r95_1 (qCd (sel 3) (fun k5 => k5) (fun _ => k1) (qBl (fun k3 => (r95_2 C (qCd (sel 4) (fun _ => k1) (fun k4 => k4) (r95_3 k3)))) k2)))
noncomputable def r95_0 (k : KT R) : KT R := fun fr H => opn 5 fr (fun s0 s1 s4 s7 s12 => 
(k [s0, s1, (.str []), s7, s12] H : R))
noncomputable def c95 (C : CallF) (l0 : List AV) (H : AH) (k : AV → AH → R) : R := opn 2 l0 (fun x0 x1 => (qFn (fun kr => (r95_0 (qBl (fun k1 => (qLoop (l95_5 C k1))) (r95_4 kr))))
(fun fr H => k (sel 2 fr) H) [x0, x1, Aes.undef, Aes.undef, Aes.undef] H : R))
/- strings.trimRightASCII -/
noncomputable def r96_4 (k : KT R) : KT R := fun fr H => opn 5 fr (fun s0 s1 s4 s7 s15 => 
(k [s0, s1, s0, s7, s15] H : R))
noncomputable def r96_3 (k : KT R) : KT R := fun fr H => opn 5 fr (fun s0 s1 s4 s7 s15 => 
(qLenS s0 fun v18 =>
qSub X 3 v18 (.int .i64 1) fun v19 =>
qSlc Tryz.t9.desc 0 s0 none (some v19) none fun v20 =>
k [v20, s1, s4, s7, s15] H : R))
noncomputable def r96_2 (C : CallF) (k : KT R) : KT R := fun fr H => opn 5 fr (fun s0 s1 s4 s7 s15 => 
(qLenS s0 fun v11 =>
qSub X 3 v11 (.int .i64 1) fun v12 =>
qIx s0 v12 fun v13 =>
qRes (C 116 [s1, v13] H) fun v14 H =>
qNot v14 fun v15 =>
k [s0, s1, s4, s7, v15] H : R))
noncomputable def r96_1 (k : KT R) : KT R := fun fr H => opn 5 fr (fun s0 s1 s4 s7 s15 => 
(qLenS s0 fun v6 =>
qGtr X 3 v6 (.int .i64 0) fun v7 =>
k [s0, s1, s4, v7, s15] H : R))
noncomputable def l96_5 (C : CallF) (k1 : KT R) : KT R → KT R := fun k2 => (r96_1 (qCd (sel 3) (fun k5 => k5) (fun _ => k1) (qBl (fun k3 => (r96_2 C (qCd (sel 4) (fun _ => k1) (fun k4 => k4) (r96_3 k3)))) k2)))
noncomputable def r96_0 (k : KT R) : KT R := fun fr H => opn 5 fr (fun s0 s1 s4 s7 s15 => 
(k [s0, s1, (.str []), s7, s15] H : R))
noncomputable def c96 (C : CallF) (l0 : List AV) (H : AH) (k : AV → AH → R) : R := opn 2 l0 (fun x0 x1 => (qFn (fun kr => (r96_0 (qBl (fun k1 => (qLoop (l96_5 C k1))) (r96_4 kr))))
(fun fr H => k (sel 2 fr) H) [x0, x1, Aes.undef, Aes.undef, Aes.undef] H : R))
/- strings.trimLeftUnicode -/
noncomputable def r97_5 (k : KT R) : KT R := fun fr H => opn 7 fr (fun s0 s1 s4 s5 s6 s9 s18 => 
(k [s0, s1, s0, s5, s6, s9, s18] H : R))
noncomputable def r97_4 (k : KT R) : KT R := fun fr H => opn 7 fr (fun s0 s1 s4 s5 s6 s9 s18 => 
(qSlc Tryz.t9.desc 0 s0 (some s6) none none fun v21 =>
k [v21, s1, s4, s5, s6, s9, s18] H : R))
noncomputable def r97_3 (C : CallF) (k : KT R) : KT R := fun fr H => opn 7 fr (fun s0 s1 s4 s5 s6 s9 s18 => 
(qRes (C 118 [s1, s5] H) fun v17 H =>
qNot v17 fun v18 =>
k [s0, s1, s4, s5, s6, s9, v18] H : R))
noncomputable def r97_2 (C : CallF) (k : KT R) : KT R := fun fr H => opn 7 fr (fun s0 s1 s4 s5 s6 s9 s18 => 
(qRes (C 117 [s0] H) fun v12 H =>
qExt v12 0 fun v13 =>
qExt v12 1 fun v14 =>
k [s0, s1, s4, v13, v14, s9, s18] H : R))
noncomputable def r97_1 (k : KT R) : KT R := fun fr H => opn 7 fr (fun s0 s1 s4 s5 s6 s9 s18 => 
(qLenS s0 fun v8 =>
qGtr X 3 v8 (.int .i64 0) fun v9 =>
k [s0, s1, s4, s5, s6, v9, s18] H : R))
noncomputable def l97_5 (C : CallF) (k1 : KT R) : KT R → KT R := fun k2 => (r97_1 (qCd (sel 5) (fun k5 => k5) (fun _ => k1) (qBl (fun k3 => (r97_2 C (r97_3 C (qCd (sel 6) (fun _ => k1) (fun k4 => k4) (r97_4 k3))))) k2)))
noncomputable def r97_0 (k : KT R) : KT R := fun fr H => opn 7 fr (fun s0 s1 s4 s5 s6 s9 s18 => 
(k [s0, s1, (.str []), s5, s6, s9, s18] H : R))
noncomputable def c97 (C : CallF) (l0 : List AV) (H : AH) (k : AV → AH → R) : R := opn 2 l0 (fun x0 x1 => (qFn (fun kr => (r97_0 (qBl (fun k1 => (qLoop (l97_5 C k1))) (r97_5 kr))))
(fun fr H => k (sel 2 fr) H) [x0, x1, Aes.undef, Aes.undef, Aes.undef, Aes.undef, Aes.undef] H : R))
/- strings.trimRightUnicode -/
noncomputable def r98_7 (k : KT R) : KT R := fun fr H => opn 8 fr (fun s0 s1 s4 s5 s6 s9 s17 s26 => 
(k [s0, s1, s0, s5, s6, s9, s17, s26] H : R))
noncomputable def r98_6 (k : KT R) : KT R := fun fr H => opn 8 fr (fun s0 s1 s4 s5 s6 s9 s17 s26 => 
(qLenS s0 fun v29 =>
qSub X 3 v29 s6 fun v31 =>
qSlc Tryz.t9.desc 0 s0 none (some v31) none fun v32 =>
k [v32, s1, s4, s5, s6, s9, s17, s26] H : R))
noncomputable def r98_5 (C : CallF) (k : KT R) : KT R := fun fr H => opn 8 fr (fun s0 s1 s4 s5 s6 s9 s17 s26 => 
(qRes (C 118 [s1, s5] H) fun v25 H =>
qNot v25 fun v26 =>
k [s0, s1, s4, s5, s6, s9, s17, v26] H : R))
noncomputable def r98_4 (C : CallF) (k : KT R) : KT R := fun fr H => opn 8 fr (fun s0 s1 s4 s5 s6 s9 s17 s26 => 
(qRes (C 119 [s0] H) fun v20 H =>
qExt v20 0 fun v21 =>
qExt v20 1 fun v22 =>
k [s0, s1, s4, v21, v22, s9, s17, s26] H : R))
noncomputable def r98_3 (k : KT R) : KT R := fun fr H => opn 8 fr (fun s0 s1 s4 s5 s6 s9 s17 s26 => 
(qGeq X 21 s5 (.int .i32 128) fun v17 =>
k [s0, s1, s4, s5, s6, s9, v17, s26] H : R))
noncomputable def r98_2 (k : KT R) : KT R := fun fr H => opn 8 fr (fun s0 s1 s4 s5 s6 s9 s17 s26 => 
(qLenS s0 fun v12 =>
qSub X 3 v12 (.int .i64 1) fun v13 =>
qIx s0 v13 fun v14 =>
qConvI .i32 v14 fun v15 =>
k [s0, s1, s4, v15, (.int .i64 1), s9, s17, s26] H : R))
noncomputable def r98_1 (k : KT R) : KT R := fun fr H => opn 8 fr (fun s0 s1 s4 s5 s6 s9 s17 s26 => 
(qLenS s0 fun v8 =>
qGtr X 3 v8 (.int .i64 0) fun v9 =>
k [s0, s1, s4, s5, s6, v9, s17, s26] H : R))
noncomputable def l98_6 (C : CallF) (k1 : KT R) : KT R → KT R := fun k2 => (r98_1 (qCd (sel 5) (fun k6 => k6) (fun _ => k1) (qBl (fun k3 => (r98_2 (r98_3 (qCd (sel 6) (fun k5 => (r98_4 C k5)) (fun k5 => k5) (r98_5 C (qCd (sel 7) (fun _ => k1) (fun k4 => k4) (r98_6 k3))))))) k2)))
noncomputable def r98_0 (k : KT R) : KT R := fun fr H => opn 8 fr (fun s0 s1 s4 s5 s6 s9 s17 s26 => 
(k [s0, s1, (.str []), s5, s6, s9, s17, s26] H : R))
noncomputable def c98 (C : CallF) (l0 : List AV) (H : AH) (k : AV → AH → R) : R := opn 2 l0 (fun x0 x1 => (qFn (fun kr => (r98_0 (qBl (fun k1 => (qLoop (l98_6 C k1))) (r98_7 kr))))
(fun fr H => k (sel 2 fr) H) [x0, x1, Aes.undef, Aes.undef, Aes.undef, Aes.undef, Aes.undef, Aes.undef] H : R))
/- strings.Index -/
noncomputable def r99_1 (C : CallF) (k : KT R) : KT R := fun fr H => opn 3 fr (fun s0 s1 s4 => 
(qRes (C 120 [s0, s1] H) fun v7 H =>
k [s0, s1, v7] H : R))
noncomputable def r99_0 (k : KT R) : KT R := fun fr H => opn 3 fr (fun s0 s1 s4 => 
(k [s0, s1, (.int .i64 0)] H : R))
noncomputable def c99 (C : CallF) (l0 : List AV) (H : AH) (k : AV → AH → R) : R := opn 2 l0 (fun x0 x1 => (qFn (fun kr => (r99_0 (r99_1 C kr)))
(fun fr H => k (sel 2 fr) H) [x0, x1, Aes.undef] H : R))
/- unicode/utf8.RuneCountInString -/
noncomputable def r100_4 (k : KT R) : KT R := fun fr H => opn 4 fr (fun s0 s2 s4 s6 => 
(k [s0, s2, s4, s6] H : R))
noncomputable def r100_3 (k : KT R) : KT R := fun fr H => opn 4 fr (fun s0 s2 s4 s6 => 
(qAdd X 3 s2 (.int .i64 1) fun v8 =>
k [s0, v8, s4, s6] H : R))
noncomputable def r100_2 (k : KT R) : KT R := fun fr H => opn 4 fr (fun s0 s2 s4 s6 => 
(qNext s4 H fun v5 H =>
qExt v5 0 fun v6 =>
k [s0, s2, s4, v6] H : R))
noncomputable def l100_4 (k1 : KT R) : KT R → KT R := fun k2 => (r100_2 (qCd (sel 3) (fun k4 => k4) (fun _ => k1) (qBl (fun k3 => (r100_3 k3)) k2)))
noncomputable def r100_1 (k : KT R) : KT R := fun fr H => opn 4 fr (fun s0 s2 s4 s6 => 
(qRange s0 H fun v4 H =>
k [s0, s2, v4, s6] H : R))
noncomputable def r100_0 (k : KT R) : KT R := fun fr H => opn 4 fr (fun s0 s2 s4 s6 => 
(k [s0, (.int .i64 0), s4, s6] H : R))
noncomputable def c100 (C : CallF) (l0 : List AV) (H : AH) (k : AV → AH → R) : R := opn 1 l0 (fun x0 => (qFn (fun kr => (r100_0 (r100_1 (qBl (fun k1 => (qLoop (l100_4 k1))) (r100_4 kr)))))
(fun fr H => k (sel 1 fr) H) [x0, Aes.undef, Aes.undef, Aes.undef] H : R))
/- internal/stringslite.HasSuffix -/
noncomputable def r102_1 (k : KT R) : KT R := fun fr H => opn 3 fr (fun s0 s1 s4 => 
(qLenS s0 fun v6 =>
qLenS s1 fun v8 =>
qGeq X 3 v6 v8 fun v9 =>
qG v9 true (fun k => k s0 H) H fun v11 H =>
qG v9 true (fun k => k s0 H) H fun v12 H =>
qG v9 true (fun k => qLenS v12 fun v => k v H) H fun v13 H =>
qG v9 true (fun k => k s1 H) H fun v14 H =>
qG v9 true (fun k => qLenS v14 fun v => k v H) H fun v15 H =>
qG v9 true (fun k => qSub X 3 v13 v15 fun v => k v H) H fun v16 H =>
qG v9 true (fun k => qSlc Tryz.t9.desc 0 v11 (some v16) none none fun v => k v H) H fun v17 H =>
qG v9 true (fun k => k s1 H) H fun v18 H =>
qG v9 true (fun k => qEql X 9 v17 v18 fun v => k v H) H fun v19 H =>
qPick v9 v19 (.bool false) fun v20 =>
k [s0, s1, v20] H : R))
noncomputable def r102_0 (k : KT R) : KT R := fun fr H => opn 3 fr (fun s0 s1 s4 => 
(k [s0, s1, (.bool false)] H : R))
noncomputable def c102 (C : CallF) (l0 : List AV) (H : AH) (k : AV → AH → R) : R := opn 2 l0 (fun x0 x1 => (qFn (fun kr => (r102_0 (r102_1 kr)))
(fun fr H => k (sel 2 fr) H) [x0, x1, Aes.undef] H : R))
/- refectory/refectoryref04.part -/
noncomputable def r103_1 (C : CallF) (k : KT R) : KT R := fun fr H => opn 2 fr (fun s0 s2 => 
(qRes (C 59 [s0] H) fun v4 H =>
qG v4 false (fun k => k s0 H) H fun v6 H =>
qG v4 false (fun k => qRes (C 60 [v6] H) k) H fun v7 H =>
qPick v4 (.bool true) v7 fun v8 =>
qG v8 false (fun k => k s0 H) H fun v10 H =>
qG v8 false (fun k => qEql X 5 v10 (.int .u8 46) fun v => k v H) H fun v11 H =>
qPick v8 (.bool true) v11 fun v12 =>
qG v12 false (fun k => k s0 H) H fun v14 H =>
qG v12 false (fun k => qEql X 5 v14 (.int .u8 43) fun v => k v H) H fun v15 H =>
qPick v12 (.bool true) v15 fun v16 =>
qG v16 false (fun k => k s0 H) H fun v18 H =>
qG v16 false (fun k => qEql X 5 v18 (.int .u8 45) fun v => k v H) H fun v19 H =>
qPick v16 (.bool true) v19 fun v20 =>
k [s0, v20] H : R))
noncomputable def r103_0 (k : KT R) : KT R := fun fr H => opn 2 fr (fun s0 s2 => 
(k [s0, (.bool false)] H : R))
noncomputable def c103 (C : CallF) (l0 : List AV) (H : AH) (k : AV → AH → R) : R := opn 1 l0 (fun x0 => (qFn (fun kr => (r103_0 (r103_1 C kr)))
(fun fr H => k (sel 1 fr) H) [x0, Aes.undef] H : R))
/- refectory/refectoryref02.Number -/
noncomputable def r104_25 (k : KT R) : KT R := fun fr H => opn 15 fr (fun s0 s2 s3 s4 s5 s6 s9 s19 s36 s49 s55 s75 s93 s100 s107 => 
(k [s0, s5, (.bool true), s4, s5, s6, s9, s19, s36, s49, s55, s75, s93, s100, s107] H : R))
noncomputable def r104_24 (k : KT R) : KT R := fun fr H => opn 15 fr (fun s0 s2 s3 s4 s5 s6 s9 s19 s36 s49 s55 s75 s93 s100 s107 => 
(k [s0, (.bool false), (.bool false), s4, s5, s6, s9, s19, s36, s49, s55, s75, s93, s100, s107] H : R))
noncomputable def r104_23 (k : KT R) : KT R := fun fr H => opn 15 fr (fun s0 s2 s3 s4 s5 s6 s9 s19 s36 s49 s55 s75 s93 s100 s107 => 
(qLenS s0 fun v106 =>
qNeq X 3 s4 v106 fun v107 =>
k [s0, s2, s3, s4, s5, s6, s9, s19, s36, s49, s55, s75, s93, s100, v107] H : R))
noncomputable def r104_22 (k : KT R) : KT R := fun fr H => opn 15 fr (fun s0 s2 s3 s4 s5 s6 s9 s19 s36 s49 s55 s75 s93 s100 s107 => 
(qAdd X 3 s4 s6 fun v103 =>
k [s0, s2, s3, v103, (.bool false), s6, s9, s19, s36, s49, s55, s75, s93, s100, s107] H : R))
noncomputable def r104_21 (k : KT R) : KT R := fun fr H => opn 15 fr (fun s0 s2 s3 s4 s5 s6 s9 s19 s36 s49 s55 s75 s93 s100 s107 => 
(k [s0, (.bool false), (.bool false), s4, s5, s6, s9, s19, s36, s49, s55, s75, s93, s100, s107] H : R))
noncomputable def r104_20 (k : KT R) : KT R := fun fr H => opn 15 fr (fun s0 s2 s3 s4 s5 s6 s9 s19 s36 s49 s55 s75 s93 s100 s107 => 
(qEql X 3 s6 (.int .i64 0) fun v100 =>
k [s0, s2, s3, s4, s5, s6, s9, s19, s36, s49, s55, s75, s93, v100, s107] H : R))
noncomputable def r104_19 (C : CallF) (k : KT R) : KT R := fun fr H => opn 15 fr (fun s0 s2 s3 s4 s5 s6 s9 s19 s36 s49 s55 s75 s93 s100 s107 => 
(qRes (C 121 [s0, s4] H) fun v98 H =>
k [s0, s2, s3, s4, s5, v98, s9, s19, s36, s49, s55, s75, s93, s100, s107] H : R))
noncomputable def r104_18 (k : KT R) : KT R := fun fr H => opn 15 fr (fun s0 s2 s3 s4 s5 s6 s9 s19 s36 s49 s55 s75 s93 s100 s107 => 
(qAdd X 3 s4 (.int .i64 1) fun v95 =>
k [s0, s2, s3, v95, s5, s6, s9, s19, s36, s49, s55, s75, s93, s100, s107] H : R))
noncomputable def r104_17 (k : KT R) : KT R := fun fr H => opn 15 fr (fun s0 s2 s3 s4 s5 s6 s9 s19 s36 s49 s55 s75 s93 s100 s107 => 
(qLenS s0 fun v80 =>
qLss X 3 s4 v80 fun v81 =>
qG v81 true (fun k => k s0 H) H fun v83 H =>
qG v81 true (fun k => k s4 H) H fun v84 H =>
qG v81 true (fun k => qIx v83 v84 fun v => k v H) H fun v85 H =>
qG v81 true (fun k => qEql X 5 v85 (.int .u8 43) fun v => k v H) H fun v86 H =>
qG v81 true (fun k => k v86 H) H fun v87 H =>
qG v87 false (fun k => k s0 H) H fun v88 H =>
qG v87 false (fun k => k s4 H) H fun v89 H =>
qG v87 false (fun k => qIx v88 v89 fun v => k v H) H fun v90 H =>
qG v87 false (fun k => qEql X 5 v90 (.int .u8 45) fun v => k v H) H fun v91 H =>
qG v81 true (fun k => qPick v87 (.bool true) v91 fun v => k v H) H fun v92 H =>
qPick v81 v92 (.bool false) fun v93 =>
k [s0, s2, s3, s4, s5, s6, s9, s19, s36, s49, s55, s75, v93, s100, s107] H : R))
noncomputable def r104_16 (k : KT R) : KT R := fun fr H => opn 15 fr (fun s0 s2 s3 s4 s5 s6 s9 s19 s36 s49 s55 s75 s93 s100 s107 => 
(qAdd X 3 s4 (.int .i64 1) fun v77 =>
k [s0, s2, s3, v77, s5, s6, s9, s19, s36, s49, s55, s75, s93, s100, s107] H : R))
noncomputable def r104_15 (k : KT R) : KT R := fun fr H => opn 15 fr (fun s0 s2 s3 s4 s5 s6 s9 s19 s36 s49 s55 s75 s93 s100 s107 => 
(qLenS s0 fun v62 =>
qLss X 3 s4 v62 fun v63 =>
qG v63 true (fun k => k s0 H) H fun v65 H =>
qG v63 true (fun k => k s4 H) H fun v66 H =>
qG v63 true (fun k => qIx v65 v66 fun v => k v H) H fun v67 H =>
qG v63 true (fun k => qEql X 5 v67 (.int .u8 101) fun v => k v H) H fun v68 H =>
qG v63 true (fun k => k v68 H) H fun v69 H =>
qG v69 false (fun k => k s0 H) H fun v70 H =>
qG v69 false (fun k => k s4 H) H fun v71 H =>
qG v69 false (fun k => qIx v70 v71 fun v => k v H) H fun v72 H =>
qG v69 false (fun k => qEql X 5 v72 (.int .u8 69) fun v => k v H) H fun v73 H =>
qG v63 true (fun k => qPick v69 (.bool true) v73 fun v => k v H) H fun v74 H =>
qPick v63 v74 (.bool false) fun v75 =>
k [s0, s2, s3, s4, s5, s6, s9, s19, s36, s49, s55, v75, s93, s100, s107] H : R))
noncomputable def r104_14 (k : KT R) : KT R := fun fr H => opn 15 fr (fun s0 s2 s3 s4 s5 s6 s9 s19 s36 s49 s55 s75 s93 s100 s107 => 
(qAdd X 3 s4 (.int .i64 1) fun v57 =>
qAdd X 3 v57 s6 fun v59 =>
k [s0, s2, s3, v59, (.bool false), s6, s9, s19, s36, s49, s55, s75, s93, s100, s107] H : R))
noncomputable def r104_13 (k : KT R) : KT R := fun fr H => opn 15 fr (fun s0 s2 s3 s4 s5 s6 s9 s19 s36 s49 s55 s75 s93 s100 s107 => 
(k [s0, (.bool false), (.bool false), s4, s5, s6, s9, s19, s36, s49, s55, s75, s93, s100, s107] H : R))
noncomputable def r104_12 (k : KT R) : KT R := fun fr H => opn 15 fr (fun s0 s2 s3 s4 s5 s6 s9 s19 s36 s49 s55 s75 s93 s100 s107 => 
(qEql X 3 s6 (.int .i64 0) fun v55 =>
k [s0, s2, s3, s4, s5, s6, s9, s19, s36, s49, v55, s75, s93, s100, s107] H : R))
noncomputable def r104_11 (C : CallF) (k : KT R) : KT R := fun fr H => opn 15 fr (fun s0 s2 s3 s4 s5 s6 s9 s19 s36 s49 s55 s75 s93 s100 s107 => 
(qAdd X 3 s4 (.int .i64 1) fun v52 =>
qRes (C 121 [s0, v52] H) fun v53 H =>
k [s0, s2, s3, s4, s5, v53, s9, s19, s36, s49, s55, s75, s93, s100, s107] H : R))
noncomputable def r104_10 (k : KT R) : KT R := fun fr H => opn 15 fr (fun s0 s2 s3 s4 s5 s6 s9 s19 s36 s49 s55 s75 s93 s100 s107 => 
(qLenS s0 fun v42 =>
qLss X 3 s4 v42 fun v43 =>
qG v43 true (fun k => k s0 H) H fun v45 H =>
qG v43 true (fun k => k s4 H) H fun v46 H =>
qG v43 true (fun k => qIx v45 v46 fun v => k v H) H fun v47 H =>
qG v43 true (fun k => qEql X 5 v47 (.int .u8 46) fun v => k v H) H fun v48 H =>
qPick v43 v48 (.bool false) fun v49 =>
k [s0, s2, s3, s4, s5, s6, s9, s19, s36, v49, s55, s75, s93, s100, s107] H : R))
noncomputable def r104_9 (k : KT R) : KT R := fun fr H => opn 15 fr (fun s0 s2 s3 s4 s5 s6 s9 s19 s36 s49 s55 s75 s93 s100 s107 => 
(qAdd X 3 s4 s6 fun v39 =>
k [s0, s2, s3, v39, s5, s6, s9, s19, s36, s49, s55, s75, s93, s100, s107] H : R))
noncomputable def r104_8 (k : KT R) : KT R := fun fr H => opn 15 fr (fun s0 s2 s3 s4 s5 s6 s9 s19 s36 s49 s55 s75 s93 s100 s107 => 
(k [s0, (.bool false), (.bool false), s4, s5, s6, s9, s19, s36, s49, s55, s75, s93, s100, s107] H : R))
noncomputable def r104_7 (k : KT R) : KT R := fun fr H => opn 15 fr (fun s0 s2 s3 s4 s5 s6 s9 s19 s36 s49 s55 s75 s93 s100 s107 => 
(qEql X 3 s6 (.int .i64 0) fun v26 =>
qG v26 false (fun k => k s6 H) H fun v28 H =>
qG v26 false (fun k => qGtr X 3 v28 (.int .i64 1) fun v => k v H) H fun v29 H =>
qG v26 false (fun k => k v29 H) H fun v30 H =>
qG v30 true (fun k => k s0 H) H fun v31 H =>
qG v30 true (fun k => k s4 H) H fun v32 H =>
qG v30 true (fun k => qIx v31 v32 fun v => k v H) H fun v33 H =>
qG v30 true (fun k => qEql X 5 v33 (.int .u8 48) fun v => k v H) H fun v34 H =>
qG v26 false (fun k => qPick v30 v34 (.bool false) fun v => k v H) H fun v35 H =>
qPick v26 (.bool true) v35 fun v36 =>
k [s0, s2, s3, s4, s5, s6, s9, s19, v36, s49, s55, s75, s93, s100, s107] H : R))
noncomputable def r104_6 (C : CallF) (k : KT R) : KT R := fun fr H => opn 15 fr (fun s0 s2 s3 s4 s5 s6 s9 s19 s36 s49 s55 s75 s93 s100 s107 => 
(qRes (C 121 [s0, s4] H) fun v24 H =>
k [s0, s2, s3, s4, s5, v24, s9, s19, s36, s49, s55, s75, s93, s100, s107] H : R))
noncomputable def r104_5 (k : KT R) : KT R := fun fr H => opn 15 fr (fun s0 s2 s3 s4 s5 s6 s9 s19 s36 s49 s55 s75 s93 s100 s107 => 
(qAdd X 3 s4 (.int .i64 1) fun v21 =>
k [s0, s2, s3, v21, s5, s6, s9, s19, s36, s49, s55, s75, s93, s100, s107] H : R))
noncomputable def r104_4 (k : KT R) : KT R := fun fr H => opn 15 fr (fun s0 s2 s3 s4 s5 s6 s9 s19 s36 s49 s55 s75 s93 s100 s107 => 
(qLenS s0 fun v12 =>
qLss X 3 s4 v12 fun v13 =>
qG v13 true (fun k => k s0 H) H fun v15 H =>
qG v13 true (fun k => k s4 H) H fun v16 H =>
qG v13 true (fun k => qIx v15 v16 fun v => k v H) H fun v17 H =>
qG v13 true (fun k => qEql X 5 v17 (.int .u8 45) fun v => k v H) H fun v18 H =>
qPick v13 v18 (.bool false) fun v19 =>
k [s0, s2, s3, s4, s5, s6, s9, v19, s36, s49, s55, s75, s93, s100, s107] H : R))
noncomputable def r104_3 (k : KT R) : KT R := fun fr H => opn 15 fr (fun s0 s2 s3 s4 s5 s6 s9 s19 s36 s49 s55 s75 s93 s100 s107 => 
(k [s0, (.bool false), (.bool false), s4, s5, s6, s9, s19, s36, s49, s55, s75, s93, s100, s107] H : R))
noncomputable def r104_2 (k : KT R) : KT R := fun fr H => opn 15 fr (fun s0 s2 s3 s4 s5 s6 s9 s19 s36 s49 s55 s75 s93 s100 s107 => 
(qLenS s0 fun v8 =>
qGtr X 3 v8 (.int .i64 40) fun v9 =>
k [s0, s2, s3, s4, s5, s6, v9, s19, s36, s49, s55, s75, s93, s100, s107] H : R))
noncomputable def r104_1 (k : KT R) : KT R := fun fr H => opn 15 fr (fun s0 s2 s3 s4 s5 s6 s9 s19 s36 s49 s55 s75 s93 s100 s107 => 
(k [s0, s2, s3, (.int .i64 0), (.bool true), s6, s9, s19, s36, s49, s55, s75, s93, s100, s107] H : R))
noncomputable def r104_0 (k : KT R) : KT R := fun fr H => opn 15 fr (fun s0 s2 s3 s4 s5 s6 s9 s19 s36 s49 s55 s75 s93 s100 s107 => 
(k [s0, (.bool false), (.bool false), s4, s5, s6, s9, s19, s36, s49, s55, s75, s93, s100, s107] H : R))
noncomputable def c104 (C : CallF) (l0 : List AV) (H : AH) (k : AV → AH → R) : R := opn 1 l0 (fun x0 => (qFn (fun kr => (r104_0 (r104_1 (r104_2 (qCd (sel 6) (fun _ => (r104_3 kr)) (fun k9 => k9) (r104_4 (qCd (sel 7) (fun k8 => (r104_5 k8)) (fun k8 => k8) (r104_6 C (r104_7 (qCd (sel 8) (fun _ => (r104_8 kr)) (fun k7 => k7) (r104_9 (r104_10 (qCd (sel 9) (fun k5 => (r104_11 C (r104_12 (qCd (sel 10) (fun _ => (r104_13 kr)) (fun k6 => k6) (r104_14 k5))))) (fun k5 => k5) (r104_15 (qCd (sel 11) (fun k2 => (r104_16 (r104_17 (qCd (sel 12) (fun k4 => (r104_18 k4)) (fun k4 => k4) (r104_19 C (r104_20 (qCd (sel 13) (fun _ => (r104_21 kr)) (fun k3 => k3) (r104_22 k2)))))))) (fun k2 => k2) (r104_23 (qCd (sel 14) (fun _ => (r104_24 kr)) (fun k1 => k1) (r104_25 kr))))))))))))))))))
(fun fr H => k (.tup [(sel 1 fr), (sel 2 fr)]) H) [x0, Aes.undef, Aes.undef, Aes.undef, Aes.undef, Aes.undef, Aes.undef, Aes.undef, Aes.undef, Aes.undef, Aes.undef, Aes.undef, Aes.undef, Aes.undef, Aes.undef] H : R))
/- refectory/refectoryref04.text -/
noncomputable def r105_11 (k : KT R) : KT R := fun fr H => opn 12 fr (fun s0 s1 s4 s5 s6 s7 s8 s9 s22 s53 s57 s65 => 
(qAdd X 3 s7 (.int .i64 1) fun v78 =>
k [s0, s1, s8, v78, s9, s7, s8, s9, s22, s53, s57, s65] H : R))
noncomputable def r105_10 (C : CallF) (k : KT R) : KT R := fun fr H => opn 12 fr (fun s0 s1 s4 s5 s6 s7 s8 s9 s22 s53 s57 s65 => 
(qAdd X 3 s7 (.int .i64 1) fun v71 =>
qSlc Tryz.t9.desc 0 s0 (some s1) (some v71) none fun v72 =>
qRes (C 123 [v72] H) fun v73 H =>
qExt v73 0 fun v74 =>
qExt v73 1 fun v75 =>
k [s0, s1, s4, s5, s6, s7, v74, v75, s22, s53, s57, s65] H : R))
noncomputable def r105_9 (k : KT R) : KT R := fun fr H => opn 12 fr (fun s0 s1 s4 s5 s6 s7 s8 s9 s22 s53 s57 s65 => 
(k [s0, s1, (.str []), s7, (.bool false), s7, s8, s9, s22, s53, s57, s65] H : R))
noncomputable def r105_8 (k : KT R) : KT R := fun fr H => opn 12 fr (fun s0 s1 s4 s5 s6 s7 s8 s9 s22 s53 s57 s65 => 
(qLenS s0 fun v64 =>
qGeq X 3 s7 v64 fun v65 =>
k [s0, s1, s4, s5, s6, s7, s8, s9, s22, s53, s57, v65] H : R))
noncomputable def r105_7 (k : KT R) : KT R := fun fr H => opn 12 fr (fun s0 s1 s4 s5 s6 s7 s8 s9 s22 s53 s57 s65 => 
(qAdd X 3 s7 (.int .i64 1) fun v61 =>
k [s0, s1, s4, s5, s6, v61, s8, s9, s22, s53, s57, s65] H : R))
noncomputable def r105_6 (k : KT R) : KT R := fun fr H => opn 12 fr (fun s0 s1 s4 s5 s6 s7 s8 s9 s22 s53 s57 s65 => 
(qAdd X 3 s7 (.int .i64 1) fun v59 =>
k [s0, s1, s4, s5, s6, v59, s8, s9, s22, s53, s57, s65] H : R))
noncomputable def r105_5 (k : KT R) : KT R := fun fr H => opn 12 fr (fun s0 s1 s4 s5 s6 s7 s8 s9 s22 s53 s57 s65 => 
(qIx s0 s7 fun v56 =>
qEql X 5 v56 (.int .u8 92) fun v57 =>
k [s0, s1, s4, s5, s6, s7, s8, s9, s22, s53, v57, s65] H : R))
noncomputable def r105_4 (k : KT R) : KT R := fun fr H => opn 12 fr (fun s0 s1 s4 s5 s6 s7 s8 s9 s22 s53 s57 s65 => 
(qLenS s0 fun v34 =>
qLss X 3 s7 v34 fun v35 =>
qG v35 true (fun k => k s0 H) H fun v37 H =>
qG v35 true (fun k => k s7 H) H fun v38 H =>
qG v35 true (fun k => qIx v37 v38 fun v => k v H) H fun v39 H =>
qG v35 true (fun k => qNeq X 5 v39 (.int .u8 34) fun v => k v H) H fun v40 H =>
qPick v35 v40 (.bool false) fun v41 =>
qG v41 true (fun k => k s0 H) H fun v43 H =>
qG v41 true (fun k => k s7 H) H fun v44 H =>
qG v41 true (fun k => qIx v43 v44 fun v => k v H) H fun v45 H =>
qG v41 true (fun k => qNeq X 5 v45 (.int .u8 10) fun v => k v H) H fun v46 H =>
qPick v41 v46 (.bool false) fun v47 =>
qG v47 true (fun k => k s0 H) H fun v49 H =>
qG v47 true (fun k => k s7 H) H fun v50 H =>
qG v47 true (fun k => qIx v49 v50 fun v => k v H) H fun v51 H =>
qG v47 true (fun k => qNeq X 5 v51 (.int .u8 13) fun v => k v H) H fun v52 H =>
qPick v47 v52 (.bool false) fun v53 =>
k [s0, s1, s4, s5, s6, s7, s8, s9, s22, v53, s57, s65] H : R))
noncomputable def l105_6 (k2 : KT R) : KT R → KT R := fun k3 => (r105_4 (qCd (sel 9) (fun k6 => k6) (fun _ => k2) (qBl (fun k4 => (r105_5 (qCd (sel 10) (fun k5 => (r105_6 k5)) (fun k5 => k5) (r105_7 k4)))) k3)))
noncomputable def r105_3 (k : KT R) : KT R := fun fr H => opn 12 fr (fun s0 s1 s4 s5 s6 s7 s8 s9 s22 s53 s57 s65 => 
(qAdd X 3 s1 (.int .i64 1) fun v31 =>
k [s0, s1, s4, s5, s6, v31, s8, s9, s22, s53, s57, s65] H : R))
noncomputable def r105_2 (C : CallF) (k : KT R) : KT R := fun fr H => opn 12 fr (fun s0 s1 s4 s5 s6 s7 s8 s9 s22 s53 s57 s65 => 
(qAdd X 3 s1 (.int .i64 3) fun v25 =>
qRes (C 122 [s0, v25] H) fun v26 H =>
qExt v26 0 fun v27 =>
qExt v26 1 fun v28 =>
qExt v26 2 fun v29 =>
k [s0, s1, v27, v28, v29, s7, s8, s9, s22, s53, s57, s65] H : R))
noncomputable def r105_1 (k : KT R) : KT R := fun fr H => opn 12 fr (fun s0 s1 s4 s5 s6 s7 s8 s9 s22 s53 s57 s65 => 
(qLenS s0 fun v11 =>
qSub X 3 v11 s1 fun v13 =>
qGeq X 3 v13 (.int .i64 3) fun v14 =>
qG v14 true (fun k => k s0 H) H fun v16 H =>
qG v14 true (fun k => k s1 H) H fun v17 H =>
qG v14 true (fun k => k s1 H) H fun v18 H =>
qG v14 true (fun k => qAdd X 3 v18 (.int .i64 3) fun v => k v H) H fun v19 H =>
qG v14 true (fun k => qSlc Tryz.t9.desc 0 v16 (some v17) (some v19) none fun v => k v H) H fun v20 H =>
qG v14 true (fun k => qEql X 9 v20 (.str [34,34,34]) fun v => k v H) H fun v21 H =>
qPick v14 v21 (.bool false) fun v22 =>
k [s0, s1, s4, s5, s6, s7, s8, s9, v22, s53, s57, s65] H : R))
noncomputable def r105_0 (k : KT R) : KT R := fun fr H => opn 12 fr (fun s0 s1 s4 s5 s6 s7 s8 s9 s22 s53 s57 s65 => 
(k [s0, s1, (.str []), (.int .i64 0), (.bool false), s7, s8, s9, s22, s53, s57, s65] H : R))
noncomputable def c105 (C : CallF) (l0 : List AV) (H : AH) (k : AV → AH → R) : R := opn 2 l0 (fun x0 x1 => (qFn (fun kr => (r105_0 (r105_1 (qCd (sel 8) (fun _ => (r105_2 C kr)) (fun k7 => k7) (r105_3 (qBl (fun k2 => (qLoop (l105_6 k2))) (r105_8 (qCd (sel 11) (fun _ => (r105_9 kr)) (fun k1 => k1) (r105_10 C (r105_11 kr))))))))))
(fun fr H => k (.tup [(sel 2 fr), (sel 3 fr), (sel 4 fr)]) H) [x0, x1, Aes.undef, Aes.undef, Aes.undef, Aes.undef, Aes.undef, Aes.undef, Aes.undef, Aes.undef, Aes.undef, Aes.undef] H : R))
/- (*refectory/refectoryref05.P).fail -/
noncomputable def r106_1 (k : KT R) : KT R := fun fr H => opn 4 fr (fun s0 s1 s2 s10 => 
(qNc s0 fun v15 =>
qFa 2 v15 fun v16 =>
qSt 1 v16 s1 H fun _ H =>
qNc s0 fun v17 =>
qFa 3 v17 fun v18 =>
qSt 1 v18 s2 H fun _ H =>
k [s0, s1, s2, s10] H : R))
noncomputable def r106_0 (k : KT R) : KT R := fun fr H => opn 4 fr (fun s0 s1 s2 s10 => 
(qNc s0 fun v7 =>
qFa 2 v7 fun v8 =>
qLd v8 H fun v9 =>
qEql X 34 v9 (.int .i64 0) fun v10 =>
k [s0, s1, s2, v10] H : R))
noncomputable def c106 (C : CallF) (l0 : List AV) (H : AH) (k : AV → AH → R) : R := opn 3 l0 (fun x0 x1 x2 => (qFn (fun kr => (r106_0 (qCd (sel 3) (fun k1 => (r106_1 k1)) (fun k1 => k1) kr)))
(fun fr H => k (.tup []) H) [x0, x1, x2, Aes.undef] H : R))
/- (*refectory/refectoryref05.P).Typed -/
noncomputable def r107_6 (k : KT R) : KT R := fun fr H => opn 6 fr (fun s0 s2 s3 s4 s5 s27 => 
(qLdA 2 s3 H fun v39 =>
qSt 2 s2 v39 H fun _ H =>
k [s0, s2, s3, s4, s5, s27] H : R))
noncomputable def r107_5 (k : KT R) : KT R := fun fr H => opn 6 fr (fun s0 s2 s3 s4 s5 s27 => 
(qNc s0 fun v37 =>
qFa 1 v37 fun v38 =>
qSt 1 v38 s4 H fun _ H =>
k [s0, s2, s3, s4, s5, s27] H : R))
noncomputable def r107_4 (k : KT R) : KT R := fun fr H => opn 6 fr (fun s0 s2 s3 s4 s5 s27 => 
(qBld z27 [] fun v34 =>
qSt 2 s2 v34 H fun _ H =>
k [s0, s2, s3, s4, s5, s27] H : R))
noncomputable def r107_3 (C : CallF) (k : KT R) : KT R := fun fr H => opn 6 fr (fun s0 s2 s3 s4 s5 s27 => 
(qNc s0 fun v30 =>
qFa 1 v30 fun v31 =>
qLd v31 H fun v32 =>
qRes (C 106 [s0, (.int .i64 2), v32] H) fun v33 H =>
k [s0, s2, s3, s4, s5, s27] H : R))
noncomputable def r107_2 (k : KT R) : KT R := fun fr H => opn 6 fr (fun s0 s2 s3 s4 s5 s27 => 
(qNot s5 fun v20 =>
qG v20 false (fun k => k s0 H) H fun v22 H =>
qG v20 false (fun k => qNc v22 fun v => k v H) H fun v23 H =>
qG v20 false (fun k => qFa 2 v23 fun v => k v H) H fun v24 H =>
qG v20 false (fun k => qLd v24 H fun v => k v H) H fun v25 H =>
qG v20 false (fun k => qNeq X 34 v25 (.int .i64 0) fun v => k v H) H fun v26 H =>
qPick v20 (.bool true) v26 fun v27 =>
k [s0, s2, s3, s4, s5, v27] H : R))
noncomputable def r107_1 (C : CallF) (k : KT R) : KT R := fun fr H => opn 6 fr (fun s0 s2 s3 s4 s5 s27 => 
(qNc s0 fun v8 =>
qFa 0 v8 fun v9 =>
qLd v9 H fun v10 =>
qNc s0 fun v12 =>
qFa 1 v12 fun v13 =>
qLd v13 H fun v14 =>
qNew (.cells z27) .ptr H fun v3 H =>
qRes (C 124 [v10, v14] H) fun v15 H =>
qKeep z27 v3 H (qExt v15 0 fun v16 =>
qExt v15 1 fun v17 =>
qExt v15 2 fun v18 =>
qSt 2 v3 v16 H fun _ H =>
k [s0, s2, v3, v17, v18, s27] H) : R))
noncomputable def r107_0 (k : KT R) : KT R := fun fr H => opn 6 fr (fun s0 s2 s3 s4 s5 s27 => 
(qNew (.cells z27) .ptr H fun v2 H =>
k [s0, v2, s3, s4, s5, s27] H : R))
noncomputable def c107 (C : CallF) (l0 : List AV) (H : AH) (k : AV → AH → R) : R := opn 1 l0 (fun x0 => (qFn (fun kr => (r107_0 (r107_1 C (r107_2 (qCd (sel 5) (fun _ => (r107_3 C (r107_4 kr))) (fun k1 => k1) (r107_5 (r107_6 kr)))))))
(fun fr H => qPtr (sel 1 fr) (qLdA 2 (sel 1 fr) H fun w0 => k w0 H)) [x0, Aes.undef, Aes.undef, Aes.undef, Aes.undef, Aes.undef] H : R))
/- refectory/refectoryref08.cost -/
noncomputable def r108_15 (k : KT R) : KT R := fun fr H => opn 7 fr (fun s0 s2 s3 s6 s9 s16 s23 => 
(k [s0, s3, s3, s6, s9, s16, s23] H : R))
noncomputable def r108_14 (C : CallF) (k : KT R) : KT R := fun fr H => opn 7 fr (fun s0 s2 s3 s6 s9 s16 s23 => 
(qRes (C 68 [s0, (.str [41])] H) fun v46 H =>
k [s0, s2, s3, s6, s9, s16, s23] H : R))
noncomputable def r108_13 (k : KT R) : KT R := fun fr H => opn 7 fr (fun s0 s2 s3 s6 s9 s16 s23 => 
(qNc s0 fun v39 =>
qFa 1 v39 fun v40 =>
qLd v40 H fun v41 =>
qAdd X 3 v41 (.int .i64 1) fun v42 =>
qNc s0 fun v43 =>
qFa 1 v43 fun v44 =>
qSt 1 v44 v42 H fun _ H =>
k [s0, s2, s3, s6, s9, s16, s23] H : R))
noncomputable def r108_12 (C : CallF) (k : KT R) : KT R := fun fr H => opn 7 fr (fun s0 s2 s3 s6 s9 s16 s23 => 
(qNc s0 fun v27 =>
qFa 0 v27 fun v28 =>
qLd v28 H fun v29 =>
qNc s0 fun v31 =>
qFa 1 v31 fun v32 =>
qLd v32 H fun v33 =>
qIa 3 v29 v33 fun v34 =>
qFa 1 v34 fun v35 =>
qLd v35 H fun v36 =>
qRes (C 125 [v36] H) fun v37 H =>
k [s0, s2, v37, s6, s9, s16, s23] H : R))
noncomputable def r108_11 (k : KT R) : KT R := fun fr H => opn 7 fr (fun s0 s2 s3 s6 s9 s16 s23 => 
(k [s0, (.int .i64 1), s3, s6, s9, s16, s23] H : R))
noncomputable def r108_10 (C : CallF) (k : KT R) : KT R := fun fr H => opn 7 fr (fun s0 s2 s3 s6 s9 s16 s23 => 
(qRes (C 69 [s0] H) fun v25 H =>
k [s0, s2, s3, s6, s9, s16, s23] H : R))
noncomputable def r108_9 (C : CallF) (k : KT R) : KT R := fun fr H => opn 7 fr (fun s0 s2 s3 s6 s9 s16 s23 => 
(qRes (C 66 [s0] H) fun v22 H =>
qNeq X 3 v22 (.int .i64 2) fun v23 =>
k [s0, s2, s3, s6, s9, s16, v23] H : R))
noncomputable def r108_8 (C : CallF) (k : KT R) : KT R := fun fr H => opn 7 fr (fun s0 s2 s3 s6 s9 s16 s23 => 
(qRes (C 68 [s0, (.str [58])] H) fun v20 H =>
k [s0, s2, s3, s6, s9, s16, s23] H : R))
noncomputable def r108_7 (C : CallF) (k : KT R) : KT R := fun fr H => opn 7 fr (fun s0 s2 s3 s6 s9 s16 s23 => 
(qRes (C 69 [s0] H) fun v18 H =>
k [s0, s2, s3, s6, s9, s16, s23] H : R))
noncomputable def r108_6 (C : CallF) (k : KT R) : KT R := fun fr H => opn 7 fr (fun s0 s2 s3 s6 s9 s16 s23 => 
(qRes (C 29 [s0, (.int .i64 1), (.str [110])] H) fun v15 H =>
qNot v15 fun v16 =>
k [s0, s2, s3, s6, s9, v16, s23] H : R))
noncomputable def r108_5 (C : CallF) (k : KT R) : KT R := fun fr H => opn 7 fr (fun s0 s2 s3 s6 s9 s16 s23 => 
(qRes (C 68 [s0, (.str [40])] H) fun v13 H =>
k [s0, s2, s3, s6, s9, s16, s23] H : R))
noncomputable def r108_4 (C : CallF) (k : KT R) : KT R := fun fr H => opn 7 fr (fun s0 s2 s3 s6 s9 s16 s23 => 
(qRes (C 69 [s0] H) fun v11 H =>
k [s0, s2, s3, s6, s9, s16, s23] H : R))
noncomputable def r108_3 (C : CallF) (k : KT R) : KT R := fun fr H => opn 7 fr (fun s0 s2 s3 s6 s9 s16 s23 => 
(qRes (C 29 [s0, (.int .i64 1), (.str [99,111,115,116])] H) fun v8 H =>
qNot v8 fun v9 =>
k [s0, s2, s3, s6, v9, s16, s23] H : R))
noncomputable def r108_2 (k : KT R) : KT R := fun fr H => opn 7 fr (fun s0 s2 s3 s6 s9 s16 s23 => 
(k [s0, (.int .i64 1), s3, s6, s9, s16, s23] H : R))
noncomputable def r108_1 (C : CallF) (k : KT R) : KT R := fun fr H => opn 7 fr (fun s0 s2 s3 s6 s9 s16 s23 => 
(qRes (C 29 [s0, (.int .i64 5), (.str [64])] H) fun v5 H =>
qNot v5 fun v6 =>
k [s0, s2, s3, v6, s9, s16, s23] H : R))
noncomputable def r108_0 (k : KT R) : KT R := fun fr H => opn 7 fr (fun s0 s2 s3 s6 s9 s16 s23 => 
(k [s0, (.int .i64 0), s3, s6, s9, s16, s23] H : R))
noncomputable def c108 (C : CallF) (l0 : List AV) (H : AH) (k : AV → AH → R) : R := opn 1 l0 (fun x0 => (qFn (fun kr => (r108_0 (r108_1 C (qCd (sel 3) (fun _ => (r108_2 kr)) (fun k4 => k4) (r108_3 C (qCd (sel 4) (fun k3 => (r108_4 C k3)) (fun k3 => k3) (r108_5 C (r108_6 C (qCd (sel 5) (fun k2 => (r108_7 C k2)) (fun k2 => k2) (r108_8 C (r108_9 C (qCd (sel 6) (fun _ => (r108_10 C (r108_11 kr))) (fun k1 => k1) (r108_12 C (r108_13 (r108_14 C (r108_15 kr))))))))))))))))
(fun fr H => k (sel 1 fr) H) [x0, Aes.undef, Aes.undef, Aes.undef, Aes.undef, Aes.undef, Aes.undef] H : R))
/- refectory/refectoryref08.input -/
noncomputable def r109_7 (k : KT R) : KT R := fun fr H => opn 4 fr (fun s0 s2 s3 s15 => 
(qLdA 7 s3 H fun v19 =>
qSt 7 s2 v19 H fun _ H =>
k [s0, s2, s3, s15] H : R))
noncomputable def r109_6 (C : CallF) (k : KT R) : KT R := fun fr H => opn 4 fr (fun s0 s2 s3 s15 => 
(qRes (C 126 [s0, (.int .i64 1)] H) fun v17 H =>
qFa 3 s3 fun v18 =>
qSt 4 v18 v17 H fun _ H =>
k [s0, s2, s3, s15] H : R))
noncomputable def r109_5 (C : CallF) (k : KT R) : KT R := fun fr H => opn 4 fr (fun s0 s2 s3 s15 => 
(qRes (C 29 [s0, (.int .i64 5), (.str [61])] H) fun v15 H =>
k [s0, s2, s3, v15] H : R))
noncomputable def r109_4 (C : CallF) (k : KT R) : KT R := fun fr H => opn 4 fr (fun s0 s2 s3 s15 => 
(qRes (C 107 [s0] H) fun v12 H =>
qFa 1 s3 fun v13 =>
qSt 2 v13 v12 H fun _ H =>
k [s0, s2, s3, s15] H : R))
noncomputable def r109_3 (C : CallF) (k : KT R) : KT R := fun fr H => opn 4 fr (fun s0 s2 s3 s15 => 
(qRes (C 68 [s0, (.str [58])] H) fun v10 H =>
k [s0, s2, s3, s15] H : R))
noncomputable def r109_2 (C : CallF) (k : KT R) : KT R := fun fr H => opn 4 fr (fun s0 s2 s3 s15 => 
(qRes (C 70 [s0] H) fun v7 H =>
qBld z129 [(0, 1, v7)] fun v8 =>
qNew (.cells z129) .ptr H fun v3 H =>
qSt 7 v3 v8 H fun _ H =>
k [s0, s2, v3, s15] H : R))
noncomputable def r109_1 (C : CallF) (k : KT R) : KT R := fun fr H => opn 4 fr (fun s0 s2 s3 s15 => 
(qRes (C 28 [s0] H) fun v5 H =>
k [s0, s2, s3, s15] H : R))
noncomputable def r109_0 (k : KT R) : KT R := fun fr H => opn 4 fr (fun s0 s2 s3 s15 => 
(qNew (.cells z129) .ptr H fun v2 H =>
k [s0, v2, s3, s15] H : R))
noncomputable def c109 (C : CallF) (l0 : List AV) (H : AH) (k : AV → AH → R) : R := opn 1 l0 (fun x0 => (qFn (fun kr => (r109_0 (r109_1 C (r109_2 C (r109_3 C (r109_4 C (r109_5 C (qCd (sel 3) (fun k1 => (r109_6 C k1)) (fun k1 => k1) (r109_7 kr)))))))))
(fun fr H => qPtr (sel 1 fr) (qLdA 7 (sel 1 fr) H fun w0 => k w0 H)) [x0, Aes.undef, Aes.undef, Aes.undef] H : R))
/- refectory/refectoryref09.Last -/
noncomputable def r112_3 (k : KT R) : KT R := fun fr H => opn 4 fr (fun s0 s1 s2 s5 => 
(qFa 1 s1 fun v6 =>
qLd v6 H fun v7 =>
qFa 1 s1 fun v8 =>
qLd v8 H fun v9 =>
qLenS v9 fun v10 =>
qSub X 3 v10 (.int .i64 1) fun v11 =>
qIx v7 v11 fun v12 =>
k [s0, s1, v12, s5] H : R))
noncomputable def r112_2 (k : KT R) : KT R := fun fr H => opn 4 fr (fun s0 s1 s2 s5 => 
(k [s0, s1, (.int .u8 0), s5] H : R))
noncomputable def r112_1 (k : KT R) : KT R := fun fr H => opn 4 fr (fun s0 s1 s2 s5 => 
(qFa 1 s1 fun v3 =>
qLd v3 H fun v4 =>
qEql X 9 v4 (.str []) fun v5 =>
k [s0, s1, s2, v5] H : R))
noncomputable def r112_0 (k : KT R) : KT R := fun fr H => opn 4 fr (fun s0 s1 s2 s5 => 
(qBox s0 H fun v1 H =>
k [s0, v1, (.int .u8 0), s5] H : R))
noncomputable def c112 (C : CallF) (l0 : List AV) (H : AH) (k : AV → AH → R) : R := opn 1 l0 (fun x0 => (qFn (fun kr => (r112_0 (r112_1 (qCd (sel 3) (fun _ => (r112_2 kr)) (fun k1 => k1) (r112_3 kr)))))
(fun fr H => k (sel 2 fr) H) [x0, Aes.undef, Aes.undef, Aes.undef] H : R))
/- refectory/refectoryref06.SameType -/
noncomputable def r113_1 (k : KT R) : KT R := fun fr H => opn 5 fr (fun s0 s1 s2 s3 s4 => 
(qFa 0 s2 fun v5 =>
qLd v5 H fun v6 =>
qFa 0 s3 fun v7 =>
qLd v7 H fun v8 =>
qEql X 9 v6 v8 fun v9 =>
qG v9 true (fun k => qFa 1 s2 fun v => k v H) H fun v11 H =>
qG v9 true (fun k => qLd v11 H fun v => k v H) H fun v12 H =>
qG v9 true (fun k => qFa 1 s3 fun v => k v H) H fun v13 H =>
qG v9 true (fun k => qLd v13 H fun v => k v H) H fun v14 H =>
qG v9 true (fun k => qEql X 9 v12 v14 fun v => k v H) H fun v15 H =>
qPick v9 v15 (.bool false) fun v16 =>
k [s0, s1, s2, s3, v16] H : R))
noncomputable def r113_0 (k : KT R) : KT R := fun fr H => opn 5 fr (fun s0 s1 s2 s3 s4 => 
(qBox s0 H fun v2 H =>
qBox s1 H fun v3 H =>
k [s0, s1, v2, v3, (.bool false)] H : R))
noncomputable def c113 (C : CallF) (l0 : List AV) (H : AH) (k : AV → AH → R) : R := opn 2 l0 (fun x0 x1 => (qFn (fun kr => (r113_0 (r113_1 kr)))
(fun fr H => k (sel 4 fr) H) [x0, x1, Aes.undef, Aes.undef, Aes.undef] H : R))
/- refectory/refectoryref02.Same -/
noncomputable def r114_13 (k : KT R) : KT R := fun fr H => opn 12 fr (fun s0 s1 s2 s3 s4 s5 s6 s36 s41 s54 s59 s73 => 
(k [s0, s1, s2, s3, (.bool true), s5, s6, s36, s41, s54, s59, s73] H : R))
noncomputable def r114_10 (k : KT R) : KT R := fun fr H => opn 12 fr (fun s0 s1 s2 s3 s4 s5 s6 s36 s41 s54 s59 s73 => 
(qAdd X 3 s6 (.int .i64 1) fun v61 =>
k [s0, s1, s2, s3, s4, s5, v61, s36, s41, s54, s59, s73] H : R))
noncomputable def r114_12 (k : KT R) : KT R := fun fr H => opn 12 fr (fun s0 s1 s2 s3 s4 s5 s6 s36 s41 s54 s59 s73 => 
(k [s0, s1, s2, s3, (.bool false), s5, s6, s36, s41, s54, s59, s73] H : R))
noncomputable def r114_11 (C : CallF) (k : KT R) : KT R := fun fr H => opn 12 fr (fun s0 s1 s2 s3 s4 s5 s6 s36 s41 s54 s59 s73 => 
(qFa 3 s2 fun v62 =>
qLd v62 H fun v63 =>
qIa 4 v63 s6 fun v65 =>
qLdA 4 v65 H fun v66 =>
qFa 3 s3 fun v67 =>
qLd v67 H fun v68 =>
qIa 4 v68 s6 fun v70 =>
qLdA 4 v70 H fun v71 =>
qRes (C 114 [v66, v71] H) fun v72 H =>
qNot v72 fun v73 =>
k [s0, s1, s2, s3, s4, s5, s6, s36, s41, s54, s59, v73] H : R))
noncomputable def r114_9 (k : KT R) : KT R := fun fr H => opn 12 fr (fun s0 s1 s2 s3 s4 s5 s6 s36 s41 s54 s59 s73 => 
(qFa 3 s2 fun v56 =>
qLd v56 H fun v57 =>
qLenL v57 fun v58 =>
qLss X 3 s6 v58 fun v59 =>
k [s0, s1, s2, s3, s4, s5, s6, s36, s41, s54, v59, s73] H : R))
noncomputable def l114_5 (C : CallF) (k1 : KT R) (kr : KT R) : KT R → KT R := fun k2 => (r114_9 (qCd (sel 10) (fun k5 => k5) (fun _ => k1) (qBl (fun k3 => (r114_11 C (qCd (sel 11) (fun _ => (r114_12 kr)) (fun k4 => k4) k3))) (r114_10 k2))))
noncomputable def r114_8 (k : KT R) : KT R := fun fr H => opn 12 fr (fun s0 s1 s2 s3 s4 s5 s6 s36 s41 s54 s59 s73 => 
(k [s0, s1, s2, s3, s4, s5, (.int .i64 0), s36, s41, s54, s59, s73] H : R))
noncomputable def r114_5 (k : KT R) : KT R := fun fr H => opn 12 fr (fun s0 s1 s2 s3 s4 s5 s6 s36 s41 s54 s59 s73 => 
(qAdd X 3 s5 (.int .i64 1) fun v43 =>
k [s0, s1, s2, s3, s4, v43, s6, s36, s41, s54, s59, s73] H : R))
noncomputable def r114_7 (k : KT R) : KT R := fun fr H => opn 12 fr (fun s0 s1 s2 s3 s4 s5 s6 s36 s41 s54 s59 s73 => 
(k [s0, s1, s2, s3, (.bool false), s5, s6, s36, s41, s54, s59, s73] H : R))
noncomputable def r114_6 (k : KT R) : KT R := fun fr H => opn 12 fr (fun s0 s1 s2 s3 s4 s5 s6 s36 s41 s54 s59 s73 => 
(qFa 2 s2 fun v44 =>
qLd v44 H fun v45 =>
qIa 1 v45 s5 fun v47 =>
qLd v47 H fun v48 =>
qFa 2 s3 fun v49 =>
qLd v49 H fun v50 =>
qIa 1 v50 s5 fun v52 =>
qLd v52 H fun v53 =>
qNeq X 9 v48 v53 fun v54 =>
k [s0, s1, s2, s3, s4, s5, s6, s36, s41, v54, s59, s73] H : R))
noncomputable def r114_4 (k : KT R) : KT R := fun fr H => opn 12 fr (fun s0 s1 s2 s3 s4 s5 s6 s36 s41 s54 s59 s73 => 
(qFa 2 s2 fun v38 =>
qLd v38 H fun v39 =>
qLenL v39 fun v40 =>
qLss X 3 s5 v40 fun v41 =>
k [s0, s1, s2, s3, s4, s5, s6, s36, v41, s54, s59, s73] H : R))
noncomputable def l114_10 (k6 : KT R) (kr : KT R) : KT R → KT R := fun k7 => (r114_4 (qCd (sel 8) (fun k10 => k10) (fun _ => k6) (qBl (fun k8 => (r114_6 (qCd (sel 9) (fun _ => (r114_7 kr)) (fun k9 => k9) k8))) (r114_5 k7))))
noncomputable def r114_3 (k : KT R) : KT R := fun fr H => opn 12 fr (fun s0 s1 s2 s3 s4 s5 s6 s36 s41 s54 s59 s73 => 
(k [s0, s1, s2, s3, s4, (.int .i64 0), s6, s36, s41, s54, s59, s73] H : R))
noncomputable def r114_2 (k : KT R) : KT R := fun fr H => opn 12 fr (fun s0 s1 s2 s3 s4 s5 s6 s36 s41 s54 s59 s73 => 
(k [s0, s1, s2, s3, (.bool false), s5, s6, s36, s41, s54, s59, s73] H : R))
noncomputable def r114_1 (k : KT R) : KT R := fun fr H => opn 12 fr (fun s0 s1 s2 s3 s4 s5 s6 s36 s41 s54 s59 s73 => 
(qFa 0 s2 fun v7 =>
qLd v7 H fun v8 =>
qFa 0 s3 fun v9 =>
qLd v9 H fun v10 =>
qNeq X 3 v8 v10 fun v11 =>
qG v11 false (fun k => qFa 1 s2 fun v => k v H) H fun v13 H =>
qG v11 false (fun k => qLd v13 H fun v => k v H) H fun v14 H =>
qG v11 false (fun k => qFa 1 s3 fun v => k v H) H fun v15 H =>
qG v11 false (fun k => qLd v15 H fun v => k v H) H fun v16 H =>
qG v11 false (fun k => qNeq X 9 v14 v16 fun v => k v H) H fun v17 H =>
qPick v11 (.bool true) v17 fun v18 =>
qG v18 false (fun k => qFa 2 s2 fun v => k v H) H fun v20 H =>
qG v18 false (fun k => qLd v20 H fun v => k v H) H fun v21 H =>
qG v18 false (fun k => qLenL v21 fun v => k v H) H fun v22 H =>
qG v18 false (fun k => qFa 2 s3 fun v => k v H) H fun v23 H =>
qG v18 false (fun k => qLd v23 H fun v => k v H) H fun v24 H =>
qG v18 false (fun k => qLenL v24 fun v => k v H) H fun v25 H =>
qG v18 false (fun k => qNeq X 3 v22 v25 fun v => k v H) H fun v26 H =>
qPick v18 (.bool true) v26 fun v27 =>
qG v27 false (fun k => qFa 3 s2 fun v => k v H) H fun v29 H =>
qG v27 false (fun k => qLd v29 H fun v => k v H) H fun v30 H =>
qG v27 false (fun k => qLenL v30 fun v => k v H) H fun v31 H =>
qG v27 false (fun k => qFa 3 s3 fun v => k v H) H fun v32 H =>
qG v27 false (fun k => qLd v32 H fun v => k v H) H fun v33 H =>
qG v27 false (fun k => qLenL v33 fun v => k v H) H fun v34 H =>
qG v27 false (fun k => qNeq X 3 v31 v34 fun v => k v H) H fun v35 H =>
qPick v27 (.bool true) v35 fun v36 =>
k [s0, s1, s2, s3, s4, s5, s6, v36, s41, s54, s59, s73] H : R))
noncomputable def r114_0 (k : KT R) : KT R := fun fr H => opn 12 fr (fun s0 s1 s2 s3 s4 s5 s6 s36 s41 s54 s59 s73 => 
(qBox s0 H fun v2 H =>
qBox s1 H fun v3 H =>
k [s0, s1, v2, v3, (.bool false), s5, s6, s36, s41, s54, s59, s73] H : R))
noncomputable def c114 (C : CallF) (l0 : List AV) (H : AH) (k : AV → AH → R) : R := opn 2 l0 (fun x0 x1 => (qFn (fun kr => (r114_0 (r114_1 (qCd (sel 7) (fun _ => (r114_2 kr)) (fun k11 => k11) (r114_3 (qBl (fun k6 => (qLoop (l114_10 k6 kr))) (r114_8 (qBl (fun k1 => (qLoop (l114_5 C k1 kr))) (r114_13 kr)))))))))
(fun fr H => k (sel 4 fr) H) [x0, x1, Aes.undef, Aes.undef, Aes.undef, Aes.undef, Aes.undef, Aes.undef, Aes.undef, Aes.undef, Aes.undef, Aes.undef] H : R))
/- refectory/refectoryref09.Inner -/
noncomputable def r115_3 (k : KT R) : KT R := fun fr H => opn 4 fr (fun s0 s1 s2 s5 => 
(qFa 0 s1 fun v7 =>
qLd v7 H fun v8 =>
qFa 1 s1 fun v9 =>
qLd v9 H fun v10 =>
qFa 1 s1 fun v11 =>
qLd v11 H fun v12 =>
qLenS v12 fun v13 =>
qSub X 3 v13 (.int .i64 1) fun v14 =>
qSlc Tryz.t9.desc 0 v10 none (some v14) none fun v15 =>
qBld z27 [(0, 1, v8), (1, 1, v15)] fun v16 =>
qSt 2 s2 v16 H fun _ H =>
k [s0, s1, s2, s5] H : R))
noncomputable def r115_2 (k : KT R) : KT R := fun fr H => opn 4 fr (fun s0 s1 s2 s5 => 
(qLdA 2 s1 H fun v6 =>
qSt 2 s2 v6 H fun _ H =>
k [s0, s1, s2, s5] H : R))
noncomputable def r115_1 (k : KT R) : KT R := fun fr H => opn 4 fr (fun s0 s1 s2 s5 => 
(qFa 1 s1 fun v3 =>
qLd v3 H fun v4 =>
qEql X 9 v4 (.str []) fun v5 =>
k [s0, s1, s2, v5] H : R))
noncomputable def r115_0 (k : KT R) : KT R := fun fr H => opn 4 fr (fun s0 s1 s2 s5 => 
(qBox s0 H fun v1 H =>
qNew (.cells z27) .ptr H fun v2 H =>
k [s0, v1, v2, s5] H : R))
noncomputable def c115 (C : CallF) (l0 : List AV) (H : AH) (k : AV → AH → R) : R := opn 1 l0 (fun x0 => (qFn (fun kr => (r115_0 (r115_1 (qCd (sel 3) (fun _ => (r115_2 kr)) (fun k1 => k1) (r115_3 kr)))))
(fun fr H => qPtr (sel 2 fr) (qLdA 2 (sel 2 fr) H fun w0 => k w0 H)) [x0, Aes.undef, Aes.undef, Aes.undef] H : R))
/- (*strings.asciiSet).contains -/
noncomputable def r116_1 (k : KT R) : KT R := fun fr H => opn 3 fr (fun s0 s1 s4 => 
(qNc s0 fun v7 =>
qIaA 256 1 v7 s1 fun v8 =>
qLd v8 H fun v9 =>
k [s0, s1, v9] H : R))
noncomputable def r116_0 (k : KT R) : KT R := fun fr H => opn 3 fr (fun s0 s1 s4 => 
(k [s0, s1, (.bool false)] H : R))
noncomputable def c116 (C : CallF) (l0 : List AV) (H : AH) (k : AV → AH → R) : R := opn 2 l0 (fun x0 x1 => (qFn (fun kr => (r116_0 (r116_1 kr)))
(fun fr H => k (sel 2 fr) H) [x0, x1, Aes.undef] H : R))
/- unicode/utf8.DecodeRuneInString -/
noncomputable def r117_2 (k : KT R) : KT R := fun fr H => opn 4 fr (fun s0 s2 s3 s10 => 
(qIx s0 (.int .i64 0) fun v12 =>
qConvI .i32 v12 fun v13 =>
k [s0, v13, (.int .i64 1), s10] H : R))
noncomputable def r117_3 (C : CallF) (k : KT R) : KT R := fun fr H => opn 4 fr (fun s0 s2 s3 s10 => 
(qRes (C 128 [s0] H) fun v16 H =>
qExt v16 0 fun v17 =>
qExt v16 1 fun v18 =>
k [s0, v17, v18, s10] H : R))
noncomputable def r117_1 (k : KT R) : KT R := fun fr H => opn 4 fr (fun s0 s2 s3 s10 => 
(qNeq X 9 s0 (.str []) fun v5 =>
qG v5 true (fun k => k s0 H) H fun v7 H =>
qG v5 true (fun k => qIx v7 (.int .i64 0) fun v => k v H) H fun v8 H =>
qG v5 true (fun k => qLss X 5 v8 (.int .u8 128) fun v => k v H) H fun v9 H =>
qPick v5 v9 (.bool false) fun v10 =>
k [s0, s2, s3, v10] H : R))
noncomputable def r117_0 (k : KT R) : KT R := fun fr H => opn 4 fr (fun s0 s2 s3 s10 => 
(k [s0, (.int .i32 0), (.int .i64 0), s10] H : R))
noncomputable def c117 (C : CallF) (l0 : List AV) (H : AH) (k : AV → AH → R) : R := opn 1 l0 (fun x0 => (qFn (fun kr => (r117_0 (r117_1 (qCd (sel 3) (fun _ => (r117_2 kr)) (fun k1 => (r117_3 C k1)) kr))))
(fun fr H => k (.tup [(sel 1 fr), (sel 2 fr)]) H) [x0, Aes.undef, Aes.undef, Aes.undef] H : R))
/- strings.ContainsRune -/
noncomputable def r118_1 (C : CallF) (k : KT R) : KT R := fun fr H => opn 3 fr (fun s0 s1 s4 => 
(qRes (C 129 [s0, s1] H) fun v7 H =>
qGeq X 3 v7 (.int .i64 0) fun v8 =>
k [s0, s1, v8] H : R))
noncomputable def r118_0 (k : KT R) : KT R := fun fr H => opn 3 fr (fun s0 s1 s4 => 
(k [s0, s1, (.bool false)] H : R))
noncomputable def c118 (C : CallF) (l0 : List AV) (H : AH) (k : AV → AH → R) : R := opn 2 l0 (fun x0 x1 => (qFn (fun kr => (r118_0 (r118_1 C kr)))
(fun fr H => k (sel 2 fr) H) [x0, x1, Aes.undef] H : R))
/- unicode/utf8.DecodeLastRuneInString -/
noncomputable def r119_18 (k : KT R) : KT R := fun fr H => opn 12 fr (fun s0 s2 s3 s4 s5 s6 s10 s18 s27 s33 s35 s48 => 
(k [s0, s2, s3, s4, s5, s6, s10, s18, s27, s33, s35, s48] H : R))
noncomputable def r119_17 (k : KT R) : KT R := fun fr H => opn 12 fr (fun s0 s2 s3 s4 s5 s6 s10 s18 s27 s33 s35 s48 => 
(k [s0, (.int .i32 65533), (.int .i64 1), s4, s5, s6, s10, s18, s27, s33, s35, s48] H : R))
noncomputable def r119_16 (k : KT R) : KT R := fun fr H => opn 12 fr (fun s0 s2 s3 s4 s5 s6 s10 s18 s27 s33 s35 s48 => 
(qAdd X 3 s5 s3 fun v46 =>
qNeq X 3 v46 s4 fun v48 =>
k [s0, s2, s3, s4, s5, s6, s10, s18, s27, s33, s35, v48] H : R))
noncomputable def r119_15 (C : CallF) (k : KT R) : KT R := fun fr H => opn 12 fr (fun s0 s2 s3 s4 s5 s6 s10 s18 s27 s33 s35 s48 => 
(qSlc Tryz.t9.desc 0 s0 (some s5) (some s4) none fun v40 =>
qRes (C 117 [v40] H) fun v41 H =>
qExt v41 0 fun v42 =>
qExt v41 1 fun v43 =>
k [s0, v42, v43, s4, s5, s6, s10, s18, s27, s33, s35, s48] H : R))
noncomputable def r119_14 (k : KT R) : KT R := fun fr H => opn 12 fr (fun s0 s2 s3 s4 s5 s6 s10 s18 s27 s33 s35 s48 => 
(k [s0, s2, s3, s4, (.int .i64 0), s6, s10, s18, s27, s33, s35, s48] H : R))
noncomputable def r119_13 (k : KT R) : KT R := fun fr H => opn 12 fr (fun s0 s2 s3 s4 s5 s6 s10 s18 s27 s33 s35 s48 => 
(qLss X 3 s5 (.int .i64 0) fun v35 =>
k [s0, s2, s3, s4, s5, s6, s10, s18, s27, s33, v35, s48] H : R))
noncomputable def r119_11 (k : KT R) : KT R := fun fr H => opn 12 fr (fun s0 s2 s3 s4 s5 s6 s10 s18 s27 s33 s35 s48 => 
(qSub X 3 s5 (.int .i64 1) fun v29 =>
k [s0, s2, s3, s4, v29, s6, s10, s18, s27, s33, s35, s48] H : R))
noncomputable def r119_12 (C : CallF) (k : KT R) : KT R := fun fr H => opn 12 fr (fun s0 s2 s3 s4 s5 s6 s10 s18 s27 s33 s35 s48 => 
(qIx s0 s5 fun v32 =>
qRes (C 130 [v32] H) fun v33 H =>
k [s0, s2, s3, s4, s5, s6, s10, s18, s27, v33, s35, s48] H : R))
noncomputable def r119_10 (k : KT R) : KT R := fun fr H => opn 12 fr (fun s0 s2 s3 s4 s5 s6 s10 s18 s27 s33 s35 s48 => 
(qGeq X 3 s5 s6 fun v27 =>
k [s0, s2, s3, s4, s5, s6, s10, s18, v27, s33, s35, s48] H : R))
noncomputable def l119_7 (C : CallF) (k3 : KT R) : KT R → KT R := fun k4 => (r119_10 (qCd (sel 8) (fun k7 => k7) (fun _ => k3) (qBl (fun k5 => (r119_12 C (qCd (sel 9) (fun _ => k3) (fun k6 => k6) k5))) (r119_11 k4))))
noncomputable def r119_9 (k : KT R) : KT R := fun fr H => opn 12 fr (fun s0 s2 s3 s4 s5 s6 s10 s18 s27 s33 s35 s48 => 
(qSub X 3 s5 (.int .i64 1) fun v24 =>
k [s0, s2, s3, s4, v24, s6, s10, s18, s27, s33, s35, s48] H : R))
noncomputable def r119_8 (k : KT R) : KT R := fun fr H => opn 12 fr (fun s0 s2 s3 s4 s5 s6 s10 s18 s27 s33 s35 s48 => 
(qSub X 3 s4 (.int .i64 4) fun v21 =>
qO (foldO max2 v21 [(.int .i64 0)]) fun v22 =>
k [s0, s2, s3, s4, s5, v22, s10, s18, s27, s33, s35, s48] H : R))
noncomputable def r119_7 (k : KT R) : KT R := fun fr H => opn 12 fr (fun s0 s2 s3 s4 s5 s6 s10 s18 s27 s33 s35 s48 => 
(k [s0, s2, (.int .i64 1), s4, s5, s6, s10, s18, s27, s33, s35, s48] H : R))
noncomputable def r119_6 (k : KT R) : KT R := fun fr H => opn 12 fr (fun s0 s2 s3 s4 s5 s6 s10 s18 s27 s33 s35 s48 => 
(qLss X 21 s2 (.int .i32 128) fun v18 =>
k [s0, s2, s3, s4, s5, s6, s10, v18, s27, s33, s35, s48] H : R))
noncomputable def r119_5 (k : KT R) : KT R := fun fr H => opn 12 fr (fun s0 s2 s3 s4 s5 s6 s10 s18 s27 s33 s35 s48 => 
(qIx s0 s5 fun v15 =>
qConvI .i32 v15 fun v16 =>
k [s0, v16, s3, s4, s5, s6, s10, s18, s27, s33, s35, s48] H : R))
noncomputable def r119_4 (k : KT R) : KT R := fun fr H => opn 12 fr (fun s0 s2 s3 s4 s5 s6 s10 s18 s27 s33 s35 s48 => 
(qSub X 3 s4 (.int .i64 1) fun v12 =>
k [s0, s2, s3, s4, v12, s6, s10, s18, s27, s33, s35, s48] H : R))
noncomputable def r119_3 (k : KT R) : KT R := fun fr H => opn 12 fr (fun s0 s2 s3 s4 s5 s6 s10 s18 s27 s33 s35 s48 => 
(k [s0, (.int .i32 65533), (.int .i64 0), s4, s5, s6, s10, s18, s27, s33, s35, s48] H : R))
noncomputable def r119_2 (k : KT R) : KT R := fun fr H => opn 12 fr (fun s0 s2 s3 s4 s5 s6 s10 s18 s27 s33 s35 s48 => 
(qEql X 3 s4 (.int .i64 0) fun v10 =>
k [s0, s2, s3, s4, s5, s6, v10, s18, s27, s33, s35, s48] H : R))
noncomputable def r119_1 (k : KT R) : KT R := fun fr H => opn 12 fr (fun s0 s2 s3 s4 s5 s6 s10 s18 s27 s33 s35 s48 => 
(qLenS s0 fun v8 =>
k [s0, s2, s3, v8, s5, s6, s10, s18, s27, s33, s35, s48] H : R))
noncomputable def r119_0 (k : KT R) : KT R := fun fr H => opn 12 fr (fun s0 s2 s3 s4 s5 s6 s10 s18 s27 s33 s35 s48 => 
(k [s0, (.int .i32 0), (.int .i64 0), s4, s5, s6, s10, s18, s27, s33, s35, s48] H : R))
noncomputable def c119 (C : CallF) (l0 : List AV) (H : AH) (k : AV → AH → R) : R := opn 1 l0 (fun x0 => (qFn (fun kr => (r119_0 (r119_1 (r119_2 (qCd (sel 6) (fun _ => (r119_3 kr)) (fun k9 => k9) (r119_4 (r119_5 (r119_6 (qCd (sel 7) (fun _ => (r119_7 kr)) (fun k8 => k8) (r119_8 (r119_9 (qBl (fun k3 => (qLoop (l119_7 C k3))) (r119_13 (qCd (sel 10) (fun k2 => (r119_14 k2)) (fun k2 => k2) (r119_15 C (r119_16 (qCd (sel 11) (fun _ => (r119_17 kr)) (fun k1 => k1) (r119_18 kr))))))))))))))))))
(fun fr H => k (.tup [(sel 1 fr), (sel 2 fr)]) H) [x0, Aes.undef, Aes.undef, Aes.undef, Aes.undef, Aes.undef, Aes.undef, Aes.undef, Aes.undef, Aes.undef, Aes.undef, Aes.undef] H : R))
/- refectory/refectoryref02.digits -/
noncomputable def r121_4 (k : KT R) : KT R := fun fr H => opn 5 fr (fun s0 s1 s4 s5 s19 => 
(k [s0, s1, s5, s5, s19] H : R))
noncomputable def r121_3 (k : KT R) : KT R := fun fr H => opn 5 fr (fun s0 s1 s4 s5 s19 => 
(qAdd X 3 s5 (.int .i64 1) fun v21 =>
k [s0, s1, s4, v21, s19] H : R))
noncomputable def r121_2 (C : CallF) (k : KT R) : KT R := fun fr H => opn 5 fr (fun s0 s1 s4 s5 s19 => 
(qAdd X 3 s1 s5 fun v8 =>
qLenS s0 fun v10 =>
qLss X 3 v8 v10 fun v11 =>
qG v11 true (fun k => k s0 H) H fun v13 H =>
qG v11 true (fun k => k s1 H) H fun v14 H =>
qG v11 true (fun k => k s5 H) H fun v15 H =>
qG v11 true (fun k => qAdd X 3 v14 v15 fun v => k v H) H fun v16 H =>
qG v11 true (fun k => qIx v13 v16 fun v => k v H) H fun v17 H =>
qG v11 true (fun k => qRes (C 60 [v17] H) k) H fun v18 H =>
qPick v11 v18 (.bool false) fun v19 =>
k [s0, s1, s4, s5, v19] H : R))
noncomputable def l121_4 (C : CallF) (k1 : KT R) : KT R → KT R := fun k2 => (r121_2 C (qCd (sel 4) (fun k4 => k4) (fun _ => k1) (qBl (fun k3 => (r121_3 k3)) k2)))
noncomputable def r121_1 (k : KT R) : KT R := fun fr H => opn 5 fr (fun s0 s1 s4 s5 s19 => 
(k [s0, s1, s4, (.int .i64 0), s19] H : R))
noncomputable def r121_0 (k : KT R) : KT R := fun fr H => opn 5 fr (fun s0 s1 s4 s5 s19 => 
(k [s0, s1, (.int .i64 0), s5, s19] H : R))
noncomputable def c121 (C : CallF) (l0 : List AV) (H : AH) (k : AV → AH → R) : R := opn 2 l0 (fun x0 x1 => (qFn (fun kr => (r121_0 (r121_1 (qBl (fun k1 => (qLoop (l121_4 C k1))) (r121_4 kr)))))
(fun fr H => k (sel 2 fr) H) [x0, x1, Aes.undef, Aes.undef, Aes.undef] H : R))
end
theorem e3 {R : Type} [Mon R] : hFn (R := R) X 3 Tryz.f3 4 [0, 1, 2, 3, 8, 9, 10, 11, 12, 13, 14, 15, 40, 48, 64] = c3 := by kernel_rfl
theorem xf3 : X.fn 3 = some Tryz.f3 := by kernel_rfl
theorem e5 {R : Type} [Mon R] : hFn (R := R) X 5 Tryz.f5 5 [0, 1, 2, 3, 4, 10, 11, 12, 13, 14] = c5 := by kernel_rfl
theorem xf5 : X.fn 5 = some Tryz.f5 := by kernel_rfl
theorem e6 {R : Type} [Mon R] : hFn (R := R) X 6 Tryz.f6 1 [0, 2, 3, 4, 9] = c6 := by kernel_rfl
theorem xf6 : X.fn 6 = some Tryz.f6 := by kernel_rfl
theorem e7 {R : Type} [Mon R] : hFn (R := R) X 7 Tryz.f7 1 [0, 2, 3] = c7 := by kernel_rfl
theorem xf7 : X.fn 7 = some Tryz.f7 := by kernel_rfl
theorem e8 {R : Type} [Mon R] : hFn (R := R) X 8 Tryz.f8 3 [0, 1, 2, 3, 4, 5, 6, 7, 8, 9, 10, 18, 27, 30, 35] = c8 := by kernel_rfl
theorem xf8 : X.fn 8 = some Tryz.f8 := by kernel_rfl
theorem e9 {R : Type} [Mon R] : hFn (R := R) X 9 Tryz.f9 1 [0, 1, 2, 3, 4, 9, 42, 47] = c9 := by kernel_rfl
theorem xf9 : X.fn 9 = some Tryz.f9 := by kernel_rfl
theorem e10 {R : Type} [Mon R] : hFn (R := R) X 10 Tryz.f10 0 [0, 1, 2, 3] = c10 := by kernel_rfl
theorem xf10 : X.fn 10 = some Tryz.f10 := by kernel_rfl
theorem e11 {R : Type} [Mon R] : hFn (R := R) X 11 Tryz.f11 3 [0, 1, 2, 3, 6, 7] = c11 := by kernel_rfl
theorem xf11 : X.fn 11 = some Tryz.f11 := by kernel_rfl
theorem e12 {R : Type} [Mon R] : hFn (R := R) X 12 Tryz.f12 1 [0, 2, 3, 4, 5, 6, 7, 8, 9, 10, 11, 19, 40, 48, 62, 71, 87, 93, 102] = c12 := by kernel_rfl
theorem xf12 : X.fn 12 = some Tryz.f12 := by kernel_rfl
theorem e14 {R : Type} [Mon R] : hFn (R := R) X 14 Tryz.f14 5 [0, 1, 2, 3, 4, 5, 8, 9, 10, 11, 12, 13, 14, 15, 16, 17, 18, 19, 20, 21, 22] = c14 := by kernel_rfl
theorem xf14 : X.fn 14 = some Tryz.f14 := by kernel_rfl
theorem e15 {R : Type} [Mon R] : hFn (R := R) X 15 Tryz.f15 2 [0, 1, 4, 5, 10] = c15 := by kernel_rfl
theorem xf15 : X.fn 15 = some Tryz.f15 := by kernel_rfl
theorem e16 {R : Type} [Mon R] : hFn (R := R) X 16 Tryz.f16 1 [0, 1, 2] = c16 := by kernel_rfl
theorem xf16 : X.fn 16 = some Tryz.f16 := by kernel_rfl
theorem e17 {R : Type} [Mon R] : hFn (R := R) X 17 Tryz.f17 2 [0, 1, 4, 5, 6] = c17 := by kernel_rfl
theorem xf17 : X.fn 17 = some Tryz.f17 := by kernel_rfl
theorem e18 {R : Type} [Mon R] : hFn (R := R) X 18 Tryz.f18 2 [0, 1, 4, 5] = c18 := by kernel_rfl
theorem xf18 : X.fn 18 = some Tryz.f18 := by kernel_rfl
theorem e19 {R : Type} [Mon R] : hFn (R := R) X 19 Tryz.f19 3 [0, 1, 2, 3, 6, 7, 9] = c19 := by kernel_rfl
theorem xf19 : X.fn 19 = some Tryz.f19 := by kernel_rfl
theorem e20 {R : Type} [Mon R] : hFn (R := R) X 20 Tryz.f20 1 [0, 2, 3, 7, 25] = c20 := by kernel_rfl
theorem xf20 : X.fn 20 = some Tryz.f20 := by kernel_rfl
theorem e21 {R : Type} [Mon R] : hFn (R := R) X 21 Tryz.f21 3 [0, 1, 2, 3, 5, 6, 7, 8, 10, 11, 35, 47] = c21 := by kernel_rfl
theorem xf21 : X.fn 21 = some Tryz.f21 := by kernel_rfl
theorem e22 {R : Type} [Mon R] : hFn (R := R) X 22 Tryz.f22 2 [0, 1, 2, 4, 5] = c22 := by kernel_rfl
theorem xf22 : X.fn 22 = some Tryz.f22 := by kernel_rfl
theorem e23 {R : Type} [Mon R] : hFn (R := R) X 23 Tryz.f23 2 [0, 1, 2, 4, 5, 7, 9, 10, 18, 19, 20, 21, 75] = c23 := by kernel_rfl
theorem xf23 : X.fn 23 = some Tryz.f23 := by kernel_rfl
theorem e24 {R : Type} [Mon R] : hFn (R := R) X 24 Tryz.f24 2 [0, 1, 4] = c24 := by kernel_rfl
theorem xf24 : X.fn 24 = some Tryz.f24 := by kernel_rfl
theorem e25 {R : Type} [Mon R] : hFn (R := R) X 25 Tryz.f25 2 [0, 1, 3] = c25 := by kernel_rfl
theorem xf25 : X.fn 25 = some Tryz.f25 := by kernel_rfl
theorem e26 {R : Type} [Mon R] : hFn (R := R) X 26 Tryz.f26 2 [0, 1, 4] = c26 := by kernel_rfl
theorem xf26 : X.fn 26 = some Tryz.f26 := by kernel_rfl
theorem e27 {R : Type} [Mon R] : hFn (R := R) X 27 Tryz.f27 1 [0, 2, 3, 4, 5, 6, 7, 8, 9, 12, 16, 19, 28, 35, 43, 60] = c27 := by kernel_rfl
theorem xf27 : X.fn 27 = some Tryz.f27 := by kernel_rfl
theorem e28 {R : Type} [Mon R] : hFn (R := R) X 28 Tryz.f28 1 [0, 4] = c28 := by kernel_rfl
theorem xf28 : X.fn 28 = some Tryz.f28 := by kernel_rfl
theorem e29 {R : Type} [Mon R] : hFn (R := R) X 29 Tryz.f29 3 [0, 1, 2, 6, 7, 12] = c29 := by kernel_rfl
theorem xf29 : X.fn 29 = some Tryz.f29 := by kernel_rfl
theorem e30 {R : Type} [Mon R] : hFn (R := R) X 30 Tryz.f30 2 [0, 1, 8, 19] = c30 := by kernel_rfl
theorem xf30 : X.fn 30 = some Tryz.f30 := by kernel_rfl
theorem e31 {R : Type} [Mon R] : hFn (R := R) X 31 Tryz.f31 1 [0, 2, 3, 7, 14, 22, 29, 39, 51, 61] = c31 := by kernel_rfl
theorem xf31 : X.fn 31 = some Tryz.f31 := by kernel_rfl
theorem e35 {R : Type} [Mon R] : hFn (R := R) X 35 Tryz.f35 2 [0, 1, 2, 4, 5] = c35 := by kernel_rfl
theorem xf35 : X.fn 35 = some Tryz.f35 := by kernel_rfl
theorem e42 {R : Type} [Mon R] : hFn (R := R) X 42 Tryz.f42 2 [0, 1, 2, 3, 4, 5, 6, 11, 19] = c42 := by kernel_rfl
theorem xf42 : X.fn 42 = some Tryz.f42 := by kernel_rfl
theorem e43 {R : Type} [Mon R] : hFn (R := R) X 43 Tryz.f43 2 [0, 1, 2, 4, 5, 6, 11, 21, 28] = c43 := by kernel_rfl
theorem xf43 : X.fn 43 = some Tryz.f43 := by kernel_rfl
theorem e44 {R : Type} [Mon R] : hFn (R := R) X 44 Tryz.f44 3 [0, 1, 2, 3, 6, 7, 8, 10, 29, 32, 45, 55] = c44 := by kernel_rfl
theorem xf44 : X.fn 44 = some Tryz.f44 := by kernel_rfl
theorem e45 {R : Type} [Mon R] : hFn (R := R) X 45 Tryz.f45 2 [0, 1, 2, 3, 4, 5, 6, 7, 28, 33, 81] = c45 := by kernel_rfl
theorem xf45 : X.fn 45 = some Tryz.f45 := by kernel_rfl
theorem e46 {R : Type} [Mon R] : hFn (R := R) X 46 Tryz.f46 2 [0, 1, 4, 5, 10, 14, 25] = c46 := by kernel_rfl
theorem xf46 : X.fn 46 = some Tryz.f46 := by kernel_rfl
theorem e47 {R : Type} [Mon R] : hFn (R := R) X 47 Tryz.f47 2 [0, 1, 2, 4, 5, 7, 8, 9, 10, 22, 38, 48, 80] = c47 := by kernel_rfl
theorem xf47 : X.fn 47 = some Tryz.f47 := by kernel_rfl
theorem e48 {R : Type} [Mon R] : hFn (R := R) X 48 Tryz.f48 3 [0, 1, 2, 3, 6, 7, 8, 9, 19, 27] = c48 := by kernel_rfl
theorem xf48 : X.fn 48 = some Tryz.f48 := by kernel_rfl
theorem e49 {R : Type} [Mon R] : hFn (R := R) X 49 Tryz.f49 3 [0, 1, 2, 3, 4, 5, 6] = c49 := by kernel_rfl
theorem xf49 : X.fn 49 = some Tryz.f49 := by kernel_rfl
theorem e50 {R : Type} [Mon R] : hFn (R := R) X 50 Tryz.f50 2 [0, 1, 2, 3, 4, 5] = c50 := by kernel_rfl
theorem xf50 : X.fn 50 = some Tryz.f50 := by kernel_rfl
theorem e51 {R : Type} [Mon R] : hFn (R := R) X 51 Tryz.f51 2 [0, 1, 2, 3, 4, 5] = c51 := by kernel_rfl
theorem xf51 : X.fn 51 = some Tryz.f51 := by kernel_rfl
theorem e52 {R : Type} [Mon R] : hFn (R := R) X 52 Tryz.f52 2 [0, 1, 2, 3, 4, 5] = c52 := by kernel_rfl
theorem xf52 : X.fn 52 = some Tryz.f52 := by kernel_rfl
theorem e53 {R : Type} [Mon R] : hFn (R := R) X 53 Tryz.f53 2 [0, 1, 2, 3, 4, 5] = c53 := by kernel_rfl
theorem xf53 : X.fn 53 = some Tryz.f53 := by kernel_rfl
theorem e54 {R : Type} [Mon R] : hFn (R := R) X 54 Tryz.f54 1 [0, 2, 3, 4, 5, 7, 8, 9, 43] = c54 := by kernel_rfl
theorem xf54 : X.fn 54 = some Tryz.f54 := by kernel_rfl
theorem e55 {R : Type} [Mon R] : hFn (R := R) X 55 Tryz.f55 2 [0, 1, 4, 5, 6, 12, 21, 34] = c55 := by kernel_rfl
theorem xf55 : X.fn 55 = some Tryz.f55 := by kernel_rfl
theorem e56 {R : Type} [Mon R] : hFn (R := R) X 56 Tryz.f56 2 [0, 1, 4] = c56 := by kernel_rfl
theorem xf56 : X.fn 56 = some Tryz.f56 := by kernel_rfl
theorem e57 {R : Type} [Mon R] : hFn (R := R) X 57 Tryz.f57 2 [0, 1, 4, 5, 6, 9, 15, 24] = c57 := by kernel_rfl
theorem xf57 : X.fn 57 = some Tryz.f57 := by kernel_rfl
theorem e58 {R : Type} [Mon R] : hFn (R := R) X 58 Tryz.f58 2 [0, 1, 4, 5, 9] = c58 := by kernel_rfl
theorem xf58 : X.fn 58 = some Tryz.f58 := by kernel_rfl
theorem e59 {R : Type} [Mon R] : hFn (R := R) X 59 Tryz.f59 1 [0, 2] = c59 := by kernel_rfl
theorem xf59 : X.fn 59 = some Tryz.f59 := by kernel_rfl
theorem e60 {R : Type} [Mon R] : hFn (R := R) X 60 Tryz.f60 1 [0, 2] = c60 := by kernel_rfl
theorem xf60 : X.fn 60 = some Tryz.f60 := by kernel_rfl
theorem e61 {R : Type} [Mon R] : hFn (R := R) X 61 Tryz.f61 2 [0, 1, 4, 5, 7, 8, 9, 16] = c61 := by kernel_rfl
theorem xf61 : X.fn 61 = some Tryz.f61 := by kernel_rfl
theorem e62 {R : Type} [Mon R] : hFn (R := R) X 62 Tryz.f62 2 [0, 1, 2, 3] = c62 := by kernel_rfl
theorem xf62 : X.fn 62 = some Tryz.f62 := by kernel_rfl
theorem e63 {R : Type} [Mon R] : hFn (R := R) X 63 Tryz.f63 2 [0, 1, 4, 5, 7, 8, 9, 16] = c63 := by kernel_rfl
theorem xf63 : X.fn 63 = some Tryz.f63 := by kernel_rfl
theorem e64 {R : Type} [Mon R] : hFn (R := R) X 64 Tryz.f64 2 [0, 1, 4, 5, 7, 8, 9, 16] = c64 := by kernel_rfl
theorem xf64 : X.fn 64 = some Tryz.f64 := by kernel_rfl
theorem e65 {R : Type} [Mon R] : hFn (R := R) X 65 Tryz.f65 2 [0, 1, 4, 5, 6, 7, 8, 9, 10, 11, 12, 13, 14, 19, 37, 51, 67, 78, 95, 110, 129, 135] = c65 := by kernel_rfl
theorem xf65 : X.fn 65 = some Tryz.f65 := by kernel_rfl
theorem e66 {R : Type} [Mon R] : hFn (R := R) X 66 Tryz.f66 1 [0, 2, 26] = c66 := by kernel_rfl
theorem xf66 : X.fn 66 = some Tryz.f66 := by kernel_rfl
theorem e67 {R : Type} [Mon R] : hFn (R := R) X 67 Tryz.f67 3 [0, 1, 2, 6] = c67 := by kernel_rfl
theorem xf67 : X.fn 67 = some Tryz.f67 := by kernel_rfl
theorem e68 {R : Type} [Mon R] : hFn (R := R) X 68 Tryz.f68 2 [0, 1, 7] = c68 := by kernel_rfl
theorem xf68 : X.fn 68 = some Tryz.f68 := by kernel_rfl
theorem e69 {R : Type} [Mon R] : hFn (R := R) X 69 Tryz.f69 1 [0] = c69 := by kernel_rfl
theorem xf69 : X.fn 69 = some Tryz.f69 := by kernel_rfl
theorem e70 {R : Type} [Mon R] : hFn (R := R) X 70 Tryz.f70 1 [0, 2, 5] = c70 := by kernel_rfl
theorem xf70 : X.fn 70 = some Tryz.f70 := by kernel_rfl
theorem e71 {R : Type} [Mon R] : hFn (R := R) X 71 Tryz.f71 2 [0, 1, 4, 5, 11] = c71 := by kernel_rfl
theorem xf71 : X.fn 71 = some Tryz.f71 := by kernel_rfl
theorem e72 {R : Type} [Mon R] : hFn (R := R) X 72 Tryz.f72 1 [0, 2, 3, 4, 21, 28] = c72 := by kernel_rfl
theorem xf72 : X.fn 72 = some Tryz.f72 := by kernel_rfl
theorem e73 {R : Type} [Mon R] : hFn (R := R) X 73 Tryz.f73 1 [0, 2, 3, 20] = c73 := by kernel_rfl
theorem xf73 : X.fn 73 = some Tryz.f73 := by kernel_rfl
theorem e74 {R : Type} [Mon R] : hFn (R := R) X 74 Tryz.f74 3 [0, 1, 2, 6, 7, 26] = c74 := by kernel_rfl
theorem xf74 : X.fn 74 = some Tryz.f74 := by kernel_rfl
theorem e78 {R : Type} [Mon R] : hFn (R := R) X 78 Tryz.f78 1 [0, 2] = c78 := by kernel_rfl
theorem xf78 : X.fn 78 = some Tryz.f78 := by kernel_rfl
theorem e84 {R : Type} [Mon R] : hFn (R := R) X 84 Tryz.f84 2 [0, 1, 4, 5, 7, 8, 9, 16] = c84 := by kernel_rfl
theorem xf84 : X.fn 84 = some Tryz.f84 := by kernel_rfl
theorem e85 {R : Type} [Mon R] : hFn (R := R) X 85 Tryz.f85 2 [0, 1, 2, 3] = c85 := by kernel_rfl
theorem xf85 : X.fn 85 = some Tryz.f85 := by kernel_rfl
theorem e86 {R : Type} [Mon R] : hFn (R := R) X 86 Tryz.f86 1 [0, 2] = c86 := by kernel_rfl
theorem xf86 : X.fn 86 = some Tryz.f86 := by kernel_rfl
theorem e87 {R : Type} [Mon R] : hFn (R := R) X 87 Tryz.f87 2 [0, 1, 4, 5, 10, 14, 25] = c87 := by kernel_rfl
theorem xf87 : X.fn 87 = some Tryz.f87 := by kernel_rfl
theorem e88 {R : Type} [Mon R] : hFn (R := R) X 88 Tryz.f88 2 [0, 1, 4, 5, 10, 14, 68] = c88 := by kernel_rfl
theorem xf88 : X.fn 88 = some Tryz.f88 := by kernel_rfl
theorem e89 {R : Type} [Mon R] : hFn (R := R) X 89 Tryz.f89 2 [0, 1, 4, 5, 10, 14, 55] = c89 := by kernel_rfl
theorem xf89 : X.fn 89 = some Tryz.f89 := by kernel_rfl
theorem e90 {R : Type} [Mon R] : hFn (R := R) X 90 Tryz.f90 2 [0, 1, 4, 5, 9, 17] = c90 := by kernel_rfl
theorem xf90 : X.fn 90 = some Tryz.f90 := by kernel_rfl
theorem e91 {R : Type} [Mon R] : hFn (R := R) X 91 Tryz.f91 3 [0, 1, 2, 3, 4, 5, 6, 7, 9, 11, 26, 35, 57, 79] = c91 := by kernel_rfl
theorem xf91 : X.fn 91 = some Tryz.f91 := by kernel_rfl
theorem e92 {R : Type} [Mon R] : hFn (R := R) X 92 Tryz.f92 2 [0, 1, 4, 13] = c92 := by kernel_rfl
theorem xf92 : X.fn 92 = some Tryz.f92 := by kernel_rfl
theorem e93 {R : Type} [Mon R] : hFn (R := R) X 93 Tryz.f93 2 [0, 1, 4, 16] = c93 := by kernel_rfl
theorem xf93 : X.fn 93 = some Tryz.f93 := by kernel_rfl
theorem e94 {R : Type} [Mon R] : hFn (R := R) X 94 Tryz.f94 1 [0, 2, 3, 4, 5, 9, 16] = c94 := by kernel_rfl
theorem xf94 : X.fn 94 = some Tryz.f94 := by kernel_rfl
theorem e95 {R : Type} [Mon R] : hFn (R := R) X 95 Tryz.f95 2 [0, 1, 4, 7, 12] = c95 := by kernel_rfl
theorem xf95 : X.fn 95 = some Tryz.f95 := by kernel_rfl
theorem e96 {R : Type} [Mon R] : hFn (R := R) X 96 Tryz.f96 2 [0, 1, 4, 7, 15] = c96 := by kernel_rfl
theorem xf96 : X.fn 96 = some Tryz.f96 := by kernel_rfl
theorem e97 {R : Type} [Mon R] : hFn (R := R) X 97 Tryz.f97 2 [0, 1, 4, 5, 6, 9, 18] = c97 := by kernel_rfl
theorem xf97 : X.fn 97 = some Tryz.f97 := by kernel_rfl
theorem e98 {R : Type} [Mon R] : hFn (R := R) X 98 Tryz.f98 2 [0, 1, 4, 5, 6, 9, 17, 26] = c98 := by kernel_rfl
theorem xf98 : X.fn 98 = some Tryz.f98 := by kernel_rfl
theorem e99 {R : Type} [Mon R] : hFn (R := R) X 99 Tryz.f99 2 [0, 1, 4] = c99 := by kernel_rfl
theorem xf99 : X.fn 99 = some Tryz.f99 := by kernel_rfl
theorem e100 {R : Type} [Mon R] : hFn (R := R) X 100 Tryz.f100 1 [0, 2, 4, 6] = c100 := by kernel_rfl
theorem xf100 : X.fn 100 = some Tryz.f100 := by kernel_rfl
theorem e102 {R : Type} [Mon R] : hFn (R := R) X 102 Tryz.f102 2 [0, 1, 4] = c102 := by kernel_rfl
theorem xf102 : X.fn 102 = some Tryz.f102 := by kernel_rfl
theorem e103 {R : Type} [Mon R] : hFn (R := R) X 103 Tryz.f103 1 [0, 2] = c103 := by kernel_rfl
theorem xf103 : X.fn 103 = some Tryz.f103 := by kernel_rfl
theorem e104 {R : Type} [Mon R] : hFn (R := R) X 104 Tryz.f104 1 [0, 2, 3, 4, 5, 6, 9, 19, 36, 49, 55, 75, 93, 100, 107] = c104 := by kernel_rfl
theorem xf104 : X.fn 104 = some Tryz.f104 := by kernel_rfl
theorem e105 {R : Type} [Mon R] : hFn (R := R) X 105 Tryz.f105 2 [0, 1, 4, 5, 6, 7, 8, 9, 22, 53, 57, 65] = c105 := by kernel_rfl
theorem xf105 : X.fn 105 = some Tryz.f105 := by kernel_rfl
theorem e106 {R : Type} [Mon R] : hFn (R := R) X 106 Tryz.f106 3 [0, 1, 2, 10] = c106 := by kernel_rfl
theorem xf106 : X.fn 106 = some Tryz.f106 := by kernel_rfl
theorem e107 {R : Type} [Mon R] : hFn (R := R) X 107 Tryz.f107 1 [0, 2, 3, 4, 5, 27] = c107 := by kernel_rfl
theorem xf107 : X.fn 107 = some Tryz.f107 := by kernel_rfl
theorem e108 {R : Type} [Mon R] : hFn (R := R) X 108 Tryz.f108 1 [0, 2, 3, 6, 9, 16, 23] = c108 := by kernel_rfl
theorem xf108 : X.fn 108 = some Tryz.f108 := by kernel_rfl
theorem e109 {R : Type} [Mon R] : hFn (R := R) X 109 Tryz.f109 1 [0, 2, 3, 15] = c109 := by kernel_rfl
theorem xf109 : X.fn 109 = some Tryz.f109 := by kernel_rfl
theorem e112 {R : Type} [Mon R] : hFn (R := R) X 112 Tryz.f112 1 [0, 1, 2, 5] = c112 := by kernel_rfl
theorem xf112 : X.fn 112 = some Tryz.f112 := by kernel_rfl
theorem e113 {R : Type} [Mon R] : hFn (R := R) X 113 Tryz.f113 2 [0, 1, 2, 3, 4] = c113 := by kernel_rfl
theorem xf113 : X.fn 113 = some Tryz.f113 := by kernel_rfl
theorem e114 {R : Type} [Mon R] : hFn (R := R) X 114 Tryz.f114 2 [0, 1, 2, 3, 4, 5, 6, 36, 41, 54, 59, 73] = c114 := by kernel_rfl
theorem xf114 : X.fn 114 = some Tryz.f114 := by kernel_rfl
theorem e115 {R : Type} [Mon R] : hFn (R := R) X 115 Tryz.f115 1 [0, 1, 2, 5] = c115 := by kernel_rfl
theorem xf115 : X.fn 115 = some Tryz.f115 := by kernel_rfl
theorem e116 {R : Type} [Mon R] : hFn (R := R) X 116 Tryz.f116 2 [0, 1, 4] = c116 := by kernel_rfl
theorem xf116 : X.fn 116 = some Tryz.f116 := by kernel_rfl
theorem e117 {R : Type} [Mon R] : hFn (R := R) X 117 Tryz.f117 1 [0, 2, 3, 10] = c117 := by kernel_rfl
theorem xf117 : X.fn 117 = some Tryz.f117 := by kernel_rfl
theorem e118 {R : Type} [Mon R] : hFn (R := R) X 118 Tryz.f118 2 [0, 1, 4] = c118 := by kernel_rfl
theorem xf118 : X.fn 118 = some Tryz.f118 := by kernel_rfl
theorem e119 {R : Type} [Mon R] : hFn (R := R) X 119 Tryz.f119 1 [0, 2, 3, 4, 5, 6, 10, 18, 27, 33, 35, 48] = c119 := by kernel_rfl
theorem xf119 : X.fn 119 = some Tryz.f119 := by kernel_rfl
theorem e121 {R : Type} [Mon R] : hFn (R := R) X 121 Tryz.f121 2 [0, 1, 4, 5, 19] = c121 := by kernel_rfl
theorem xf121 : X.fn 121 = some Tryz.f121 := by kernel_rfl
end T
