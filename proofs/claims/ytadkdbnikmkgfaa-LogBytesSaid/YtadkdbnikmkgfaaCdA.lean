import Derived.Test.YtadkdbnikmkgfaaCdNames
namespace Go.Fw
open Go.Proofs
/-! concord/inst.Below -/
abbrev inst_Below_r0 : NC := .reg
    (.x 0 (.box 31) [(.slot 0)] none []
    (.x 1 (.box 31) [(.slot 1)] none []
    (.out [(2, (.res 0)), (3, (.res 1))])))
    [0, 1]
abbrev inst_Below_r1 : NC := .reg
    (.q 0 (.fld 0) [(.slot 2)] none
    (.q 1 .ld [(.res 0)] none
    (.q 2 (.fld 0) [(.slot 3)] none
    (.q 3 .ld [(.res 2)] none
    (.q 4 (.icm .lss) [(.res 1), (.res 3)] none
    (.q 6 (.fld 0) [(.slot 2)] (some ((.res 4), false))
    (.q 7 .ld [(.res 6)] (some ((.res 4), false))
    (.q 8 (.fld 0) [(.slot 3)] (some ((.res 4), false))
    (.q 9 .ld [(.res 8)] (some ((.res 4), false))
    (.q 10 (.icm .eql) [(.res 7), (.res 9)] (some ((.res 4), false))
    (.q 11 .mv [(.res 10)] (some ((.res 4), false))
    (.q 12 (.fld 1) [(.slot 2)] (some ((.res 11), true))
    (.q 13 .ld [(.res 12)] (some ((.res 11), true))
    (.q 14 (.fld 1) [(.slot 3)] (some ((.res 11), true))
    (.q 15 .ld [(.res 14)] (some ((.res 11), true))
    (.q 16 (.icm .lss) [(.res 13), (.res 15)] (some ((.res 11), true))
    (.q 17 .pick [(.res 11), (.res 16), (.const (.bool false))] (some ((.res 4), false))
    (.q 18 .pick [(.res 4), (.const (.bool true)), (.res 17)] none
    (.out [(4, (.res 18))])))))))))))))))))))
    [2, 3]
abbrev inst_Below_c : NC :=
  (.seq inst_Below_r0
  (.seq inst_Below_r1
  .ret))
abbrev inst_Below_F : FN := ⟨inst_Below_c, [.slot 4]⟩
theorem inst_Below_ok : compF Try.prog Try.f20 = some inst_Below_F := by kernel_rfl
theorem inst_Below_go {args : List Value} {m : Mem} {R : Value → Mem → Prop} (hn : args.length ≤ Try.f20.ntmps) (h : wpN Try.prog inst_Below_c (retP inst_Below_F.rvs R) (zipP 0 args) m) : MC Try.prog 20 args m R := MC_start Try.func20 inst_Below_ok mixed_ok hn h
/-! concord/inst.Right -/
abbrev inst_Right_r0 : NC := .reg
    (.x 0 (.box 28) [(.slot 0)] none []
    (.out [(1, (.res 0))]))
    [0]
abbrev inst_Right_r1 : NC := .reg
    (.q 0 (.fld 0) [(.slot 1)] none
    (.q 1 .ld [(.res 0)] none
    (.q 2 (.icm .geq) [(.res 1), (.const (.int .i64 0))] none
    (.q 4 (.fld 0) [(.slot 1)] (some ((.res 2), true))
    (.q 5 .ld [(.res 4)] (some ((.res 2), true))
    (.q 6 (.icm .lss) [(.res 5), (.const (.int .i64 7))] (some ((.res 2), true))
    (.q 7 .pick [(.res 2), (.res 6), (.const (.bool false))] none
    (.q 9 (.fld 1) [(.slot 1)] (some ((.res 7), true))
    (.q 10 .ld [(.res 9)] (some ((.res 7), true))
    (.q 11 (.icm .geq) [(.res 10), (.const (.int .i64 1))] (some ((.res 7), true))
    (.q 12 .pick [(.res 7), (.res 11), (.const (.bool false))] none
    (.q 14 (.fld 1) [(.slot 1)] (some ((.res 12), true))
    (.q 15 .ld [(.res 14)] (some ((.res 12), true))
    (.q 16 (.icm .leq) [(.res 15), (.const (.int .i64 1073741824))] (some ((.res 12), true))
    (.q 17 .pick [(.res 12), (.res 16), (.const (.bool false))] none
    (.out [(2, (.res 17))]))))))))))))))))
    [1]
abbrev inst_Right_c : NC :=
  (.seq inst_Right_r0
  (.seq inst_Right_r1
  .ret))
abbrev inst_Right_F : FN := ⟨inst_Right_c, [.slot 2]⟩
theorem inst_Right_ok : compF Try.prog Try.f33 = some inst_Right_F := by kernel_rfl
theorem inst_Right_go {args : List Value} {m : Mem} {R : Value → Mem → Prop} (hn : args.length ≤ Try.f33.ntmps) (h : wpN Try.prog inst_Right_c (retP inst_Right_F.rvs R) (zipP 0 args) m) : MC Try.prog 33 args m R := MC_start Try.func33 inst_Right_ok mixed_ok hn h
/-! concord/inst.Less -/
abbrev inst_Less_r0 : NC := .reg
    (.x 0 (.box 28) [(.slot 0)] none []
    (.x 1 (.box 28) [(.slot 1)] none []
    (.out [(2, (.res 0)), (3, (.res 1))])))
    [0, 1]
abbrev inst_Less_r1 : NC := .reg
    (.q 0 (.fld 0) [(.slot 2)] none
    (.q 1 .ld [(.res 0)] none
    (.q 2 (.fld 0) [(.slot 3)] none
    (.q 3 .ld [(.res 2)] none
    (.q 4 (.icm .lss) [(.res 1), (.res 3)] none
    (.q 6 (.fld 0) [(.slot 2)] (some ((.res 4), false))
    (.q 7 .ld [(.res 6)] (some ((.res 4), false))
    (.q 8 (.fld 0) [(.slot 3)] (some ((.res 4), false))
    (.q 9 .ld [(.res 8)] (some ((.res 4), false))
    (.q 10 (.icm .eql) [(.res 7), (.res 9)] (some ((.res 4), false))
    (.q 11 .mv [(.res 10)] (some ((.res 4), false))
    (.q 12 (.fld 1) [(.slot 2)] (some ((.res 11), true))
    (.q 13 .ld [(.res 12)] (some ((.res 11), true))
    (.q 14 (.fld 1) [(.slot 3)] (some ((.res 11), true))
    (.q 15 .ld [(.res 14)] (some ((.res 11), true))
    (.q 16 (.icm .lss) [(.res 13), (.res 15)] (some ((.res 11), true))
    (.q 17 .pick [(.res 11), (.res 16), (.const (.bool false))] (some ((.res 4), false))
    (.q 18 .pick [(.res 4), (.const (.bool true)), (.res 17)] none
    (.out [(4, (.res 18))])))))))))))))))))))
    [2, 3]
abbrev inst_Less_c : NC :=
  (.seq inst_Less_r0
  (.seq inst_Less_r1
  .ret))
abbrev inst_Less_F : FN := ⟨inst_Less_c, [.slot 4]⟩
theorem inst_Less_ok : compF Try.prog Try.f38 = some inst_Less_F := by kernel_rfl
theorem inst_Less_go {args : List Value} {m : Mem} {R : Value → Mem → Prop} (hn : args.length ≤ Try.f38.ntmps) (h : wpN Try.prog inst_Less_c (retP inst_Less_F.rvs R) (zipP 0 args) m) : MC Try.prog 38 args m R := MC_start Try.func38 inst_Less_ok mixed_ok hn h
/-! concord/inst.RightBallot -/
abbrev inst_RightBallot_r0 : NC := .reg
    (.x 0 (.box 31) [(.slot 0)] none []
    (.out [(1, (.res 0))]))
    [0]
abbrev inst_RightBallot_r1 : NC := .reg
    (.q 0 (.fld 0) [(.slot 1)] none
    (.q 1 .ld [(.res 0)] none
    (.q 2 (.icm .geq) [(.res 1), (.const (.int .i64 0))] none
    (.q 4 (.fld 0) [(.slot 1)] (some ((.res 2), true))
    (.q 5 .ld [(.res 4)] (some ((.res 2), true))
    (.q 6 (.icm .leq) [(.res 5), (.const (.int .i64 1073741824))] (some ((.res 2), true))
    (.q 7 .pick [(.res 2), (.res 6), (.const (.bool false))] none
    (.q 9 (.fld 1) [(.slot 1)] (some ((.res 7), true))
    (.q 10 .ld [(.res 9)] (some ((.res 7), true))
    (.q 11 (.icm .geq) [(.res 10), (.const (.int .i64 0))] (some ((.res 7), true))
    (.q 12 .pick [(.res 7), (.res 11), (.const (.bool false))] none
    (.q 14 (.fld 1) [(.slot 1)] (some ((.res 12), true))
    (.q 15 .ld [(.res 14)] (some ((.res 12), true))
    (.q 16 (.icm .lss) [(.res 15), (.const (.int .i64 7))] (some ((.res 12), true))
    (.q 17 .pick [(.res 12), (.res 16), (.const (.bool false))] none
    (.out [(2, (.res 17))]))))))))))))))))
    [1]
abbrev inst_RightBallot_c : NC :=
  (.seq inst_RightBallot_r0
  (.seq inst_RightBallot_r1
  .ret))
abbrev inst_RightBallot_F : FN := ⟨inst_RightBallot_c, [.slot 2]⟩
theorem inst_RightBallot_ok : compF Try.prog Try.f58 = some inst_RightBallot_F := by kernel_rfl
theorem inst_RightBallot_go {args : List Value} {m : Mem} {R : Value → Mem → Prop} (hn : args.length ≤ Try.f58.ntmps) (h : wpN Try.prog inst_RightBallot_c (retP inst_RightBallot_F.rvs R) (zipP 0 args) m) : MC Try.prog 58 args m R := MC_start Try.func58 inst_RightBallot_ok mixed_ok hn h
/-! concord/cmd.Right -/
abbrev cmd_Right_r0 : NC := .reg
    (.x 0 (.box 33) [(.slot 0)] none []
    (.out [(1, (.res 0))]))
    [0]
abbrev cmd_Right_r1 : NC := .reg
    (.q 0 (.lda 7) [(.slot 1)] none
    (.q 1 (.bld [(.int .i64 0), (.int .i64 0), (.int .i64 0), (.string ⟨#[]⟩), (.string ⟨#[]⟩), (.string ⟨#[]⟩), (.string ⟨#[]⟩)] []) [] none
    (.q 2 (.eqc false [(.i .i64), (.i .i64), (.i .i64), .s, .s, .s, .s]) [(.res 0), (.res 1)] none
    (.out [(1, (.slot 1)), (6, (.res 2))]))))
    [1]
abbrev cmd_Right_r2 : NC := .reg
    (.out [(2, (.const (.bool true)))])
    []
abbrev cmd_Right_r3 : NC := .reg
    (.q 0 (.fld 0) [(.slot 1)] none
    (.q 1 .ld [(.res 0)] none
    (.x 2 (.call 90) [(.res 1), (.const (.int .i64 5))] none []
    (.q 3 .not [(.res 2)] none
    (.q 5 (.fld 1) [(.slot 1)] (some ((.res 3), false))
    (.q 6 .ld [(.res 5)] (some ((.res 3), false))
    (.x 7 (.call 90) [(.res 6), (.const (.int .i64 8))] (some ((.res 3), false)) []
    (.q 8 .not [(.res 7)] (some ((.res 3), false))
    (.q 9 .pick [(.res 3), (.const (.bool true)), (.res 8)] none
    (.q 11 (.fld 2) [(.slot 1)] (some ((.res 9), false))
    (.q 12 .ld [(.res 11)] (some ((.res 9), false))
    (.x 13 (.call 90) [(.res 12), (.const (.int .i64 1099511627776))] (some ((.res 9), false)) []
    (.q 14 .not [(.res 13)] (some ((.res 9), false))
    (.q 15 .pick [(.res 9), (.const (.bool true)), (.res 14)] none
    (.q 17 (.lda 7) [(.slot 1)] (some ((.res 15), false))
    (.q 18 (.lda 7) [(.slot 1)] (some ((.res 15), false))
    (.x 19 (.call 91) [(.res 18)] (some ((.res 15), false)) [(17, (.lda 7), [(.slot 1)], (some ((.res 15), false)))]
    (.q 20 (.eqc true [(.i .i64), (.i .i64), (.i .i64), .s, .s, .s, .s]) [(.res 17), (.res 19)] (some ((.res 15), false))
    (.q 21 .pick [(.res 15), (.const (.bool true)), (.res 20)] none
    (.out [(1, (.slot 1)), (28, (.res 21))]))))))))))))))))))))
    [1]
abbrev cmd_Right_r4 : NC := .reg
    (.out [(2, (.const (.bool false)))])
    []
abbrev cmd_Right_r5 : NC := .reg
    (.q 0 (.fld 3) [(.slot 1)] none
    (.q 1 .ld [(.res 0)] none
    (.q 2 .lenz [(.res 1)] none
    (.q 3 (.icm .gtr) [(.res 2), (.const (.int .i64 16))] none
    (.q 5 (.fld 4) [(.slot 1)] (some ((.res 3), false))
    (.q 6 .ld [(.res 5)] (some ((.res 3), false))
    (.q 7 .lenz [(.res 6)] (some ((.res 3), false))
    (.q 8 (.icm .gtr) [(.res 7), (.const (.int .i64 16))] (some ((.res 3), false))
    (.q 9 .pick [(.res 3), (.const (.bool true)), (.res 8)] none
    (.q 11 (.fld 5) [(.slot 1)] (some ((.res 9), false))
    (.q 12 .ld [(.res 11)] (some ((.res 9), false))
    (.q 13 .lenz [(.res 12)] (some ((.res 9), false))
    (.q 14 (.icm .gtr) [(.res 13), (.const (.int .i64 64))] (some ((.res 9), false))
    (.q 15 .pick [(.res 9), (.const (.bool true)), (.res 14)] none
    (.q 17 (.fld 6) [(.slot 1)] (some ((.res 15), false))
    (.q 18 .ld [(.res 17)] (some ((.res 15), false))
    (.q 19 .lenz [(.res 18)] (some ((.res 15), false))
    (.q 20 (.icm .gtr) [(.res 19), (.const (.int .i64 64))] (some ((.res 15), false))
    (.q 21 .pick [(.res 15), (.const (.bool true)), (.res 20)] none
    (.out [(1, (.slot 1)), (3, (.res 21))]))))))))))))))))))))
    [1]
abbrev cmd_Right_r6 : NC := .reg
    (.q 1 .not [(.slot 3)] none
    (.q 3 (.fld 3) [(.slot 1)] (some ((.res 1), true))
    (.q 4 .ld [(.res 3)] (some ((.res 1), true))
    (.q 5 (.str .neq) [(.res 4), (.const (.string ⟨#[]⟩))] (some ((.res 1), true))
    (.q 6 .mv [(.res 5)] (some ((.res 1), true))
    (.q 7 (.fld 0) [(.slot 1)] (some ((.res 6), false))
    (.q 8 .ld [(.res 7)] (some ((.res 6), false))
    (.q 9 (.icm .eql) [(.res 8), (.const (.int .i64 5))] (some ((.res 6), false))
    (.q 10 .pick [(.res 6), (.const (.bool true)), (.res 9)] (some ((.res 1), true))
    (.q 11 .pick [(.res 1), (.res 10), (.const (.bool false))] none
    (.out [(2, (.res 11))])))))))))))
    [1, 3]
abbrev cmd_Right_c : NC :=
  (.seq cmd_Right_r0
  (.seq (.seq cmd_Right_r1
  (.cond (.slot 6)
    (.seq cmd_Right_r2
    .ret)
    .skip))
  (.seq (.seq cmd_Right_r3
  (.cond (.slot 28)
    (.seq cmd_Right_r4
    .ret)
    .skip))
  (.seq cmd_Right_r5
  (.seq cmd_Right_r6
  .ret)))))
abbrev cmd_Right_F : FN := ⟨cmd_Right_c, [.slot 2]⟩
theorem cmd_Right_ok : compF Try.prog Try.f59 = some cmd_Right_F := by kernel_rfl
theorem cmd_Right_go {args : List Value} {m : Mem} {R : Value → Mem → Prop} (hn : args.length ≤ Try.f59.ntmps) (h : wpN Try.prog cmd_Right_c (retP cmd_Right_F.rvs R) (zipP 0 args) m) : MC Try.prog 59 args m R := MC_start Try.func59 cmd_Right_ok mixed_ok hn h
/-! concord/deps.Right -/
abbrev deps_Right_r0 : NC := .reg
    (.x 0 (.box 35) [(.slot 0)] none []
    (.out [(1, (.res 0))]))
    [0]
abbrev deps_Right_r1 : NC := .reg
    (.q 0 (.fld 1) [(.slot 1)] none
    (.q 1 (.lda 7) [(.res 0)] none
    (.out [(1, (.slot 1)), (6, (.res 1)), (7, (.const (.int .i64 0)))])))
    [1]
abbrev deps_Right_r2 : NC := .reg
    (.q 0 (.icm .lss) [(.slot 7), (.const (.int .i64 7))] none
    (.out [(1, (.slot 1)), (6, (.slot 6)), (7, (.slot 7)), (8, (.res 0))]))
    [1, 6, 7]
abbrev deps_Right_r3 : NC := .reg
    (.q 0 (.idx 7 1) [(.slot 6), (.slot 7)] none
    (.out [(1, (.slot 1)), (4, (.res 0)), (6, (.slot 6)), (7, (.slot 7))]))
    [1, 6, 7]
abbrev deps_Right_r4 : NC := .reg
    (.q 1 (.icm .lss) [(.slot 4), (.const (.int .i64 0))] none
    (.q 3 .mv [(.slot 4)] (some ((.res 1), false))
    (.q 4 (.icm .gtr) [(.res 3), (.const (.int .i64 1073741824))] (some ((.res 1), false))
    (.q 5 .pick [(.res 1), (.const (.bool true)), (.res 4)] none
    (.out [(1, (.slot 1)), (6, (.slot 6)), (7, (.slot 7)), (15, (.res 5))])))))
    [1, 4, 6, 7]
abbrev deps_Right_r5 : NC := .reg
    (.out [(2, (.const (.bool false)))])
    []
abbrev deps_Right_r6 : NC := .reg
    (.q 0 (.iar .add) [(.slot 7), (.const (.int .i64 1))] none
    (.out [(1, (.slot 1)), (6, (.slot 6)), (7, (.res 0))]))
    [1, 6, 7]
abbrev deps_Right_l0 : NC :=
  (.seq deps_Right_r2
  (.seq (.cond (.slot 8)
    .skip
    (.exit 0))
  (.seq (.block 1 (.seq deps_Right_r3
  (.seq deps_Right_r4
  (.cond (.slot 15)
    (.seq deps_Right_r5
    .ret)
    .skip))))
  deps_Right_r6)))
abbrev deps_Right_r7 : NC := .reg
    (.q 0 (.fld 0) [(.slot 1)] none
    (.q 1 .ld [(.res 0)] none
    (.q 2 (.icm .geq) [(.res 1), (.const (.int .i64 0))] none
    (.q 4 (.fld 0) [(.slot 1)] (some ((.res 2), true))
    (.q 5 .ld [(.res 4)] (some ((.res 2), true))
    (.q 6 (.icm .leq) [(.res 5), (.const (.int .i64 1099511627776))] (some ((.res 2), true))
    (.q 7 .pick [(.res 2), (.res 6), (.const (.bool false))] none
    (.out [(2, (.res 7))]))))))))
    [1]
abbrev deps_Right_c : NC :=
  (.seq deps_Right_r0
  (.seq (.seq deps_Right_r1
  (.block 0 (.loop [1, 6, 7] deps_Right_l0)))
  (.seq deps_Right_r7
  .ret)))
abbrev deps_Right_F : FN := ⟨deps_Right_c, [.slot 2]⟩
theorem deps_Right_ok : compF Try.prog Try.f60 = some deps_Right_F := by kernel_rfl
theorem deps_Right_go {args : List Value} {m : Mem} {R : Value → Mem → Prop} (hn : args.length ≤ Try.f60.ntmps) (h : wpN Try.prog deps_Right_c (retP deps_Right_F.rvs R) (zipP 0 args) m) : MC Try.prog 60 args m R := MC_start Try.func60 deps_Right_ok mixed_ok hn h
/-! concord/cmd.Get -/
abbrev cmd_Get_r0 : NC := .reg
    (.x 0 (.alc [(.int .i64 0), (.int .i64 0), (.int .i64 0), (.string ⟨#[]⟩), (.string ⟨#[]⟩), (.string ⟨#[]⟩), (.string ⟨#[]⟩)] 33) [] none []
    (.out [(0, (.slot 0)), (2, (.res 0))]))
    [0]
abbrev cmd_Get_r1 : NC := .reg
    (.x 1 (.call 44) [(.slot 0)] none []
    (.q 2 (.bld [(.int .i64 0), (.int .i64 0), (.int .i64 0), (.string ⟨#[]⟩), (.string ⟨#[]⟩), (.string ⟨#[]⟩), (.string ⟨#[]⟩)] [(0, 1)]) [(.res 1)] none
    (.x 3 (.alc [(.int .i64 0), (.int .i64 0), (.int .i64 0), (.string ⟨#[]⟩), (.string ⟨#[]⟩), (.string ⟨#[]⟩), (.string ⟨#[]⟩)] 33) [] none []
    (.x 4 (.st 7) [(.res 3), (.res 2)] none []
    (.out [(0, (.slot 0)), (2, (.slot 2)), (3, (.res 3))])))))
    [0, 2]
abbrev cmd_Get_r2 : NC := .reg
    (.q 0 (.fld 0) [(.slot 3)] none
    (.q 1 .ld [(.res 0)] none
    (.q 2 (.icm .neq) [(.res 1), (.const (.int .i64 0))] none
    (.out [(0, (.slot 0)), (2, (.slot 2)), (3, (.slot 3)), (9, (.res 2))]))))
    [0, 2, 3]
abbrev cmd_Get_r3 : NC := .reg
    (.x 1 (.call 44) [(.slot 0)] none []
    (.q 2 (.fld 1) [(.slot 3)] none
    (.x 3 (.st 1) [(.res 2), (.res 1)] none []
    (.out [(0, (.slot 0)), (2, (.slot 2)), (3, (.slot 3))]))))
    [0, 2, 3]
abbrev cmd_Get_r4 : NC := .reg
    (.x 1 (.call 44) [(.slot 0)] none []
    (.q 2 (.fld 2) [(.slot 3)] none
    (.x 3 (.st 1) [(.res 2), (.res 1)] none []
    (.out [(0, (.slot 0)), (2, (.slot 2)), (3, (.slot 3))]))))
    [0, 2, 3]
abbrev cmd_Get_r5 : NC := .reg
    (.x 1 (.call 102) [(.slot 0), (.const (.int .i64 16))] none []
    (.q 2 (.fld 3) [(.slot 3)] none
    (.x 3 (.st 1) [(.res 2), (.res 1)] none []
    (.out [(0, (.slot 0)), (2, (.slot 2)), (3, (.slot 3))]))))
    [0, 2, 3]
abbrev cmd_Get_r6 : NC := .reg
    (.q 0 (.fld 0) [(.slot 3)] none
    (.q 1 .ld [(.res 0)] none
    (.out [(0, (.slot 0)), (2, (.slot 2)), (3, (.slot 3)), (20, (.res 1))])))
    [0, 2, 3]
abbrev cmd_Get_r7 : NC := .reg
    (.q 0 (.icm .eql) [(.slot 20), (.const (.int .i64 2))] none
    (.out [(0, (.slot 0)), (2, (.slot 2)), (3, (.slot 3)), (20, (.slot 20)), (21, (.res 0))]))
    [0, 2, 3, 20]
abbrev cmd_Get_r8 : NC := .reg
    (.x 1 (.call 102) [(.slot 0), (.const (.int .i64 64))] none []
    (.q 2 (.fld 6) [(.slot 3)] none
    (.x 3 (.st 1) [(.res 2), (.res 1)] none []
    (.out [(0, (.slot 0)), (2, (.slot 2)), (3, (.slot 3))]))))
    [0, 2, 3]
abbrev cmd_Get_r9 : NC := .reg
    (.q 0 (.icm .eql) [(.slot 20), (.const (.int .i64 4))] none
    (.out [(0, (.slot 0)), (2, (.slot 2)), (3, (.slot 3)), (20, (.slot 20)), (26, (.res 0))]))
    [0, 2, 3, 20]
abbrev cmd_Get_r10 : NC := .reg
    (.x 1 (.call 102) [(.slot 0), (.const (.int .i64 64))] none []
    (.q 2 (.fld 5) [(.slot 3)] none
    (.x 3 (.st 1) [(.res 2), (.res 1)] none []
    (.out [(0, (.slot 0)), (2, (.slot 2)), (3, (.slot 3))]))))
    [0, 2, 3]
abbrev cmd_Get_r11 : NC := .reg
    (.x 1 (.call 102) [(.slot 0), (.const (.int .i64 64))] none []
    (.q 2 (.fld 6) [(.slot 3)] none
    (.x 3 (.st 1) [(.res 2), (.res 1)] none []
    (.out [(0, (.slot 0)), (2, (.slot 2)), (3, (.slot 3))]))))
    [0, 2, 3]
abbrev cmd_Get_r12 : NC := .reg
    (.q 0 (.icm .eql) [(.slot 20), (.const (.int .i64 5))] none
    (.out [(0, (.slot 0)), (2, (.slot 2)), (3, (.slot 3)), (34, (.res 0))]))
    [0, 2, 3, 20]
abbrev cmd_Get_r13 : NC := .reg
    (.x 1 (.call 102) [(.slot 0), (.const (.int .i64 16))] none []
    (.q 2 (.fld 4) [(.slot 3)] none
    (.x 3 (.st 1) [(.res 2), (.res 1)] none []
    (.out [(0, (.slot 0)), (2, (.slot 2)), (3, (.slot 3))]))))
    [0, 2, 3]
abbrev cmd_Get_r14 : NC := .reg
    (.x 1 (.call 71) [(.slot 0)] none []
    (.q 2 (.icm .eql) [(.res 1), (.const (.int .i64 0))] none
    (.q 4 (.lda 7) [(.slot 3)] (some ((.res 2), true))
    (.x 5 (.call 59) [(.res 4)] (some ((.res 2), true)) []
    (.q 6 .not [(.res 5)] (some ((.res 2), true))
    (.q 7 .pick [(.res 2), (.res 6), (.const (.bool false))] none
    (.out [(0, (.slot 0)), (2, (.slot 2)), (3, (.slot 3)), (46, (.res 7))])))))))
    [0, 2, 3]
abbrev cmd_Get_r15 : NC := .reg
    (.x 1 (.call 72) [(.slot 0)] none []
    (.out [(0, (.slot 0)), (2, (.slot 2)), (3, (.slot 3))]))
    [0, 2, 3]
abbrev cmd_Get_r16 : NC := .reg
    (.x 1 (.call 71) [(.slot 0)] none []
    (.q 2 (.icm .neq) [(.res 1), (.const (.int .i64 0))] none
    (.out [(2, (.slot 2)), (3, (.slot 3)), (51, (.res 2))])))
    [0, 2, 3]
abbrev cmd_Get_r17 : NC := .reg
    (.q 0 (.bld [(.int .i64 0), (.int .i64 0), (.int .i64 0), (.string ⟨#[]⟩), (.string ⟨#[]⟩), (.string ⟨#[]⟩), (.string ⟨#[]⟩)] []) [] none
    (.x 1 (.st 7) [(.slot 2), (.res 0)] none []
    (.out [(2, (.slot 2))])))
    [2]
abbrev cmd_Get_r18 : NC := .reg
    (.q 0 (.lda 7) [(.slot 3)] none
    (.x 1 (.st 7) [(.slot 2), (.res 0)] none []
    (.out [(2, (.slot 2))])))
    [2, 3]
abbrev cmd_Get_c : NC :=
  (.seq cmd_Get_r0
  (.seq cmd_Get_r1
  (.seq (.seq cmd_Get_r2
  (.cond (.slot 9)
    (.seq cmd_Get_r3
    (.seq cmd_Get_r4
    cmd_Get_r5))
    .skip))
  (.seq (.seq cmd_Get_r6
  (.block 0 (.seq cmd_Get_r7
  (.cond (.slot 21)
    cmd_Get_r8
    (.seq cmd_Get_r9
    (.cond (.slot 26)
      (.seq cmd_Get_r10
      cmd_Get_r11)
      (.seq cmd_Get_r12
      (.cond (.slot 34)
        cmd_Get_r13
        .skip))))))))
  (.seq (.seq cmd_Get_r14
  (.cond (.slot 46)
    cmd_Get_r15
    .skip))
  (.seq (.seq cmd_Get_r16
  (.cond (.slot 51)
    (.seq cmd_Get_r17
    .ret)
    .skip))
  (.seq cmd_Get_r18
  .ret)))))))
abbrev cmd_Get_F : FN := ⟨cmd_Get_c, [.cells 2 7]⟩
theorem cmd_Get_ok : compF Try.prog Try.f68 = some cmd_Get_F := by kernel_rfl
theorem cmd_Get_go {args : List Value} {m : Mem} {R : Value → Mem → Prop} (hn : args.length ≤ Try.f68.ntmps) (h : wpN Try.prog cmd_Get_c (retP cmd_Get_F.rvs R) (zipP 0 args) m) : MC Try.prog 68 args m R := MC_start Try.func68 cmd_Get_ok mixed_ok hn h
/-! concord/deps.Get -/
abbrev deps_Get_r0 : NC := .reg
    (.x 0 (.alc [(.int .i64 0), (.int .i64 0), (.int .i64 0), (.int .i64 0), (.int .i64 0), (.int .i64 0), (.int .i64 0), (.int .i64 0)] 35) [] none []
    (.out [(0, (.slot 0)), (2, (.res 0))]))
    [0]
abbrev deps_Get_r1 : NC := .reg
    (.x 1 (.call 44) [(.slot 0)] none []
    (.q 2 (.bld [(.int .i64 0), (.int .i64 0), (.int .i64 0), (.int .i64 0), (.int .i64 0), (.int .i64 0), (.int .i64 0), (.int .i64 0)] [(0, 1)]) [(.res 1)] none
    (.x 3 (.alc [(.int .i64 0), (.int .i64 0), (.int .i64 0), (.int .i64 0), (.int .i64 0), (.int .i64 0), (.int .i64 0), (.int .i64 0)] 35) [] none []
    (.x 4 (.st 8) [(.res 3), (.res 2)] none []
    (.out [(0, (.slot 0)), (2, (.slot 2)), (3, (.res 3))])))))
    [0, 2]
abbrev deps_Get_r2 : NC := .reg
    (.out [(0, (.slot 0)), (2, (.slot 2)), (3, (.slot 3)), (8, (.const (.int .i64 0)))])
    [0, 2, 3]
abbrev deps_Get_r3 : NC := .reg
    (.q 0 (.icm .lss) [(.slot 8), (.const (.int .i64 7))] none
    (.out [(0, (.slot 0)), (2, (.slot 2)), (3, (.slot 3)), (8, (.slot 8)), (9, (.res 0))]))
    [0, 2, 3, 8]
abbrev deps_Get_r4 : NC := .reg
    (.out [(0, (.slot 0)), (2, (.slot 2)), (3, (.slot 3)), (4, (.slot 8)), (8, (.slot 8))])
    [0, 2, 3, 8]
abbrev deps_Get_r5 : NC := .reg
    (.x 2 (.call 44) [(.slot 0)] none []
    (.q 3 (.fld 1) [(.slot 3)] none
    (.q 4 (.ixa 7 1) [(.res 3), (.slot 4)] none
    (.x 5 (.st 1) [(.res 4), (.res 2)] none []
    (.out [(0, (.slot 0)), (2, (.slot 2)), (3, (.slot 3)), (8, (.slot 8))])))))
    [0, 2, 3, 4, 8]
abbrev deps_Get_r6 : NC := .reg
    (.q 0 (.iar .add) [(.slot 8), (.const (.int .i64 1))] none
    (.out [(0, (.slot 0)), (2, (.slot 2)), (3, (.slot 3)), (8, (.res 0))]))
    [0, 2, 3, 8]
abbrev deps_Get_l0 : NC :=
  (.seq deps_Get_r3
  (.seq (.cond (.slot 9)
    .skip
    (.exit 0))
  (.seq (.block 1 (.seq deps_Get_r4
  deps_Get_r5))
  deps_Get_r6)))
abbrev deps_Get_r7 : NC := .reg
    (.x 1 (.call 71) [(.slot 0)] none []
    (.q 2 (.icm .eql) [(.res 1), (.const (.int .i64 0))] none
    (.q 4 (.lda 8) [(.slot 3)] (some ((.res 2), true))
    (.x 5 (.call 60) [(.res 4)] (some ((.res 2), true)) []
    (.q 6 .not [(.res 5)] (some ((.res 2), true))
    (.q 7 .pick [(.res 2), (.res 6), (.const (.bool false))] none
    (.out [(0, (.slot 0)), (2, (.slot 2)), (3, (.slot 3)), (24, (.res 7))])))))))
    [0, 2, 3]
abbrev deps_Get_r8 : NC := .reg
    (.x 1 (.call 72) [(.slot 0)] none []
    (.out [(0, (.slot 0)), (2, (.slot 2)), (3, (.slot 3))]))
    [0, 2, 3]
abbrev deps_Get_r9 : NC := .reg
    (.x 1 (.call 71) [(.slot 0)] none []
    (.q 2 (.icm .neq) [(.res 1), (.const (.int .i64 0))] none
    (.out [(2, (.slot 2)), (3, (.slot 3)), (29, (.res 2))])))
    [0, 2, 3]
abbrev deps_Get_r10 : NC := .reg
    (.q 0 (.bld [(.int .i64 0), (.int .i64 0), (.int .i64 0), (.int .i64 0), (.int .i64 0), (.int .i64 0), (.int .i64 0), (.int .i64 0)] []) [] none
    (.x 1 (.st 8) [(.slot 2), (.res 0)] none []
    (.out [(2, (.slot 2))])))
    [2]
abbrev deps_Get_r11 : NC := .reg
    (.q 0 (.lda 8) [(.slot 3)] none
    (.x 1 (.st 8) [(.slot 2), (.res 0)] none []
    (.out [(2, (.slot 2))])))
    [2, 3]
abbrev deps_Get_c : NC :=
  (.seq deps_Get_r0
  (.seq deps_Get_r1
  (.seq (.seq deps_Get_r2
  (.block 0 (.loop [0, 2, 3, 8] deps_Get_l0)))
  (.seq (.seq deps_Get_r7
  (.cond (.slot 24)
    deps_Get_r8
    .skip))
  (.seq (.seq deps_Get_r9
  (.cond (.slot 29)
    (.seq deps_Get_r10
    .ret)
    .skip))
  (.seq deps_Get_r11
  .ret))))))
abbrev deps_Get_F : FN := ⟨deps_Get_c, [.cells 2 8]⟩
theorem deps_Get_ok : compF Try.prog Try.f69 = some deps_Get_F := by kernel_rfl
theorem deps_Get_go {args : List Value} {m : Mem} {R : Value → Mem → Prop} (hn : args.length ≤ Try.f69.ntmps) (h : wpN Try.prog deps_Get_c (retP deps_Get_F.rvs R) (zipP 0 args) m) : MC Try.prog 69 args m R := MC_start Try.func69 deps_Get_ok mixed_ok hn h
/-! concord/cmd.Put -/
abbrev cmd_Put_r0 : NC := .reg
    (.x 0 (.box 33) [(.slot 1)] none []
    (.out [(0, (.slot 0)), (3, (.res 0))]))
    [0, 1]
abbrev cmd_Put_r1 : NC := .reg
    (.q 0 (.lda 7) [(.slot 3)] none
    (.x 1 (.call 59) [(.res 0)] none []
    (.q 2 .not [(.res 1)] none
    (.out [(0, (.slot 0)), (3, (.slot 3)), (7, (.res 2))]))))
    [0, 3]
abbrev cmd_Put_r2 : NC := .reg
    (.x 1 (.app 5 1 1 [(.int .u8 0)]) [(.const (.slice none 0 0)), (.slot 0)] none []
    (.out [(4, (.res 1))]))
    [0]
abbrev cmd_Put_r3 : NC := .reg
    (.q 1 (.fld 0) [(.slot 3)] none
    (.q 2 .ld [(.res 1)] none
    (.x 3 (.call 55) [(.slot 0), (.res 2)] none []
    (.out [(0, (.res 3)), (3, (.slot 3))]))))
    [0, 3]
abbrev cmd_Put_r4 : NC := .reg
    (.q 0 (.fld 0) [(.slot 3)] none
    (.q 1 .ld [(.res 0)] none
    (.q 2 (.icm .eql) [(.res 1), (.const (.int .i64 0))] none
    (.out [(0, (.slot 0)), (3, (.slot 3)), (16, (.res 2))]))))
    [0, 3]
abbrev cmd_Put_r5 : NC := .reg
    (.out [(4, (.slot 0))])
    [0]
abbrev cmd_Put_r6 : NC := .reg
    (.q 1 (.fld 1) [(.slot 3)] none
    (.q 2 .ld [(.res 1)] none
    (.q 4 (.fld 2) [(.slot 3)] none
    (.q 5 .ld [(.res 4)] none
    (.q 7 (.fld 3) [(.slot 3)] none
    (.q 8 .ld [(.res 7)] none
    (.x 3 (.call 55) [(.slot 0), (.res 2)] none [(5, .ld, [(.res 4)], none), (8, .ld, [(.res 7)], none)]
    (.x 6 (.call 55) [(.res 3), (.res 5)] none [(8, .ld, [(.res 7)], none)]
    (.x 9 (.call 105) [(.res 6), (.res 8)] none []
    (.out [(0, (.res 9)), (3, (.slot 3))]))))))))))
    [0, 3]
abbrev cmd_Put_r7 : NC := .reg
    (.q 0 (.fld 0) [(.slot 3)] none
    (.q 1 .ld [(.res 0)] none
    (.out [(0, (.slot 0)), (3, (.slot 3)), (29, (.res 1))])))
    [0, 3]
abbrev cmd_Put_r8 : NC := .reg
    (.q 0 (.icm .eql) [(.slot 29), (.const (.int .i64 2))] none
    (.out [(0, (.slot 0)), (3, (.slot 3)), (29, (.slot 29)), (30, (.res 0))]))
    [0, 3, 29]
abbrev cmd_Put_r9 : NC := .reg
    (.q 1 (.fld 6) [(.slot 3)] none
    (.q 2 .ld [(.res 1)] none
    (.x 3 (.call 105) [(.slot 0), (.res 2)] none []
    (.out [(0, (.res 3))]))))
    [0, 3]
abbrev cmd_Put_r10 : NC := .reg
    (.q 0 (.icm .eql) [(.slot 29), (.const (.int .i64 4))] none
    (.out [(0, (.slot 0)), (3, (.slot 3)), (29, (.slot 29)), (36, (.res 0))]))
    [0, 3, 29]
abbrev cmd_Put_r11 : NC := .reg
    (.q 1 (.fld 5) [(.slot 3)] none
    (.q 2 .ld [(.res 1)] none
    (.q 4 (.fld 6) [(.slot 3)] none
    (.q 5 .ld [(.res 4)] none
    (.x 3 (.call 105) [(.slot 0), (.res 2)] none [(5, .ld, [(.res 4)], none)]
    (.x 6 (.call 105) [(.res 3), (.res 5)] none []
    (.out [(0, (.res 6))])))))))
    [0, 3]
abbrev cmd_Put_r12 : NC := .reg
    (.q 0 (.icm .eql) [(.slot 29), (.const (.int .i64 5))] none
    (.out [(0, (.slot 0)), (3, (.slot 3)), (45, (.res 0))]))
    [0, 3, 29]
abbrev cmd_Put_r13 : NC := .reg
    (.q 1 (.fld 4) [(.slot 3)] none
    (.q 2 .ld [(.res 1)] none
    (.x 3 (.call 105) [(.slot 0), (.res 2)] none []
    (.out [(0, (.res 3))]))))
    [0, 3]
abbrev cmd_Put_r14 : NC := .reg
    (.out [(4, (.slot 0))])
    [0]
abbrev cmd_Put_c : NC :=
  (.seq cmd_Put_r0
  (.seq (.seq cmd_Put_r1
  (.cond (.slot 7)
    (.seq cmd_Put_r2
    .ret)
    .skip))
  (.seq cmd_Put_r3
  (.seq (.seq cmd_Put_r4
  (.cond (.slot 16)
    (.seq cmd_Put_r5
    .ret)
    .skip))
  (.seq cmd_Put_r6
  (.seq (.seq cmd_Put_r7
  (.block 0 (.seq cmd_Put_r8
  (.cond (.slot 30)
    cmd_Put_r9
    (.seq cmd_Put_r10
    (.cond (.slot 36)
      cmd_Put_r11
      (.seq cmd_Put_r12
      (.cond (.slot 45)
        cmd_Put_r13
        .skip))))))))
  (.seq cmd_Put_r14
  .ret)))))))
abbrev cmd_Put_F : FN := ⟨cmd_Put_c, [.slot 4]⟩
theorem cmd_Put_ok : compF Try.prog Try.f81 = some cmd_Put_F := by kernel_rfl
theorem cmd_Put_go {args : List Value} {m : Mem} {R : Value → Mem → Prop} (hn : args.length ≤ Try.f81.ntmps) (h : wpN Try.prog cmd_Put_c (retP cmd_Put_F.rvs R) (zipP 0 args) m) : MC Try.prog 81 args m R := MC_start Try.func81 cmd_Put_ok mixed_ok hn h
/-! concord/deps.Put -/
abbrev deps_Put_r0 : NC := .reg
    (.x 0 (.box 35) [(.slot 1)] none []
    (.out [(0, (.slot 0)), (3, (.res 0))]))
    [0, 1]
abbrev deps_Put_r1 : NC := .reg
    (.q 1 (.fld 0) [(.slot 3)] none
    (.q 2 .ld [(.res 1)] none
    (.x 3 (.call 55) [(.slot 0), (.res 2)] none []
    (.out [(0, (.res 3)), (3, (.slot 3))]))))
    [0, 3]
abbrev deps_Put_r2 : NC := .reg
    (.q 0 (.fld 1) [(.slot 3)] none
    (.q 1 (.lda 7) [(.res 0)] none
    (.out [(0, (.slot 0)), (12, (.res 1)), (13, (.const (.int .i64 0)))])))
    [0, 3]
abbrev deps_Put_r3 : NC := .reg
    (.q 0 (.icm .lss) [(.slot 13), (.const (.int .i64 7))] none
    (.out [(0, (.slot 0)), (12, (.slot 12)), (13, (.slot 13)), (14, (.res 0))]))
    [0, 12, 13]
abbrev deps_Put_r4 : NC := .reg
    (.q 0 (.idx 7 1) [(.slot 12), (.slot 13)] none
    (.out [(0, (.slot 0)), (6, (.res 0)), (12, (.slot 12)), (13, (.slot 13))]))
    [0, 12, 13]
abbrev deps_Put_r5 : NC := .reg
    (.x 2 (.call 55) [(.slot 0), (.slot 6)] none []
    (.out [(0, (.res 2)), (12, (.slot 12)), (13, (.slot 13))]))
    [0, 6, 12, 13]
abbrev deps_Put_r6 : NC := .reg
    (.q 0 (.iar .add) [(.slot 13), (.const (.int .i64 1))] none
    (.out [(0, (.slot 0)), (12, (.slot 12)), (13, (.res 0))]))
    [0, 12, 13]
abbrev deps_Put_l0 : NC :=
  (.seq deps_Put_r3
  (.seq (.cond (.slot 14)
    .skip
    (.exit 0))
  (.seq (.block 1 (.seq deps_Put_r4
  deps_Put_r5))
  deps_Put_r6)))
abbrev deps_Put_r7 : NC := .reg
    (.out [(4, (.slot 0))])
    [0]
abbrev deps_Put_c : NC :=
  (.seq deps_Put_r0
  (.seq deps_Put_r1
  (.seq (.seq deps_Put_r2
  (.block 0 (.loop [0, 12, 13] deps_Put_l0)))
  (.seq deps_Put_r7
  .ret))))
abbrev deps_Put_F : FN := ⟨deps_Put_c, [.slot 4]⟩
theorem deps_Put_ok : compF Try.prog Try.f83 = some deps_Put_F := by kernel_rfl
theorem deps_Put_go {args : List Value} {m : Mem} {R : Value → Mem → Prop} (hn : args.length ≤ Try.f83.ntmps) (h : wpN Try.prog deps_Put_c (retP deps_Put_F.rvs R) (zipP 0 args) m) : MC Try.prog 83 args m R := MC_start Try.func83 deps_Put_ok mixed_ok hn h
/-! concord/cmd.within -/
abbrev cmd_within_r0 : NC := .reg
    (.out [(0, (.slot 0)), (1, (.slot 1))])
    [0, 1]
abbrev cmd_within_r1 : NC := .reg
    (.q 1 (.icm .geq) [(.slot 0), (.const (.int .i64 1))] none
    (.q 3 .mv [(.slot 0)] (some ((.res 1), true))
    (.q 4 .mv [(.slot 1)] (some ((.res 1), true))
    (.q 5 (.icm .leq) [(.res 3), (.res 4)] (some ((.res 1), true))
    (.q 6 .pick [(.res 1), (.res 5), (.const (.bool false))] none
    (.out [(4, (.res 6))]))))))
    [0, 1]
abbrev cmd_within_c : NC :=
  (.seq cmd_within_r0
  (.seq cmd_within_r1
  .ret))
abbrev cmd_within_F : FN := ⟨cmd_within_c, [.slot 4]⟩
theorem cmd_within_ok : compF Try.prog Try.f90 = some cmd_within_F := by kernel_rfl
theorem cmd_within_go {args : List Value} {m : Mem} {R : Value → Mem → Prop} (hn : args.length ≤ Try.f90.ntmps) (h : wpN Try.prog cmd_within_c (retP cmd_within_F.rvs R) (zipP 0 args) m) : MC Try.prog 90 args m R := MC_start Try.func90 cmd_within_ok mixed_ok hn h
/-! concord/cmd.bare -/
abbrev cmd_bare_r0 : NC := .reg
    (.x 0 (.box 33) [(.slot 0)] none []
    (.x 1 (.alc [(.int .i64 0), (.int .i64 0), (.int .i64 0), (.string ⟨#[]⟩), (.string ⟨#[]⟩), (.string ⟨#[]⟩), (.string ⟨#[]⟩)] 33) [] none []
    (.out [(1, (.res 0)), (2, (.res 1))])))
    [0]
abbrev cmd_bare_r1 : NC := .reg
    (.q 0 (.fld 0) [(.slot 1)] none
    (.q 1 .ld [(.res 0)] none
    (.q 2 (.fld 1) [(.slot 1)] none
    (.q 3 .ld [(.res 2)] none
    (.q 4 (.fld 2) [(.slot 1)] none
    (.q 5 .ld [(.res 4)] none
    (.q 6 (.fld 3) [(.slot 1)] none
    (.q 7 .ld [(.res 6)] none
    (.q 8 (.bld [(.int .i64 0), (.int .i64 0), (.int .i64 0), (.string ⟨#[]⟩), (.string ⟨#[]⟩), (.string ⟨#[]⟩), (.string ⟨#[]⟩)] [(0, 1), (1, 1), (2, 1), (3, 1)]) [(.res 1), (.res 3), (.res 5), (.res 7)] none
    (.x 9 (.alc [(.int .i64 0), (.int .i64 0), (.int .i64 0), (.string ⟨#[]⟩), (.string ⟨#[]⟩), (.string ⟨#[]⟩), (.string ⟨#[]⟩)] 33) [] none []
    (.x 10 (.st 7) [(.res 9), (.res 8)] none []
    (.out [(1, (.slot 1)), (2, (.slot 2)), (3, (.res 9))]))))))))))))
    [1, 2]
abbrev cmd_bare_r2 : NC := .reg
    (.q 0 (.fld 0) [(.slot 1)] none
    (.q 1 .ld [(.res 0)] none
    (.out [(1, (.slot 1)), (2, (.slot 2)), (3, (.slot 3)), (14, (.res 1))])))
    [1, 2, 3]
abbrev cmd_bare_r3 : NC := .reg
    (.q 0 (.icm .eql) [(.slot 14), (.const (.int .i64 2))] none
    (.out [(1, (.slot 1)), (2, (.slot 2)), (3, (.slot 3)), (14, (.slot 14)), (15, (.res 0))]))
    [1, 2, 3, 14]
abbrev cmd_bare_r4 : NC := .reg
    (.q 0 (.fld 6) [(.slot 1)] none
    (.q 1 .ld [(.res 0)] none
    (.q 2 (.fld 6) [(.slot 3)] none
    (.x 3 (.st 1) [(.res 2), (.res 1)] none []
    (.out [(2, (.slot 2)), (3, (.slot 3))])))))
    [1, 2, 3]
abbrev cmd_bare_r5 : NC := .reg
    (.q 0 (.icm .eql) [(.slot 14), (.const (.int .i64 4))] none
    (.out [(1, (.slot 1)), (2, (.slot 2)), (3, (.slot 3)), (14, (.slot 14)), (20, (.res 0))]))
    [1, 2, 3, 14]
abbrev cmd_bare_r6 : NC := .reg
    (.q 0 (.fld 5) [(.slot 1)] none
    (.q 1 .ld [(.res 0)] none
    (.q 2 (.fld 6) [(.slot 1)] none
    (.q 3 .ld [(.res 2)] none
    (.q 4 (.fld 5) [(.slot 3)] none
    (.x 5 (.st 1) [(.res 4), (.res 1)] none [(3, .ld, [(.res 2)], none)]
    (.q 6 (.fld 6) [(.slot 3)] none
    (.x 7 (.st 1) [(.res 6), (.res 3)] none []
    (.out [(2, (.slot 2)), (3, (.slot 3))])))))))))
    [1, 2, 3]
abbrev cmd_bare_r7 : NC := .reg
    (.q 0 (.icm .eql) [(.slot 14), (.const (.int .i64 5))] none
    (.out [(1, (.slot 1)), (2, (.slot 2)), (3, (.slot 3)), (28, (.res 0))]))
    [1, 2, 3, 14]
abbrev cmd_bare_r8 : NC := .reg
    (.q 0 (.fld 4) [(.slot 1)] none
    (.q 1 .ld [(.res 0)] none
    (.q 2 (.fld 4) [(.slot 3)] none
    (.x 3 (.st 1) [(.res 2), (.res 1)] none []
    (.out [(2, (.slot 2)), (3, (.slot 3))])))))
    [1, 2, 3]
abbrev cmd_bare_r9 : NC := .reg
    (.q 0 (.lda 7) [(.slot 3)] none
    (.x 1 (.st 7) [(.slot 2), (.res 0)] none []
    (.out [(2, (.slot 2))])))
    [2, 3]
abbrev cmd_bare_c : NC :=
  (.seq cmd_bare_r0
  (.seq cmd_bare_r1
  (.seq (.seq cmd_bare_r2
  (.block 0 (.seq cmd_bare_r3
  (.cond (.slot 15)
    cmd_bare_r4
    (.seq cmd_bare_r5
    (.cond (.slot 20)
      cmd_bare_r6
      (.seq cmd_bare_r7
      (.cond (.slot 28)
        cmd_bare_r8
        .skip))))))))
  (.seq cmd_bare_r9
  .ret))))
abbrev cmd_bare_F : FN := ⟨cmd_bare_c, [.cells 2 7]⟩
theorem cmd_bare_ok : compF Try.prog Try.f91 = some cmd_bare_F := by kernel_rfl
theorem cmd_bare_go {args : List Value} {m : Mem} {R : Value → Mem → Prop} (hn : args.length ≤ Try.f91.ntmps) (h : wpN Try.prog cmd_bare_c (retP cmd_bare_F.rvs R) (zipP 0 args) m) : MC Try.prog 91 args m R := MC_start Try.func91 cmd_bare_ok mixed_ok hn h
end Go.Fw
