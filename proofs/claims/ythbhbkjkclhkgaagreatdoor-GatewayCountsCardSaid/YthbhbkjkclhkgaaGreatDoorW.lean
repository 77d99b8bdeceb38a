/-
The framework.
-/
import Derived.Test.YthbhbkjkclhkgaaGreatDoorA3
import Derived.Test.YthbhbkjkclhkgaaGreatDoorA4

namespace Go
abbrev Value.I(x:Int):Value:=.int .i64 x
abbrev TypeDesc.I:TypeDesc:=.int .i64
abbrev Cf.Sh.I:Cf.Sh:=.int .i64
end Go
