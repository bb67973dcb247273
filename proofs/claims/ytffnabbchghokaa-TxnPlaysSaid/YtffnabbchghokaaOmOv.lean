/-
  MAPS IN ORDER: any value of one cell, to be kept in a map.
-/
import Derived.Test.YtffnabbchghokaaOmP
namespace Go.Ez
open Go
/-- a value of one cell -/
structure OneV where
  v : Value
  one : v.oneCell' = true
instance : Enc OneV := ⟨OneV.v, OneV.one⟩
end Go.Ez
