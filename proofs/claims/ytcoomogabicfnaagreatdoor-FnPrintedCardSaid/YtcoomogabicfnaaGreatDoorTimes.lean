/-
  The walks of TimesIn, the program's and the reference's.
-/
import Derived.Test.YtcoomogabicfnaaGreatDoorEqs
namespace Go.Proofs.YtcoomogabicfnaaGreatDoor
open Go.RowKit
set_option linter.unusedVariables false
set_option linter.unusedSimpArgs false

def timesIn (l : List Firing) (e : Int) : List Int := (l.filter fun f => f.event = e).map (·.time)
def timesInF (l : List Firing) (e : Int) : List Int × Int := if l.length ≤ 500 then (timesIn l e, 0) else ([], 2)
theorem timesIn_snoc (l : List Firing) (x : Firing) (e : Int) : timesIn (l ++ [x]) e = timesIn l e ++ if x.event = e then [x.time] else [] := by
  unfold timesIn
  by_cases h : x.event = e <;> simp [List.filter_append, h]
theorem timesIn_len (l : List Firing) (e : Int) : (timesIn l e).length ≤ l.length := by
  unfold timesIn
  simpa using List.length_filter_le _ _
theorem timesInF_len (l : List Firing) (e : Int) : (timesInF l e).1.length ≤ l.length := by
  unfold timesInF
  split
  · exact timesIn_len l e
  · simp

end Go.Proofs.YtcoomogabicfnaaGreatDoor
