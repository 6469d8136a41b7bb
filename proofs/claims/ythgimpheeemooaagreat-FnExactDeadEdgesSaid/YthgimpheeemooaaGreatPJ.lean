/-
  How much states and graphs hold.
-/
import Derived.Test.YthgimpheeemooaaGreatE5
import Derived.Test.YthgimpheeemooaaGreatPF
namespace Go.Proofs.YthgimpheeemooaaGreat
open Go
set_option linter.all false
set_option linter.unusedVariables false
set_option linter.unusedSimpArgs false
set_option linter.defProp false
set_option maxRecDepth 1000000

theorem cnt_StateS' (l : List Sta) : Mk.cnt l ≤ 1 * Sz.sz l := cnt_le fun p _ => by
  have h1 := cnt_ints p.locs
  have h2 := cnt_ints p.vals
  have h3 : Sz.sz p = Sz.sz p.locs + Sz.sz p.vals := rfl
  have h4 := sz_list p.locs
  have h5 := sz_list p.vals
  rw [cnt_Sta, h3]; omega
theorem cnt_IntSS' (l : List (List Int)) : Mk.cnt l ≤ 1 * Sz.sz l := cnt_le fun p _ => by
  have h1 := cnt_ints p
  have h4 := sz_list p
  omega
theorem cnt_State {x : Sta} (h : Sz.sz x ≤ 1048576) : Mk.cnt x ≤ 1048576 := by
  have h1 := cnt_ints x.locs
  have h2 := cnt_ints x.vals
  have h3 : Sz.sz x = Sz.sz x.locs + Sz.sz x.vals := rfl
  have h4 := sz_list x.locs
  have h5 := sz_list x.vals
  rw [cnt_Sta]; omega
theorem cnt_Graph {x : Gr} (h : Sz.sz x ≤ 1048576) : Mk.cnt x ≤ 1048576 := by
  have h1 := cnt_StateS' x.states
  have h2 := cnt_IntSS' x.next
  have h3 : Sz.sz x = Sz.sz x.states + Sz.sz x.next := rfl
  rw [cnt_Gr]; omega
end Go.Proofs.YthgimpheeemooaaGreat
