/- The walk of the law FnExactWriteJournal: it returns true, and nothing that was there is changed. -/
import Derived.Test.YtgiblgocfkppmaaDoorJou2
namespace Go.Proofs.YtgiblgocfkppmaaDoor
open Go.RowKit
set_option linter.unusedVariables false

set_option maxRecDepth 100000 in
set_option maxHeartbeats 8000000 in
theorem law_WriteJournal (A : Option Addr) (c : Nat) (L : List EntryD) (w : World) (hr : Rd w w.heap.size A (L.length * 2) (L.flatMap entryC)) (hl : L.length ≤ maxLen) (hW : ∀ x ∈ L, EntryW x) (ht : TabW w) :
    Calls Tryd.prog 4 #[.slice A L.length c] w fun e w' => e = .returned (.bool true) ∧ Below w.heap.size w w' := by
  unfold maxLen at hl
  have HTAB := Lib.hid ht
  clear ht
  go_enter Tryd.func4, Tryd.ntmps4
  go_wp2_with fail
  refine (szEntryS_c A c L 1048576 w hr (by omega) hW (by omega) (by omega)).mono ?_
  rintro e w1 ⟨r1, rfl, hr1a, hr1b, hr1c, hb1⟩
  have hB2 := hb1
  have hzw1 := hb1.size
  by_cases hsr1 : r1 < 0
  · go_wp2
    go_ret
    exact ⟨rfl, hB2⟩
  have hr1d := hr1c (by omega)
  go_wp2_with fail
  refine (toEntryS_c A c L w1 (rdW hB2 hr) (by omega)).mono ?_
  rintro e w3 ⟨g3, rfl, ho3, hb3⟩
  have hB4 := bt hB2 hb3
  have hzw3 := hb3.size
  have HLho3 := Lib.hid (World.ownsRow.lt ho3)
  go_wp2_with fail
  refine (spec_WriteJournal (some ⟨g3, 0, none⟩) L.length L w3 (Rd.of_own ho3) (by omega) (by omega) hW).mono ?_
  rintro e w5 ⟨rfl, hb5⟩
  have hB6 := bt hB4 hb5
  have hzw5 := hb5.size
  replace ho3 := own_below ho3 hb5
  go_wp2_with fail
  refine (toEntryS_c A c L w5 (rdW hB6 hr) (by omega)).mono ?_
  rintro e w7 ⟨g7, rfl, ho7, hb7⟩
  have hB8 := bt hB6 hb7
  have hzw7 := hb7.size
  replace ho3 := own_below ho3 hb7
  have HLho7 := Lib.hid (World.ownsRow.lt ho7)
  go_wp2_with fail
  refine (impl_WriteJournal (some ⟨g7, 0, none⟩) L.length L w7 (Rd.of_own ho7) (by omega) (by omega) hW (HTAB.out.below hB8)).mono ?_
  rintro e w9 ⟨rfl, hb9⟩
  have hB10 := bt hB8 hb9
  have hzw9 := hb9.size
  replace ho3 := own_below ho3 hb9
  replace ho7 := own_below ho7 hb9
  go_wp2_with fail
  refine (toEntryS_c A c L w9 (rdW hB10 hr) (by omega)).mono ?_
  rintro e w11 ⟨g11, rfl, ho11, hb11⟩
  have hB12 := bt hB10 hb11
  have hzw11 := hb11.size
  replace ho3 := own_below ho3 hb11
  replace ho7 := own_below ho7 hb11
  have HLho11 := Lib.hid (World.ownsRow.lt ho11)
  go_wp2_with fail
  refine (eqEntryS_c (some ⟨g7, 0, none⟩) (some ⟨g11, 0, none⟩) L.length L.length L w11 (Rd.of_own ho7) (Rd.of_own ho11) (by omega)).mono ?_
  rintro e w13 ⟨rfl, hb13⟩
  have hB14 := bt hB12 hb13
  have hzw13 := hb13.size
  replace ho3 := own_below ho3 hb13
  replace ho7 := own_below ho7 hb13
  replace ho11 := own_below ho11 hb13
  go_wp2
  go_ret
  exact ⟨rfl, hB14⟩
end Go.Proofs.YtgiblgocfkppmaaDoor
