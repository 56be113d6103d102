/-
  DERIVED. GIVEN WITH THE SEED: THE CARDS: each row of YtgfjjhojbpheeaaDoorRows.lean that lists a variable, with what it lists TIED to the program's text (the seventh form; the later family's looks); each row that meets fmt, with fmt's text TOLD by the authors' own Lean function (tested against real Go, not proved from fmt's source: count such statements apart). THE CARD IS WHAT COUNTS. Prove the row's statement (the work); the ties are given (YtgfjjhojbpheeaaDoorTie.lean); close each card by the builder's one call (the guide's Derived/Test/ToyasCard.lean, 'card_holds'). Laid BY PROGRAM, IN A SANDBOX (cutbox-door.mjs). By AI agents, Wed Nov 11 2026. No macro, syntax, notation, axiom, sorry.
-/
import Derived.Test.YtgfjjhojbpheeaaDoorRows
import GoSem.ClaimSeven
namespace Go.Proofs.YtgfjjhojbpheeaaDoor
namespace Rows

/-- THE TIED CARD OF 'talkeep.CalLast'. -/
def calLastCard : Claim7 := { stood := { row := calLastRow, standIns := [], harness := (true, "7d9a6dfdc7aeb63b07d37e9c0aca45f157da3a151d17e8d758930e1817a30d35"), looks := false }, kinds := [], alts := [], laidByText := true, laidKinds := [.data], laidTests := true, laidLooks := .later }
def CalLastCardSaid : Prop := Claim7.holds Tryd.pinned (.plain (OpenSpec.ofChange calLastSpec)) calLastCard

/-- THE TIED CARD OF 'talkeep.CalBack'. -/
def calBackCard : Claim7 := { stood := { row := calBackRow, standIns := [], harness := (true, "7d9a6dfdc7aeb63b07d37e9c0aca45f157da3a151d17e8d758930e1817a30d35"), looks := false }, kinds := [], alts := [], laidByText := true, laidKinds := [.data], laidTests := true, laidLooks := .later }
def CalBackCardSaid : Prop := Claim7.holds Tryd.pinned (.plain (OpenSpec.ofChange calBackSpec)) calBackCard

/-- THE TIED CARD OF 'talkeep.CalCycle'. -/
def calCycleCard : Claim7 := { stood := { row := calCycleRow, standIns := [], harness := (true, "7d9a6dfdc7aeb63b07d37e9c0aca45f157da3a151d17e8d758930e1817a30d35"), looks := false }, kinds := [], alts := [], laidByText := true, laidKinds := [.data], laidTests := true, laidLooks := .later }
def CalCycleCardSaid : Prop := Claim7.holds Tryd.pinned (.plain (OpenSpec.ofChange calCycleSpec)) calCycleCard

/-- THE TIED CARD OF 'talkeep.CalGrows'. -/
def calGrowsCard : Claim7 := { stood := { row := calGrowsRow, standIns := [], harness := (true, "7d9a6dfdc7aeb63b07d37e9c0aca45f157da3a151d17e8d758930e1817a30d35"), looks := false }, kinds := [], alts := [], laidByText := true, laidKinds := [.data], laidTests := true, laidLooks := .later }
def CalGrowsCardSaid : Prop := Claim7.holds Tryd.pinned (.plain (OpenSpec.ofChange calGrowsSpec)) calGrowsCard

/-- THE TIED CARD OF 'talkeep.CalMonths'. -/
def calMonthsCard : Claim7 := { stood := { row := calMonthsRow, standIns := [], harness := (true, "7d9a6dfdc7aeb63b07d37e9c0aca45f157da3a151d17e8d758930e1817a30d35"), looks := false }, kinds := [], alts := [], laidByText := true, laidKinds := [.data], laidTests := true, laidLooks := .later }
def CalMonthsCardSaid : Prop := Claim7.holds Tryd.pinned (.plain (OpenSpec.ofChange calMonthsSpec)) calMonthsCard

/-- THE TIED CARD OF 'talkeep.CalAdds'. -/
def calAddsCard : Claim7 := { stood := { row := calAddsRow, standIns := [], harness := (true, "7d9a6dfdc7aeb63b07d37e9c0aca45f157da3a151d17e8d758930e1817a30d35"), looks := false }, kinds := [], alts := [], laidByText := true, laidKinds := [.data], laidTests := true, laidLooks := .later }
def CalAddsCardSaid : Prop := Claim7.holds Tryd.pinned (.plain (OpenSpec.ofChange calAddsSpec)) calAddsCard

/-- THE TIED CARD OF 'talkeep.CalYears'. -/
def calYearsCard : Claim7 := { stood := { row := calYearsRow, standIns := [], harness := (true, "7d9a6dfdc7aeb63b07d37e9c0aca45f157da3a151d17e8d758930e1817a30d35"), looks := false }, kinds := [], alts := [], laidByText := true, laidKinds := [.data], laidTests := true, laidLooks := .later }
def CalYearsCardSaid : Prop := Claim7.holds Tryd.pinned (.plain (OpenSpec.ofChange calYearsSpec)) calYearsCard

/-- THE TIED CARD OF 'talkeep.CalBetween'. -/
def calBetweenCard : Claim7 := { stood := { row := calBetweenRow, standIns := [], harness := (true, "7d9a6dfdc7aeb63b07d37e9c0aca45f157da3a151d17e8d758930e1817a30d35"), looks := false }, kinds := [], alts := [], laidByText := true, laidKinds := [.data], laidTests := true, laidLooks := .later }
def CalBetweenCardSaid : Prop := Claim7.holds Tryd.pinned (.plain (OpenSpec.ofChange calBetweenSpec)) calBetweenCard

/-- THE TIED CARD OF 'talkeep.CountYears'. -/
def countYearsCard : Claim7 := { stood := { row := countYearsRow, standIns := [], harness := (true, "7d9a6dfdc7aeb63b07d37e9c0aca45f157da3a151d17e8d758930e1817a30d35"), looks := false }, kinds := [], alts := [], laidByText := true, laidKinds := [.data], laidTests := true, laidLooks := .later }
def CountYearsCardSaid : Prop := Claim7.holds Tryd.pinned (.plain (OpenSpec.ofChange countYearsSpec)) countYearsCard

/-- THE TIED CARD OF 'talkeep.CountNear'. -/
def countNearCard : Claim7 := { stood := { row := countNearRow, standIns := [], harness := (true, "7d9a6dfdc7aeb63b07d37e9c0aca45f157da3a151d17e8d758930e1817a30d35"), looks := false }, kinds := [], alts := [], laidByText := true, laidKinds := [.data], laidTests := true, laidLooks := .later }
def CountNearCardSaid : Prop := Claim7.holds Tryd.pinned (.plain (OpenSpec.ofChange countNearSpec)) countNearCard

/-- THE TIED CARD OF 'talkeep.CountAdds'. -/
def countAddsCard : Claim7 := { stood := { row := countAddsRow, standIns := [], harness := (true, "7d9a6dfdc7aeb63b07d37e9c0aca45f157da3a151d17e8d758930e1817a30d35"), looks := false }, kinds := [], alts := [], laidByText := true, laidKinds := [.data], laidTests := true, laidLooks := .later }
def CountAddsCardSaid : Prop := Claim7.holds Tryd.pinned (.plain (OpenSpec.ofChange countAddsSpec)) countAddsCard

/-- THE TIED CARD OF 'talkeep.EarnMonths'. -/
def earnMonthsCard : Claim7 := { stood := { row := earnMonthsRow, standIns := [], harness := (true, "7d9a6dfdc7aeb63b07d37e9c0aca45f157da3a151d17e8d758930e1817a30d35"), looks := false }, kinds := [], alts := [], laidByText := true, laidKinds := [.data], laidTests := true, laidLooks := .later }
def EarnMonthsCardSaid : Prop := Claim7.holds Tryd.pinned (.plain (OpenSpec.ofChange earnMonthsSpec)) earnMonthsCard

/-- THE SECOND FORM's CARD OF 'talkeep.CalLast'. -/
def calLastUptoCard : Claim7 := { stood := { row := calLastUptoRow, standIns := [], harness := (true, "7d9a6dfdc7aeb63b07d37e9c0aca45f157da3a151d17e8d758930e1817a30d35"), looks := false }, kinds := [], alts := [], laidByText := true, laidKinds := [.data], laidTests := true, laidLooks := .later }
def CalLastUptoCardSaid : Prop := Claim7.holds Tryd.pinned (.plain (OpenSpec.upto calLastSpec)) calLastUptoCard

/-- THE SECOND FORM's CARD OF 'talkeep.CalBack'. -/
def calBackUptoCard : Claim7 := { stood := { row := calBackUptoRow, standIns := [], harness := (true, "7d9a6dfdc7aeb63b07d37e9c0aca45f157da3a151d17e8d758930e1817a30d35"), looks := false }, kinds := [], alts := [], laidByText := true, laidKinds := [.data], laidTests := true, laidLooks := .later }
def CalBackUptoCardSaid : Prop := Claim7.holds Tryd.pinned (.plain (OpenSpec.upto calBackSpec)) calBackUptoCard

/-- THE SECOND FORM's CARD OF 'talkeep.CalCycle'. -/
def calCycleUptoCard : Claim7 := { stood := { row := calCycleUptoRow, standIns := [], harness := (true, "7d9a6dfdc7aeb63b07d37e9c0aca45f157da3a151d17e8d758930e1817a30d35"), looks := false }, kinds := [], alts := [], laidByText := true, laidKinds := [.data], laidTests := true, laidLooks := .later }
def CalCycleUptoCardSaid : Prop := Claim7.holds Tryd.pinned (.plain (OpenSpec.upto calCycleSpec)) calCycleUptoCard

/-- THE SECOND FORM's CARD OF 'talkeep.CalGrows'. -/
def calGrowsUptoCard : Claim7 := { stood := { row := calGrowsUptoRow, standIns := [], harness := (true, "7d9a6dfdc7aeb63b07d37e9c0aca45f157da3a151d17e8d758930e1817a30d35"), looks := false }, kinds := [], alts := [], laidByText := true, laidKinds := [.data], laidTests := true, laidLooks := .later }
def CalGrowsUptoCardSaid : Prop := Claim7.holds Tryd.pinned (.plain (OpenSpec.upto calGrowsSpec)) calGrowsUptoCard

/-- THE SECOND FORM's CARD OF 'talkeep.CalMonths'. -/
def calMonthsUptoCard : Claim7 := { stood := { row := calMonthsUptoRow, standIns := [], harness := (true, "7d9a6dfdc7aeb63b07d37e9c0aca45f157da3a151d17e8d758930e1817a30d35"), looks := false }, kinds := [], alts := [], laidByText := true, laidKinds := [.data], laidTests := true, laidLooks := .later }
def CalMonthsUptoCardSaid : Prop := Claim7.holds Tryd.pinned (.plain (OpenSpec.upto calMonthsSpec)) calMonthsUptoCard

/-- THE SECOND FORM's CARD OF 'talkeep.CalAdds'. -/
def calAddsUptoCard : Claim7 := { stood := { row := calAddsUptoRow, standIns := [], harness := (true, "7d9a6dfdc7aeb63b07d37e9c0aca45f157da3a151d17e8d758930e1817a30d35"), looks := false }, kinds := [], alts := [], laidByText := true, laidKinds := [.data], laidTests := true, laidLooks := .later }
def CalAddsUptoCardSaid : Prop := Claim7.holds Tryd.pinned (.plain (OpenSpec.upto calAddsSpec)) calAddsUptoCard

/-- THE SECOND FORM's CARD OF 'talkeep.CalYears'. -/
def calYearsUptoCard : Claim7 := { stood := { row := calYearsUptoRow, standIns := [], harness := (true, "7d9a6dfdc7aeb63b07d37e9c0aca45f157da3a151d17e8d758930e1817a30d35"), looks := false }, kinds := [], alts := [], laidByText := true, laidKinds := [.data], laidTests := true, laidLooks := .later }
def CalYearsUptoCardSaid : Prop := Claim7.holds Tryd.pinned (.plain (OpenSpec.upto calYearsSpec)) calYearsUptoCard

/-- THE SECOND FORM's CARD OF 'talkeep.CalBetween'. -/
def calBetweenUptoCard : Claim7 := { stood := { row := calBetweenUptoRow, standIns := [], harness := (true, "7d9a6dfdc7aeb63b07d37e9c0aca45f157da3a151d17e8d758930e1817a30d35"), looks := false }, kinds := [], alts := [], laidByText := true, laidKinds := [.data], laidTests := true, laidLooks := .later }
def CalBetweenUptoCardSaid : Prop := Claim7.holds Tryd.pinned (.plain (OpenSpec.upto calBetweenSpec)) calBetweenUptoCard

/-- THE SECOND FORM's CARD OF 'talkeep.CountYears'. -/
def countYearsUptoCard : Claim7 := { stood := { row := countYearsUptoRow, standIns := [], harness := (true, "7d9a6dfdc7aeb63b07d37e9c0aca45f157da3a151d17e8d758930e1817a30d35"), looks := false }, kinds := [], alts := [], laidByText := true, laidKinds := [.data], laidTests := true, laidLooks := .later }
def CountYearsUptoCardSaid : Prop := Claim7.holds Tryd.pinned (.plain (OpenSpec.upto countYearsSpec)) countYearsUptoCard

/-- THE SECOND FORM's CARD OF 'talkeep.CountNear'. -/
def countNearUptoCard : Claim7 := { stood := { row := countNearUptoRow, standIns := [], harness := (true, "7d9a6dfdc7aeb63b07d37e9c0aca45f157da3a151d17e8d758930e1817a30d35"), looks := false }, kinds := [], alts := [], laidByText := true, laidKinds := [.data], laidTests := true, laidLooks := .later }
def CountNearUptoCardSaid : Prop := Claim7.holds Tryd.pinned (.plain (OpenSpec.upto countNearSpec)) countNearUptoCard

/-- THE SECOND FORM's CARD OF 'talkeep.CountAdds'. -/
def countAddsUptoCard : Claim7 := { stood := { row := countAddsUptoRow, standIns := [], harness := (true, "7d9a6dfdc7aeb63b07d37e9c0aca45f157da3a151d17e8d758930e1817a30d35"), looks := false }, kinds := [], alts := [], laidByText := true, laidKinds := [.data], laidTests := true, laidLooks := .later }
def CountAddsUptoCardSaid : Prop := Claim7.holds Tryd.pinned (.plain (OpenSpec.upto countAddsSpec)) countAddsUptoCard

/-- THE SECOND FORM's CARD OF 'talkeep.EarnMonths'. -/
def earnMonthsUptoCard : Claim7 := { stood := { row := earnMonthsUptoRow, standIns := [], harness := (true, "7d9a6dfdc7aeb63b07d37e9c0aca45f157da3a151d17e8d758930e1817a30d35"), looks := false }, kinds := [], alts := [], laidByText := true, laidKinds := [.data], laidTests := true, laidLooks := .later }
def EarnMonthsUptoCardSaid : Prop := Claim7.holds Tryd.pinned (.plain (OpenSpec.upto earnMonthsSpec)) earnMonthsUptoCard
end Rows
end Go.Proofs.YtgfjjhojbpheeaaDoor
