/-
  DERIVED. GIVEN WITH THE SEED: THE CARDS: each row of YthpmhjlndnelfaaDoorRows.lean that lists a variable, with what it lists TIED to the program's text (the seventh form; the later family's looks); each row that meets fmt, with fmt's text TOLD by the authors' own Lean function (tested against real Go, not proved from fmt's source: count such statements apart). THE CARD IS WHAT COUNTS. Prove the row's statement (the work); the ties are given (YthpmhjlndnelfaaDoorTie.lean); close each card by the builder's one call (the guide's Derived/Test/ToyasCard.lean, 'card_holds'). Laid BY PROGRAM, IN A SANDBOX (cutbox-door.mjs). By AI agents, Wed Nov 11 2026. No macro, syntax, notation, axiom, sorry.
-/
import Derived.Test.YthpmhjlndnelfaaDoorRows
import GoSem.ClaimSeven
namespace Go.Proofs.YthpmhjlndnelfaaDoor
namespace Rows

/-- THE TIED CARD OF 'vagabondlaw02.RealTurned'. -/
def realTurnedCard : Claim7 := { stood := { row := realTurnedRow, standIns := [], harness := (true, "4547ae67bae789df3e3b7fe05e0391ac6b627b88512cc0cb24a2a879f0bdabd7"), looks := false }, kinds := [], alts := [], laidByText := true, laidKinds := [.data, .data, .data, .data, .pinned, .pinned], laidTests := true, laidLooks := .later }
def RealTurnedCardSaid : Prop := Claim7.holds Tryd.pinned (.plain (OpenSpec.ofChange realTurnedSpec)) realTurnedCard

/-- THE TIED CARD OF 'vagabondlaw02.RealOrder'. -/
def realOrderCard : Claim7 := { stood := { row := realOrderRow, standIns := [], harness := (true, "4547ae67bae789df3e3b7fe05e0391ac6b627b88512cc0cb24a2a879f0bdabd7"), looks := false }, kinds := [], alts := [], laidByText := true, laidKinds := [.data, .data, .data, .data, .pinned, .pinned], laidTests := true, laidLooks := .later }
def RealOrderCardSaid : Prop := Claim7.holds Tryd.pinned (.plain (OpenSpec.ofChange realOrderSpec)) realOrderCard

/-- THE TIED CARD OF 'vagabondlaw02.RealRatios'. -/
def realRatiosCard : Claim7 := { stood := { row := realRatiosRow, standIns := [], harness := (true, "4547ae67bae789df3e3b7fe05e0391ac6b627b88512cc0cb24a2a879f0bdabd7"), looks := false }, kinds := [], alts := [], laidByText := true, laidKinds := [.data, .data, .data, .data, .pinned, .pinned], laidTests := true, laidLooks := .later }
def RealRatiosCardSaid : Prop := Claim7.holds Tryd.pinned (.plain (OpenSpec.ofChange realRatiosSpec)) realRatiosCard

/-- THE TIED CARD OF 'vagabondlaw02.RealWholes'. -/
def realWholesCard : Claim7 := { stood := { row := realWholesRow, standIns := [], harness := (true, "4547ae67bae789df3e3b7fe05e0391ac6b627b88512cc0cb24a2a879f0bdabd7"), looks := false }, kinds := [], alts := [], laidByText := true, laidKinds := [.data, .data, .data, .data, .pinned, .pinned], laidTests := true, laidLooks := .later }
def RealWholesCardSaid : Prop := Claim7.holds Tryd.pinned (.plain (OpenSpec.ofChange realWholesSpec)) realWholesCard

/-- THE TIED CARD OF 'vagabondlaw14.ClockStamps'. -/
def clockStampsCard : Claim7 := { stood := { row := clockStampsRow, standIns := [], harness := (true, "4547ae67bae789df3e3b7fe05e0391ac6b627b88512cc0cb24a2a879f0bdabd7"), looks := false }, kinds := [], alts := [], laidByText := true, laidKinds := [.data, .data, .data, .data, .pinned, .pinned], laidTests := true, laidLooks := .later }
def ClockStampsCardSaid : Prop := Claim7.holds Tryd.pinned (.plain (OpenSpec.ofChange clockStampsSpec)) clockStampsCard

/-- THE TIED CARD OF 'vagabondlaw25.DrainOnce'. -/
def drainOnceCard : Claim7 := { stood := { row := drainOnceRow, standIns := [], harness := (true, "4547ae67bae789df3e3b7fe05e0391ac6b627b88512cc0cb24a2a879f0bdabd7"), looks := false }, kinds := [], alts := [], laidByText := true, laidKinds := [.data, .data, .data, .data, .pinned, .pinned], laidTests := true, laidLooks := .later }
def DrainOnceCardSaid : Prop := Claim7.holds Tryd.pinned (.plain (OpenSpec.ofChange drainOnceSpec)) drainOnceCard

/-- THE TIED CARD OF 'vagabondlaw02.RealHeld'. -/
def realHeldCard : Claim7 := { stood := { row := realHeldRow, standIns := [], harness := (true, "4547ae67bae789df3e3b7fe05e0391ac6b627b88512cc0cb24a2a879f0bdabd7"), looks := false }, kinds := [], alts := [], laidByText := true, laidKinds := [.data, .data, .data, .data, .pinned, .pinned], laidTests := true, laidLooks := .later }
def RealHeldCardSaid : Prop := Claim7.holds Tryd.pinned (.plain (OpenSpec.ofChange realHeldSpec)) realHeldCard

/-- THE TIED CARD OF 'vagabondlaw02.RealBytes'. -/
def realBytesCard : Claim7 := { stood := { row := realBytesRow, standIns := [], harness := (true, "4547ae67bae789df3e3b7fe05e0391ac6b627b88512cc0cb24a2a879f0bdabd7"), looks := false }, kinds := [], alts := [], laidByText := true, laidKinds := [.data, .data, .data, .data, .pinned, .pinned], laidTests := true, laidLooks := .later }
def RealBytesCardSaid : Prop := Claim7.holds Tryd.pinned (.plain (OpenSpec.ofChange realBytesSpec)) realBytesCard

/-- THE TIED CARD OF 'vagabondlaw25.DrainTurns'. -/
def drainTurnsCard : Claim7 := { stood := { row := drainTurnsRow, standIns := [], harness := (true, "4547ae67bae789df3e3b7fe05e0391ac6b627b88512cc0cb24a2a879f0bdabd7"), looks := false }, kinds := [], alts := [], laidByText := true, laidKinds := [.data, .data, .data, .data, .pinned, .pinned], laidTests := true, laidLooks := .later }
def DrainTurnsCardSaid : Prop := Claim7.holds Tryd.pinned (.plain (OpenSpec.ofChange drainTurnsSpec)) drainTurnsCard

/-- THE TIED CARD OF 'vagabondlaw02.RealHolds'. -/
def realHoldsCard : Claim7 := { stood := { row := realHoldsRow, standIns := [], harness := (true, "4547ae67bae789df3e3b7fe05e0391ac6b627b88512cc0cb24a2a879f0bdabd7"), looks := false }, kinds := [], alts := [], laidByText := true, laidKinds := [.data, .data, .data, .data, .pinned, .pinned], laidTests := true, laidLooks := .later }
def RealHoldsCardSaid : Prop := Claim7.holds Tryd.pinned (.plain (OpenSpec.ofChange realHoldsSpec)) realHoldsCard

/-- THE TIED CARD OF 'vagabondlaw25.DrainShares'. -/
def drainSharesCard : Claim7 := { stood := { row := drainSharesRow, standIns := [], harness := (true, "4547ae67bae789df3e3b7fe05e0391ac6b627b88512cc0cb24a2a879f0bdabd7"), looks := false }, kinds := [], alts := [], laidByText := true, laidKinds := [.data, .data, .data, .data, .pinned, .pinned], laidTests := true, laidLooks := .later }
def DrainSharesCardSaid : Prop := Claim7.holds Tryd.pinned (.plain (OpenSpec.ofChange drainSharesSpec)) drainSharesCard

/-- THE SECOND FORM's CARD OF 'vagabondlaw02.RealTurned'. -/
def realTurnedUptoCard : Claim7 := { stood := { row := realTurnedUptoRow, standIns := [], harness := (true, "4547ae67bae789df3e3b7fe05e0391ac6b627b88512cc0cb24a2a879f0bdabd7"), looks := false }, kinds := [], alts := [], laidByText := true, laidKinds := [.data, .data, .data, .data, .pinned, .pinned], laidTests := true, laidLooks := .later }
def RealTurnedUptoCardSaid : Prop := Claim7.holds Tryd.pinned (.plain (OpenSpec.upto realTurnedSpec)) realTurnedUptoCard

/-- THE SECOND FORM's CARD OF 'vagabondlaw02.RealOrder'. -/
def realOrderUptoCard : Claim7 := { stood := { row := realOrderUptoRow, standIns := [], harness := (true, "4547ae67bae789df3e3b7fe05e0391ac6b627b88512cc0cb24a2a879f0bdabd7"), looks := false }, kinds := [], alts := [], laidByText := true, laidKinds := [.data, .data, .data, .data, .pinned, .pinned], laidTests := true, laidLooks := .later }
def RealOrderUptoCardSaid : Prop := Claim7.holds Tryd.pinned (.plain (OpenSpec.upto realOrderSpec)) realOrderUptoCard

/-- THE SECOND FORM's CARD OF 'vagabondlaw02.RealRatios'. -/
def realRatiosUptoCard : Claim7 := { stood := { row := realRatiosUptoRow, standIns := [], harness := (true, "4547ae67bae789df3e3b7fe05e0391ac6b627b88512cc0cb24a2a879f0bdabd7"), looks := false }, kinds := [], alts := [], laidByText := true, laidKinds := [.data, .data, .data, .data, .pinned, .pinned], laidTests := true, laidLooks := .later }
def RealRatiosUptoCardSaid : Prop := Claim7.holds Tryd.pinned (.plain (OpenSpec.upto realRatiosSpec)) realRatiosUptoCard

/-- THE SECOND FORM's CARD OF 'vagabondlaw02.RealWholes'. -/
def realWholesUptoCard : Claim7 := { stood := { row := realWholesUptoRow, standIns := [], harness := (true, "4547ae67bae789df3e3b7fe05e0391ac6b627b88512cc0cb24a2a879f0bdabd7"), looks := false }, kinds := [], alts := [], laidByText := true, laidKinds := [.data, .data, .data, .data, .pinned, .pinned], laidTests := true, laidLooks := .later }
def RealWholesUptoCardSaid : Prop := Claim7.holds Tryd.pinned (.plain (OpenSpec.upto realWholesSpec)) realWholesUptoCard

/-- THE SECOND FORM's CARD OF 'vagabondlaw14.ClockStamps'. -/
def clockStampsUptoCard : Claim7 := { stood := { row := clockStampsUptoRow, standIns := [], harness := (true, "4547ae67bae789df3e3b7fe05e0391ac6b627b88512cc0cb24a2a879f0bdabd7"), looks := false }, kinds := [], alts := [], laidByText := true, laidKinds := [.data, .data, .data, .data, .pinned, .pinned], laidTests := true, laidLooks := .later }
def ClockStampsUptoCardSaid : Prop := Claim7.holds Tryd.pinned (.plain (OpenSpec.upto clockStampsSpec)) clockStampsUptoCard

/-- THE SECOND FORM's CARD OF 'vagabondlaw25.DrainOnce'. -/
def drainOnceUptoCard : Claim7 := { stood := { row := drainOnceUptoRow, standIns := [], harness := (true, "4547ae67bae789df3e3b7fe05e0391ac6b627b88512cc0cb24a2a879f0bdabd7"), looks := false }, kinds := [], alts := [], laidByText := true, laidKinds := [.data, .data, .data, .data, .pinned, .pinned], laidTests := true, laidLooks := .later }
def DrainOnceUptoCardSaid : Prop := Claim7.holds Tryd.pinned (.plain (OpenSpec.upto drainOnceSpec)) drainOnceUptoCard

/-- THE SECOND FORM's CARD OF 'vagabondlaw02.RealHeld'. -/
def realHeldUptoCard : Claim7 := { stood := { row := realHeldUptoRow, standIns := [], harness := (true, "4547ae67bae789df3e3b7fe05e0391ac6b627b88512cc0cb24a2a879f0bdabd7"), looks := false }, kinds := [], alts := [], laidByText := true, laidKinds := [.data, .data, .data, .data, .pinned, .pinned], laidTests := true, laidLooks := .later }
def RealHeldUptoCardSaid : Prop := Claim7.holds Tryd.pinned (.plain (OpenSpec.upto realHeldSpec)) realHeldUptoCard

/-- THE SECOND FORM's CARD OF 'vagabondlaw02.RealBytes'. -/
def realBytesUptoCard : Claim7 := { stood := { row := realBytesUptoRow, standIns := [], harness := (true, "4547ae67bae789df3e3b7fe05e0391ac6b627b88512cc0cb24a2a879f0bdabd7"), looks := false }, kinds := [], alts := [], laidByText := true, laidKinds := [.data, .data, .data, .data, .pinned, .pinned], laidTests := true, laidLooks := .later }
def RealBytesUptoCardSaid : Prop := Claim7.holds Tryd.pinned (.plain (OpenSpec.upto realBytesSpec)) realBytesUptoCard

/-- THE SECOND FORM's CARD OF 'vagabondlaw25.DrainTurns'. -/
def drainTurnsUptoCard : Claim7 := { stood := { row := drainTurnsUptoRow, standIns := [], harness := (true, "4547ae67bae789df3e3b7fe05e0391ac6b627b88512cc0cb24a2a879f0bdabd7"), looks := false }, kinds := [], alts := [], laidByText := true, laidKinds := [.data, .data, .data, .data, .pinned, .pinned], laidTests := true, laidLooks := .later }
def DrainTurnsUptoCardSaid : Prop := Claim7.holds Tryd.pinned (.plain (OpenSpec.upto drainTurnsSpec)) drainTurnsUptoCard

/-- THE SECOND FORM's CARD OF 'vagabondlaw02.RealHolds'. -/
def realHoldsUptoCard : Claim7 := { stood := { row := realHoldsUptoRow, standIns := [], harness := (true, "4547ae67bae789df3e3b7fe05e0391ac6b627b88512cc0cb24a2a879f0bdabd7"), looks := false }, kinds := [], alts := [], laidByText := true, laidKinds := [.data, .data, .data, .data, .pinned, .pinned], laidTests := true, laidLooks := .later }
def RealHoldsUptoCardSaid : Prop := Claim7.holds Tryd.pinned (.plain (OpenSpec.upto realHoldsSpec)) realHoldsUptoCard

/-- THE SECOND FORM's CARD OF 'vagabondlaw25.DrainShares'. -/
def drainSharesUptoCard : Claim7 := { stood := { row := drainSharesUptoRow, standIns := [], harness := (true, "4547ae67bae789df3e3b7fe05e0391ac6b627b88512cc0cb24a2a879f0bdabd7"), looks := false }, kinds := [], alts := [], laidByText := true, laidKinds := [.data, .data, .data, .data, .pinned, .pinned], laidTests := true, laidLooks := .later }
def DrainSharesUptoCardSaid : Prop := Claim7.holds Tryd.pinned (.plain (OpenSpec.upto drainSharesSpec)) drainSharesUptoCard
end Rows
end Go.Proofs.YthpmhjlndnelfaaDoor
