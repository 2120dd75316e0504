/-
  DERIVED. GIVEN WITH THE SEED: THE CARDS: each row of YtfagdcpfebghoaaDoorRows.lean that lists a variable, with what it lists TIED to the program's text (the seventh form; the later family's looks); each row that meets fmt, with fmt's text TOLD by the authors' own Lean function (tested against real Go, not proved from fmt's source: count such statements apart). THE CARD IS WHAT COUNTS. Prove the row's statement (the work); the ties are given (YtfagdcpfebghoaaDoorTie.lean); close each card by the builder's one call (the guide's Derived/Test/ToyasCard.lean, 'card_holds'). Laid BY PROGRAM, IN A SANDBOX (cutbox-door.mjs). By AI agents, Wed Nov 11 2026. No macro, syntax, notation, axiom, sorry.
-/
import Derived.Test.YtfagdcpfebghoaaDoorRows
import GoSem.ClaimSeven
namespace Go.Proofs.YtfagdcpfebghoaaDoor
namespace Rows

/-- THE TIED CARD OF 'switchyardlaw.TagPacks'. -/
def tagPacksCard : Claim7 := { stood := { row := tagPacksRow, standIns := [], harness := (true, "27911894e07ac81fcc87f1767b05151d74444461e1f040c21f865d731739a137"), looks := true }, kinds := [], alts := [], laidByText := true, laidKinds := [.handle], laidTests := true, laidLooks := .later }
def TagPacksCardSaid : Prop := Claim7.holds Tryd.pinned (.plain (OpenSpec.ofChange tagPacksSpec)) tagPacksCard

/-- THE TIED CARD OF 'switchyardlaw.CrcSums'. -/
def crcSumsCard : Claim7 := { stood := { row := crcSumsRow, standIns := [], harness := (true, "27911894e07ac81fcc87f1767b05151d74444461e1f040c21f865d731739a137"), looks := true }, kinds := [], alts := [], laidByText := true, laidKinds := [.handle], laidTests := true, laidLooks := .later }
def CrcSumsCardSaid : Prop := Claim7.holds Tryd.pinned (.plain (OpenSpec.ofChange crcSumsSpec)) crcSumsCard

/-- THE TIED CARD OF 'switchyardlaw.ArpWrites'. -/
def arpWritesCard : Claim7 := { stood := { row := arpWritesRow, standIns := [], harness := (true, "27911894e07ac81fcc87f1767b05151d74444461e1f040c21f865d731739a137"), looks := true }, kinds := [], alts := [], laidByText := true, laidKinds := [.handle], laidTests := true, laidLooks := .later }
def ArpWritesCardSaid : Prop := Claim7.holds Tryd.pinned (.plain (OpenSpec.ofChange arpWritesSpec)) arpWritesCard

/-- THE TIED CARD OF 'switchyardlaw.PrioPacks'. -/
def prioPacksCard : Claim7 := { stood := { row := prioPacksRow, standIns := [], harness := (true, "27911894e07ac81fcc87f1767b05151d74444461e1f040c21f865d731739a137"), looks := true }, kinds := [], alts := [], laidByText := true, laidKinds := [.handle], laidTests := true, laidLooks := .later }
def PrioPacksCardSaid : Prop := Claim7.holds Tryd.pinned (.plain (OpenSpec.ofChange prioPacksSpec)) prioPacksCard

/-- THE TIED CARD OF 'switchyardlaw.RegionRights'. -/
def regionRightsCard : Claim7 := { stood := { row := regionRightsRow, standIns := [], harness := (true, "27911894e07ac81fcc87f1767b05151d74444461e1f040c21f865d731739a137"), looks := true }, kinds := [], alts := [], laidByText := true, laidKinds := [.handle], laidTests := true, laidLooks := .later }
def RegionRightsCardSaid : Prop := Claim7.holds Tryd.pinned (.plain (OpenSpec.ofChange regionRightsSpec)) regionRightsCard

/-- THE TIED CARD OF 'switchyardlaw.PauseWrites'. -/
def pauseWritesCard : Claim7 := { stood := { row := pauseWritesRow, standIns := [], harness := (true, "27911894e07ac81fcc87f1767b05151d74444461e1f040c21f865d731739a137"), looks := true }, kinds := [], alts := [], laidByText := true, laidKinds := [.handle], laidTests := true, laidLooks := .later }
def PauseWritesCardSaid : Prop := Claim7.holds Tryd.pinned (.plain (OpenSpec.ofChange pauseWritesSpec)) pauseWritesCard

/-- THE TIED CARD OF 'switchyardlaw.PrioReads'. -/
def prioReadsCard : Claim7 := { stood := { row := prioReadsRow, standIns := [], harness := (true, "27911894e07ac81fcc87f1767b05151d74444461e1f040c21f865d731739a137"), looks := true }, kinds := [], alts := [], laidByText := true, laidKinds := [.handle], laidTests := true, laidLooks := .later }
def PrioReadsCardSaid : Prop := Claim7.holds Tryd.pinned (.plain (OpenSpec.ofChange prioReadsSpec)) prioReadsCard

/-- THE TIED CARD OF 'switchyardlaw.ArpReads'. -/
def arpReadsCard : Claim7 := { stood := { row := arpReadsRow, standIns := [], harness := (true, "27911894e07ac81fcc87f1767b05151d74444461e1f040c21f865d731739a137"), looks := true }, kinds := [], alts := [], laidByText := true, laidKinds := [.handle], laidTests := true, laidLooks := .later }
def ArpReadsCardSaid : Prop := Claim7.holds Tryd.pinned (.plain (OpenSpec.ofChange arpReadsSpec)) arpReadsCard

/-- THE TIED CARD OF 'switchyardlaw.PauseReads'. -/
def pauseReadsCard : Claim7 := { stood := { row := pauseReadsRow, standIns := [], harness := (true, "27911894e07ac81fcc87f1767b05151d74444461e1f040c21f865d731739a137"), looks := true }, kinds := [], alts := [], laidByText := true, laidKinds := [.handle], laidTests := true, laidLooks := .later }
def PauseReadsCardSaid : Prop := Claim7.holds Tryd.pinned (.plain (OpenSpec.ofChange pauseReadsSpec)) pauseReadsCard

/-- THE TIED CARD OF 'switchyardlaw.TlvWrites'. -/
def tlvWritesCard : Claim7 := { stood := { row := tlvWritesRow, standIns := [], harness := (true, "27911894e07ac81fcc87f1767b05151d74444461e1f040c21f865d731739a137"), looks := true }, kinds := [], alts := [], laidByText := true, laidKinds := [.handle], laidTests := true, laidLooks := .later }
def TlvWritesCardSaid : Prop := Claim7.holds Tryd.pinned (.plain (OpenSpec.ofChange tlvWritesSpec)) tlvWritesCard

/-- THE TIED CARD OF 'switchyardlaw.TlvReads'. -/
def tlvReadsCard : Claim7 := { stood := { row := tlvReadsRow, standIns := [], harness := (true, "27911894e07ac81fcc87f1767b05151d74444461e1f040c21f865d731739a137"), looks := true }, kinds := [], alts := [], laidByText := true, laidKinds := [.handle], laidTests := true, laidLooks := .later }
def TlvReadsCardSaid : Prop := Claim7.holds Tryd.pinned (.plain (OpenSpec.ofChange tlvReadsSpec)) tlvReadsCard

/-- THE SECOND FORM's CARD OF 'switchyardlaw.TagPacks'. -/
def tagPacksUptoCard : Claim7 := { stood := { row := tagPacksUptoRow, standIns := [], harness := (true, "27911894e07ac81fcc87f1767b05151d74444461e1f040c21f865d731739a137"), looks := true }, kinds := [], alts := [], laidByText := true, laidKinds := [.handle], laidTests := true, laidLooks := .later }
def TagPacksUptoCardSaid : Prop := Claim7.holds Tryd.pinned (.plain (OpenSpec.upto tagPacksSpec)) tagPacksUptoCard

/-- THE SECOND FORM's CARD OF 'switchyardlaw.CrcSums'. -/
def crcSumsUptoCard : Claim7 := { stood := { row := crcSumsUptoRow, standIns := [], harness := (true, "27911894e07ac81fcc87f1767b05151d74444461e1f040c21f865d731739a137"), looks := true }, kinds := [], alts := [], laidByText := true, laidKinds := [.handle], laidTests := true, laidLooks := .later }
def CrcSumsUptoCardSaid : Prop := Claim7.holds Tryd.pinned (.plain (OpenSpec.upto crcSumsSpec)) crcSumsUptoCard

/-- THE SECOND FORM's CARD OF 'switchyardlaw.ArpWrites'. -/
def arpWritesUptoCard : Claim7 := { stood := { row := arpWritesUptoRow, standIns := [], harness := (true, "27911894e07ac81fcc87f1767b05151d74444461e1f040c21f865d731739a137"), looks := true }, kinds := [], alts := [], laidByText := true, laidKinds := [.handle], laidTests := true, laidLooks := .later }
def ArpWritesUptoCardSaid : Prop := Claim7.holds Tryd.pinned (.plain (OpenSpec.upto arpWritesSpec)) arpWritesUptoCard

/-- THE SECOND FORM's CARD OF 'switchyardlaw.PrioPacks'. -/
def prioPacksUptoCard : Claim7 := { stood := { row := prioPacksUptoRow, standIns := [], harness := (true, "27911894e07ac81fcc87f1767b05151d74444461e1f040c21f865d731739a137"), looks := true }, kinds := [], alts := [], laidByText := true, laidKinds := [.handle], laidTests := true, laidLooks := .later }
def PrioPacksUptoCardSaid : Prop := Claim7.holds Tryd.pinned (.plain (OpenSpec.upto prioPacksSpec)) prioPacksUptoCard

/-- THE SECOND FORM's CARD OF 'switchyardlaw.RegionRights'. -/
def regionRightsUptoCard : Claim7 := { stood := { row := regionRightsUptoRow, standIns := [], harness := (true, "27911894e07ac81fcc87f1767b05151d74444461e1f040c21f865d731739a137"), looks := true }, kinds := [], alts := [], laidByText := true, laidKinds := [.handle], laidTests := true, laidLooks := .later }
def RegionRightsUptoCardSaid : Prop := Claim7.holds Tryd.pinned (.plain (OpenSpec.upto regionRightsSpec)) regionRightsUptoCard

/-- THE SECOND FORM's CARD OF 'switchyardlaw.PauseWrites'. -/
def pauseWritesUptoCard : Claim7 := { stood := { row := pauseWritesUptoRow, standIns := [], harness := (true, "27911894e07ac81fcc87f1767b05151d74444461e1f040c21f865d731739a137"), looks := true }, kinds := [], alts := [], laidByText := true, laidKinds := [.handle], laidTests := true, laidLooks := .later }
def PauseWritesUptoCardSaid : Prop := Claim7.holds Tryd.pinned (.plain (OpenSpec.upto pauseWritesSpec)) pauseWritesUptoCard

/-- THE SECOND FORM's CARD OF 'switchyardlaw.PrioReads'. -/
def prioReadsUptoCard : Claim7 := { stood := { row := prioReadsUptoRow, standIns := [], harness := (true, "27911894e07ac81fcc87f1767b05151d74444461e1f040c21f865d731739a137"), looks := true }, kinds := [], alts := [], laidByText := true, laidKinds := [.handle], laidTests := true, laidLooks := .later }
def PrioReadsUptoCardSaid : Prop := Claim7.holds Tryd.pinned (.plain (OpenSpec.upto prioReadsSpec)) prioReadsUptoCard

/-- THE SECOND FORM's CARD OF 'switchyardlaw.ArpReads'. -/
def arpReadsUptoCard : Claim7 := { stood := { row := arpReadsUptoRow, standIns := [], harness := (true, "27911894e07ac81fcc87f1767b05151d74444461e1f040c21f865d731739a137"), looks := true }, kinds := [], alts := [], laidByText := true, laidKinds := [.handle], laidTests := true, laidLooks := .later }
def ArpReadsUptoCardSaid : Prop := Claim7.holds Tryd.pinned (.plain (OpenSpec.upto arpReadsSpec)) arpReadsUptoCard

/-- THE SECOND FORM's CARD OF 'switchyardlaw.PauseReads'. -/
def pauseReadsUptoCard : Claim7 := { stood := { row := pauseReadsUptoRow, standIns := [], harness := (true, "27911894e07ac81fcc87f1767b05151d74444461e1f040c21f865d731739a137"), looks := true }, kinds := [], alts := [], laidByText := true, laidKinds := [.handle], laidTests := true, laidLooks := .later }
def PauseReadsUptoCardSaid : Prop := Claim7.holds Tryd.pinned (.plain (OpenSpec.upto pauseReadsSpec)) pauseReadsUptoCard

/-- THE SECOND FORM's CARD OF 'switchyardlaw.TlvWrites'. -/
def tlvWritesUptoCard : Claim7 := { stood := { row := tlvWritesUptoRow, standIns := [], harness := (true, "27911894e07ac81fcc87f1767b05151d74444461e1f040c21f865d731739a137"), looks := true }, kinds := [], alts := [], laidByText := true, laidKinds := [.handle], laidTests := true, laidLooks := .later }
def TlvWritesUptoCardSaid : Prop := Claim7.holds Tryd.pinned (.plain (OpenSpec.upto tlvWritesSpec)) tlvWritesUptoCard

/-- THE SECOND FORM's CARD OF 'switchyardlaw.TlvReads'. -/
def tlvReadsUptoCard : Claim7 := { stood := { row := tlvReadsUptoRow, standIns := [], harness := (true, "27911894e07ac81fcc87f1767b05151d74444461e1f040c21f865d731739a137"), looks := true }, kinds := [], alts := [], laidByText := true, laidKinds := [.handle], laidTests := true, laidLooks := .later }
def TlvReadsUptoCardSaid : Prop := Claim7.holds Tryd.pinned (.plain (OpenSpec.upto tlvReadsSpec)) tlvReadsUptoCard
end Rows
end Go.Proofs.YtfagdcpfebghoaaDoor
