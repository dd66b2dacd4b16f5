/- What the chapter's examples are in plain words. -/
import Derived.Test.YtgkppjkmakomnaaDetRAdd
namespace Go.Proofs.Ytgkppjkmakomnaa
open Go.RowKit Go.Lib

abbrev sCam : ByteArray := ⟨#[99, 97, 109]⟩
abbrev sP : ByteArray := ⟨#[112]⟩
abbrev sX : ByteArray := ⟨#[120]⟩
abbrev sAB1 : ByteArray := ⟨#[65, 66, 49]⟩
abbrev sAB2 : ByteArray := ⟨#[65, 66, 50]⟩
abbrev s0 : ByteArray := ⟨#[]⟩
def exCam : Dv := ⟨sCam, sP, 2, 2, none, 0, [], none, 0, []⟩
def exD : Dt := ⟨sCam, 1, 100, s0, sAB1, 0, 900⟩
def exE : Dt := ⟨sCam, 1, 100, s0, sAB2, 0, 900⟩
def exF : Dt := ⟨sX, -1, 100, s0, sAB1, 0, 900⟩
def exS : Sn := ⟨exD, 100, sP, 2, 2⟩
def exR1 : List Rj := [⟨exF, 1⟩]
def exR3 : List Rj := [⟨exD, 4⟩, ⟨exE, 4⟩, ⟨exF, 1⟩]
theorem exW : corW [exCam] exD = 0 := by decide +kernel
theorem exCS : corS [exCam] exD = exS := by kernel_rfl
theorem exSift1 : siftN [exCam] [exD, exF, exD] 3 = ([exS], exR1) := by kernel_rfl
theorem exSift2 : siftN [exCam] [exE, exD, exF] 3 = ([], exR3) := by kernel_rfl
theorem exOne {S : List Sn} {R : List Rj} (h : SiftOf [exCam] [exD, exF, exD] S R) : S = [exS] ∧ R = exR1 := by
  have := siftN_all [exCam] [exD, exF, exD]
  rw [show ([exD, exF, exD] : List Dt).length = 3 from rfl, exSift1] at this
  exact SiftOf.eq (fun _ => Iff.rfl) h this
theorem exTwo {S : List Sn} {R : List Rj} (h : SiftOf [exCam] (addD [exS] exR1 exE) S R) : S = [] ∧ R = exR3 := by
  have := siftN_all [exCam] [exE, exD, exF]
  rw [show ([exE, exD, exF] : List Dt).length = 3 from rfl, exSift2] at this
  exact SiftOf.eq (fun _ => Iff.rfl) h this
theorem exSelf : cmpSn exS exS = 0 := cmpSn_self _
theorem exLess : decide (cmpRj ⟨exD, 4⟩ ⟨exE, 4⟩ < 0) = true := by decide +kernel
theorem exNLess : decide (cmpRj ⟨exE, 4⟩ ⟨exE, 4⟩ < 0) = false := by rw [cmpRj_self]; rfl
theorem exSz : SzD exD ∧ SzD exE ∧ SzD exF := by refine ⟨⟨?_, ?_, ?_⟩, ⟨?_, ?_, ?_⟩, ⟨?_, ?_, ?_⟩⟩ <;> decide
theorem exOk : SrcOk (srcOf exD) ∧ SrcOk (srcOf exE) ∧ SrcOk (srcOf exF) := by refine ⟨⟨?_, ?_⟩, ⟨?_, ?_⟩, ⟨?_, ?_⟩⟩ <;> decide +kernel
end Go.Proofs.Ytgkppjkmakomnaa
