/- What the chapter's examples are in plain words. -/
import Derived.Test.YtppnkepjipglgaaZoneRNext
import Derived.Test.YtppnkepjipglgaaZoneAll
import Derived.Test.YtppnkepjipglgaaZoneRAll
import Derived.Test.YtppnkepjipglgaaZoneRFind
import Derived.Test.YtppnkepjipglgaaZoneSame
import Derived.Test.YtppnkepjipglgaaZoneLawFns
namespace Go.Proofs.Ytppnkepjipglgaa
open Go.RowKit Go.Lib

abbrev exH : List Wn := [(31, 480, 1080)]
theorem on31 (d : Int) : onD 31 d = decide (d % 7 < 5) := by
  have key : ∀ k : Fin 7, decide ((31 : Int) / 2 ^ k.1 % 2 = 1) = decide ((k.1 : Int) < 5) := by decide
  have h := key ⟨(d % 7).toNat, by omega⟩
  simp only at h
  unfold onD
  rw [h]
  congr 1
  rw [show (((d % 7).toNat : Nat) : Int) = d % 7 by omega]
theorem exH_at (t : Int) : hoursP exH t ↔ (t / 86400) % 7 < 5 ∧ 28800 ≤ t % 86400 ∧ t % 86400 < 64800 := by
  unfold hoursP wAt
  simp [vw, on31]
theorem exEnf {n : List Iv} (hn : NF n) (hm : ∀ t, Mem n t ↔ Sh exH (0, 172800) t) : n = [(28800, 64800), (115200, 151200)] := by
  refine hn.unique ⟨?_, ?_⟩ fun t => ?_
  · simp [vld]
  · simp
  · rw [hm]
    unfold Sh
    rw [exH_at]
    simp only [Mem.cons, Mem.nil, vld, or_false]
    omega
theorem exOpen1 : openB exH 28800 = true := (openB_iff _ _).2 ⟨by omega, (exH_at _).2 (by omega)⟩
theorem not_open {hs : List Wn} {t : Int} (h : ¬ openP hs t) : openB hs t = false := by
  cases hb : openB hs t
  · rfl
  · exact absurd ((openB_iff _ _).1 hb) h
theorem exOpen2 : openB exH 28799 = false := not_open fun h => by have := (exH_at _).1 h.2; omega
theorem exOpen3 : openB exH 64800 = false := not_open fun h => by have := (exH_at _).1 h.2; omega
theorem exNext1 : NextP exH 64800 115200 true := ⟨fun h => absurd (by omega) h, fun _ => ⟨fun _ => ⟨⟨by omega, (exH_at _).2 (by omega)⟩, by omega, fun x h1 h2 h3 => by have := (exH_at _).1 h3.2; omega⟩, fun h => by cases h⟩⟩
theorem exNext2 : NextP exH 410400 633600 true := ⟨fun h => absurd (by omega) h, fun _ => ⟨fun _ => ⟨⟨by omega, (exH_at _).2 (by omega)⟩, by omega, fun x h1 h2 h3 => by have := (exH_at _).1 h3.2; omega⟩, fun h => by cases h⟩⟩
def exZ (A S : Option Addr) : Zn := ⟨⟨#[97]⟩, A, 1, exH, S, 1, [(0, 60, 1)], 0, 0, 0, 0⟩
def exB : Zn := ⟨⟨#[98]⟩, none, 0, [], none, 0, [], 0, 0, 0, 0⟩
theorem exName : nameB ⟨#[97]⟩ = true := by decide +kernel
theorem exCheck (A S : Option Addr) : checkE (exZ A S) = 0 := by
  rw [checkE_tail (by exact exName) (by simp [exZ]) (by simp [exZ, vw]) (by simp [exZ, stepsE, firstE, stepE, stepX, List.range_succ])]
  rw [tailE_0 (by simp [exZ]) (by simp [exZ])]
theorem exNe : eqS ⟨#[98]⟩ ⟨#[97]⟩ = false := by decide +kernel
theorem eqS_self (s : ByteArray) : eqS s s = true := by simp [eqS]
theorem exFind (A S : Option Addr) : findZ [exB, exZ A S] ⟨#[97]⟩ = some (exZ A S) := findZ_at (k := 1) rfl (by simp [exB, exNe]) (eqS_self _)
theorem exAll (A S : Option Addr) : checkAllE [exZ A S, exZ A S] = 9 := by
  have h0 : allE [exZ A S, exZ A S] 0 = 0 := allE_ok (z := exZ A S) rfl (exCheck A S) rfl
  have h1 : allE [exZ A S, exZ A S] 1 = 9 := allE_two (z := exZ A S) rfl (exCheck A S) (by rw [findZ_at (k := 0) (z := exZ A S) rfl (by simp) (eqS_self _)]; rfl)
  rw [checkAllE_at (k := 1) (by simp) (fun j hj => (by have e : j = 0 := (by omega); rw [e]; exact h0)) (by simp) (by rw [h1]; decide), h1]
end Go.Proofs.Ytppnkepjipglgaa
