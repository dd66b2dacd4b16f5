/- slices' stable sort at a struct: rotate, walked. -/
import Derived.Test.YtcpfiiapfggmpaaStabSwap

namespace Go.Proofs.Ytcpfiiapfggmpaa
open Go.RowKit Go.Lib Go.Sort Go.Shelf

section
variable {P : Program} {β : Type} [Inhabited β] {enc : β → List Value} {k : Nat} {w0 W : World} {blk off : Nat} {d0 d : Array β}

set_option maxHeartbeats 4000000 in
set_option maxRecDepth 1000000 in
theorem rotate_any (S : StF P k) (R : RowK enc k w0 blk off d0) (hs : d.size = d0.size) (hsz : d.size < 4611686018427387904) (cap s m e : Nat) (fv : Value) (hsm : s < m) (hme : m < e) (he : e ≤ d.size) (hW : SWK enc k w0 blk off d W) :
    Calls P 59 #[.slice (some ⟨blk, off, none⟩) d.size cap, .int .i64 s, .int .i64 m, .int .i64 e, fv] W fun en w' =>
      en = .returned (.tuple #[]) ∧ ∃ d', Moved (roF s m e) d d' ∧ (∀ x y, x ≤ s → e ≤ y → y ≤ d.size → PermIn x y d d') ∧ SWK enc k w0 blk off d' w' := by
  have mixed := S.mixed; have t0 := S.t0; have a0 := S.a0; have z0 := S.z0; have v0 := S.v0; have t3 := S.t3; have a3 := S.a3; have z3 := S.z3; have v3 := S.v3; have t4 := S.t4; have a4 := S.a4; have z4 := S.z4; have v4 := S.v4; have t22 := S.t22; have a22 := S.a22; have z22 := S.z22; have v22 := S.v22; have t78 := S.t78; have a78 := S.a78; have z78 := S.z78; have v78 := S.v78; have t96 := S.t96; have a96 := S.a96; have z96 := S.z96; have v96 := S.v96; have aE := S.aE; have zE := S.zE; have u22 := run_underlying S.t22
  have F := S.fro
  have HW := Lib.hid hW
  have HC : Hid (∀ (dk : Array β) (X : World) (a b n : Nat), dk.size = d.size → a + n ≤ b → b + n ≤ d.size → SWK enc k w0 blk off dk X → Calls P 75 #[.slice (some ⟨blk, off, none⟩) d.size cap, .int .i64 a, .int .i64 b, .int .i64 n, fv] X fun e w' =>
      e = .returned (.tuple #[]) ∧ ∃ d', Moved (raF a b n) dk d' ∧ (∀ x y, x ≤ a → b + n ≤ y → y ≤ d.size → PermIn x y dk d') ∧ SWK enc k w0 blk off d' w') := by
    intro dk X a b n h1 h2 h3 h4
    have := swapRange_any S R (d := dk) (W := X) (h1.trans hs) (by omega) cap a b n fv h2 (by omega) h4
    rwa [h1] at this
  have eSW : ∀ args w, (callFunc 75 args).run P w = .ok (.enter 75 args) w := enters_of S.fsw (by kernel_rfl) rfl
  have HS := Lib.hid hs
  clear hW R S hs
  go_enter F, Try.ntmps59
  go_wp2
  go_loopg [10, 11] (e - s) (fun g1 vi vj wr => ∃ (i j : Nat) (dk : Array β), vi = .int .i64 i ∧ vj = .int .i64 j ∧ 0 < i ∧ 0 < j ∧ s + i ≤ m ∧ m + j ≤ e ∧ i + j ≤ g1 ∧ dk.size = d.size ∧ Hid (∀ d', Moved (roF (m - i) m (m + j)) dk d' → Moved (roF s m e) d d') ∧ Hid (∀ x y, x ≤ s → e ≤ y → y ≤ d.size → PermIn x y d dk) ∧ Hid (SWK enc k w0 blk off dk wr))
  case atStart => exact ⟨m - s, e - m, d, (by congr 1; omega), (by congr 1; omega), by omega, by omega, by omega, by omega, by omega, rfl, (fun d' h => by rwa [show m - (m - s) = s by omega, show m + (e - m) = e by omega] at h), fun x y _ _ _ => permIn_refl _ _ _, HW.out⟩
  case round =>
    obtain ⟨i, j, dk, rfl, rfl, hi, hj, hi2, hj2, hg1, hsk, HT, HP, HK⟩ := hrel
    by_cases hne : i = j
    · subst hne
      have CQ := Lib.hid (HC.out dk wr (m - i) m i hsk (by omega) (by omega) HK.out)
      have hie : (m : Int) - (i : Int) = ((m - i : Nat) : Int) := by omega
      have HIE := Lib.hid hie
      clear hie
      go_wp2_with (go_at_fn 75; rw [HIE.out]; refine CQ.out.mono ?_; rintro en w' ⟨rfl, d', hM, hP, hK⟩)
      have HM' := Lib.hid (HT.out d' (hM.congr fun t _ => roF_even (by omega)))
      have HP' : Hid (∀ x y, x ≤ s → e ≤ y → y ≤ d.size → PermIn x y d d') := fun x y h1 h2 h3 => permIn_trans _ _ _ _ _ (HP.out x y h1 h2 h3) (hP x y (by omega) (by omega) h3)
      have HK' := Lib.hid hK
      clear hM hP hK
      go_end0
      exact ⟨rfl, d', HM'.out, HP'.out, HK'.out⟩
    · have hnb : ((i : Int) == (j : Int)) = false := by simp; omega
      have hnb2 : ((i : Int) != (j : Int)) = true := by simp; omega
      by_cases hij : j < i
      · have hijz : (j : Int) < (i : Int) := by omega
        have CQ := Lib.hid (HC.out dk wr (m - i) m j hsk (by omega) (by omega) HK.out)
        have HIE := Lib.hid (show (m : Int) - (i : Int) = ((m - i : Nat) : Int) by omega)
        have HI2 := Lib.hid (show (i : Int) - (j : Int) = ((i - j : Nat) : Int) by omega)
        clear hne
        go_wp2_with (go_at_fn 75; rw [HIE.out]; refine CQ.out.mono ?_; rintro en w' ⟨rfl, d', hM, hP, hK⟩)
        have HS' := hM.1
        have HT' : Hid (∀ d'', Moved (roF (m - (i - j)) m (m + j)) d' d'' → Moved (roF s m e) d d'') := fun d'' h => HT.out d'' ((hM.trans h fun t ht => roF_lt (by omega) (by omega) (by omega) ht).congr fun t _ => roF_big hij (by omega))
        have HP' : Hid (∀ x y, x ≤ s → e ≤ y → y ≤ d.size → PermIn x y d d') := fun x y h1 h2 h3 => permIn_trans _ _ _ _ _ (HP.out x y h1 h2 h3) (hP x y (by omega) (by omega) h3)
        have HK' := Lib.hid hK
        have HSZ := Lib.hid (HS'.trans hsk)
        clear hM hP hK HS'
        go_roundg (i - j + j)
        case measure => omega
        case rel => exact ⟨i - j, j, d', (by rw [HI2.out]), rfl, by omega, hj, by omega, hj2, Nat.le_refl _, HSZ.out, HT'.out, HP'.out, HK'.out⟩
      · have hijz : ¬ (j : Int) < (i : Int) := by omega
        have hlt : i < j := by omega
        have CQ := Lib.hid (HC.out dk wr (m - i) (m + j - i) i hsk (by omega) (by omega) HK.out)
        have HIE := Lib.hid (show (m : Int) - (i : Int) = ((m - i : Nat) : Int) by omega)
        have HI3 := Lib.hid (show (m : Int) + (j : Int) - (i : Int) = ((m + j - i : Nat) : Int) by omega)
        have HI2 := Lib.hid (show (j : Int) - (i : Int) = ((j - i : Nat) : Int) by omega)
        clear hne
        go_wp2_with (go_at_fn 75; rw [HIE.out, HI3.out]; refine CQ.out.mono ?_; rintro en w' ⟨rfl, d', hM, hP, hK⟩)
        have HS' := hM.1
        have HT' : Hid (∀ d'', Moved (roF (m - i) m (m + (j - i))) d' d'' → Moved (roF s m e) d d'') := fun d'' h => HT.out d'' ((hM.trans h fun t ht => roF_lt (by omega) (by omega) (by omega) ht).congr fun t _ => roF_small hlt (by omega))
        have HP' : Hid (∀ x y, x ≤ s → e ≤ y → y ≤ d.size → PermIn x y d d') := fun x y h1 h2 h3 => permIn_trans _ _ _ _ _ (HP.out x y h1 h2 h3) (hP x y (by omega) (by omega) h3)
        have HK' := Lib.hid hK
        have HSZ := Lib.hid (HS'.trans hsk)
        clear hM hP hK HS'
        go_roundg (i + (j - i))
        case measure => omega
        case rel => exact ⟨i, j - i, d', rfl, (by rw [HI2.out]), hi, by omega, hi2, by omega, Nat.le_refl _, HSZ.out, HT'.out, HP'.out, HK'.out⟩
end
end Go.Proofs.Ytcpfiiapfggmpaa
