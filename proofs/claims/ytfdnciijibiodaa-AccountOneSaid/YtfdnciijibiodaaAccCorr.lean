/- account.correct, walked. -/
import Derived.Test.YtfdnciijibiodaaAccEnc
import Derived.Test.YtfdnciijibiodaaDetTag2
import Derived.Test.YtfdnciijibiodaaDetPlN
import Derived.Test.YtfdnciijibiodaaValid
namespace Go.Proofs.Ytfdnciijibiodaa
open Go.RowKit Go.Lib

theorem toList_ne {a : ByteArray} (h : ¬ a = ⟨#[]⟩) : ¬ a.toList = [] := by
  intro q
  apply h
  rw [ByteArray.toList_eq] at q
  cases a; simp only [ByteArray.mk.injEq]
  exact Array.toList_eq_nil_iff.1 q
theorem toList_nempty {a : ByteArray} (h : ¬ a = ⟨#[]⟩) : a.toList.isEmpty = false := by
  cases q : a.toList with
  | nil => exact absurd q (toList_ne h)
  | cons _ _ => rfl
theorem toList_beq {a : ByteArray} (h : ¬ a = ⟨#[]⟩) : (a.toList == []) = false := by
  cases q : a.toList with
  | nil => exact absurd q (toList_ne h)
  | cons _ _ => rfl
theorem emp_no {a : ByteArray} (h : ¬ a = ⟨#[]⟩) : emp a = false := by
  cases q : emp a
  · rfl
  · exact absurd ((emp_iff a).1 q) h
theorem emp_yes : emp ⟨#[]⟩ = true := eqS_refl _

set_option maxRecDepth 100000 in
set_option maxHeartbeats 8000000 in
theorem correct_any (o : Ow) (hsz : smO o) (w : World) : Calls Try.prog 29 #[OwV o] w fun e w' => e = .returned (.int .i64 (corrE o)) ∧ Below w.heap.size w w' := by
  obtain ⟨tg, pl, f, t⟩ := o
  have CT := Lib.hid (fun (X : World) => tagcheck_any tg X)
  have CP := Lib.hid (fun (X : World) => normal_any pl (by have := hsz.2; simp only at this; omega) X)
  have CV := Lib.hid (fun (X : World) => valid_any f t X)
  obtain ⟨Y1, hY1⟩ : ∃ Y, w.alloc (.cells #[.string tg, .string pl, .int .i64 f, .int .i64 t] 43) = Y := ⟨_, rfl⟩
  have bW : Below w.heap.size w Y1 := by rw [← hY1]; exact (Below.refl _ w).al _
  have BA : Blk Y1 w.heap.size #[.string tg, .string pl, .int .i64 f, .int .i64 t] 43 := by rw [← hY1]; exact Blk.new w _ _
  have $p0 : World.cell? Y1 ⟨w.heap.size, 0, none⟩ = some (.string tg) := BA.cell 0 rfl; have $p1 : World.cell? Y1 ⟨w.heap.size, 1, none⟩ = some (.string pl) := BA.cell 1 rfl; have $p2 : World.cell? Y1 ⟨w.heap.size, 2, none⟩ = some (.int .i64 f) := BA.cell 2 rfl; have $p3 : World.cell? Y1 ⟨w.heap.size, 3, none⟩ = some (.int .i64 t) := BA.cell 3 rfl
  simp only [OwV]
  clear hsz
  generalize hr : corrE _ = r
  have HR := Lib.hid hr
  clear hr
  simp only [corrE] at HR
  by_cases et : tg = ⟨#[]⟩
  · subst et
    by_cases ep : pl = ⟨#[]⟩
    · subst ep
      (have R : Hid (r = 1) := Lib.hid (by rw [← HR.out]; simp [emp_yes])); clear HR
      go_enter Try.func29, Try.ntmps29
      go_wp2
      go_ret
      obtain rfl := R.out; exact ⟨rfl, bW⟩
    · have npl : ¬ pl.toList = [] := toList_ne ep
      have mpl : pl.toList.isEmpty = false := toList_nempty ep
      have opl : (pl.toList == []) = false := toList_beq ep
      have epl := emp_no ep
      cases hb : plB pl
      · have R : Hid (r = 19) := Lib.hid (by rw [← HR.out]; simp [emp_yes, epl, hb])
        have hp : plE pl = 19 := by unfold plE; rw [hb]; rfl
        rw [hp] at CP
        clear HR ep epl hb hp
        go_enter Try.func29, Try.ntmps29
        go_wp2_with fail
        refine (CP.out _).mono ?_
        rintro e wn ⟨rfl, hbn⟩
        have bW := bW.st hbn; have BA := BA.below hbn BA.lt; have q0 := BA.cell 0 rfl; have q1 := BA.cell 1 rfl; have q2 := BA.cell 2 rfl; have q3 := BA.cell 3 rfl
        go_wp2_with fail
        go_ret
        obtain rfl := R.out; exact ⟨rfl, bW⟩
      · have hp : plE pl = 0 := by unfold plE; rw [if_pos hb]
        rw [hp] at CP
        generalize plS pl = s at *
        cases hq : eqS s pl
        · have R : Hid (r = 19) := Lib.hid (by rw [← HR.out]; simp [emp_yes, epl, hb, hq])
          have hq2 : (s.toList == pl.toList) = false := hq
          clear HR ep epl hb hp hq
          go_enter Try.func29, Try.ntmps29
          go_wp2_with fail
          refine (CP.out _).mono ?_
          rintro e wn ⟨rfl, hbn⟩
          have bW := bW.st hbn; have BA := BA.below hbn BA.lt; have q0 := BA.cell 0 rfl; have q1 := BA.cell 1 rfl; have q2 := BA.cell 2 rfl; have q3 := BA.cell 3 rfl
          go_wp2_with fail
          go_ret
          obtain rfl := R.out; exact ⟨rfl, bW⟩
        · cases hv : validB f t
          · have R : Hid (r = 12) := Lib.hid (by rw [← HR.out]; simp [emp_yes, epl, hb, hq, hv])
            have hq2 : (s.toList == pl.toList) = true := hq
            rw [hv] at CV
            clear HR ep epl hb hp hq hv
            go_enter Try.func29, Try.ntmps29
            go_wp2_with fail
            refine (CP.out _).mono ?_
            rintro e wn ⟨rfl, hbn⟩
            have bW := bW.st hbn; have BA := BA.below hbn BA.lt; have q0 := BA.cell 0 rfl; have q1 := BA.cell 1 rfl; have q2 := BA.cell 2 rfl; have q3 := BA.cell 3 rfl
            go_wp2_with fail
            refine (CV.out _).mono ?_
            rintro e wm ⟨rfl, rfl⟩
            go_wp2_with fail
            go_ret
            obtain rfl := R.out; exact ⟨rfl, bW.al _⟩
          · have R : Hid (r = 0) := Lib.hid (by rw [← HR.out]; simp [emp_yes, epl, hb, hq, hv])
            have hq2 : (s.toList == pl.toList) = true := hq
            rw [hv] at CV
            clear HR ep epl hb hp hq hv
            go_enter Try.func29, Try.ntmps29
            go_wp2_with fail
            refine (CP.out _).mono ?_
            rintro e wn ⟨rfl, hbn⟩
            have bW := bW.st hbn; have BA := BA.below hbn BA.lt; have q0 := BA.cell 0 rfl; have q1 := BA.cell 1 rfl; have q2 := BA.cell 2 rfl; have q3 := BA.cell 3 rfl
            go_wp2_with fail
            refine (CV.out _).mono ?_
            rintro e wm ⟨rfl, rfl⟩
            go_wp2_with fail
            go_ret
            obtain rfl := R.out; exact ⟨rfl, bW.al _⟩
  · have ntg : ¬ tg.toList = [] := toList_ne et
    have mtg : tg.toList.isEmpty = false := toList_nempty et
    have otg : (tg.toList == []) = false := toList_beq et
    have etg := emp_no et
    by_cases ep : pl = ⟨#[]⟩
    · subst ep
      cases hb : tagB tg
      · have R : Hid (r = 18) := Lib.hid (by rw [← HR.out]; simp [emp_yes, etg, hb])
        rw [hb] at CT
        clear HR et etg hb
        go_enter Try.func29, Try.ntmps29
        go_wp2_with fail
        refine (CT.out _).mono ?_
        rintro e wn ⟨rfl, hbn⟩
        have bW := bW.st hbn; have BA := BA.below hbn BA.lt; have q0 := BA.cell 0 rfl; have q1 := BA.cell 1 rfl; have q2 := BA.cell 2 rfl; have q3 := BA.cell 3 rfl
        go_wp2_with fail
        go_ret
        obtain rfl := R.out; exact ⟨rfl, bW⟩
      · rw [hb] at CT
        cases hv : validB f t
        · have R : Hid (r = 12) := Lib.hid (by rw [← HR.out]; simp [emp_yes, etg, hb, hv])
          rw [hv] at CV
          clear HR et etg hb hv
          go_enter Try.func29, Try.ntmps29
          go_wp2_with fail
          refine (CT.out _).mono ?_
          rintro e wn ⟨rfl, hbn⟩
          have bW := bW.st hbn; have BA := BA.below hbn BA.lt; have q0 := BA.cell 0 rfl; have q1 := BA.cell 1 rfl; have q2 := BA.cell 2 rfl; have q3 := BA.cell 3 rfl
          go_wp2_with fail
          refine (CV.out _).mono ?_
          rintro e wm ⟨rfl, rfl⟩
          go_wp2_with fail
          go_ret
          obtain rfl := R.out; exact ⟨rfl, bW.al _⟩
        · have R : Hid (r = 0) := Lib.hid (by rw [← HR.out]; simp [emp_yes, etg, hb, hv])
          rw [hv] at CV
          clear HR et etg hb hv
          go_enter Try.func29, Try.ntmps29
          go_wp2_with fail
          refine (CT.out _).mono ?_
          rintro e wn ⟨rfl, hbn⟩
          have bW := bW.st hbn; have BA := BA.below hbn BA.lt; have q0 := BA.cell 0 rfl; have q1 := BA.cell 1 rfl; have q2 := BA.cell 2 rfl; have q3 := BA.cell 3 rfl
          go_wp2_with fail
          refine (CV.out _).mono ?_
          rintro e wm ⟨rfl, rfl⟩
          go_wp2_with fail
          go_ret
          obtain rfl := R.out; exact ⟨rfl, bW.al _⟩
    · have epl := emp_no ep
      have npl : ¬ pl.toList = [] := toList_ne ep
      have mpl : pl.toList.isEmpty = false := toList_nempty ep
      have opl : (pl.toList == []) = false := toList_beq ep
      (have R : Hid (r = 1) := Lib.hid (by rw [← HR.out]; simp [etg, epl])); clear HR
      clear et ep etg epl
      go_enter Try.func29, Try.ntmps29
      go_wp2
      go_ret
      obtain rfl := R.out; exact ⟨rfl, bW⟩
end Go.Proofs.Ytfdnciijibiodaa
