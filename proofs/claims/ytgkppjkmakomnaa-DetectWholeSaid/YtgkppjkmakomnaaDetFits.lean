/- Whether a reading fits a kind of devices: the program's and the reference's, walked. -/
import Derived.Test.YtgkppjkmakomnaaDetRComp
import Derived.Test.YtgkppjkmakomnaaJDetTag2
import Derived.Test.YtgkppjkmakomnaaDetRPl
namespace Go.Proofs.Ytgkppjkmakomnaa
open Go.RowKit Go.Lib

def fitsB (kd : Int) (d : Dt) : Bool :=
  if kd = 1 then tagB d.tag && (eqS d.pl ⟨#[]⟩ && d.ax == 0)
  else if kd = 2 then plB d.pl && (eqS (plS d.pl) d.pl && (eqS d.tag ⟨#[]⟩ && d.ax == 0))
  else if kd = 3 then decide (1 ≤ d.ax) && (decide (d.ax ≤ 20) && (eqS d.tag ⟨#[]⟩ && eqS d.pl ⟨#[]⟩))
  else false
theorem toList_ne {a : ByteArray} (h : ¬ a = ⟨#[]⟩) : ¬ a.toList = [] := by
  intro q
  apply h
  rw [ByteArray.toList_eq] at q
  cases a; simp only [ByteArray.mk.injEq]
  exact Array.toList_eq_nil_iff.1 q
theorem toList_nempty {a : ByteArray} (h : ¬ a = ⟨#[]⟩) : a.toList.isEmpty = false := by
  cases q : a.toList with
  | nil => exact absurd q (toList_ne h)
  | cons _ _ => rfl
theorem toList_beq {a : ByteArray} (h : ¬ a = ⟨#[]⟩) : (a.toList == []) = false := by
  cases q : a.toList with
  | nil => exact absurd q (toList_ne h)
  | cons _ _ => rfl

set_option maxRecDepth 100000 in
set_option maxHeartbeats 8000000 in
theorem fits_any (kd : Int) (d : Dt) (hsz : SzD d) (w : World) : Calls Try.prog 31 #[.int .i64 kd, DtV d] w fun e w' => e = .returned (.bool (fitsB kd d)) ∧ Below w.heap.size w w' := by
  obtain ⟨dev, seq, tm, tg, pl, ax, sc⟩ := d
  have CT := Lib.hid (fun (X : World) => tagcheck_any tg X)
  have CP := Lib.hid (fun (X : World) => normal_any pl (by have := hsz.2.2; simp only at this; omega) X)
  obtain ⟨Y1, hY1⟩ : ∃ Y, w.alloc (.cells #[.string dev, .int .i64 seq, .int .i64 tm, .string tg, .string pl, .int .i64 ax, .int .i64 sc] 24) = Y := ⟨_, rfl⟩
  have bW : Below w.heap.size w Y1 := by rw [← hY1]; exact (Below.refl _ w).al _
  have BA : Blk Y1 w.heap.size #[.string dev, .int .i64 seq, .int .i64 tm, .string tg, .string pl, .int .i64 ax, .int .i64 sc] 24 := by rw [← hY1]; exact Blk.new w _ _
  have k3 := BA.cell 3 (v := .string tg) rfl
  have k4 := BA.cell 4 (v := .string pl) rfl
  have k5 := BA.cell 5 (v := .int .i64 ax) rfl
  simp only [DtV]
  clear hsz
  generalize hr : fitsB kd _ = r
  have HR := Lib.hid hr
  clear hr
  simp only [fitsB] at HR
  by_cases q1 : kd = 1
  · subst q1
    cases ht : tagB tg
    · rw [ht] at CT
      have R : Hid (r = false) := Lib.hid (by rw [← HR.out]; simp [ht])
      clear HR
      clear ht CP
      go_enter Try.func31, Try.ntmps31
      go_wp2_with fail
      refine (CT.out _).mono ?_
      rintro e wn ⟨rfl, hbn⟩
      have bW := bW.st hbn; have BA := BA.below hbn BA.lt; have k3 := BA.cell 3 rfl; have k4 := BA.cell 4 rfl; have k5 := BA.cell 5 rfl
      go_wp2_with fail
      go_ret
      exact ⟨by rw [R.out]; rfl, bW⟩
    · rw [ht] at CT
      by_cases hpl : pl = ⟨#[]⟩
      · subst hpl
        by_cases hax : ax = 0
        · subst hax
          have R : Hid (r = true) := Lib.hid (by rw [← HR.out]; simp [ht, eqS_refl])
          clear HR
          clear ht CP
          go_enter Try.func31, Try.ntmps31
          go_wp2_with fail
          refine (CT.out _).mono ?_
          rintro e wn ⟨rfl, hbn⟩
          have bW := bW.st hbn; have BA := BA.below hbn BA.lt; have k3 := BA.cell 3 rfl; have k4 := BA.cell 4 rfl; have k5 := BA.cell 5 rfl
          go_wp2_with fail
          go_ret
          exact ⟨by rw [R.out]; rfl, bW⟩
        · have qa : (ax == 0) = false := by simp [hax]
          have R : Hid (r = false) := Lib.hid (by rw [← HR.out]; simp [ht, hax, eqS_refl])
          clear HR
          clear ht hax CP
          go_enter Try.func31, Try.ntmps31
          go_wp2_with fail
          refine (CT.out _).mono ?_
          rintro e wn ⟨rfl, hbn⟩
          have bW := bW.st hbn; have BA := BA.below hbn BA.lt; have k3 := BA.cell 3 rfl; have k4 := BA.cell 4 rfl; have k5 := BA.cell 5 rfl
          go_wp2_with fail
          go_ret
          exact ⟨by rw [R.out]; rfl, bW⟩
      · have qp : eqS pl ⟨#[]⟩ = false := by rw [Bool.eq_false_iff]; exact fun h => hpl ((eqS_iff _ _).1 h)
        have R : Hid (r = false) := Lib.hid (by rw [← HR.out]; simp [ht, qp])
        have npl : ¬ pl.toList = [] := toList_ne hpl
        have mpl : pl.toList.isEmpty = false := toList_nempty hpl
        have opl : (pl.toList == []) = false := toList_beq hpl
        clear HR
        clear ht hpl qp CP
        go_enter Try.func31, Try.ntmps31
        go_wp2_with fail
        refine (CT.out _).mono ?_
        rintro e wn ⟨rfl, hbn⟩
        have bW := bW.st hbn; have BA := BA.below hbn BA.lt; have k3 := BA.cell 3 rfl; have k4 := BA.cell 4 rfl; have k5 := BA.cell 5 rfl
        go_wp2_with fail
        go_ret
        exact ⟨by rw [R.out]; rfl, bW⟩
  · have q1b : (kd == 1) = false := by simp [q1]
    by_cases q2 : kd = 2
    · subst q2
      clear q1 CT
      cases hp : plB pl
      · rw [(plb_no hp).1, (plb_no hp).2] at CP
        have R : Hid (r = false) := Lib.hid (by rw [← HR.out]; simp [hp])
        clear HR
        clear hp
        go_enter Try.func31, Try.ntmps31
        go_wp2_with fail
        refine (CP.out _).mono ?_
        rintro e wn ⟨rfl, hbn⟩
        have bW := bW.st hbn; have BA := BA.below hbn BA.lt; have k3 := BA.cell 3 rfl; have k4 := BA.cell 4 rfl; have k5 := BA.cell 5 rfl
        go_wp2_with fail
        go_ret
        exact ⟨by rw [R.out]; rfl, bW⟩
      · rw [(plb_yes hp).2] at CP
        cases he : eqS (plS pl) pl
        · have e1 : ((plS pl).toList == pl.toList) = false := he
          generalize hps : plS pl = ps at *
          have R : Hid (r = false) := Lib.hid (by rw [← HR.out]; simp [hp, he])
          clear HR
          clear hp he hps
          go_enter Try.func31, Try.ntmps31
          go_wp2_with fail
          refine (CP.out _).mono ?_
          rintro e wn ⟨rfl, hbn⟩
          have bW := bW.st hbn; have BA := BA.below hbn BA.lt; have k3 := BA.cell 3 rfl; have k4 := BA.cell 4 rfl; have k5 := BA.cell 5 rfl
          go_wp2_with fail
          go_ret
          exact ⟨by rw [R.out]; rfl, bW⟩
        · have e0 : plS pl = pl := (eqS_iff _ _).1 he
          rw [e0] at CP he HR
          have e1 : (pl.toList == pl.toList) = true := by simp
          clear e0
          by_cases htg : tg = ⟨#[]⟩
          · subst htg
            by_cases hax : ax = 0
            · subst hax
              have R : Hid (r = true) := Lib.hid (by rw [← HR.out]; simp [hp, eqS_refl])
              clear HR
              clear hp he
              go_enter Try.func31, Try.ntmps31
              go_wp2_with fail
              refine (CP.out _).mono ?_
              rintro e wn ⟨rfl, hbn⟩
              have bW := bW.st hbn; have BA := BA.below hbn BA.lt; have k3 := BA.cell 3 rfl; have k4 := BA.cell 4 rfl; have k5 := BA.cell 5 rfl
              go_wp2_with fail
              go_ret
              exact ⟨by rw [R.out]; rfl, bW⟩
            · have qa : (ax == 0) = false := by simp [hax]
              have R : Hid (r = false) := Lib.hid (by rw [← HR.out]; simp [hp, hax, eqS_refl])
              clear HR
              clear hp he hax
              go_enter Try.func31, Try.ntmps31
              go_wp2_with fail
              refine (CP.out _).mono ?_
              rintro e wn ⟨rfl, hbn⟩
              have bW := bW.st hbn; have BA := BA.below hbn BA.lt; have k3 := BA.cell 3 rfl; have k4 := BA.cell 4 rfl; have k5 := BA.cell 5 rfl
              go_wp2_with fail
              go_ret
              exact ⟨by rw [R.out]; rfl, bW⟩
          · have qp : eqS tg ⟨#[]⟩ = false := by rw [Bool.eq_false_iff]; exact fun h => htg ((eqS_iff _ _).1 h)
            have R : Hid (r = false) := Lib.hid (by rw [← HR.out]; simp [hp, qp])
            have ntg : ¬ tg.toList = [] := toList_ne htg
            have mtg : tg.toList.isEmpty = false := toList_nempty htg
            have otg : (tg.toList == []) = false := toList_beq htg
            clear HR
            clear hp he htg qp
            go_enter Try.func31, Try.ntmps31
            go_wp2_with fail
            refine (CP.out _).mono ?_
            rintro e wn ⟨rfl, hbn⟩
            have bW := bW.st hbn; have BA := BA.below hbn BA.lt; have k3 := BA.cell 3 rfl; have k4 := BA.cell 4 rfl; have k5 := BA.cell 5 rfl
            go_wp2_with fail
            go_ret
            exact ⟨by rw [R.out]; rfl, bW⟩
    · have q2b : (kd == 2) = false := by simp [q2]
      clear CT CP
      by_cases q3 : kd = 3
      · subst q3
        clear q1 q2
        by_cases a1 : 1 ≤ ax
        · by_cases a2 : ax ≤ 20
          · by_cases htg : tg = ⟨#[]⟩
            · subst htg
              by_cases hpl : pl = ⟨#[]⟩
              · subst hpl
                have R : Hid (r = true) := Lib.hid (by rw [← HR.out]; simp [a1, a2, eqS_refl])
                clear HR
                go_enter Try.func31, Try.ntmps31
                go_wp2_with fail
                go_ret
                exact ⟨by rw [R.out]; rfl, bW⟩
              · have qp : eqS pl ⟨#[]⟩ = false := by rw [Bool.eq_false_iff]; exact fun h => hpl ((eqS_iff _ _).1 h)
                have R : Hid (r = false) := Lib.hid (by rw [← HR.out]; simp [a1, a2, qp])
                have npl : ¬ pl.toList = [] := toList_ne hpl
                have mpl : pl.toList.isEmpty = false := toList_nempty hpl
                have opl : (pl.toList == []) = false := toList_beq hpl
                clear HR
                clear hpl qp
                go_enter Try.func31, Try.ntmps31
                go_wp2_with fail
                go_ret
                exact ⟨by rw [R.out]; rfl, bW⟩
            · have qp : eqS tg ⟨#[]⟩ = false := by rw [Bool.eq_false_iff]; exact fun h => htg ((eqS_iff _ _).1 h)
              have R : Hid (r = false) := Lib.hid (by rw [← HR.out]; simp [a1, a2, qp])
              have ntg : ¬ tg.toList = [] := toList_ne htg
              have mtg : tg.toList.isEmpty = false := toList_nempty htg
              have otg : (tg.toList == []) = false := toList_beq htg
              clear HR
              clear htg qp
              go_enter Try.func31, Try.ntmps31
              go_wp2_with fail
              go_ret
              exact ⟨by rw [R.out]; rfl, bW⟩
          · have R : Hid (r = false) := Lib.hid (by rw [← HR.out]; simp [a1, a2])
            clear HR
            go_enter Try.func31, Try.ntmps31
            go_wp2_with fail
            go_ret
            exact ⟨by rw [R.out]; rfl, bW⟩
        · have R : Hid (r = false) := Lib.hid (by rw [← HR.out]; simp [a1])
          clear HR
          go_enter Try.func31, Try.ntmps31
          go_wp2_with fail
          go_ret
          exact ⟨by rw [R.out]; rfl, bW⟩
      · have q3b : (kd == 3) = false := by simp [q3]
        have R : Hid (r = false) := Lib.hid (by rw [← HR.out]; simp [q1, q2, q3])
        clear HR
        clear q1 q2 q3
        go_enter Try.func31, Try.ntmps31
        go_wp2_with fail
        go_ret
        exact ⟨by rw [R.out]; rfl, bW⟩

set_option maxRecDepth 100000 in
set_option maxHeartbeats 8000000 in
theorem rfits_any (kd : Int) (d : Dt) (hsz : SzD d) (w : World) : Calls Try.prog 35 #[.int .i64 kd, DtV d] w fun e w' => e = .returned (.bool (fitsB kd d)) ∧ Below w.heap.size w w' := by
  obtain ⟨dev, seq, tm, tg, pl, ax, sc⟩ := d
  have CT := Lib.hid (fun (X : World) => (rtagcheck_any tg X).mono fun e w' (h : _ ∧ _) => (⟨h.1, by rw [h.2]; exact Below.refl _ _⟩ : _ ∧ Below X.heap.size X w'))
  have CP := Lib.hid (fun (X : World) => rnormal_any pl (by have := hsz.2.2; simp only at this; omega) X)
  obtain ⟨Y1, hY1⟩ : ∃ Y, w.alloc (.cells #[.string dev, .int .i64 seq, .int .i64 tm, .string tg, .string pl, .int .i64 ax, .int .i64 sc] 24) = Y := ⟨_, rfl⟩
  have bW : Below w.heap.size w Y1 := by rw [← hY1]; exact (Below.refl _ w).al _
  have BA : Blk Y1 w.heap.size #[.string dev, .int .i64 seq, .int .i64 tm, .string tg, .string pl, .int .i64 ax, .int .i64 sc] 24 := by rw [← hY1]; exact Blk.new w _ _
  have k3 := BA.cell 3 (v := .string tg) rfl
  have k4 := BA.cell 4 (v := .string pl) rfl
  have k5 := BA.cell 5 (v := .int .i64 ax) rfl
  simp only [DtV]
  clear hsz
  generalize hr : fitsB kd _ = r
  have HR := Lib.hid hr
  clear hr
  simp only [fitsB] at HR
  by_cases q1 : kd = 1
  · subst q1
    cases ht : tagB tg
    · rw [ht] at CT
      have R : Hid (r = false) := Lib.hid (by rw [← HR.out]; simp [ht])
      clear HR
      clear ht CP
      go_enter Try.func35, Try.ntmps35
      go_wp2_with fail
      refine (CT.out _).mono ?_
      rintro e wn ⟨rfl, hbn⟩
      have bW := bW.st hbn; have BA := BA.below hbn BA.lt; have k3 := BA.cell 3 rfl; have k4 := BA.cell 4 rfl; have k5 := BA.cell 5 rfl
      go_wp2_with fail
      go_ret
      exact ⟨by rw [R.out]; rfl, bW⟩
    · rw [ht] at CT
      by_cases hpl : pl = ⟨#[]⟩
      · subst hpl
        by_cases hax : ax = 0
        · subst hax
          have R : Hid (r = true) := Lib.hid (by rw [← HR.out]; simp [ht, eqS_refl])
          clear HR
          clear ht CP
          go_enter Try.func35, Try.ntmps35
          go_wp2_with fail
          refine (CT.out _).mono ?_
          rintro e wn ⟨rfl, hbn⟩
          have bW := bW.st hbn; have BA := BA.below hbn BA.lt; have k3 := BA.cell 3 rfl; have k4 := BA.cell 4 rfl; have k5 := BA.cell 5 rfl
          go_wp2_with fail
          go_ret
          exact ⟨by rw [R.out]; rfl, bW⟩
        · have qa : (ax == 0) = false := by simp [hax]
          have R : Hid (r = false) := Lib.hid (by rw [← HR.out]; simp [ht, hax, eqS_refl])
          clear HR
          clear ht hax CP
          go_enter Try.func35, Try.ntmps35
          go_wp2_with fail
          refine (CT.out _).mono ?_
          rintro e wn ⟨rfl, hbn⟩
          have bW := bW.st hbn; have BA := BA.below hbn BA.lt; have k3 := BA.cell 3 rfl; have k4 := BA.cell 4 rfl; have k5 := BA.cell 5 rfl
          go_wp2_with fail
          go_ret
          exact ⟨by rw [R.out]; rfl, bW⟩
      · have qp : eqS pl ⟨#[]⟩ = false := by rw [Bool.eq_false_iff]; exact fun h => hpl ((eqS_iff _ _).1 h)
        have R : Hid (r = false) := Lib.hid (by rw [← HR.out]; simp [ht, qp])
        have npl : ¬ pl.toList = [] := toList_ne hpl
        have mpl : pl.toList.isEmpty = false := toList_nempty hpl
        have opl : (pl.toList == []) = false := toList_beq hpl
        clear HR
        clear ht hpl qp CP
        go_enter Try.func35, Try.ntmps35
        go_wp2_with fail
        refine (CT.out _).mono ?_
        rintro e wn ⟨rfl, hbn⟩
        have bW := bW.st hbn; have BA := BA.below hbn BA.lt; have k3 := BA.cell 3 rfl; have k4 := BA.cell 4 rfl; have k5 := BA.cell 5 rfl
        go_wp2_with fail
        go_ret
        exact ⟨by rw [R.out]; rfl, bW⟩
  · have q1b : (kd == 1) = false := by simp [q1]
    by_cases q2 : kd = 2
    · subst q2
      clear q1 CT
      cases hp : plB pl
      · rw [(plb_no hp).1, (plb_no hp).2] at CP
        have R : Hid (r = false) := Lib.hid (by rw [← HR.out]; simp [hp])
        clear HR
        clear hp
        go_enter Try.func35, Try.ntmps35
        go_wp2_with fail
        refine (CP.out _).mono ?_
        rintro e wn ⟨rfl, hbn⟩
        have bW := bW.st hbn; have BA := BA.below hbn BA.lt; have k3 := BA.cell 3 rfl; have k4 := BA.cell 4 rfl; have k5 := BA.cell 5 rfl
        go_wp2_with fail
        go_ret
        exact ⟨by rw [R.out]; rfl, bW⟩
      · rw [(plb_yes hp).2] at CP
        cases he : eqS (plS pl) pl
        · have e1 : ((plS pl).toList == pl.toList) = false := he
          generalize hps : plS pl = ps at *
          have R : Hid (r = false) := Lib.hid (by rw [← HR.out]; simp [hp, he])
          clear HR
          clear hp he hps
          go_enter Try.func35, Try.ntmps35
          go_wp2_with fail
          refine (CP.out _).mono ?_
          rintro e wn ⟨rfl, hbn⟩
          have bW := bW.st hbn; have BA := BA.below hbn BA.lt; have k3 := BA.cell 3 rfl; have k4 := BA.cell 4 rfl; have k5 := BA.cell 5 rfl
          go_wp2_with fail
          go_ret
          exact ⟨by rw [R.out]; rfl, bW⟩
        · have e0 : plS pl = pl := (eqS_iff _ _).1 he
          rw [e0] at CP he HR
          have e1 : (pl.toList == pl.toList) = true := by simp
          clear e0
          by_cases htg : tg = ⟨#[]⟩
          · subst htg
            by_cases hax : ax = 0
            · subst hax
              have R : Hid (r = true) := Lib.hid (by rw [← HR.out]; simp [hp, eqS_refl])
              clear HR
              clear hp he
              go_enter Try.func35, Try.ntmps35
              go_wp2_with fail
              refine (CP.out _).mono ?_
              rintro e wn ⟨rfl, hbn⟩
              have bW := bW.st hbn; have BA := BA.below hbn BA.lt; have k3 := BA.cell 3 rfl; have k4 := BA.cell 4 rfl; have k5 := BA.cell 5 rfl
              go_wp2_with fail
              go_ret
              exact ⟨by rw [R.out]; rfl, bW⟩
            · have qa : (ax == 0) = false := by simp [hax]
              have R : Hid (r = false) := Lib.hid (by rw [← HR.out]; simp [hp, hax, eqS_refl])
              clear HR
              clear hp he hax
              go_enter Try.func35, Try.ntmps35
              go_wp2_with fail
              refine (CP.out _).mono ?_
              rintro e wn ⟨rfl, hbn⟩
              have bW := bW.st hbn; have BA := BA.below hbn BA.lt; have k3 := BA.cell 3 rfl; have k4 := BA.cell 4 rfl; have k5 := BA.cell 5 rfl
              go_wp2_with fail
              go_ret
              exact ⟨by rw [R.out]; rfl, bW⟩
          · have qp : eqS tg ⟨#[]⟩ = false := by rw [Bool.eq_false_iff]; exact fun h => htg ((eqS_iff _ _).1 h)
            have R : Hid (r = false) := Lib.hid (by rw [← HR.out]; simp [hp, qp])
            have ntg : ¬ tg.toList = [] := toList_ne htg
            have mtg : tg.toList.isEmpty = false := toList_nempty htg
            have otg : (tg.toList == []) = false := toList_beq htg
            clear HR
            clear hp he htg qp
            go_enter Try.func35, Try.ntmps35
            go_wp2_with fail
            refine (CP.out _).mono ?_
            rintro e wn ⟨rfl, hbn⟩
            have bW := bW.st hbn; have BA := BA.below hbn BA.lt; have k3 := BA.cell 3 rfl; have k4 := BA.cell 4 rfl; have k5 := BA.cell 5 rfl
            go_wp2_with fail
            go_ret
            exact ⟨by rw [R.out]; rfl, bW⟩
    · have q2b : (kd == 2) = false := by simp [q2]
      clear CT CP
      by_cases q3 : kd = 3
      · subst q3
        clear q1 q2
        by_cases a1 : 1 ≤ ax
        · by_cases a2 : ax ≤ 20
          · by_cases htg : tg = ⟨#[]⟩
            · subst htg
              by_cases hpl : pl = ⟨#[]⟩
              · subst hpl
                have R : Hid (r = true) := Lib.hid (by rw [← HR.out]; simp [a1, a2, eqS_refl])
                clear HR
                go_enter Try.func35, Try.ntmps35
                go_wp2_with fail
                go_ret
                exact ⟨by rw [R.out]; rfl, bW⟩
              · have qp : eqS pl ⟨#[]⟩ = false := by rw [Bool.eq_false_iff]; exact fun h => hpl ((eqS_iff _ _).1 h)
                have R : Hid (r = false) := Lib.hid (by rw [← HR.out]; simp [a1, a2, qp])
                have npl : ¬ pl.toList = [] := toList_ne hpl
                have mpl : pl.toList.isEmpty = false := toList_nempty hpl
                have opl : (pl.toList == []) = false := toList_beq hpl
                clear HR
                clear hpl qp
                go_enter Try.func35, Try.ntmps35
                go_wp2_with fail
                go_ret
                exact ⟨by rw [R.out]; rfl, bW⟩
            · have qp : eqS tg ⟨#[]⟩ = false := by rw [Bool.eq_false_iff]; exact fun h => htg ((eqS_iff _ _).1 h)
              have R : Hid (r = false) := Lib.hid (by rw [← HR.out]; simp [a1, a2, qp])
              have ntg : ¬ tg.toList = [] := toList_ne htg
              have mtg : tg.toList.isEmpty = false := toList_nempty htg
              have otg : (tg.toList == []) = false := toList_beq htg
              clear HR
              clear htg qp
              go_enter Try.func35, Try.ntmps35
              go_wp2_with fail
              go_ret
              exact ⟨by rw [R.out]; rfl, bW⟩
          · have R : Hid (r = false) := Lib.hid (by rw [← HR.out]; simp [a1, a2])
            clear HR
            go_enter Try.func35, Try.ntmps35
            go_wp2_with fail
            go_ret
            exact ⟨by rw [R.out]; rfl, bW⟩
        · have R : Hid (r = false) := Lib.hid (by rw [← HR.out]; simp [a1])
          clear HR
          go_enter Try.func35, Try.ntmps35
          go_wp2_with fail
          go_ret
          exact ⟨by rw [R.out]; rfl, bW⟩
      · have q3b : (kd == 3) = false := by simp [q3]
        have R : Hid (r = false) := Lib.hid (by rw [← HR.out]; simp [q1, q2, q3])
        clear HR
        clear q1 q2 q3
        go_enter Try.func35, Try.ntmps35
        go_wp2_with fail
        go_ret
        exact ⟨by rw [R.out]; rfl, bW⟩
end Go.Proofs.Ytgkppjkmakomnaa
