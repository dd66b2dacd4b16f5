/- Joined texts: BillDate, DetTag, DetPl, AccMath. -/
import Derived.Test.YtelchfijalkibaaGreatDoorJDisAll
import Derived.OwnWalk
import Derived.Test.YtelchfijalkibaaGreatDoorProg
import Derived.Test.YtelchfijalkibaaGreatDoorJFirst
import Derived.Outline
import Derived.Laws.RangeAny
import Derived.Laws.RangeString
import Derived.LoopTactic
import Derived.Laws.Closers25b
import Derived.IntWalk
import Derived.Laws.IdiomStrings
import Derived.Test.YtelchfijalkibaaGreatDoorSpanMath
/- The date of a day and the month of a time, walked: the clock's and the reference's. -/
set_option linter.unusedSimpArgs false
namespace Go.Proofs.YtelchfijalkibaaGreatDoor
open Go.RowKit Go.Lib

def dateV (d : Int) : Value := if 0 ≤ d ∧ d < 795364 then .tuple #[.int .i64 (2001 + (ymd d).1), .int .i64 ((ymd d).2.1 + 1), .int .i64 ((ymd d).2.2 + 1)] else .tuple #[.int .i64 0, .int .i64 0, .int .i64 0]
theorem dateV_of {d : Int} (h0 : 0 ≤ d) (h1 : d < 795364) {n m : Nat} {l r : Int} (hc : cumY n + l = d) (hm : m < 12) (hl : cumM (2001 + n) m + r = l) (r0 : 0 ≤ r) (r1 : r < lenM (2001 + n) (m + 1)) :
    dateV d = .tuple #[.int .i64 (2001 + n), .int .i64 (m + 1), .int .i64 (r + 1)] := by
  have k : DR d n m r := ⟨by omega, hm, r0, r1⟩
  obtain ⟨e1, e2, e3⟩ := (ymd_holds h0 h1).unique k
  unfold dateV
  rw [if_pos ⟨h0, h1⟩, e1, e2, e3]
theorem cum_next {n : Nat} {l d : Int} (h : cumY n + l = d) : cumY (n + 1) + (l - yearN (2001 + n)) = d := by
  have c : cumY (n + 1) = cumY n + yearN (2001 + n) := rfl
  omega
theorem cumM_next {y : Int} {m : Nat} {l r : Int} (h : cumM y m + r = l) : cumM y (m + 1) + (r - lenM y (m + 1)) = l := by
  have c : cumM y (m + 1) = cumM y m + lenM y ((m : Int) + 1) := rfl
  omega
theorem m_lt {y : Int} {m : Nat} {l r : Int} (h : cumM y m + r = l) (hl : l < yearN y) (hm : m < 12) (hr : lenM y (m + 1) ≤ r) : m + 1 < 12 := by
  rcases (by omega : m + 1 < 12 ∨ m = 11) with q | rfl
  · exact q
  · have c : cumM y 12 = cumM y 11 + lenM y ((11 : Int) + 1) := rfl
    rw [cumM_12] at c
    have : lenM y (((11 : Nat) : Int) + 1) = lenM y ((11 : Int) + 1) := rfl
    omega
theorem n_le {n : Nat} {l d : Int} (h : cumY n + l = d) (hl : 0 ≤ l) (hd : d < 795364) : n ≤ 2200 := by
  have a := cumY_lt 0 n
  have z : cumY 0 = 0 := rfl
  rw [Nat.zero_add] at a
  omega

set_option maxRecDepth 100000 in
set_option maxHeartbeats 8000000 in
theorem cdate_any (d : Int) {w : World} (hw : Mon w) : Calls Tryz.prog 36 #[.int .i64 d] w fun e w' => e = .returned (dateV d) ∧ w' = w := by
  by_cases hd : 0 ≤ d ∧ d < 795364
  · have hD := decide_eq_true hd
    obtain ⟨h0, h1⟩ := hd
    have CD := Lib.hid (cisDay_any d w)
    rw [hD] at CD
    have CLP := Lib.hid (fun (y : Int) (q : 0 ≤ y) => cleap_any y q w)
    have CLN := Lib.hid (fun (y m : Int) (q : 0 ≤ y) (q1 : 1 ≤ m) (q2 : m ≤ 12) => clen_any y m q q1 q2 w hw)
    have HOF := Lib.hid (fun (n m : Nat) (l r : Int) hc hm hl r0 r1 => dateV_of h0 h1 (n := n) (m := m) (l := l) (r := r) hc hm hl r0 r1)
    generalize hdv : dateV d = dv at *
    have e1 : d.tdiv 146097 = d / 146097 := Int.tdiv_eq_ediv_of_nonneg h0
    have e2 : d.tmod 146097 = d % 146097 := Int.tmod_eq_emod_of_nonneg h0
    have hk0 : 0 ≤ d / 146097 := by omega
    have hk1 : d / 146097 ≤ 5 := by omega
    have hr0 : 0 ≤ d % 146097 := by omega
    have hr1 : d % 146097 < 146097 := by omega
    have HST : Hid (cumY (400 * (d / 146097).toNat) + d % 146097 = d) := Lib.hid (by rw [cumY_cycle]; omega)
    have HST2 : Hid ((2001 + d / 146097 * 400 : Int) = 2001 + ((400 * (d / 146097).toNat : Nat) : Int)) := Lib.hid (by omega)
    generalize hq : d / 146097 = k0 at *
    generalize hq2 : d % 146097 = l0 at *
    clear hw hdv hD hq hq2
    go_enter Tryz.func36, Tryz.ntmps36
    go_wp2_with fail
    refine CD.out.mono ?_
    rintro e w' ⟨rfl, rfl⟩
    go_wp2_with fail
    go_loopw [5, 6] (fun vy vl wr => ∃ (n : Nat) (l : Int), 0 ≤ l ∧ l ≤ 146097 ∧ vy = .int .i64 (2001 + (n : Int)) ∧ vl = .int .i64 l ∧ Hid (cumY n + l = d) ∧ wr = w') (fun _ vl _ => (RowKit.intOf vl).toNat)
    case atStart => exact ⟨400 * k0.toNat, l0, hr0, by omega, by rw [HST2.out], rfl, HST, rfl⟩
    case round =>
      clear HST HST2 hk0 hk1 hr0 hr1 e1 e2
      obtain ⟨n, l, hl0, hl1, rfl, rfl, HC, rfl⟩ := hrel
      have hn := n_le HC.out hl0 h1
      have CL := Lib.hid (CLP.out (2001 + n) (by omega))
      have HN := Lib.hid (cum_next HC.out)
      have hY : (leapB (2001 + n) = false ∧ yearN (2001 + n) = 365) ∨ (leapB (2001 + n) = true ∧ yearN (2001 + n) = 366) := by unfold yearN; cases leapB (2001 + (n : Int)) <;> simp
      rcases hY with ⟨hlp, hyn⟩ | ⟨hlp, hyn⟩
      all_goals
        rw [hlp] at CL
        rw [hyn] at HN
        have HYN := Lib.hid hyn
        clear hlp hyn
        go_wp2_with fail
        refine CL.out.mono ?_
        rintro e wz ⟨rfl, rfl⟩
      · by_cases hlt : l < 365
        · have HL : Hid (l < yearN (2001 + n)) := Lib.hid (by rw [HYN.out]; exact hlt)
          clear HN HYN CL CLP CD
          go_wp2_with fail
          (obtain ⟨wo, hwo⟩ : ∃ wo, wo = wz := ⟨_, rfl⟩); go_loopw [6, 8] (fun vr vm wr => ∃ (m : Nat) (r : Int), m < 12 ∧ 0 ≤ r ∧ r ≤ 366 ∧ vr = .int .i64 r ∧ vm = .int .i64 ((m : Int) + 1) ∧ Hid (cumM (2001 + n) m + r = l) ∧ wr = wo) (fun vr _ _ => (RowKit.intOf vr).toNat); (case atStart => exact ⟨0, l, by omega, hl0, by omega, rfl, rfl, Lib.hid (by show (0 : Int) + l = l; omega), hwo.symm⟩); (case round => (obtain ⟨m, r, hm, hr0, hr1, rfl, rfl, HM, rfl⟩ := hrel); subst hwo; (have CLM := Lib.hid (CLN.out (2001 + n) ((m : Int) + 1) (by omega) (by omega) (by omega))); (have HMN := Lib.hid (cumM_next HM.out)); (have hlp := lenM_pos (2001 + n) ((m : Int) + 1)); (have HO := Lib.hid (fun (q : r < lenM (2001 + n) (m + 1)) => HOF.out n m l r HC.out hm HM.out hr0 q)); (have HMLT := Lib.hid (fun (q : lenM (2001 + n) (m + 1) ≤ r) => m_lt HM.out HL.out hm q)); generalize lenM (2001 + (n : Int)) ((m : Int) + 1) = ln at CLM HMN hlp HO HMLT; (obtain ⟨hlp1, hlp2⟩ := hlp); by_cases hrl : r < ln; (focus (have R := Lib.hid (HO.out hrl); clear HO HMN HMLT; go_wp2_with fail; refine CLM.out.mono ?_; rintro e wz ⟨rfl, rfl⟩; go_wp2_with fail; go_ret3; rw [R.out]; exact ⟨rfl, rfl⟩)); (focus (have hm2 := HMLT.out (by omega); have hge : 0 ≤ r - ln := (by omega); clear HO HMLT; go_wp2_with fail; refine CLM.out.mono ?_; rintro e wz ⟨rfl, rfl⟩; go_wp2_with fail; refine CLM.out.mono ?_; rintro e wz ⟨rfl, rfl⟩; go_wp2_with fail; go_roundw; (case rel => exact ⟨m + 1, r - ln, hm2, hge, by omega, rfl, by go_num, HMN, trivial⟩); (case measure => simp [RowKit.intOf]; omega))))
        · have h365 : 0 ≤ l - 365 := by omega
          go_wp2_with fail
          go_roundw
          case rel => exact ⟨n + 1, l - 365, h365, by omega, by go_num, rfl, HN, trivial⟩
          case measure => simp [RowKit.intOf]; omega
      · by_cases hlt : l < 366
        · have HL : Hid (l < yearN (2001 + n)) := Lib.hid (by rw [HYN.out]; exact hlt)
          clear HN HYN CL CLP CD
          go_wp2_with fail
          (obtain ⟨wo, hwo⟩ : ∃ wo, wo = wz := ⟨_, rfl⟩); go_loopw [6, 8] (fun vr vm wr => ∃ (m : Nat) (r : Int), m < 12 ∧ 0 ≤ r ∧ r ≤ 366 ∧ vr = .int .i64 r ∧ vm = .int .i64 ((m : Int) + 1) ∧ Hid (cumM (2001 + n) m + r = l) ∧ wr = wo) (fun vr _ _ => (RowKit.intOf vr).toNat); (case atStart => exact ⟨0, l, by omega, hl0, by omega, rfl, rfl, Lib.hid (by show (0 : Int) + l = l; omega), hwo.symm⟩); (case round => (obtain ⟨m, r, hm, hr0, hr1, rfl, rfl, HM, rfl⟩ := hrel); subst hwo; (have CLM := Lib.hid (CLN.out (2001 + n) ((m : Int) + 1) (by omega) (by omega) (by omega))); (have HMN := Lib.hid (cumM_next HM.out)); (have hlp := lenM_pos (2001 + n) ((m : Int) + 1)); (have HO := Lib.hid (fun (q : r < lenM (2001 + n) (m + 1)) => HOF.out n m l r HC.out hm HM.out hr0 q)); (have HMLT := Lib.hid (fun (q : lenM (2001 + n) (m + 1) ≤ r) => m_lt HM.out HL.out hm q)); generalize lenM (2001 + (n : Int)) ((m : Int) + 1) = ln at CLM HMN hlp HO HMLT; (obtain ⟨hlp1, hlp2⟩ := hlp); by_cases hrl : r < ln; (focus (have R := Lib.hid (HO.out hrl); clear HO HMN HMLT; go_wp2_with fail; refine CLM.out.mono ?_; rintro e wz ⟨rfl, rfl⟩; go_wp2_with fail; go_ret3; rw [R.out]; exact ⟨rfl, rfl⟩)); (focus (have hm2 := HMLT.out (by omega); have hge : 0 ≤ r - ln := (by omega); clear HO HMLT; go_wp2_with fail; refine CLM.out.mono ?_; rintro e wz ⟨rfl, rfl⟩; go_wp2_with fail; refine CLM.out.mono ?_; rintro e wz ⟨rfl, rfl⟩; go_wp2_with fail; go_roundw; (case rel => exact ⟨m + 1, r - ln, hm2, hge, by omega, rfl, by go_num, HMN, trivial⟩); (case measure => simp [RowKit.intOf]; omega))))
        · have h366 : 0 ≤ l - 366 := by omega
          go_wp2_with fail
          go_roundw
          case rel => exact ⟨n + 1, l - 366, h366, by omega, by go_num, rfl, HN, trivial⟩
          case measure => simp [RowKit.intOf]; omega
  · have hD := decide_eq_false hd
    have CD := Lib.hid (cisDay_any d w)
    rw [hD] at CD
    unfold dateV
    rw [if_neg hd]
    clear hd hD hw
    go_enter Tryz.func36, Tryz.ntmps36
    go_wp2_with fail
    refine CD.out.mono ?_
    rintro e w' ⟨rfl, rfl⟩
    go_wp2_with fail
    go_ret3
    exact ⟨rfl, rfl⟩

theorem ret_i {a b : Int} (h : a = b) : (Ending.returned (.int .i64 a)) = .returned (.int .i64 b) := by rw [h]
theorem month_rng {d : Int} (h0 : 0 ≤ d) (h1 : d < 795364) : (ymd d).1 ≤ 2200 ∧ (ymd d).2.1 < 12 := ⟨(ymd_holds h0 h1).n_le h1, (ymd_holds h0 h1).m12⟩
end Go.Proofs.YtelchfijalkibaaGreatDoor
/- Transponder numbers: tag.Check and the reference's Check, walked. -/
namespace Go.Proofs.YtelchfijalkibaaGreatDoor
open Go.RowKit Go.Lib

def digB (c : Nat) : Bool := decide (48 ≤ c) && decide (c ≤ 57)
def digTo (s : ByteArray) (k : Nat) : Prop := ∀ i (h : i < s.size), i < k → digB (s[i]'h).toNat = true
/-- what digit c adds at place i -/
def lv (i c : Nat) : Int := if i % 2 = 0 then (if 9 < 2 * ((c : Int) - 48) then 2 * ((c : Int) - 48) - 9 else 2 * ((c : Int) - 48)) else (c : Int) - 48
def lsum (s : ByteArray) : Nat → Int
  | 0 => 0
  | k + 1 => lsum s k + lv k (s.get! k).toNat
def allDig (s : ByteArray) : Bool := (List.range s.size).all fun i => digB (s.get! i).toNat
def tagB (s : ByteArray) : Bool := decide (s.size = 12) && allDig s && decide (lsum s 12 % 10 = 0)
end Go.Proofs.YtelchfijalkibaaGreatDoor
/- Plates: the plain normal form; plate.Normal, walked. -/
namespace Go.Proofs.YtelchfijalkibaaGreatDoor
open Go.RowKit Go.Lib

def encB (b : UInt8) : List Value := [.int .u8 (b.toNat : Int)]
def upB (b : UInt8) : UInt8 := if 97 ≤ b.toNat ∧ b.toNat ≤ 122 then b - 32 else b
def skipB (b : UInt8) : Bool := decide (b.toNat = 32) || decide (b.toNat = 45)
def alB (b : UInt8) : Bool := (decide (65 ≤ b.toNat) && decide (b.toNat ≤ 90)) || (decide (48 ≤ b.toNat) && decide (b.toNat ≤ 57))
/-- a byte that may stand in a plate -/
def okPl (b : UInt8) : Bool := skipB b || alB (upB b)
def plAll (s : ByteArray) (k : Nat) : Prop := ∀ i (h : i < s.size), i < k → okPl (s[i]'h) = true
/-- the bytes of the normal form -/
def plOut (s : ByteArray) : Nat → List UInt8
  | 0 => []
  | k + 1 => plOut s k ++ (if skipB (s.get! k) = true then [] else [upB (s.get! k)])
def plAllB (s : ByteArray) : Bool := (List.range s.size).all fun i => okPl (s.get! i)
def plB (s : ByteArray) : Bool := plAllB s && decide (2 ≤ (plOut s s.size).length) && decide ((plOut s s.size).length ≤ 10)
/-- the normal form, empty where there is none -/
def plS (s : ByteArray) : ByteArray := if plB s = true then ⟨(plOut s s.size).toArray⟩ else ⟨#[]⟩
def plE (s : ByteArray) : Int := if plB s = true then 0 else 19
end Go.Proofs.YtelchfijalkibaaGreatDoor
/- Accounts in plain words. No program in sight. -/
namespace Go.Proofs.YtelchfijalkibaaGreatDoor

/-- an element of Owned -/
structure Ow where
  tag : ByteArray
  pl : ByteArray
  f : Int
  t : Int
/-- an account's values -/
structure Av where
  name : ByteArray
  ag : ByteArray
  pre : Bool
  os : List Ow
  r0 : Int
  r1 : Int
  r2 : Int
  r3 : Int
  ex : Bool
/-- the error of an element -/
def corrE (o : Ow) : Int :=
  if emp o.tag = emp o.pl then 1
  else if emp o.tag = false ∧ tagB o.tag = false then 18
  else if emp o.pl = false ∧ (plB o.pl && eqS (plS o.pl) o.pl) = false then 19
  else if validB o.f o.t = false then 12 else 0
def sameV (x o : Ow) : Bool := eqS x.tag o.tag && eqS x.pl o.pl
def overl (x o : Ow) : Bool := validB x.f x.t && validB o.f o.t && decide (x.f < o.t) && decide (o.f < x.t)
def conB (x o : Ow) : Bool := sameV x o && overl x o
def conL (l : List Ow) (o : Ow) : Bool := l.any fun x => conB x o
def oneA (os : List Ow) (i : Nat) : Int := match os[i]? with
  | none => 0
  | some o => if corrE o ≠ 0 then corrE o else if conL (os.take i) o = true then 9 else 0
def checkA (a : Av) : Int :=
  if nameB a.name = false then 6
  else if emp a.ag = false ∧ nameB a.ag = false then 30
  else if 64 < a.os.length then 3
  else firstE (oneA a.os) a.os.length
/-- an earlier account that does not go with a -/
def clash (b a : Av) : Bool := eqS b.name a.name || a.os.any fun o => conL b.os o
def oneL (l : List Av) (i : Nat) : Int := match l[i]? with
  | none => 0
  | some a => if checkA a ≠ 0 then checkA a else if ((l.take i).any fun b => clash b a) = true then 9 else 0
def checkL (l : List Av) : Int := if 1024 < l.length then 3 else firstE (oneL l) l.length

/-- an element gives a vehicle at a time -/
def ownsB (v : ByteArray) (t : Int) (o : Ow) : Bool := (!emp v) && (eqS o.tag v || eqS o.pl v) && (validB o.f o.t && decide (o.f ≤ t) && decide (t < o.t))
def ownA (v : ByteArray) (t : Int) (a : Av) : Bool := a.os.any (ownsB v t)
def ownerB (l : List Av) (v : ByteArray) (t : Int) : Bool := l.any (ownA v t)
def ownerN (l : List Av) (v : ByteArray) (t : Int) : ByteArray := match l.find? (ownA v t) with
  | none => ⟨#[]⟩
  | some a => a.name
def named (s : ByteArray) (a : Av) : Bool := eqS a.name s
def zeroA : Av := ⟨⟨#[]⟩, ⟨#[]⟩, false, [], 0, 0, 0, 0, false⟩

def linkE (l : List Av) (s : ByteArray) (o : Ow) : Int := match l.find? (named s) with
  | none => 25
  | some a => if corrE o ≠ 0 then corrE o else if 64 ≤ a.os.length then 3 else if (l.any fun b => conL b.os o) = true then 9 else 0
/-- the first element at which p holds, changed -/
def modF {α : Type} (p : α → Bool) (f : α → α) : List α → List α
  | [] => []
  | a :: l => if p a = true then f a :: l else a :: modF p f l
def linkL (l : List Av) (s : ByteArray) (o : Ow) : List Av := if linkE l s o = 0 then modF (named s) (fun a => { a with os := a.os ++ [o] }) l else l
def cutOne (t : Int) (o : Ow) : List Ow := if o.f = t then [] else [{ o with t := t }]
/-- the first element that gives v at t ends at t -/
def cutL (v : ByteArray) (t : Int) : List Ow → List Ow
  | [] => []
  | o :: l => if ownsB v t o = true then cutOne t o ++ l else o :: cutL v t l
def timeB (t : Int) : Bool := decide (0 ≤ t) && decide (t < 68719476736)
def unlinkE (l : List Av) (s v : ByteArray) (t : Int) : Int := match l.find? (named s) with
  | none => 25
  | some a => if timeB t = false then 12 else if ownA v t a = true then 0 else 10
def unlinkL (l : List Av) (s v : ByteArray) (t : Int) : List Av := if unlinkE l s v t = 0 then modF (named s) (fun a => { a with os := cutL v t a.os }) l else l

end Go.Proofs.YtelchfijalkibaaGreatDoor
