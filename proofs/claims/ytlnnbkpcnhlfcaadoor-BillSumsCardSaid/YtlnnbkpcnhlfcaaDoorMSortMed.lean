/- slices.SortFunc's family on ints where the comparison is a method value: order2, median, choosePivot of fewer than fifty, walked. -/
import Derived.Test.YtlnnbkpcnhlfcaaDoorJBillDayIx
import Derived.Sort.LotD4
import Derived.Sort.Walk13
import Derived.Shelf.GgSortFunc.LotD
import Derived.BigRegion
import Derived.OwnWalk

namespace Go.Proofs.YtlnnbkpcnhlfcaaDoor
open Go.RowKit Go.Lib Go.Sort Go.Shelf

section
variable {β : Type} [Inhabited β] {enc : β → Value} {w0 W : World} {blk off : Nat} {d0 d : Array β}
set_option maxHeartbeats 4000000 in
set_option maxRecDepth 1000000 in
theorem ord2M_any (R : Row1 enc w0 blk off d0) (cf : β → β → Int) (g : Nat) (rv : Value) (eg : ∀ args w, (callFunc g args).run Tryd.prog w = .ok (.enter g args) w) (hC : CmpM Tryd.prog g rv enc cf blk off d0.size w0)
    (hsd : d.size = d0.size) (hsz : d0.size ≤ 1000000) (cap a b c s : Nat) (ha : a < d0.size) (hb : b < d0.size) (hss : s ≤ 1000000) (hW : Cnt1 enc w0 blk off d c s W) :
    Calls Tryd.prog 116 #[.slice (some ⟨blk, off, none⟩) d0.size cap, .int .i64 a, .int .i64 b, .pointer (some ⟨c, 0, none⟩), (.func (.func g) #[rv] #[])] W fun e w' =>
      e = .returned (.tuple #[.int .i64 (order2 (ltOf cf) d a b s).1, .int .i64 (order2 (ltOf cf) d a b s).2.1]) ∧ Cnt1 enc w0 blk off d c (order2 (ltOf cf) d a b s).2.2 w' := by
  have S := stF
  have mixed := S.mixed; have t0 := S.t0; have a0 := S.a0; have z0 := S.z0; have v0 := S.v0; have t3 := S.t3; have a3 := S.a3; have z3 := S.z3; have v3 := S.v3; have t4 := S.t4; have a4 := S.a4; have z4 := S.z4; have v4 := S.v4; have t22 := S.t22; have a22 := S.a22; have z22 := S.z22; have v22 := S.v22; have t78 := S.t78; have a78 := S.a78; have z78 := S.z78; have v78 := S.v78; have t96 := S.t96; have a96 := S.a96; have z96 := S.z96; have v96 := S.v96; have aE := S.aE; have zE := S.zE; have u22 := run_underlying S.t22; have hst := R.hO.store Tryd.prog; have hcl0 := R.hO.cells; simp only [Value.cells] at hcl0
  have HN := Lib.hid hW
  have HK := Lib.hid hW.1
  have HR := Lib.hid R
  have HC := Lib.hid hC
  clear hW R hC S
  go_enter Tryd.func116, Tryd.ntmps116
  cases hL : ltOf cf d[b]! d[a]! with
  | true =>
    have HE := Lib.hid (show order2 (ltOf cf) d a b s = (b, a, s + 1) by simp [order2, hL])
    (obtain ⟨_, cc, cfz, _, _⟩ := HN.out); (obtain ⟨it, hit⟩ : ∃ zq : Nat, zq = b := ⟨_, rfl⟩; obtain ⟨jt, hjt⟩ : ∃ zq : Nat, zq = a := ⟨_, rfl⟩; have eat : ((b : Int) : Int).toNat = it := (by omega); have pat : (0 : Int) ≤ (b : Int) := (by omega); have bat : ((b : Int) : Int) < (d0.size : Int) := (by omega); have rat : IntKind.i64.wrap ((b : Int)) = (b : Int) := (by rw [IntKind.wrap_i64]; omega); have ect : ((a : Int) : Int).toNat = jt := (by omega); have pct : (0 : Int) ≤ (a : Int) := (by omega); have bct : ((a : Int) : Int) < (d0.size : Int) := (by omega); have rct : IntKind.i64.wrap ((a : Int)) = (a : Int) := (by rw [IntKind.wrap_i64]; omega); obtain ⟨xt, hxt⟩ : ∃ zx, zx = d[b]! := ⟨_, rfl⟩; obtain ⟨yt, hyt⟩ : ∃ zx, zx = d[a]! := ⟨_, rfl⟩; have lat := HK.out.cl HR.out (by omega) (b) (by omega); have lbt := HK.out.cl HR.out (by omega) (a) (by omega); rw [← hxt, ← hit] at lat; rw [← hyt, ← hjt] at lbt; have hct := fun n' os' => HK.out.cmpM HC.out (by omega) xt yt n' os'; have hdt : decide (cf xt yt < 0) = true := (by rw [hxt, hyt]; exact hL); clear hxt hyt hit hjt; generalize cf xt yt = cvt at hct hdt); (clear hL cc cfz); (have HC1 := Lib.hid (fun n' os' => HN.out.grown n' os')); (clear HN HK); (go_wp2_with fail); (go_quiet_grown (first | (go_at_fn g; refine Calls.grown_of (hct _ _)))); (have HN := Lib.hid (HC1.out nq osq)); (clear lat lbt hct HC1); (generalize grow (World.drewN W nq) osq = w2 at HN ⊢); (clear nq osq eat ect); (obtain ⟨_, cc, cfz, _, _⟩ := HN.out); (go_wp2); (go_ret2); (rw [HE.out]); (exact ⟨rfl, by have := HN.out.bump (s + 1); simpa using this⟩)
  | false =>
    have HE := Lib.hid (show order2 (ltOf cf) d a b s = (a, b, s) by simp [order2, hL])
    (obtain ⟨_, cc, cfz, _, _⟩ := HN.out); (obtain ⟨it, hit⟩ : ∃ zq : Nat, zq = b := ⟨_, rfl⟩; obtain ⟨jt, hjt⟩ : ∃ zq : Nat, zq = a := ⟨_, rfl⟩; have eat : ((b : Int) : Int).toNat = it := (by omega); have pat : (0 : Int) ≤ (b : Int) := (by omega); have bat : ((b : Int) : Int) < (d0.size : Int) := (by omega); have rat : IntKind.i64.wrap ((b : Int)) = (b : Int) := (by rw [IntKind.wrap_i64]; omega); have ect : ((a : Int) : Int).toNat = jt := (by omega); have pct : (0 : Int) ≤ (a : Int) := (by omega); have bct : ((a : Int) : Int) < (d0.size : Int) := (by omega); have rct : IntKind.i64.wrap ((a : Int)) = (a : Int) := (by rw [IntKind.wrap_i64]; omega); obtain ⟨xt, hxt⟩ : ∃ zx, zx = d[b]! := ⟨_, rfl⟩; obtain ⟨yt, hyt⟩ : ∃ zx, zx = d[a]! := ⟨_, rfl⟩; have lat := HK.out.cl HR.out (by omega) (b) (by omega); have lbt := HK.out.cl HR.out (by omega) (a) (by omega); rw [← hxt, ← hit] at lat; rw [← hyt, ← hjt] at lbt; have hct := fun n' os' => HK.out.cmpM HC.out (by omega) xt yt n' os'; have hdt : decide (cf xt yt < 0) = false := (by rw [hxt, hyt]; exact hL); clear hxt hyt hit hjt; generalize cf xt yt = cvt at hct hdt); (clear hL cc cfz); (have HC1 := Lib.hid (fun n' os' => HN.out.grown n' os')); (clear HN HK); (go_wp2_with fail); (go_quiet_grown (first | (go_at_fn g; refine Calls.grown_of (hct _ _)))); (have HN := Lib.hid (HC1.out nq osq)); (clear lat lbt hct HC1); (generalize grow (World.drewN W nq) osq = w2 at HN ⊢); (clear nq osq eat ect); (obtain ⟨_, cc, cfz, _, _⟩ := HN.out); (go_wp2); (go_ret2); (rw [HE.out]); (exact ⟨rfl, HN.out⟩)
set_option maxHeartbeats 4000000 in
set_option maxRecDepth 1000000 in
theorem medM_any (R : Row1 enc w0 blk off d0) (cf : β → β → Int) (g : Nat) (rv : Value) (eg : ∀ args w, (callFunc g args).run Tryd.prog w = .ok (.enter g args) w) (hC : CmpM Tryd.prog g rv enc cf blk off d0.size w0)
    (hsd : d.size = d0.size) (hsz : d0.size ≤ 1000000) (cap a b m c s : Nat) (ha : a < d0.size) (hb : b < d0.size) (hm : m < d0.size) (hss : s ≤ 900000) (hW : Cnt1 enc w0 blk off d c s W) :
    Calls Tryd.prog 113 #[.slice (some ⟨blk, off, none⟩) d0.size cap, .int .i64 a, .int .i64 b, .int .i64 m, .pointer (some ⟨c, 0, none⟩), (.func (.func g) #[rv] #[])] W fun e w' =>
      e = .returned (.int .i64 (median (ltOf cf) d a b m s).1) ∧ Cnt1 enc w0 blk off d c (median (ltOf cf) d a b m s).2 w' := by
  have e57 : ∀ args w, (callFunc 116 args).run Tryd.prog w = .ok (.enter 116 args) w := enters_of Tryd.func116 (by kernel_rfl) rfl
  have S := stF
  have mixed := S.mixed; have t0 := S.t0; have a0 := S.a0; have z0 := S.z0; have v0 := S.v0; have t3 := S.t3; have a3 := S.a3; have z3 := S.z3; have v3 := S.v3; have t4 := S.t4; have a4 := S.a4; have z4 := S.z4; have v4 := S.v4; have t22 := S.t22; have a22 := S.a22; have z22 := S.z22; have v22 := S.v22; have t78 := S.t78; have a78 := S.a78; have z78 := S.z78; have v78 := S.v78; have t96 := S.t96; have a96 := S.a96; have z96 := S.z96; have v96 := S.v96; have aE := S.aE; have zE := S.zE; have u22 := run_underlying S.t22; have hst := R.hO.store Tryd.prog; have hcl0 := R.hO.cells; simp only [Value.cells] at hcl0
  have l1 := order2_lt' (ltOf cf) d s (n := d0.size) ha hb
  have s1 := order2_swaps' (ltOf cf) d a b s
  have l2 := order2_lt' (ltOf cf) d (order2 (ltOf cf) d a b s).2.2 (n := d0.size) l1.2 hm
  have s2 := order2_swaps' (ltOf cf) d (order2 (ltOf cf) d a b s).2.1 m (order2 (ltOf cf) d a b s).2.2
  have HS := Lib.hid (fun (Wq : World) (t x y : Nat) (q : Cnt1 enc w0 blk off d c t Wq) (hx : x < d0.size) (hy : y < d0.size) (ht : t ≤ 1000000) => ord2M_any R cf g rv eg hC hsd hsz cap x y c t hx hy ht q)
  have HN := Lib.hid hW
  clear hW hC R S
  go_enter Tryd.func113, Tryd.ntmps113
  go_wp2_with (go_at_fn_of 116 (Value.int .i64 (b : Int)); refine (HS.out _ _ _ _ HN.out ha hb (by omega)).mono ?_; rintro e w1 ⟨rfl, C1⟩)
  go_wp2_with (go_at_fn_of 116 (Value.int .i64 (m : Int)); refine (HS.out _ _ _ _ C1 l1.2 hm (by omega)).mono ?_; rintro e w2 ⟨rfl, C2⟩)
  go_wp2_with (go_at_fn_of 116 (Value.int .i64 ((order2 (ltOf cf) d a b s).1 : Int)); refine (HS.out _ _ _ _ C2 l1.1 l2.1 (by omega)).mono ?_; rintro e w3 ⟨rfl, C3⟩)
  go_ret
  exact ⟨rfl, C3⟩

set_option maxHeartbeats 4000000 in
set_option maxRecDepth 1000000 in
theorem pivM_any (R : Row1 enc w0 blk off d0) (cf : β → β → Int) (g : Nat) (rv : Value) (eg : ∀ args w, (callFunc g args).run Tryd.prog w = .ok (.enter g args) w) (hC : CmpM Tryd.prog g rv enc cf blk off d0.size w0)
    (hsd : d.size = d0.size) (hsz : d0.size ≤ 1000000) (cap a b : Nat) (h8 : b - a ≥ 8) (h50 : b - a < 50) (hb : b ≤ d0.size) (hW : SW enc w0 blk off d W) :
    Calls Tryd.prog 98 #[.slice (some ⟨blk, off, none⟩) d0.size cap, .int .i64 a, .int .i64 b, (.func (.func g) #[rv] #[])] W fun e w' =>
      e = .returned (.tuple #[.int .i64 (choosePivot (ltOf cf) d a b).1, .int .i64 (hintCode (choosePivot (ltOf cf) d a b).2)]) ∧ SW enc w0 blk off d w' := by
  have e50 : ∀ args w, (callFunc 113 args).run Tryd.prog w = .ok (.enter 113 args) w := enters_of Tryd.func113 (by kernel_rfl) rfl
  obtain ⟨I, hI⟩ : ∃ I : Nat, I = a + (b - a) / 4 * 1 := ⟨_, rfl⟩
  obtain ⟨J, hJ⟩ : ∃ J : Nat, J = a + (b - a) / 4 * 2 := ⟨_, rfl⟩
  obtain ⟨K, hK⟩ : ∃ K : Nat, K = a + (b - a) / 4 * 3 := ⟨_, rfl⟩
  have eI : ((a : Int) + ((b : Int) - (a : Int)) / 4) = (I : Int) := by omega
  have eJ : ((a : Int) + ((b : Int) - (a : Int)) / 4 * 2) = (J : Int) := by omega
  have eK : ((a : Int) + ((b : Int) - (a : Int)) / 4 * 3) = (K : Int) := by omega
  obtain ⟨p, s, h4⟩ : ∃ p s, median (ltOf cf) d I J K 0 = (p, s) := ⟨_, _, rfl⟩
  have hraw : rawPivot (ltOf cf) d a b = (p, s) := by simp only [rawPivot, if_pos h8, if_neg (show ¬ b - a ≥ 50 by omega), ← hI, ← hJ, ← hK, h4]
  have hs3 : s ≤ 3 := by have := median_count (ltOf cf) d I J K 0; rw [h4] at this; simpa using this
  have C0 : Cnt1 enc w0 blk off d W.heap.size 0 (W.alloc (.cells #[.int .i64 0] 3)) := Cnt1.start hW 3
  have CM := Lib.hid (medM_any R cf g rv eg hC hsd hsz cap I J K W.heap.size 0 (by omega) (by omega) (by omega) (by omega) C0)
  rw [h4] at CM
  rw [choosePivot_eq, hraw]
  obtain ⟨Hc, hHc⟩ : ∃ Hc : Int, Hc = hintCode (hintOf s) := ⟨_, rfl⟩
  have hh0 : s = 0 → Hc = 1 := fun h => by rw [hHc, h]; rfl
  have hhx : s ≠ 0 → Hc = 0 := fun h1 => by rw [hHc]; unfold hintOf; rw [if_neg h1, if_neg (by omega)]; rfl
  show Calls Tryd.prog 98 _ W fun e w' => e = .returned (.tuple #[.int .i64 (p : Int), .int .i64 (hintCode (hintOf s))]) ∧ SW enc w0 blk off d w'
  rw [← hHc]
  have S := stF
  have mixed := S.mixed; have t0 := S.t0; have a0 := S.a0; have z0 := S.z0; have v0 := S.v0; have t3 := S.t3; have a3 := S.a3; have z3 := S.z3; have v3 := S.v3; have t4 := S.t4; have a4 := S.a4; have z4 := S.z4; have v4 := S.v4; have t22 := S.t22; have a22 := S.a22; have z22 := S.z22; have v22 := S.v22; have t78 := S.t78; have a78 := S.a78; have z78 := S.z78; have v78 := S.v78; have t96 := S.t96; have a96 := S.a96; have z96 := S.z96; have v96 := S.v96; have aE := S.aE; have zE := S.zE; have u22 := run_underlying S.t22; have hst := R.hO.store Tryd.prog; have hcl0 := R.hO.cells; simp only [Value.cells] at hcl0
  have h8z : (8 : Int) ≤ (b : Int) - (a : Int) := by omega
  have h50z : ¬ (50 : Int) ≤ (b : Int) - (a : Int) := by omega
  clear hHc hraw h4 hI hJ hK C0 hW R hC S
  go_enter Tryd.func98, Tryd.ntmps98
  go_wp2_with (go_at_fn 113; refine CM.out.mono ?_; rintro e w4 ⟨rfl, S4, cc, cfz, _, _⟩)
  (all_goals (go_ret2; refine ⟨?_, S4⟩; first | (have e0 : (s : Int) = 0 := beq_iff_eq.1 (by assumption); rw [hh0 (by omega)]; rfl) | (have e1 : (s : Int) = 12 := beq_iff_eq.1 (by assumption); exfalso; omega) | (have e0 : (s : Int) ≠ 0 := beq_eq_false_iff_ne.1 (by assumption); rw [hhx (by omega)]; rfl) | (rw [hh0 (by omega)]; rfl)))
end
end Go.Proofs.YtlnnbkpcnhlfcaaDoor
