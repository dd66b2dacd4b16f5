/- Joined texts: StabMerge, StabSwap, StabRot. -/
import Derived.Test.YtcpfiiapfggmpaaGreatJDisPAll
import Derived.Test.YtcpfiiapfggmpaaGreatProg
import Derived.Shelf.SlSortCmp.KitK
import Derived.Deep.LoopGhost
import Derived.Lib.Hide
import Derived.Outline
/- The merge by rotations sorts tagged elements: plain. No program in sight. -/
namespace Go.Proofs.YtcpfiiapfggmpaaGreat
open Go.Sort

section
variable {α : Type} [Inhabited α] {lt : α → α → Bool}
/-- the tags of [a, m) lie before those of [m, b) -/
def Crs (a m b : Nat) (d : Array (α × Nat)) : Prop := ∀ i j, a ≤ i → i < m → m ≤ j → j < b → d[i]!.2 < d[j]!.2
abbrev Srt (lt : α → α → Bool) (a b : Nat) (d : Array (α × Nat)) : Prop := SortedIn (lexB lt) a b d
theorem Srt.le (hS : SWO lt) {a b i j : Nat} {d : Array (α × Nat)} (h : Srt lt a b d) (h1 : a ≤ i) (h2 : i ≤ j) (h3 : j < b) : lexB lt d[j]! d[i]! = false := by
  rcases Nat.lt_or_eq_of_le h2 with e | rfl
  · exact h i j h1 e h3
  · exact (lexB_swo hS).irrefl _
theorem merge_left (hS : SWO lt) {a m b i : Nat} {d d' : Array (α × Nat)} (hm : m = a + 1) (h1 : m ≤ i) (h2 : i ≤ b) (hb : b ≤ d.size) (hs : Srt lt m b d) (hc : Crs a m b d)
    (hlo : i = m ∨ fstB lt d[i - 1]! d[a]! = true) (hhi : i = b ∨ fstB lt d[i]! d[a]! = false) (mv : Moved (dnF a i) d d') : Srt lt a b d' := by
  have hL := lexB_swo hS
  have F1 : ∀ t, m ≤ t → t < i → lexB lt d[a]! d[t]! = false := by
    intro t ht1 ht2
    rcases hlo with q | q
    · omega
    · rw [← lexB_late (hc a (i - 1) (Nat.le_refl _) (by omega) (by omega) (by omega))] at q
      exact hL.ntrans _ _ _ (lex_flip hS q) (hs.le hS ht1 (by omega) (by omega))
  have F2 : ∀ t, i ≤ t → t < b → lexB lt d[t]! d[a]! = false := by
    intro t ht1 ht2
    rcases hhi with q | q
    · omega
    · rw [← lexB_late (hc a i (Nat.le_refl _) (by omega) (by omega) (by omega))] at q
      exact hL.ntrans _ _ _ (hs.le hS (by omega) ht1 ht2) q
  intro p q hp hpq hq
  rw [mv.2 p (by omega), mv.2 q (by omega)]
  unfold dnF
  by_cases p1 : p + 1 < i
  · rw [if_pos (⟨hp, p1⟩ : a ≤ p ∧ p + 1 < i)]
    by_cases q1 : q + 1 < i
    · rw [if_pos (⟨by omega, q1⟩ : a ≤ q ∧ q + 1 < i)]
      exact hs _ _ (by omega) (by omega) (by omega)
    · rw [if_neg (by omega)]
      by_cases q2 : q + 1 = i
      · rw [if_pos ⟨q2, by omega⟩]
        exact F1 _ (by omega) p1
      · rw [if_neg (by omega)]
        exact hs _ _ (by omega) (by omega) hq
  · rw [if_neg (by omega : ¬ (a ≤ p ∧ p + 1 < i)), if_neg (by omega : ¬ (a ≤ q ∧ q + 1 < i)), if_neg (by omega : ¬ (q + 1 = i ∧ a < i))]
    by_cases p2 : p + 1 = i
    · rw [if_pos ⟨p2, by omega⟩]
      exact F2 _ (by omega) hq
    · rw [if_neg (by omega)]
      exact hs _ _ (by omega) hpq hq
theorem merge_right (hS : SWO lt) {a m b i : Nat} {d d' : Array (α × Nat)} (hm : b = m + 1) (h1 : a ≤ i) (h2 : i ≤ m) (hb : b ≤ d.size) (hs : Srt lt a m d) (hc : Crs a m b d)
    (hlo : i = a ∨ fstB lt d[m]! d[i - 1]! = false) (hhi : i = m ∨ fstB lt d[m]! d[i]! = true) (mv : Moved (upF i m) d d') : Srt lt a b d' := by
  have hL := lexB_swo hS
  have F1 : ∀ t, a ≤ t → t < i → lexB lt d[m]! d[t]! = false := by
    intro t ht1 ht2
    rcases hlo with q | q
    · omega
    · rw [← lexB_late (hc (i - 1) m (by omega) (by omega) (Nat.le_refl _) (by omega))] at q
      exact hL.ntrans _ _ _ q (hs.le hS ht1 (by omega) (by omega))
  have F2 : ∀ t, i ≤ t → t < m → lexB lt d[t]! d[m]! = false := by
    intro t ht1 ht2
    rcases hhi with q | q
    · omega
    · rw [← lexB_late (hc i m (by omega) (by omega) (Nat.le_refl _) (by omega))] at q
      exact hL.ntrans _ _ _ (hs.le hS h1 ht1 ht2) (lex_flip hS q)
  intro p q hp hpq hq
  rw [mv.2 p (by omega), mv.2 q (by omega)]
  unfold upF
  by_cases p1 : p = i
  · rw [if_pos (⟨p1, h2⟩ : p = i ∧ i ≤ m), if_neg (by omega : ¬ (q = i ∧ i ≤ m)), if_pos (by omega : i < q ∧ q ≤ m)]
    exact F2 _ (by omega) (by omega)
  · rw [if_neg (by omega : ¬ (p = i ∧ i ≤ m))]
    by_cases q1 : q = i
    · rw [if_pos (⟨q1, h2⟩ : q = i ∧ i ≤ m), if_neg (by omega : ¬ (i < p ∧ p ≤ m))]
      exact F1 _ hp (by omega)
    · rw [if_neg (by omega : ¬ (q = i ∧ i ≤ m))]
      by_cases q2 : q < i
      · rw [if_neg (by omega : ¬ (i < q ∧ q ≤ m)), if_neg (by omega : ¬ (i < p ∧ p ≤ m))]
        exact hs _ _ hp hpq (by omega)
      · rw [if_pos (by omega : i < q ∧ q ≤ m)]
        by_cases p2 : p < i
        · rw [if_neg (by omega : ¬ (i < p ∧ p ≤ m))]
          exact hs _ _ hp (by omega) (by omega)
        · rw [if_pos (by omega : i < p ∧ p ≤ m)]
          exact hs _ _ (by omega) (by omega) (by omega)
theorem roF_none {s m e t : Nat} (h1 : s ≤ m) (h2 : m ≤ e) (h : s = m ∨ e = m) : roF s m e t = t := by
  unfold roF
  repeat' split
  all_goals omega
/-- behind the rotation: two pairs of sorted runs, and the first pair lies below the second -/
theorem merge_mid (hS : SWO lt) {a m b mid s e : Nat} {d d' : Array (α × Nat)} (h1 : a ≤ s) (h2 : s ≤ m) (h3 : m ≤ e) (h4 : e ≤ b) (hb : b ≤ d.size) (hmid : mid = s + (e - m)) (hl : Srt lt a m d) (hr : Srt lt m b d) (hc : Crs a m b d)
    (hlo : s = a ∨ e = b ∨ fstB lt d[e]! d[s - 1]! = false) (hhi : s = m ∨ e = m ∨ fstB lt d[e - 1]! d[s]! = true) (mv : Moved (roF s m e) d d') :
    Srt lt a s d' ∧ Srt lt s mid d' ∧ Crs a s mid d' ∧ Srt lt mid e d' ∧ Srt lt e b d' ∧ Crs mid e b d' ∧ ∀ i j, a ≤ i → i < mid → mid ≤ j → j < b → lexB lt d'[j]! d'[i]! = false := by
  have hL := lexB_swo hS
  have A : ∀ t, t < s → d'[t]! = d[t]! := fun t ht => by rw [mv.2 t (by omega)]; unfold roF; rw [if_neg (by omega), if_neg (by omega)]
  have B : ∀ t, s ≤ t → t < mid → d'[t]! = d[t + (m - s)]! := fun t h5 h6 => by rw [mv.2 t (by omega)]; unfold roF; rw [if_pos (by omega)]
  have C : ∀ t, mid ≤ t → t < e → d'[t]! = d[t - (e - m)]! := fun t h5 h6 => by rw [mv.2 t (by omega)]; unfold roF; rw [if_neg (by omega), if_pos (by omega)]
  have D : ∀ t, e ≤ t → t < b → d'[t]! = d[t]! := fun t h5 h6 => by rw [mv.2 t (by omega)]; unfold roF; rw [if_neg (by omega), if_neg (by omega)]
  refine ⟨fun p q h5 h6 h7 => ?_, fun p q h5 h6 h7 => ?_, fun p q h5 h6 h7 h8 => ?_, fun p q h5 h6 h7 => ?_, fun p q h5 h6 h7 => ?_, fun p q h5 h6 h7 h8 => ?_, fun p q h5 h6 h7 h8 => ?_⟩
  · rw [A p (by omega), A q h7]; exact hl _ _ h5 h6 (by omega)
  · rw [B p h5 (by omega), B q (by omega) h7]; exact hr _ _ (by omega) (by omega) (by omega)
  · rw [A p h6, B q h7 h8]; exact hc _ _ h5 (by omega) (by omega) (by omega)
  · rw [C p h5 (by omega), C q (by omega) h7]; exact hl _ _ (by omega) (by omega) (by omega)
  · rw [D p h5 (by omega), D q (by omega) h7]; exact hr _ _ (by omega) h6 h7
  · rw [C p h5 h6, D q h7 h8]; exact hc _ _ (by omega) (by omega) (by omega) h8
  · by_cases p1 : p < s
    · rw [A p p1]
      by_cases q1 : q < e
      · rw [C q h7 q1]; exact hl _ _ h5 (by omega) (by omega)
      · rw [D q (by omega) h8]
        rcases hlo with r | r | r
        · omega
        · omega
        · rw [← lexB_late (hc (s - 1) e (by omega) (by omega) h3 (by omega))] at r
          exact hL.ntrans _ _ _ (hr.le hS h3 (by omega) h8) (hL.ntrans _ _ _ r (hl.le hS h5 (by omega) (by omega)))
    · rw [B p (by omega) h6]
      by_cases q1 : q < e
      · rw [C q h7 q1]
        rcases hhi with r | r | r
        · omega
        · omega
        · rw [← lexB_late (hc s (e - 1) h1 (by omega) (by omega) (by omega))] at r
          exact hL.ntrans _ _ _ (hl.le hS h1 (by omega) (by omega)) (hL.ntrans _ _ _ (lex_flip hS r) (hr.le hS (by omega) (by omega) (by omega)))
      · rw [D q (by omega) h8]; exact hr _ _ (by omega) (by omega) h8
theorem merge_join (hS : SWO lt) {a mid b : Nat} {d1 d2 d3 : Array (α × Nat)} (h1 : a ≤ mid) (h2 : mid ≤ b) (hb : b ≤ d1.size) (hx : ∀ i j, a ≤ i → i < mid → mid ≤ j → j < b → lexB lt d1[j]! d1[i]! = false)
    (p2 : PermIn a mid d1 d2) (s2 : Srt lt a mid d2) (p3 : PermIn mid b d2 d3) (s3 : Srt lt mid b d3) : PermIn a b d1 d3 ∧ Srt lt a b d3 := by
  refine ⟨permIn_trans _ _ _ _ _ (permIn_mono d1 d2 a mid a b (Nat.le_refl _) h2 hb p2) (permIn_mono d2 d3 mid b a b h1 (Nat.le_refl _) (by rw [p2.1]; exact hb) p3), fun p q h5 h6 h7 => ?_⟩
  by_cases q1 : q < mid
  · rw [p3.2.1 p (.inl (by omega)), p3.2.1 q (.inl q1)]
    exact s2 _ _ h5 h6 q1
  · by_cases p1 : mid ≤ p
    · exact s3 _ _ p1 h6 h7
    · rw [p3.2.1 p (.inl (by omega))]
      have k2 : ∀ i, mid ≤ i → i < b → ∀ u, a ≤ u → u < mid → lexB lt d2[i]! d2[u]! = false := by
        intro i h8 h9 u h10 h11
        rw [p2.2.1 i (.inr h8)]
        exact permIn_all d1 d2 a mid (fun x => lexB lt d1[i]! x = false) (by omega) p2 (fun v h12 h13 => hx v i h12 h13 h8 h9) u h10 h11
      exact permIn_all d2 d3 mid b (fun x => lexB lt x d2[p]! = false) (by rw [p2.1]; exact hb) p3 (fun i h8 h9 => k2 i h8 h9 p h5 (by omega)) q (by omega) h7
theorem Crs.perm {a m b : Nat} {d d' : Array (α × Nat)} (h : Crs a m b d) (ham : a ≤ m) (hb : b ≤ d.size) {x y : Nat} (hx : a ≤ x) (hxy : x ≤ y) (hy : y ≤ m ∨ m ≤ x) (hyb : y ≤ b) (p : PermIn x y d d') : Crs a m b d' := by
  intro i j h1 h2 h3 h4
  have k : ∀ u, u < i + 1 → i < u + 1 → d[i]!.2 < d[j]!.2 := fun _ _ _ => h i j h1 h2 h3 h4
  rcases hy with hy | hy
  · rw [p.2.1 j (.inr (by omega))]
    by_cases q : x ≤ i ∧ i < y
    · exact permIn_all d d' x y (fun z => z.2 < d[j]!.2) (by omega) p (fun u h5 h6 => h u j (by omega) (by omega) h3 h4) i q.1 q.2
    · rw [p.2.1 i (by omega)]; exact h i j h1 h2 h3 h4
  · rw [p.2.1 i (.inl (by omega))]
    by_cases q : x ≤ j ∧ j < y
    · exact permIn_all d d' x y (fun z => d[i]!.2 < z.2) (by omega) p (fun u h5 h6 => h i u h1 h2 (by omega) (by omega)) j q.1 q.2
    · rw [p.2.1 j (by omega)]; exact h i j h1 h2 h3 h4
theorem Srt.out {a b x y : Nat} {d d' : Array (α × Nat)} (h : Srt lt a b d) (hy : y ≤ a ∨ b ≤ x) (p : PermIn x y d d') : Srt lt a b d' := by
  intro i j h1 h2 h3
  rw [p.2.1 i (by omega), p.2.1 j (by omega)]
  exact h i j h1 h2 h3
end
end Go.Proofs.YtcpfiiapfggmpaaGreat
/- slices' stable sort at a struct, walked over any program that holds its bodies: swapRange, rotate. -/

namespace Go.Proofs.YtcpfiiapfggmpaaGreat
open Go.RowKit Go.Lib Go.Sort Go.Shelf

/-- what is asked of the program -/
structure StF (P : Program) (k : Nat) : Prop where
  mixed : P.follows .mixedOrders = true
  t0 : P.underlying 0 = some (TypeDesc.tuple #[])
  a0 : ∀ w, (isAgg 0).run P w = .ok false w
  z0 : ∀ w, (Go.sizeOf 0).run P w = .ok 1 w
  v0 : ∀ w, (zeroValue 0).run P w = .ok (Value.tuple #[]) w
  t3 : P.underlying 3 = some (TypeDesc.int IntKind.i64)
  a3 : ∀ w, (isAgg 3).run P w = .ok false w
  z3 : ∀ w, (Go.sizeOf 3).run P w = .ok 1 w
  v3 : ∀ w, (zeroValue 3).run P w = .ok (Value.int IntKind.i64 0) w
  t4 : P.underlying 4 = some (TypeDesc.bool)
  a4 : ∀ w, (isAgg 4).run P w = .ok false w
  z4 : ∀ w, (Go.sizeOf 4).run P w = .ok 1 w
  v4 : ∀ w, (zeroValue 4).run P w = .ok (Value.bool false) w
  t22 : P.underlying 110 = some (TypeDesc.slice 66)
  a22 : ∀ w, (isAgg 110).run P w = .ok false w
  z22 : ∀ w, (Go.sizeOf 110).run P w = .ok 1 w
  v22 : ∀ w, (zeroValue 110).run P w = .ok (Value.slice none 0 0) w
  t78 : P.underlying 161 = some (TypeDesc.func #[66, 66] #[3] false)
  a78 : ∀ w, (isAgg 161).run P w = .ok false w
  z78 : ∀ w, (Go.sizeOf 161).run P w = .ok 1 w
  v78 : ∀ w, (zeroValue 161).run P w = .ok (Value.nilFunc) w
  t96 : P.underlying 89 = some (TypeDesc.int IntKind.u64)
  a96 : ∀ w, (isAgg 89).run P w = .ok false w
  z96 : ∀ w, (Go.sizeOf 89).run P w = .ok 1 w
  v96 : ∀ w, (zeroValue 89).run P w = .ok (Value.int IntKind.u64 0) w
  aE : ∀ w, (isAgg 66).run P w = .ok true w
  zE : ∀ w, (Go.sizeOf 66).run P w = .ok k w
  fsw : P.funcs[172]? = some Tryz.f172
  fro : P.funcs[165]? = some Tryz.f165
  fsy : P.funcs[148]? = some Tryz.f148
  fst : P.funcs[109]? = some Tryz.f109
  fso : P.funcs[70]? = some Tryz.f70
section
variable {P : Program} {β : Type} [Inhabited β] {enc : β → List Value} {k : Nat} {w0 W : World} {blk off : Nat} {d0 d : Array β}

set_option maxHeartbeats 4000000 in
set_option maxRecDepth 1000000 in
theorem swapRange_any (S : StF P k) (R : RowK enc k w0 blk off d0) (hs : d.size = d0.size) (hsz : d.size < 4611686018427387904) (cap a b n : Nat) (fv : Value) (hab : a + n ≤ b) (hb : b + n ≤ d.size) (hW : SWK enc k w0 blk off d W) :
    Calls P 172 #[.slice (some ⟨blk, off, none⟩) d.size cap, .int .i64 a, .int .i64 b, .int .i64 n, fv] W fun e w' =>
      e = .returned (.tuple #[]) ∧ ∃ d', Moved (raF a b n) d d' ∧ (∀ x y, x ≤ a → b + n ≤ y → y ≤ d.size → PermIn x y d d') ∧ SWK enc k w0 blk off d' w' := by
  have mixed := S.mixed; have t0 := S.t0; have a0 := S.a0; have z0 := S.z0; have v0 := S.v0; have t3 := S.t3; have a3 := S.a3; have z3 := S.z3; have v3 := S.v3; have t4 := S.t4; have a4 := S.a4; have z4 := S.z4; have v4 := S.v4; have t22 := S.t22; have a22 := S.a22; have z22 := S.z22; have v22 := S.v22; have t78 := S.t78; have a78 := S.a78; have z78 := S.z78; have v78 := S.v78; have t96 := S.t96; have a96 := S.a96; have z96 := S.z96; have v96 := S.v96; have aE := S.aE; have zE := S.zE; have u22 := run_underlying S.t22
  have F := S.fsw
  have HW := Lib.hid hW
  have HR := Lib.hid R
  clear hW R S
  go_enter F, Tryz.ntmps172
  go_wp2
  go_loopg [10] n (fun g1 vi wr => ∃ (i : Nat) (dk : Array β), vi = .int .i64 i ∧ i ≤ n ∧ n - i ≤ g1 ∧ Hid (Moved (raF a b i) d dk) ∧ Hid (∀ x y, x ≤ a → b + n ≤ y → y ≤ d.size → PermIn x y d dk) ∧ Hid (SWK enc k w0 blk off dk wr))
  case atStart => exact ⟨0, d, rfl, Nat.zero_le _, Nat.le_refl _, (Moved.refl d).congr (fun t _ => (raF_zero a b t).symm), fun x y _ _ _ => permIn_refl _ _ _, HW.out⟩
  case round =>
    obtain ⟨i, dk, rfl, hi, hg1, HM, HP, HK⟩ := hrel
    by_cases hlt : i < n
    · have hsk : dk.size = d0.size := HM.out.1.trans hs
      have i1 : (0 : Int) ≤ (a : Int) + (i : Int) := by omega
      have i2 : (a : Int) + (i : Int) < (d.size : Int) := by omega
      have i3 : ((a : Int) + (i : Int)).toNat = a + i := by omega
      have j1 : (0 : Int) ≤ (b : Int) + (i : Int) := by omega
      have j2 : (b : Int) + (i : Int) < (d.size : Int) := by omega
      have j3 : ((b : Int) + (i : Int)).toNat = b + i := by omega
      have hsd := HM.out.1
      have l1 := HK.out.ld1 HR.out hsk P (a + i) (by omega)
      have l2 := HK.out.ld1 HR.out hsk P (b + i) (by omega)
      have s1 := HK.out.st1 HR.out hsk P (a + i) (by omega) dk[b + i]!
      have s2 := HK.out.st2 HR.out hsk P (a + i) (b + i) (by omega) (by omega) dk[b + i]! dk[a + i]!
      have X := Lib.hid (HK.out.swapped HR.out (a + i) (b + i) (by omega) (by omega))
      have M2 := Lib.hid (HM.out.ra hlt hab hb)
      have P2 : Hid (∀ x y, x ≤ a → b + n ≤ y → y ≤ d.size → PermIn x y d (swp dk (a + i) (b + i))) := fun x y h1 h2 h3 => permIn_trans _ _ _ _ _ (HP.out x y h1 h2 h3) (swp_permIn dk x y _ _ (by omega) (by omega) (by omega) (by omega) (by omega))
      have hcI : (enc dk[a + i]!).length = k := HR.out.hk _
      have hcJ : (enc dk[b + i]!).length = k := HR.out.hk _
      obtain ⟨cI, hI⟩ : ∃ c, c = enc dk[a + i]! := ⟨_, rfl⟩
      obtain ⟨cJ, hJ⟩ : ∃ c, c = enc dk[b + i]! := ⟨_, rfl⟩
      rw [← hI] at l1 s2 hcI X
      rw [← hJ] at l2 s1 s2 hcJ X
      clear hI hJ HM HP hsk hsd
      go_wp2_with fail
      go_big_region_o
      all_goals go_wp2
      go_roundg (n - (i + 1))
      case measure => omega
      case rel => exact ⟨i + 1, _, by go_num, by omega, Nat.le_refl _, M2, P2, X⟩
    · obtain rfl : i = n := by omega
      go_wp2
      go_end0
      exact ⟨rfl, dk, HM.out, HP.out, HK.out⟩
end
end Go.Proofs.YtcpfiiapfggmpaaGreat
/- slices' stable sort at a struct: rotate, walked. -/

namespace Go.Proofs.YtcpfiiapfggmpaaGreat
open Go.RowKit Go.Lib Go.Sort Go.Shelf

section
variable {P : Program} {β : Type} [Inhabited β] {enc : β → List Value} {k : Nat} {w0 W : World} {blk off : Nat} {d0 d : Array β}

set_option maxHeartbeats 4000000 in
set_option maxRecDepth 1000000 in
theorem rotate_any (S : StF P k) (R : RowK enc k w0 blk off d0) (hs : d.size = d0.size) (hsz : d.size < 4611686018427387904) (cap s m e : Nat) (fv : Value) (hsm : s < m) (hme : m < e) (he : e ≤ d.size) (hW : SWK enc k w0 blk off d W) :
    Calls P 165 #[.slice (some ⟨blk, off, none⟩) d.size cap, .int .i64 s, .int .i64 m, .int .i64 e, fv] W fun en w' =>
      en = .returned (.tuple #[]) ∧ ∃ d', Moved (roF s m e) d d' ∧ (∀ x y, x ≤ s → e ≤ y → y ≤ d.size → PermIn x y d d') ∧ SWK enc k w0 blk off d' w' := by
  have mixed := S.mixed; have t0 := S.t0; have a0 := S.a0; have z0 := S.z0; have v0 := S.v0; have t3 := S.t3; have a3 := S.a3; have z3 := S.z3; have v3 := S.v3; have t4 := S.t4; have a4 := S.a4; have z4 := S.z4; have v4 := S.v4; have t22 := S.t22; have a22 := S.a22; have z22 := S.z22; have v22 := S.v22; have t78 := S.t78; have a78 := S.a78; have z78 := S.z78; have v78 := S.v78; have t96 := S.t96; have a96 := S.a96; have z96 := S.z96; have v96 := S.v96; have aE := S.aE; have zE := S.zE; have u22 := run_underlying S.t22
  have F := S.fro
  have HW := Lib.hid hW
  have HC : Hid (∀ (dk : Array β) (X : World) (a b n : Nat), dk.size = d.size → a + n ≤ b → b + n ≤ d.size → SWK enc k w0 blk off dk X → Calls P 172 #[.slice (some ⟨blk, off, none⟩) d.size cap, .int .i64 a, .int .i64 b, .int .i64 n, fv] X fun e w' =>
      e = .returned (.tuple #[]) ∧ ∃ d', Moved (raF a b n) dk d' ∧ (∀ x y, x ≤ a → b + n ≤ y → y ≤ d.size → PermIn x y dk d') ∧ SWK enc k w0 blk off d' w') := by
    intro dk X a b n h1 h2 h3 h4
    have := swapRange_any S R (d := dk) (W := X) (h1.trans hs) (by omega) cap a b n fv h2 (by omega) h4
    rwa [h1] at this
  have eSW : ∀ args w, (callFunc 172 args).run P w = .ok (.enter 172 args) w := enters_of S.fsw (by kernel_rfl) rfl
  have HS := Lib.hid hs
  clear hW R S hs
  go_enter F, Tryz.ntmps165
  go_wp2
  go_loopg [10, 11] (e - s) (fun g1 vi vj wr => ∃ (i j : Nat) (dk : Array β), vi = .int .i64 i ∧ vj = .int .i64 j ∧ 0 < i ∧ 0 < j ∧ s + i ≤ m ∧ m + j ≤ e ∧ i + j ≤ g1 ∧ dk.size = d.size ∧ Hid (∀ d', Moved (roF (m - i) m (m + j)) dk d' → Moved (roF s m e) d d') ∧ Hid (∀ x y, x ≤ s → e ≤ y → y ≤ d.size → PermIn x y d dk) ∧ Hid (SWK enc k w0 blk off dk wr))
  case atStart => exact ⟨m - s, e - m, d, (by congr 1; omega), (by congr 1; omega), by omega, by omega, by omega, by omega, by omega, rfl, (fun d' h => by rwa [show m - (m - s) = s by omega, show m + (e - m) = e by omega] at h), fun x y _ _ _ => permIn_refl _ _ _, HW.out⟩
  case round =>
    obtain ⟨i, j, dk, rfl, rfl, hi, hj, hi2, hj2, hg1, hsk, HT, HP, HK⟩ := hrel
    by_cases hne : i = j
    · subst hne
      have CQ := Lib.hid (HC.out dk wr (m - i) m i hsk (by omega) (by omega) HK.out)
      have hie : (m : Int) - (i : Int) = ((m - i : Nat) : Int) := by omega
      have HIE := Lib.hid hie
      clear hie
      go_wp2_with (go_at_fn 172; rw [HIE.out]; refine CQ.out.mono ?_; rintro en w' ⟨rfl, d', hM, hP, hK⟩)
      have HM' := Lib.hid (HT.out d' (hM.congr fun t _ => roF_even (by omega)))
      have HP' : Hid (∀ x y, x ≤ s → e ≤ y → y ≤ d.size → PermIn x y d d') := fun x y h1 h2 h3 => permIn_trans _ _ _ _ _ (HP.out x y h1 h2 h3) (hP x y (by omega) (by omega) h3)
      have HK' := Lib.hid hK
      clear hM hP hK
      go_end0
      exact ⟨rfl, d', HM'.out, HP'.out, HK'.out⟩
    · have hnb : ((i : Int) == (j : Int)) = false := by simp; omega
      have hnb2 : ((i : Int) != (j : Int)) = true := by simp; omega
      by_cases hij : j < i
      · have hijz : (j : Int) < (i : Int) := by omega
        have CQ := Lib.hid (HC.out dk wr (m - i) m j hsk (by omega) (by omega) HK.out)
        have HIE := Lib.hid (show (m : Int) - (i : Int) = ((m - i : Nat) : Int) by omega)
        have HI2 := Lib.hid (show (i : Int) - (j : Int) = ((i - j : Nat) : Int) by omega)
        clear hne
        go_wp2_with (go_at_fn 172; rw [HIE.out]; refine CQ.out.mono ?_; rintro en w' ⟨rfl, d', hM, hP, hK⟩)
        have HS' := hM.1
        have HT' : Hid (∀ d'', Moved (roF (m - (i - j)) m (m + j)) d' d'' → Moved (roF s m e) d d'') := fun d'' h => HT.out d'' ((hM.trans h fun t ht => roF_lt (by omega) (by omega) (by omega) ht).congr fun t _ => roF_big hij (by omega))
        have HP' : Hid (∀ x y, x ≤ s → e ≤ y → y ≤ d.size → PermIn x y d d') := fun x y h1 h2 h3 => permIn_trans _ _ _ _ _ (HP.out x y h1 h2 h3) (hP x y (by omega) (by omega) h3)
        have HK' := Lib.hid hK
        have HSZ := Lib.hid (HS'.trans hsk)
        clear hM hP hK HS'
        go_roundg (i - j + j)
        case measure => omega
        case rel => exact ⟨i - j, j, d', (by rw [HI2.out]), rfl, by omega, hj, by omega, hj2, Nat.le_refl _, HSZ.out, HT'.out, HP'.out, HK'.out⟩
      · have hijz : ¬ (j : Int) < (i : Int) := by omega
        have hlt : i < j := by omega
        have CQ := Lib.hid (HC.out dk wr (m - i) (m + j - i) i hsk (by omega) (by omega) HK.out)
        have HIE := Lib.hid (show (m : Int) - (i : Int) = ((m - i : Nat) : Int) by omega)
        have HI3 := Lib.hid (show (m : Int) + (j : Int) - (i : Int) = ((m + j - i : Nat) : Int) by omega)
        have HI2 := Lib.hid (show (j : Int) - (i : Int) = ((j - i : Nat) : Int) by omega)
        clear hne
        go_wp2_with (go_at_fn 172; rw [HIE.out, HI3.out]; refine CQ.out.mono ?_; rintro en w' ⟨rfl, d', hM, hP, hK⟩)
        have HS' := hM.1
        have HT' : Hid (∀ d'', Moved (roF (m - i) m (m + (j - i))) d' d'' → Moved (roF s m e) d d'') := fun d'' h => HT.out d'' ((hM.trans h fun t ht => roF_lt (by omega) (by omega) (by omega) ht).congr fun t _ => roF_small hlt (by omega))
        have HP' : Hid (∀ x y, x ≤ s → e ≤ y → y ≤ d.size → PermIn x y d d') := fun x y h1 h2 h3 => permIn_trans _ _ _ _ _ (HP.out x y h1 h2 h3) (hP x y (by omega) (by omega) h3)
        have HK' := Lib.hid hK
        have HSZ := Lib.hid (HS'.trans hsk)
        clear hM hP hK HS'
        go_roundg (i + (j - i))
        case measure => omega
        case rel => exact ⟨i, j - i, d', rfl, (by rw [HI2.out]), hi, by omega, hi2, by omega, Nat.le_refl _, HSZ.out, HT'.out, HP'.out, HK'.out⟩
end
end Go.Proofs.YtcpfiiapfggmpaaGreat
