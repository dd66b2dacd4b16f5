/- price.Total and the reference's, walked. -/
import Derived.Test.YtcpfiiapfggmpaaPrcEnc
set_option linter.unusedSimpArgs false
namespace Go.Proofs.Ytcpfiiapfggmpaa
open Go.RowKit Go.Lib

def ctL (cs : List CV) : List Int := cs.map CV.ct
theorem ctL_tk {cs : List CV} {k : Nat} {x : CV} (hx : cs[k]? = some x) : ctL (cs.take (k + 1)) = ctL (cs.take k) ++ [x.ct] := by unfold ctL; rw [take_snoc hx]; simp
theorem ctL_len (cs : List CV) : (ctL cs).length = cs.length := by simp [ctL]

set_option maxRecDepth 100000 in
set_option maxHeartbeats 4000000 in
theorem ptot_any {A : Option Addr} (c : Nat) {l : List Cg} {w : World} (h : Rd encCg 7 w w.heap.size A l) (hl : l.length ≤ 1000) :
    Calls Try.prog 8 #[.slice A l.length c] w fun e w' => e = .returned (.tuple #[.int .i64 (sumV (ctL (cvs l))), .int .i64 (sumE (ctL (cvs l)))]) ∧ Below w.heap.size w w' := by
  have HR := Lib.hid h
  clear h
  go_enter Try.func8, Try.ntmps8
  go_wp2_with fail
  go_loopw [4, 9] (fun o i wr => ∃ (k : Nat) (q : List Int) (A' : Option Addr) (c' : Nat), k ≤ l.length ∧ i = .int .i64 k ∧ o = .slice A' q.length c' ∧ Hid (q.length = k) ∧ Hid (q = ctL ((cvs l).take k)) ∧ Own 3 encI 1 wr w.heap.size A' c' q ∧ Below w.heap.size w wr) (fun _ i _ => l.length - (RowKit.intOf i).toNat)
  case atStart => exact ⟨0, [], none, 0, Nat.zero_le _, rfl, rfl, (by unfold Hid; simp), Lib.hid (by simp [ctL]), Own.nil _ _, Below.refl _ _⟩
  case round =>
    obtain ⟨k, q, A', c', hk, rfl, rfl, HQL, HQ, hown, bY⟩ := hrel
    by_cases hi : k < l.length
    · obtain ⟨b, off, x, rfl, hb, hx, d0, d1, d2, d3, d4, d5, d6⟩ := (HR.out.st bY).cg hi
      have HK := Lib.hid hi
      have HT := Lib.hid (ctL_tk (cvs_at hx))
      obtain ⟨⟨key, veh, sys, cls, tm, lns, cn⟩, lA, lc⟩ := x
      simp only at *
      obtain ⟨Y7, hY7⟩ : ∃ Y, wr.alloc (.cells #[.string key, .string veh, .string sys, .int .i64 cls, .int .i64 tm, .slice lA lns.length lc, .int .i64 cn] 24) = Y := ⟨_, rfl⟩
      have BX : Blk Y7 wr.heap.size #[.string key, .string veh, .string sys, .int .i64 cls, .int .i64 tm, .slice lA lns.length lc, .int .i64 cn] 24 := by rw [← hY7]; exact Blk.new wr _ _
      have b7 : Below wr.heap.size wr Y7 := by rw [← hY7]; exact (Below.refl _ wr).al _
      have hsz7 : w.heap.size ≤ wr.heap.size := bY.size
      have bY7 := bY.st b7
      have hown7 := hown.st b7
      have x6 := BX.cell 6 (v := .int .i64 cn) rfl
      have hql : q.length ≤ 1000 := by have := HQL.out; omega
      have R : Hid (q ++ [cn] = ctL ((cvs l).take (k + 1))) := Lib.hid (by rw [HT.out, ← HQ.out])
      clear hx hi hb hown b7 bY HT HQ
      go_wp2_with (at_builtin; refine wpList_app1b rfl (.tmp 13) (.tmp 16) tyI encI_ok rfl (cn : Int) rfl _ rfl (by simp) hown7 rfl (by first | rfl | simp) (by first | omega | (simp; omega)) (by first | omega | (simp; omega)) (by first | exact bY7.size | (have := bY7.size; omega)) ?_; intro A8 c8 w8 hown8 hb8 hs8 hf8; have hbel8 := bY7.trans hb8)
      clear hown7 hb8 hf8
      go_wp2_with fail
      go_roundw
      case rel => exact ⟨k + 1, q ++ [cn], A8, c8, HK.out, by go_num, by simp, Lib.hid (by have := HQL.out; simp; omega), R, hown8, hbel8⟩
      case measure => have := HK.out; simp [RowKit.intOf]; omega
    · obtain rfl : k = l.length := by omega
      have hq : q = ctL (cvs l) := by have := HQ.out; rwa [← cvs_len, List.take_length] at this
      subst hq
      have hql : (ctL (cvs l)).length ≤ 1024 := by have := HQL.out; omega
      have CS := Lib.hid (msumx_any c' (hown.rd encI_ok) hql)
      clear HQ hown
      go_wp2_with fail
      refine CS.out.mono ?_
      rintro e w3 ⟨rfl, hbn⟩
      have b3 := bY.st hbn
      go_wp2_with fail
      go_ret2
      exact ⟨rfl, b3⟩

set_option maxRecDepth 100000 in
set_option maxHeartbeats 4000000 in
theorem rtotp_any {A : Option Addr} (c : Nat) {l : List Cg} {w : World} (h : Rd encCg 7 w w.heap.size A l) (hl : l.length ≤ 1000) :
    Calls Try.prog 9 #[.slice A l.length c] w fun e w' => e = .returned (.tuple #[.int .i64 (sumV (ctL (cvs l))), .int .i64 (sumE (ctL (cvs l)))]) ∧ Below w.heap.size w w' := by
  have HR := Lib.hid h
  clear h
  go_enter Try.func9, Try.ntmps9
  go_wp2_with fail
  go_loopw [4, 5] (fun o i wr => ∃ (k : Nat) (q : List Int) (A' : Option Addr) (c' : Nat), k ≤ l.length ∧ i = .int .i64 k ∧ o = .slice A' q.length c' ∧ Hid (q.length = k) ∧ Hid (q = ctL ((cvs l).take k)) ∧ Own 3 encI 1 wr w.heap.size A' c' q ∧ Below w.heap.size w wr) (fun _ i _ => l.length - (RowKit.intOf i).toNat)
  case atStart => exact ⟨0, [], some ⟨w.heap.size, 0, none⟩, 0, Nat.zero_le _, rfl, rfl, (by unfold Hid; simp), Lib.hid (by simp [ctL]), Own.lit w w.heap.size ([] : List Int) encI_ok rfl rfl (Nat.le_refl _) (by simp), (Below.refl _ _).al _⟩
  case round =>
    obtain ⟨k, q, A', c', hk, rfl, rfl, HQL, HQ, hown, bY⟩ := hrel
    have k1 : (0 : Int) ≤ (k : Int) := by omega
    by_cases hi : k < l.length
    · have k2 : (k : Int) < (l.length : Int) := by omega
      obtain ⟨b, off, x, rfl, hb, hx, d0, d1, d2, d3, d4, d5, d6⟩ := (HR.out.st bY).cg hi
      have HK := Lib.hid hi
      have HT := Lib.hid (ctL_tk (cvs_at hx))
      obtain ⟨⟨key, veh, sys, cls, tm, lns, cn⟩, lA, lc⟩ := x
      simp only at *
      have hsz7 : w.heap.size ≤ wr.heap.size := bY.size
      have hql : q.length ≤ 1000 := by have := HQL.out; omega
      have R : Hid (q ++ [cn] = ctL ((cvs l).take (k + 1))) := Lib.hid (by rw [HT.out, ← HQ.out])
      clear hx hi hb d0 d1 d2 d3 d4 d5 HT HQ
      go_wp2_with (at_builtin; refine wpList_app1b rfl (.tmp 13) (.tmp 19) tyI encI_ok rfl (cn : Int) rfl _ rfl (by simp) hown rfl (by first | rfl | simp) (by first | omega | (simp; omega)) (by first | omega | (simp; omega)) (by first | exact bY.size | (have := bY.size; omega)) ?_; intro A8 c8 w8 hown8 hb8 hs8 hf8; have hbel8 := bY.trans hb8)
      clear hown hb8 hf8
      go_wp2_with fail
      go_roundw
      case rel => exact ⟨k + 1, q ++ [cn], A8, c8, HK.out, by go_num, by simp, Lib.hid (by have := HQL.out; simp; omega), R, hown8, hbel8⟩
      case measure => have := HK.out; simp [RowKit.intOf]; omega
    · obtain rfl : k = l.length := by omega
      have hq : q = ctL (cvs l) := by have := HQ.out; rwa [← cvs_len, List.take_length] at this
      subst hq
      have hql : (ctL (cvs l)).length ≤ 1024 := by have := HQL.out; omega
      have CS := Lib.hid (rsumx_any c' (hown.rd encI_ok) hql)
      clear HQ hown
      go_wp2_with fail
      refine CS.out.mono ?_
      rintro e w3 ⟨rfl, hbn⟩
      have b3 := bY.st hbn
      go_wp2_with fail
      go_ret2
      exact ⟨rfl, b3⟩
end Go.Proofs.Ytcpfiiapfggmpaa
