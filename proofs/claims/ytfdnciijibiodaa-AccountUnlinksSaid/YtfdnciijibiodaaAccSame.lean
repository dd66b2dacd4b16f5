/- The reference's Same at equal values, walked. -/
import Derived.Test.YtfdnciijibiodaaAccFind
import Derived.Test.YtfdnciijibiodaaAccAll
import Derived.BigQuiet
import Derived.Laws.StructEq
import Derived.Deep.DeepCutAuto
import Derived.Deep.RegionHeld3
set_option linter.unusedSimpArgs false
namespace Go.Proofs.Ytfdnciijibiodaa
open Go.RowKit Go.Lib

def Two (wo : World) (XA XB : Array Value) (s6 s7 : Value) (wx : World) : Prop :=
  ∃ g h, s6 = .pointer (some ⟨g, 0, none⟩) ∧ s7 = .pointer (some ⟨h, 0, none⟩) ∧ Blk wx g XA 39 ∧ Blk wx h XB 39 ∧ Below wo.heap.size wo wx

set_option maxRecDepth 100000 in
set_option maxHeartbeats 16000000 in
theorem rsame_true {A A2 : Option Addr} (c c2 : Nat) {l l2 : List Ac} {w : World} (h1 : AL w A c l) (h2 : AL w A2 c2 l2) (hv : vals l = vals l2) (hsm : smL l) :
    Calls Try.prog 11 #[.slice A l.length c, .slice A2 l2.length c2] w fun e w' => e = .returned (.bool true) ∧ Below w.heap.size w w' := by
  have hll : l2.length = l.length := by
    have : (vals l).length = (vals l2).length := by rw [hv]
    unfold vals at this
    rw [List.length_map, List.length_map] at this
    exact this.symm
  rw [hll]
  have H1 := Lib.hid h1
  have H2 := Lib.hid h2
  have HV := Lib.hid hv
  have HLL := Lib.hid hll
  have hl1 : l.length ≤ 1000 := hsm.1
  have HS := Lib.hid (fun (a : Ac) (ha : a ∈ l) => (hsm.2 a ha).1)
  clear h1 h2 hv hll hsm
  go_enter Try.func11, Try.ntmps11
  go_wp2
  go_loopw [5] (fun i wr => ∃ k : Nat, k ≤ l.length ∧ i = .int .i64 k ∧ Below w.heap.size w wr) (fun i _ => l.length - (RowKit.intOf i).toNat)
  case atStart => exact ⟨0, Nat.zero_le _, rfl, Below.refl _ _⟩
  case round =>
    obtain ⟨k, hk, rfl, bW⟩ := hrel
    by_cases hi : k < l.length
    · obtain ⟨b, off, x, hA1, hb, hx, d0, d1, d2, d3, d4, d5, d6, d7, d8⟩ := (H1.out.1.st bW).ac hi
      obtain ⟨b2, off2, y, hA2, hb2, hy, q0, q1, q2, q3, q4, q5, q6, q7, q8⟩ := (H2.out.1.st bW).ac (show k < l2.length by have := HLL.out; omega)
      have hxy : y.v = x.v := by
        have e1 := vals_get hx
        rw [HV.out, vals_get hy] at e1
        exact Option.some.inj e1
      have rx := (H1.out.2.1 x (List.mem_of_getElem? hx)).1
      have ry := (H2.out.2.1 y (List.mem_of_getElem? hy)).1
      have hos := HS.out x (List.mem_of_getElem? hx)
      have HK := Lib.hid hi
      have i1 : (0 : Int) ≤ (k : Int) := by omega
      have i2 : (k : Int) < (l.length : Int) := by omega
      obtain ⟨⟨nm, ag, pre, os, r0, r1, r2, r3, ex⟩, xA, xc⟩ := x
      obtain ⟨yv, yA, yc⟩ := y
      simp only at hxy
      subst hxy
      simp only at d0 d1 d2 d3 d4 d5 d6 d7 d8 q0 q1 q2 q3 q4 q5 q6 q7 q8 rx ry hos
      have RX := Lib.hid rx
      have RY := Lib.hid ry
      subst hA1 hA2
      clear hx hy rx ry hi hk
      have KS := Lib.hid (fun (W : World) (h : Below wr.heap.size wr W) => show (fun w' : World => w'.cell? ⟨b, off + k * 9, none⟩ = some (.string nm) ∧ w'.cell? ⟨b, off + k * 9 + 1, none⟩ = some (.string ag) ∧ w'.cell? ⟨b, off + k * 9 + 2, none⟩ = some (.bool pre) ∧ w'.cell? ⟨b, off + k * 9 + 3, none⟩ = some (.slice xA os.length xc) ∧ w'.cell? ⟨b, off + k * 9 + 4, none⟩ = some (.int .i64 r0) ∧ w'.cell? ⟨b, off + k * 9 + 5, none⟩ = some (.int .i64 r1) ∧ w'.cell? ⟨b, off + k * 9 + 6, none⟩ = some (.int .i64 r2) ∧ w'.cell? ⟨b, off + k * 9 + 7, none⟩ = some (.int .i64 r3) ∧ w'.cell? ⟨b, off + k * 9 + 8, none⟩ = some (.bool ex) ∧ w'.cell? ⟨b2, off2 + k * 9, none⟩ = some (.string nm) ∧ w'.cell? ⟨b2, off2 + k * 9 + 1, none⟩ = some (.string ag) ∧ w'.cell? ⟨b2, off2 + k * 9 + 2, none⟩ = some (.bool pre) ∧ w'.cell? ⟨b2, off2 + k * 9 + 3, none⟩ = some (.slice yA os.length yc) ∧ w'.cell? ⟨b2, off2 + k * 9 + 4, none⟩ = some (.int .i64 r0) ∧ w'.cell? ⟨b2, off2 + k * 9 + 5, none⟩ = some (.int .i64 r1) ∧ w'.cell? ⟨b2, off2 + k * 9 + 6, none⟩ = some (.int .i64 r2) ∧ w'.cell? ⟨b2, off2 + k * 9 + 7, none⟩ = some (.int .i64 r3) ∧ w'.cell? ⟨b2, off2 + k * 9 + 8, none⟩ = some (.bool ex)) W from ⟨(h.cell (p := ⟨b, _, none⟩) hb).trans d0, (h.cell (p := ⟨b, _, none⟩) hb).trans d1, (h.cell (p := ⟨b, _, none⟩) hb).trans d2, (h.cell (p := ⟨b, _, none⟩) hb).trans d3, (h.cell (p := ⟨b, _, none⟩) hb).trans d4, (h.cell (p := ⟨b, _, none⟩) hb).trans d5, (h.cell (p := ⟨b, _, none⟩) hb).trans d6, (h.cell (p := ⟨b, _, none⟩) hb).trans d7, (h.cell (p := ⟨b, _, none⟩) hb).trans d8, (h.cell (p := ⟨b2, _, none⟩) hb2).trans q0, (h.cell (p := ⟨b2, _, none⟩) hb2).trans q1, (h.cell (p := ⟨b2, _, none⟩) hb2).trans q2, (h.cell (p := ⟨b2, _, none⟩) hb2).trans q3, (h.cell (p := ⟨b2, _, none⟩) hb2).trans q4, (h.cell (p := ⟨b2, _, none⟩) hb2).trans q5, (h.cell (p := ⟨b2, _, none⟩) hb2).trans q6, (h.cell (p := ⟨b2, _, none⟩) hb2).trans q7, (h.cell (p := ⟨b2, _, none⟩) hb2).trans q8⟩)
      clear d0 d1 d2 d3 d4 d5 d6 d7 d8 q0 q1 q2 q3 q4 q5 q6 q7 q8
      go_upto_region 6 with fail
      go_cut [6, 7] (fun s6 s7 wx => Two wr #[.string nm, .string ag, .bool pre, .slice xA os.length xc, .int .i64 r0, .int .i64 r1, .int .i64 r2, .int .i64 r3, .bool ex] #[.string nm, .string ag, .bool pre, .slice yA os.length yc, .int .i64 r0, .int .i64 r1, .int .i64 r2, .int .i64 r3, .bool ex] s6 s7 wx)
      case first =>
        refine wp_region_held_drew (S := (fun w' : World => w'.cell? ⟨b, off + k * 9, none⟩ = some (.string nm) ∧ w'.cell? ⟨b, off + k * 9 + 1, none⟩ = some (.string ag) ∧ w'.cell? ⟨b, off + k * 9 + 2, none⟩ = some (.bool pre) ∧ w'.cell? ⟨b, off + k * 9 + 3, none⟩ = some (.slice xA os.length xc) ∧ w'.cell? ⟨b, off + k * 9 + 4, none⟩ = some (.int .i64 r0) ∧ w'.cell? ⟨b, off + k * 9 + 5, none⟩ = some (.int .i64 r1) ∧ w'.cell? ⟨b, off + k * 9 + 6, none⟩ = some (.int .i64 r2) ∧ w'.cell? ⟨b, off + k * 9 + 7, none⟩ = some (.int .i64 r3) ∧ w'.cell? ⟨b, off + k * 9 + 8, none⟩ = some (.bool ex) ∧ w'.cell? ⟨b2, off2 + k * 9, none⟩ = some (.string nm) ∧ w'.cell? ⟨b2, off2 + k * 9 + 1, none⟩ = some (.string ag) ∧ w'.cell? ⟨b2, off2 + k * 9 + 2, none⟩ = some (.bool pre) ∧ w'.cell? ⟨b2, off2 + k * 9 + 3, none⟩ = some (.slice yA os.length yc) ∧ w'.cell? ⟨b2, off2 + k * 9 + 4, none⟩ = some (.int .i64 r0) ∧ w'.cell? ⟨b2, off2 + k * 9 + 5, none⟩ = some (.int .i64 r1) ∧ w'.cell? ⟨b2, off2 + k * 9 + 6, none⟩ = some (.int .i64 r2) ∧ w'.cell? ⟨b2, off2 + k * 9 + 7, none⟩ = some (.int .i64 r3) ∧ w'.cell? ⟨b2, off2 + k * 9 + 8, none⟩ = some (.bool ex))) (by kernel_rfl) ?_ (fun hHeld => ?_)
        focus exact KS.out _ (Below.refl _ _).drew
        have bR := (Below.refl wr.heap.size wr).drew
        obtain ⟨W, hW⟩ : ∃ W, wr.drew = W := ⟨_, rfl⟩
        rw [hW] at bR hHeld ⊢
        clear hW
        have hbs := bR.size
        change wpAnyH _ _ _ _ _ 12 _ _ _
        refine wpAnyH_take (i := 0) (v := ?_) (by simp only [List.getElem?_toArray, List.getElem?_cons_zero, List.getElem?_cons_succ]; rfl) (by kernel_rfl) (by kernel_rfl) (by kernel_rfl) (by intro _ _ _ h; exact h) (Or.inl ⟨by rfl, ?_⟩) (by assumption) ?_; rotate_left; (focus (intro w1 hSw; (try dsimp only at hSw); go_simp; (try with_reducible rfl))); (try simp only [Act.put, List.setIfInBounds_toArray, List.set_cons_zero, List.set_cons_succ, List.getElem_toArray, List.getElem_cons_zero, List.getElem_cons_succ])
        refine wpAnyH_take (i := 1) (v := ?_) (by simp only [List.getElem?_toArray, List.getElem?_cons_zero, List.getElem?_cons_succ]; rfl) (by kernel_rfl) (by kernel_rfl) (by kernel_rfl) (by intro _ _ _ h; exact h) (Or.inl ⟨by rfl, ?_⟩) (by assumption) ?_; rotate_left; (focus (intro w1 hSw; (try dsimp only at hSw); go_simp; (try with_reducible rfl))); (try simp only [Act.put, List.setIfInBounds_toArray, List.set_cons_zero, List.set_cons_succ, List.getElem_toArray, List.getElem_cons_zero, List.getElem_cons_succ])
        refine wpAnyH_take (i := 2) (v := ?_) (by simp only [List.getElem?_toArray, List.getElem?_cons_zero, List.getElem?_cons_succ]; rfl) (by kernel_rfl) (by kernel_rfl) (by kernel_rfl) (by intro _ _ _ h; exact h) (Or.inl ⟨by rfl, ?_⟩) (by assumption) ?_; rotate_left; (focus (intro w1 hSw; (try dsimp only at hSw); go_simp; (try with_reducible rfl))); (try simp only [Act.put, List.setIfInBounds_toArray, List.set_cons_zero, List.set_cons_succ, List.getElem_toArray, List.getElem_cons_zero, List.getElem_cons_succ])
        refine wpAnyH_take (i := 3) (v := ?_) (by simp only [List.getElem?_toArray, List.getElem?_cons_zero, List.getElem?_cons_succ]; rfl) (by kernel_rfl) (by kernel_rfl) (by kernel_rfl) (by intro _ _ _ h; exact h) (Or.inl ⟨by rfl, ?_⟩) (by assumption) ?_; rotate_left; (focus (intro w1 hSw; (try dsimp only at hSw); go_simp; (try with_reducible rfl))); (try simp only [Act.put, List.setIfInBounds_toArray, List.set_cons_zero, List.set_cons_succ, List.getElem_toArray, List.getElem_cons_zero, List.getElem_cons_succ])
        refine wpAnyH_take (i := 4) (v := ?_) (by simp only [List.getElem?_toArray, List.getElem?_cons_zero, List.getElem?_cons_succ]; rfl) (by kernel_rfl) (by kernel_rfl) (by kernel_rfl) (by intro _ _ _ h; exact h) (Or.inl ⟨by rfl, ?_⟩) (by assumption) ?_; rotate_left; (focus (intro w1 hSw; (try dsimp only at hSw); go_simp; (try with_reducible rfl))); (try simp only [Act.put, List.setIfInBounds_toArray, List.set_cons_zero, List.set_cons_succ, List.getElem_toArray, List.getElem_cons_zero, List.getElem_cons_succ])
        refine wpAnyH_take (i := 5) (v := ?_) (by simp only [List.getElem?_toArray, List.getElem?_cons_zero, List.getElem?_cons_succ]; rfl) (by kernel_rfl) (by kernel_rfl) (by kernel_rfl) (by intro _ _ _ h; exact h) (Or.inl ⟨by rfl, ?_⟩) (by assumption) ?_; rotate_left; (focus (intro w1 hSw; (try dsimp only at hSw); go_simp; (try with_reducible rfl))); (try simp only [Act.put, List.setIfInBounds_toArray, List.set_cons_zero, List.set_cons_succ, List.getElem_toArray, List.getElem_cons_zero, List.getElem_cons_succ])
        refine wpAnyH_take (i := 6) (v := ?_) (by simp only [List.getElem?_toArray, List.getElem?_cons_zero, List.getElem?_cons_succ]; rfl) (by kernel_rfl) (by kernel_rfl) (by kernel_rfl) (by intro _ _ _ h; exact h) (Or.inl ⟨by rfl, ?_⟩) (by assumption) ?_; rotate_left; (focus (intro w1 hSw; (try dsimp only at hSw); go_simp; (try with_reducible rfl))); (try simp only [Act.put, List.setIfInBounds_toArray, List.set_cons_zero, List.set_cons_succ, List.getElem_toArray, List.getElem_cons_zero, List.getElem_cons_succ])
        refine wpAnyH_take (i := 7) (v := ?_) (by simp only [List.getElem?_toArray, List.getElem?_cons_zero, List.getElem?_cons_succ]; rfl) (by kernel_rfl) (by kernel_rfl) (by kernel_rfl) (by intro _ _ _ h; exact h) (Or.inl ⟨by rfl, ?_⟩) (by assumption) ?_; rotate_left; (focus (intro w1 hSw; (try dsimp only at hSw); go_simp; (try with_reducible rfl))); (try simp only [Act.put, List.setIfInBounds_toArray, List.set_cons_zero, List.set_cons_succ, List.getElem_toArray, List.getElem_cons_zero, List.getElem_cons_succ])
        refine wpAnyH_ready (rs := [8, 9]) (by kernel_rfl) (by simp) ?_; refine AllReadyH.cons (by simp only [List.getElem?_toArray, List.getElem?_cons_zero, List.getElem?_cons_succ]; rfl) (fun K hK => ?_) (AllReadyH.cons (by simp only [List.getElem?_toArray, List.getElem?_cons_zero, List.getElem?_cons_succ]; rfl) (fun K hK => ?_) AllReadyH.nil)
        · (obtain ⟨V1, hV⟩ : ∃ V, World.alloc W (.cells #[.string ⟨#[]⟩, .string ⟨#[]⟩, .bool false, .slice none 0 0, .int .i64 0, .int .i64 0, .int .i64 0, .int .i64 0, .bool false] 39) = V := ⟨_, rfl⟩); (have hbn : Below (W).heap.size W V1 := (by rw [← hV]; exact (Below.refl _ _).al _)); (have C5 : Blk V1 (W).heap.size #[.string ⟨#[]⟩, .string ⟨#[]⟩, .bool false, .slice none 0 0, .int .i64 0, .int .i64 0, .int .i64 0, .int .i64 0, .bool false] 39 := (by rw [← hV]; exact Blk.new _ _ _)); (have bR := bR.st hbn)
          have hl5 := C5.lt
          rw [if_pos (by rfl)]
          go_wp2_with fail
          refine hK.out _ _ ?_ (fun hHeld => ?_); (focus exact (KS.out _ bR)); clear hK K; (try simp only [Act.put, List.setIfInBounds_toArray, List.set_cons_zero, List.set_cons_succ, List.getElem_toArray, List.getElem_cons_zero, List.getElem_cons_succ])
          clear hV hbn
          (obtain ⟨V2, hV⟩ : ∃ V, World.alloc V1 (.cells #[.string ⟨#[]⟩, .string ⟨#[]⟩, .bool false, .slice none 0 0, .int .i64 0, .int .i64 0, .int .i64 0, .int .i64 0, .bool false] 39) = V := ⟨_, rfl⟩); (have hbn : Below (V1).heap.size V1 V2 := (by rw [← hV]; exact (Below.refl _ _).al _)); (have C6 : Blk V2 (V1).heap.size #[.string ⟨#[]⟩, .string ⟨#[]⟩, .bool false, .slice none 0 0, .int .i64 0, .int .i64 0, .int .i64 0, .int .i64 0, .bool false] 39 := (by rw [← hV]; exact Blk.new _ _ _)); (have bR := bR.st hbn)
          have C5 := C5.below hbn C5.lt
          have hl6 := C6.lt
          refine wpAnyH_ready (rs := [9]) (by kernel_rfl) (by simp) ?_; refine AllReadyH.cons (by simp only [List.getElem?_toArray, List.getElem?_cons_zero, List.getElem?_cons_succ]; rfl) (fun K hK => ?_) AllReadyH.nil
          rw [if_pos (by rfl)]
          go_wp2_with fail
          refine hK.out _ _ ?_ (fun hHeld => ?_); (focus exact (KS.out _ bR)); clear hK K; (try simp only [Act.put, List.setIfInBounds_toArray, List.set_cons_zero, List.set_cons_succ, List.getElem_toArray, List.getElem_cons_zero, List.getElem_cons_succ])
          clear hV hbn
          refine wpAnyH_ready (rs := [10]) (by kernel_rfl) (by simp) ?_; refine AllReadyH.cons (by simp only [List.getElem?_toArray, List.getElem?_cons_zero, List.getElem?_cons_succ]; rfl) (fun K hK => ?_) AllReadyH.nil
          rw [if_pos (by rfl)]; refine wp_boxStore rfl C5 rfl rfl (by kernel_rfl) rfl (by kernel_rfl) ?_; intro V3 D5 hoz hbz; (have bR := hbz _ _ (by omega) bR)
          have C6 := C6.oth hoz (by omega)
          refine hK.out _ _ ?_ (fun hHeld => ?_); (focus exact (KS.out _ bR)); clear hK K; (try simp only [Act.put, List.setIfInBounds_toArray, List.set_cons_zero, List.set_cons_succ, List.getElem_toArray, List.getElem_cons_zero, List.getElem_cons_succ])
          clear hoz hbz
          refine wpAnyH_ready (rs := [11]) (by kernel_rfl) (by simp) ?_; refine AllReadyH.cons (by simp only [List.getElem?_toArray, List.getElem?_cons_zero, List.getElem?_cons_succ]; rfl) (fun K hK => ?_) AllReadyH.nil
          rw [if_pos (by rfl)]; refine wp_boxStore rfl C6 rfl rfl (by kernel_rfl) rfl (by kernel_rfl) ?_; intro V4 C6 hoz hbz; (have bR := hbz _ _ (by omega) bR)
          have C5 := D5.oth hoz (by omega)
          refine hK.out _ _ ?_ (fun hHeld => ?_); (focus exact (KS.out _ bR)); clear hK K; (try simp only [Act.put, List.setIfInBounds_toArray, List.set_cons_zero, List.set_cons_succ, List.getElem_toArray, List.getElem_cons_zero, List.getElem_cons_succ])
          refine wpAnyH_done (by kernel_rfl) ?_ _; go_wp2_with fail; go_meet; exact ⟨_, _, rfl, rfl, C5, C6, bR⟩
        · (obtain ⟨V1, hV⟩ : ∃ V, World.alloc W (.cells #[.string ⟨#[]⟩, .string ⟨#[]⟩, .bool false, .slice none 0 0, .int .i64 0, .int .i64 0, .int .i64 0, .int .i64 0, .bool false] 39) = V := ⟨_, rfl⟩); (have hbn : Below (W).heap.size W V1 := (by rw [← hV]; exact (Below.refl _ _).al _)); (have C6 : Blk V1 (W).heap.size #[.string ⟨#[]⟩, .string ⟨#[]⟩, .bool false, .slice none 0 0, .int .i64 0, .int .i64 0, .int .i64 0, .int .i64 0, .bool false] 39 := (by rw [← hV]; exact Blk.new _ _ _)); (have bR := bR.st hbn)
          have hl6 := C6.lt
          rw [if_pos (by rfl)]
          go_wp2_with fail
          refine hK.out _ _ ?_ (fun hHeld => ?_); (focus exact (KS.out _ bR)); clear hK K; (try simp only [Act.put, List.setIfInBounds_toArray, List.set_cons_zero, List.set_cons_succ, List.getElem_toArray, List.getElem_cons_zero, List.getElem_cons_succ])
          clear hV hbn
          (obtain ⟨V2, hV⟩ : ∃ V, World.alloc V1 (.cells #[.string ⟨#[]⟩, .string ⟨#[]⟩, .bool false, .slice none 0 0, .int .i64 0, .int .i64 0, .int .i64 0, .int .i64 0, .bool false] 39) = V := ⟨_, rfl⟩); (have hbn : Below (V1).heap.size V1 V2 := (by rw [← hV]; exact (Below.refl _ _).al _)); (have C5 : Blk V2 (V1).heap.size #[.string ⟨#[]⟩, .string ⟨#[]⟩, .bool false, .slice none 0 0, .int .i64 0, .int .i64 0, .int .i64 0, .int .i64 0, .bool false] 39 := (by rw [← hV]; exact Blk.new _ _ _)); (have bR := bR.st hbn)
          have C6 := C6.below hbn C6.lt
          have hl5 := C5.lt
          refine wpAnyH_ready (rs := [8]) (by kernel_rfl) (by simp) ?_; refine AllReadyH.cons (by simp only [List.getElem?_toArray, List.getElem?_cons_zero, List.getElem?_cons_succ]; rfl) (fun K hK => ?_) AllReadyH.nil
          rw [if_pos (by rfl)]
          go_wp2_with fail
          refine hK.out _ _ ?_ (fun hHeld => ?_); (focus exact (KS.out _ bR)); clear hK K; (try simp only [Act.put, List.setIfInBounds_toArray, List.set_cons_zero, List.set_cons_succ, List.getElem_toArray, List.getElem_cons_zero, List.getElem_cons_succ])
          clear hV hbn
          refine wpAnyH_ready (rs := [10]) (by kernel_rfl) (by simp) ?_; refine AllReadyH.cons (by simp only [List.getElem?_toArray, List.getElem?_cons_zero, List.getElem?_cons_succ]; rfl) (fun K hK => ?_) AllReadyH.nil
          rw [if_pos (by rfl)]; refine wp_boxStore rfl C5 rfl rfl (by kernel_rfl) rfl (by kernel_rfl) ?_; intro V3 D5 hoz hbz; (have bR := hbz _ _ (by omega) bR)
          have C6 := C6.oth hoz (by omega)
          refine hK.out _ _ ?_ (fun hHeld => ?_); (focus exact (KS.out _ bR)); clear hK K; (try simp only [Act.put, List.setIfInBounds_toArray, List.set_cons_zero, List.set_cons_succ, List.getElem_toArray, List.getElem_cons_zero, List.getElem_cons_succ])
          clear hoz hbz
          refine wpAnyH_ready (rs := [11]) (by kernel_rfl) (by simp) ?_; refine AllReadyH.cons (by simp only [List.getElem?_toArray, List.getElem?_cons_zero, List.getElem?_cons_succ]; rfl) (fun K hK => ?_) AllReadyH.nil
          rw [if_pos (by rfl)]; refine wp_boxStore rfl C6 rfl rfl (by kernel_rfl) rfl (by kernel_rfl) ?_; intro V4 C6 hoz hbz; (have bR := hbz _ _ (by omega) bR)
          have C5 := D5.oth hoz (by omega)
          refine hK.out _ _ ?_ (fun hHeld => ?_); (focus exact (KS.out _ bR)); clear hK K; (try simp only [Act.put, List.setIfInBounds_toArray, List.set_cons_zero, List.set_cons_succ, List.getElem_toArray, List.getElem_cons_zero, List.getElem_cons_succ])
          refine wpAnyH_done (by kernel_rfl) ?_ _; go_wp2_with fail; go_meet; exact ⟨_, _, rfl, rfl, C5, C6, bR⟩
      case rest =>
        obtain ⟨g, h, rfl, rfl, BX, BY, bc⟩ := hcut
        have bC := bW.st bc
        clear bW
        have hx0 := BX.cell 0 (v := .string nm) rfl
        have hx1 := BX.cell 1 (v := .string ag) rfl
        have hx2 := BX.cell 2 (v := .bool pre) rfl
        have hx3 := BX.cell 3 (v := .slice xA os.length xc) rfl
        have hx4 := BX.cell 4 (v := .int .i64 r0) rfl
        have hx5 := BX.cell 5 (v := .int .i64 r1) rfl
        have hx6 := BX.cell 6 (v := .int .i64 r2) rfl
        have hx7 := BX.cell 7 (v := .int .i64 r3) rfl
        have hx8 := BX.cell 8 (v := .bool ex) rfl
        have hy0 := BY.cell 0 (v := .string nm) rfl
        have hy1 := BY.cell 1 (v := .string ag) rfl
        have hy2 := BY.cell 2 (v := .bool pre) rfl
        have hy3 := BY.cell 3 (v := .slice yA os.length yc) rfl
        have hy4 := BY.cell 4 (v := .int .i64 r0) rfl
        have hy5 := BY.cell 5 (v := .int .i64 r1) rfl
        have hy6 := BY.cell 6 (v := .int .i64 r2) rfl
        have hy7 := BY.cell 7 (v := .int .i64 r3) rfl
        have hy8 := BY.cell 8 (v := .bool ex) rfl
        clear KS
        obtain ⟨wo, rfl⟩ : ∃ wo, wo = wr := ⟨_, rfl⟩
        have RXc := Lib.hid (RX.out.st bC)
        have RYc := Lib.hid (RY.out.st bC)
        go_wp2_with fail
        clear hx0 hx1 hx2 hx4 hx5 hx6 hx7 hx8 hy0 hy1 hy2 hy4 hy5 hy6 hy7 hy8
        go_loopw [8] (fun i wr => ∃ m : Nat, m ≤ os.length ∧ i = .int .i64 m ∧ Blk wr g #[.string nm, .string ag, .bool pre, .slice xA os.length xc, .int .i64 r0, .int .i64 r1, .int .i64 r2, .int .i64 r3, .bool ex] 39 ∧ Blk wr h #[.string nm, .string ag, .bool pre, .slice yA os.length yc, .int .i64 r0, .int .i64 r1, .int .i64 r2, .int .i64 r3, .bool ex] 39 ∧ Below w.heap.size w wr) (fun i _ => os.length - (RowKit.intOf i).toNat)
        case atStart => exact ⟨0, Nat.zero_le _, rfl, BX, BY, bC⟩
        case round =>
          clear BX BY bC hx3 hy3
          obtain ⟨m, hm, rfl, BX, BY, bW⟩ := hrel
          have hx3 := BX.cell 3 (v := .slice xA os.length xc) rfl
          have hy3 := BY.cell 3 (v := .slice yA os.length yc) rfl
          by_cases hmi : m < os.length
          · obtain ⟨b3, off3, o, hA3, hb3, ho, e0, e1, e2, e3⟩ := (RX.out.st bW).ow hmi
            obtain ⟨b4, off4, o', hA4, hb4, ho', p0, p1, p2, p3⟩ := (RY.out.st bW).ow hmi
            rw [ho] at ho'
            obtain rfl := Option.some.inj ho'
            have HMI := Lib.hid hmi
            have m1 : (0 : Int) ≤ (m : Int) := by omega
            have m2 : (m : Int) < (os.length : Int) := by omega
            rw [hA3] at hx3
            rw [hA4] at hy3
            clear ho ho' hmi hm
            go_upto_region 12 with fail
            refine wp_region_held_drew (S := (fun w' : World => w'.cell? ⟨g, 3, none⟩ = some (.slice (some ⟨b3, off3, none⟩) os.length xc) ∧ w'.cell? ⟨h, 3, none⟩ = some (.slice (some ⟨b4, off4, none⟩) os.length yc) ∧ w'.cell? ⟨b3, off3 + m * 4, none⟩ = some (.string o.tag) ∧ w'.cell? ⟨b3, off3 + m * 4 + 1, none⟩ = some (.string o.pl) ∧ w'.cell? ⟨b3, off3 + m * 4 + 2, none⟩ = some (.int .i64 o.f) ∧ w'.cell? ⟨b3, off3 + m * 4 + 3, none⟩ = some (.int .i64 o.t) ∧ w'.cell? ⟨b4, off4 + m * 4, none⟩ = some (.string o.tag) ∧ w'.cell? ⟨b4, off4 + m * 4 + 1, none⟩ = some (.string o.pl) ∧ w'.cell? ⟨b4, off4 + m * 4 + 2, none⟩ = some (.int .i64 o.f) ∧ w'.cell? ⟨b4, off4 + m * 4 + 3, none⟩ = some (.int .i64 o.t))) (by kernel_rfl) ?_ (fun hHeld => ?_)
            focus exact ⟨hx3, hy3, e0, e1, e2, e3, p0, p1, p2, p3⟩
            have bW := bW.drew
            have BX := BX.drew
            have BY := BY.drew
            clear hx3 hy3 e0 e1 e2 e3 p0 p1 p2 p3
            generalize wr.drew = W at *
            change wpAnyH _ _ _ _ _ 11 _ _ _
            refine wpAnyH_take (i := 0) (v := ?_) (by simp only [List.getElem?_toArray, List.getElem?_cons_zero, List.getElem?_cons_succ]; rfl) (by kernel_rfl) (by kernel_rfl) (by kernel_rfl) (by intro _ _ _ h; exact h) (Or.inl ⟨by rfl, ?_⟩) (by assumption) ?_; rotate_left; (focus (intro w1 hSw; (try dsimp only at hSw); go_simp; (try with_reducible rfl))); (try simp only [Act.put, List.setIfInBounds_toArray, List.set_cons_zero, List.set_cons_succ, List.getElem_toArray, List.getElem_cons_zero, List.getElem_cons_succ])
            refine wpAnyH_take (i := 1) (v := ?_) (by simp only [List.getElem?_toArray, List.getElem?_cons_zero, List.getElem?_cons_succ]; rfl) (by kernel_rfl) (by kernel_rfl) (by kernel_rfl) (by intro _ _ _ h; exact h) (Or.inl ⟨by rfl, ?_⟩) (by assumption) ?_; rotate_left; (focus (intro w1 hSw; (try dsimp only at hSw); go_simp; (try with_reducible rfl))); (try simp only [Act.put, List.setIfInBounds_toArray, List.set_cons_zero, List.set_cons_succ, List.getElem_toArray, List.getElem_cons_zero, List.getElem_cons_succ])
            refine wpAnyH_take (i := 2) (v := ?_) (by simp only [List.getElem?_toArray, List.getElem?_cons_zero, List.getElem?_cons_succ]; rfl) (by kernel_rfl) (by kernel_rfl) (by kernel_rfl) (by intro _ _ _ h; exact h) (Or.inl ⟨by rfl, ?_⟩) (by assumption) ?_; rotate_left; (focus (intro w1 hSw; (try dsimp only at hSw); go_simp; (try with_reducible rfl))); (try simp only [Act.put, List.setIfInBounds_toArray, List.set_cons_zero, List.set_cons_succ, List.getElem_toArray, List.getElem_cons_zero, List.getElem_cons_succ])
            refine wpAnyH_take (i := 3) (v := ?_) (by simp only [List.getElem?_toArray, List.getElem?_cons_zero, List.getElem?_cons_succ]; rfl) (by kernel_rfl) (by kernel_rfl) (by kernel_rfl) (by intro _ _ _ h; exact h) (Or.inl ⟨by rfl, ?_⟩) (by assumption) ?_; rotate_left; (focus (intro w1 hSw; (try dsimp only at hSw); go_simp; (try with_reducible rfl))); (try simp only [Act.put, List.setIfInBounds_toArray, List.set_cons_zero, List.set_cons_succ, List.getElem_toArray, List.getElem_cons_zero, List.getElem_cons_succ])
            refine wpAnyH_take (i := 4) (v := ?_) (by simp only [List.getElem?_toArray, List.getElem?_cons_zero, List.getElem?_cons_succ]; rfl) (by kernel_rfl) (by kernel_rfl) (by kernel_rfl) (by intro _ _ _ h; exact h) (Or.inl ⟨by rfl, ?_⟩) (by assumption) ?_; rotate_left; (focus (intro w1 hSw; (try dsimp only at hSw); go_simp; (try with_reducible rfl))); (try simp only [Act.put, List.setIfInBounds_toArray, List.set_cons_zero, List.set_cons_succ, List.getElem_toArray, List.getElem_cons_zero, List.getElem_cons_succ])
            refine wpAnyH_take (i := 5) (v := ?_) (by simp only [List.getElem?_toArray, List.getElem?_cons_zero, List.getElem?_cons_succ]; rfl) (by kernel_rfl) (by kernel_rfl) (by kernel_rfl) (by intro _ _ _ h; exact h) (Or.inl ⟨by rfl, ?_⟩) (by assumption) ?_; rotate_left; (focus (intro w1 hSw; (try dsimp only at hSw); go_simp; (try with_reducible rfl))); (try simp only [Act.put, List.setIfInBounds_toArray, List.set_cons_zero, List.set_cons_succ, List.getElem_toArray, List.getElem_cons_zero, List.getElem_cons_succ])
            refine wpAnyH_take (i := 6) (v := ?_) (by simp only [List.getElem?_toArray, List.getElem?_cons_zero, List.getElem?_cons_succ]; rfl) (by kernel_rfl) (by kernel_rfl) (by kernel_rfl) (by intro _ _ _ h; exact h) (Or.inl ⟨by rfl, ?_⟩) (by assumption) ?_; rotate_left; (focus (intro w1 hSw; (try dsimp only at hSw); go_simp; (try with_reducible rfl))); (try simp only [Act.put, List.setIfInBounds_toArray, List.set_cons_zero, List.set_cons_succ, List.getElem_toArray, List.getElem_cons_zero, List.getElem_cons_succ])
            refine wpAnyH_take (i := 7) (v := ?_) (by simp only [List.getElem?_toArray, List.getElem?_cons_zero, List.getElem?_cons_succ]; rfl) (by kernel_rfl) (by kernel_rfl) (by kernel_rfl) (by intro _ _ _ h; exact h) (Or.inl ⟨by rfl, ?_⟩) (by assumption) ?_; rotate_left; (focus (intro w1 hSw; (try dsimp only at hSw); go_simp; (try with_reducible rfl))); (try simp only [Act.put, List.setIfInBounds_toArray, List.set_cons_zero, List.set_cons_succ, List.getElem_toArray, List.getElem_cons_zero, List.getElem_cons_succ])
            refine wpAnyH_take (i := 8) (v := ?_) (by simp only [List.getElem?_toArray, List.getElem?_cons_zero, List.getElem?_cons_succ]; rfl) (by kernel_rfl) (by kernel_rfl) (by kernel_rfl) (by intro _ _ _ h; exact h) (Or.inl ⟨by rfl, ?_⟩) (by assumption) ?_; rotate_left; (focus (intro w1 hSw; (try dsimp only at hSw); go_simp; (try with_reducible rfl))); (try simp only [Act.put, List.setIfInBounds_toArray, List.set_cons_zero, List.set_cons_succ, List.getElem_toArray, List.getElem_cons_zero, List.getElem_cons_succ])
            refine wpAnyH_take (i := 9) (v := ?_) (by simp only [List.getElem?_toArray, List.getElem?_cons_zero, List.getElem?_cons_succ]; rfl) (by kernel_rfl) (by kernel_rfl) (by kernel_rfl) (by intro _ _ _ h; exact h) (Or.inl ⟨by rfl, ?_⟩) (by assumption) ?_; rotate_left; (focus (intro w1 hSw; (try dsimp only at hSw); go_simp; (try with_reducible rfl))); (try simp only [Act.put, List.setIfInBounds_toArray, List.set_cons_zero, List.set_cons_succ, List.getElem_toArray, List.getElem_cons_zero, List.getElem_cons_succ])
            refine wpAnyH_take (i := 10) (v := ?_) (by simp only [List.getElem?_toArray, List.getElem?_cons_zero, List.getElem?_cons_succ]; rfl) (by kernel_rfl) (by kernel_rfl) (by kernel_rfl) (by intro _ _ _ h; exact h) (Or.inl ⟨by rfl, ?_⟩) (by assumption) ?_; rotate_left; (focus (intro w1 hSw; (try dsimp only at hSw); go_simp; (try with_reducible rfl))); (try simp only [Act.put, List.setIfInBounds_toArray, List.set_cons_zero, List.set_cons_succ, List.getElem_toArray, List.getElem_cons_zero, List.getElem_cons_succ])
            refine wpAnyH_done (by kernel_rfl) ?_ _
            clear hHeld
            go_wp2_with fail
            go_roundw
            case rel => exact ⟨m + 1, HMI.out, by go_num, BX, BY, bW⟩
            case measure => have := HMI.out; simp [RowKit.intOf]; omega
          · obtain rfl : m = os.length := by omega
            go_wp2_with fail
            go_roundw
            case rel => exact ⟨k + 1, HK.out, by go_num, bW⟩
            case measure => have := HK.out; simp [RowKit.intOf]; omega
    · obtain rfl : k = l.length := by omega
      go_wp2
      go_ret
      exact ⟨rfl, bW⟩
end Go.Proofs.Ytfdnciijibiodaa
