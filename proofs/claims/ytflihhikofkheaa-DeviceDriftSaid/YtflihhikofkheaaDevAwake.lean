/- The chapter's examples, walked. -/
import Derived.Test.YtflihhikofkheaaDevAwakeMath
import Derived.Laws.StructEq
namespace Go.Proofs.Ytflihhikofkheaa
open Go.RowKit Go.Lib Go.Sort Go.Shelf

set_option maxRecDepth 100000 in
set_option maxHeartbeats 16000000 in
theorem awake_any (w : World) : Calls Try.prog 10 #[] w fun e w' => e = .returned (.bool true) ∧ Below w.heap.size w w' := by
  obtain ⟨Y1, hY1⟩ : ∃ Y, w.alloc (.cells #[.int .i64 100, .int .i64 5, .int .i64 200, .int .i64 (-5)] 57) = Y := ⟨_, rfl⟩
  obtain ⟨Y2, hY2⟩ : ∃ Y, Y1.alloc (.cells #[.int .i64 10, .int .i64 30] 48) = Y := ⟨_, rfl⟩
  obtain ⟨Y3, hY3⟩ : ∃ Y, Y2.alloc (.cells #[.string ⟨#[99, 49]⟩, .string ⟨#[97]⟩, .int .i64 2, .int .i64 0, .slice (some ⟨w.heap.size, 0, none⟩) 2 2, .slice (some ⟨w.heap.size + 1, 0, none⟩) 1 1] 36) = Y := ⟨_, rfl⟩
  obtain ⟨Y4, hY4⟩ : ∃ Y, Y3.alloc (.cells #[.int .i64 0, .int .i64 (-10)] 57) = Y := ⟨_, rfl⟩
  obtain ⟨Y5, hY5⟩ : ∃ Y, Y4.alloc (.cells #[.int .i64 20, .int .i64 40] 48) = Y := ⟨_, rfl⟩
  obtain ⟨Y6, hY6⟩ : ∃ Y, Y5.alloc (.cells #[.string ⟨#[99, 50]⟩, .string ⟨#[97]⟩, .int .i64 2, .int .i64 0, .slice (some ⟨w.heap.size + 3, 0, none⟩) 1 1, .slice (some ⟨w.heap.size + 4, 0, none⟩) 1 1] 36) = Y := ⟨_, rfl⟩
  obtain ⟨Y7, hY7⟩ : ∃ Y, Y6.alloc (.cells #[.string ⟨#[99, 50]⟩, .string ⟨#[97]⟩, .int .i64 2, .int .i64 0, .slice (some ⟨w.heap.size + 3, 0, none⟩) 1 1, .slice (some ⟨w.heap.size + 4, 0, none⟩) 1 1, .string ⟨#[99, 49]⟩, .string ⟨#[97]⟩, .int .i64 2, .int .i64 0, .slice (some ⟨w.heap.size, 0, none⟩) 2 2, .slice (some ⟨w.heap.size + 1, 0, none⟩) 1 1] 36) = Y := ⟨_, rfl⟩
  have s1 : Y1.heap.size = w.heap.size + 1 := by rw [← hY1]; simp
  have s2 : Y2.heap.size = w.heap.size + 2 := by rw [← hY2]; simp [s1]
  have s3 : Y3.heap.size = w.heap.size + 3 := by rw [← hY3]; simp [s2]
  have s4 : Y4.heap.size = w.heap.size + 4 := by rw [← hY4]; simp [s3]
  have s5 : Y5.heap.size = w.heap.size + 5 := by rw [← hY5]; simp [s4]
  have s6 : Y6.heap.size = w.heap.size + 6 := by rw [← hY6]; simp [s5]
  have b1 : Below w.heap.size w Y1 := by rw [← hY1]; exact (Below.refl _ w).al _
  have b2 : Below Y1.heap.size Y1 Y2 := by rw [← hY2]; exact (Below.refl _ _).al _
  have b3 : Below Y2.heap.size Y2 Y3 := by rw [← hY3]; exact (Below.refl _ _).al _
  have b4 : Below Y3.heap.size Y3 Y4 := by rw [← hY4]; exact (Below.refl _ _).al _
  have b5 : Below Y4.heap.size Y4 Y5 := by rw [← hY5]; exact (Below.refl _ _).al _
  have b6 : Below Y5.heap.size Y5 Y6 := by rw [← hY6]; exact (Below.refl _ _).al _
  have b7 : Below Y6.heap.size Y6 Y7 := by rw [← hY7]; exact (Below.refl _ _).al _
  have r1 : Rd encIv 2 Y1 Y1.heap.size (some ⟨w.heap.size, 0, none⟩) [((100, 5) : Iv), (200, -5)] := by rw [← hY1]; exact Rd.lit w _ encIv_ok rfl (by simp)
  have r2 : Rd encIv 2 Y2 Y2.heap.size (some ⟨w.heap.size + 1, 0, none⟩) [((10, 30) : Iv)] := by rw [← hY2, ← s1]; exact Rd.lit Y1 _ encIv_ok rfl (by simp)
  have r4 : Rd encIv 2 Y4 Y4.heap.size (some ⟨w.heap.size + 3, 0, none⟩) [((0, -10) : Iv)] := by rw [← hY4, ← s3]; exact Rd.lit Y3 _ encIv_ok rfl (by simp)
  have r5 : Rd encIv 2 Y5 Y5.heap.size (some ⟨w.heap.size + 4, 0, none⟩) [((20, 40) : Iv)] := by rw [← hY5, ← s4]; exact Rd.lit Y4 _ encIv_ok rfl (by simp)
  have bD3 : Blk Y3 (w.heap.size + 2) #[.string ⟨#[99, 49]⟩, .string ⟨#[97]⟩, .int .i64 2, .int .i64 0, .slice (some ⟨w.heap.size, 0, none⟩) 2 2, .slice (some ⟨w.heap.size + 1, 0, none⟩) 1 1] 36 := by rw [← hY3, ← s2]; exact Blk.new Y2 _ _
  have bE : Blk Y6 (w.heap.size + 5) #[.string ⟨#[99, 50]⟩, .string ⟨#[97]⟩, .int .i64 2, .int .i64 0, .slice (some ⟨w.heap.size + 3, 0, none⟩) 1 1, .slice (some ⟨w.heap.size + 4, 0, none⟩) 1 1] 36 := by rw [← hY6, ← s5]; exact Blk.new Y5 _ _
  have okD : DOk Y6 (exD (some ⟨w.heap.size, 0, none⟩) (some ⟨w.heap.size + 1, 0, none⟩)) := ⟨((((r1.st b2).st b3).st b4).st b5).st b6, (((r2.st b3).st b4).st b5).st b6⟩
  have okE : DOk Y6 (exE (some ⟨w.heap.size + 3, 0, none⟩) (some ⟨w.heap.size + 4, 0, none⟩)) := ⟨(r4.st b5).st b6, r5.st b6⟩
  have rl : Rd encD 6 Y7 Y7.heap.size (some ⟨w.heap.size + 6, 0, none⟩) [(exE (some ⟨w.heap.size + 3, 0, none⟩) (some ⟨w.heap.size + 4, 0, none⟩)), (exD (some ⟨w.heap.size, 0, none⟩) (some ⟨w.heap.size + 1, 0, none⟩))] := by rw [← hY7, ← s6]; exact Rd.lit Y6 _ encD_ok rfl (by simp)
  have bD : Blk Y6 (w.heap.size + 2) #[.string ⟨#[99, 49]⟩, .string ⟨#[97]⟩, .int .i64 2, .int .i64 0, .slice (some ⟨w.heap.size, 0, none⟩) 2 2, .slice (some ⟨w.heap.size + 1, 0, none⟩) 1 1] 36 := ((bD3.below b4 bD3.lt).below b5 (bD3.below b4 bD3.lt).lt).below b6 ((bD3.below b4 bD3.lt).below b5 (bD3.below b4 bD3.lt).lt).lt
  have bW := (((((b1.st b2).st b3).st b4).st b5).st b6)
  have d30 : World.cell? Y3 ⟨w.heap.size + 2, 0, none⟩ = some (.string ⟨#[99, 49]⟩) := bD3.cell 0 rfl
  clear r1 r2 r4 r5 b1 b2 b3 b4 b5 b6 d30
  have bD6 := bD
  have bE6 := bE
  have hq0 : World.cell? Y6 ⟨w.heap.size + 2, 0, none⟩ = some (.string ⟨#[99, 49]⟩) := bD6.cell 0 rfl; have hq1 : World.cell? Y6 ⟨w.heap.size + 2, 1, none⟩ = some (.string ⟨#[97]⟩) := bD6.cell 1 rfl; have hq2 : World.cell? Y6 ⟨w.heap.size + 2, 2, none⟩ = some (.int .i64 2) := bD6.cell 2 rfl; have hq3 : World.cell? Y6 ⟨w.heap.size + 2, 3, none⟩ = some (.int .i64 0) := bD6.cell 3 rfl; have hq4 : World.cell? Y6 ⟨w.heap.size + 2, 4, none⟩ = some (.slice (some ⟨w.heap.size, 0, none⟩) 2 2) := bD6.cell 4 rfl; have hq5 : World.cell? Y6 ⟨w.heap.size + 2, 5, none⟩ = some (.slice (some ⟨w.heap.size + 1, 0, none⟩) 1 1) := bD6.cell 5 rfl; have hp0 : World.cell? Y6 ⟨w.heap.size + 5, 0, none⟩ = some (.string ⟨#[99, 50]⟩) := bE6.cell 0 rfl; have hp1 : World.cell? Y6 ⟨w.heap.size + 5, 1, none⟩ = some (.string ⟨#[97]⟩) := bE6.cell 1 rfl; have hp2 : World.cell? Y6 ⟨w.heap.size + 5, 2, none⟩ = some (.int .i64 2) := bE6.cell 2 rfl; have hp3 : World.cell? Y6 ⟨w.heap.size + 5, 3, none⟩ = some (.int .i64 0) := bE6.cell 3 rfl; have hp4 : World.cell? Y6 ⟨w.heap.size + 5, 4, none⟩ = some (.slice (some ⟨w.heap.size + 3, 0, none⟩) 1 1) := bE6.cell 4 rfl; have hp5 : World.cell? Y6 ⟨w.heap.size + 5, 5, none⟩ = some (.slice (some ⟨w.heap.size + 4, 0, none⟩) 1 1) := bE6.cell 5 rfl
  replace okD := okD.st b7
  replace okE := okE.st b7
  replace bD := bD.below b7 bD.lt
  replace bE := bE.below b7 bE.lt
  replace bW := bW.st b7
  have q0 : World.cell? Y7 ⟨w.heap.size + 2, 0, none⟩ = some (.string ⟨#[99, 49]⟩) := bD.cell 0 rfl; have q1 : World.cell? Y7 ⟨w.heap.size + 2, 1, none⟩ = some (.string ⟨#[97]⟩) := bD.cell 1 rfl; have q2 : World.cell? Y7 ⟨w.heap.size + 2, 2, none⟩ = some (.int .i64 2) := bD.cell 2 rfl; have q3 : World.cell? Y7 ⟨w.heap.size + 2, 3, none⟩ = some (.int .i64 0) := bD.cell 3 rfl; have q4 : World.cell? Y7 ⟨w.heap.size + 2, 4, none⟩ = some (.slice (some ⟨w.heap.size, 0, none⟩) 2 2) := bD.cell 4 rfl; have q5 : World.cell? Y7 ⟨w.heap.size + 2, 5, none⟩ = some (.slice (some ⟨w.heap.size + 1, 0, none⟩) 1 1) := bD.cell 5 rfl; have p0 : World.cell? Y7 ⟨w.heap.size + 5, 0, none⟩ = some (.string ⟨#[99, 50]⟩) := bE.cell 0 rfl; have p1 : World.cell? Y7 ⟨w.heap.size + 5, 1, none⟩ = some (.string ⟨#[97]⟩) := bE.cell 1 rfl; have p2 : World.cell? Y7 ⟨w.heap.size + 5, 2, none⟩ = some (.int .i64 2) := bE.cell 2 rfl; have p3 : World.cell? Y7 ⟨w.heap.size + 5, 3, none⟩ = some (.int .i64 0) := bE.cell 3 rfl; have p4 : World.cell? Y7 ⟨w.heap.size + 5, 4, none⟩ = some (.slice (some ⟨w.heap.size + 3, 0, none⟩) 1 1) := bE.cell 4 rfl; have p5 : World.cell? Y7 ⟨w.heap.size + 5, 5, none⟩ = some (.slice (some ⟨w.heap.size + 4, 0, none⟩) 1 1) := bE.cell 5 rfl
  go_enter Try.func10, Try.ntmps10
  go_wp2_with fail
  clear hq0 hq1 hq2 hq3 hq4 hq5 hp0 hp1 hp2 hp3 hp4 hp5 bD6 bE6
  clear hY1 hY2 hY3 hY4 hY5 hY6 hY7 bD3 s1 s2 s3 s4 s5 s6 b7
  refine (dclock_any (exD (some ⟨w.heap.size, 0, none⟩) (some ⟨w.heap.size + 1, 0, none⟩)) 199 okD (by simp [exD])).mono ?_
  rw [(exClock1 _ _).1, (exClock1 _ _).2]
  rintro e wa ⟨rfl, hba⟩
  replace okD := okD.st hba; replace okE := okE.st hba; replace rl := rl.st hba; replace bD := bD.below hba bD.lt; replace bE := bE.below hba bE.lt; replace bW := bW.st hba; replace q0 : World.cell? wa ⟨w.heap.size + 2, 0, none⟩ = some (.string ⟨#[99, 49]⟩) := bD.cell 0 rfl; replace q1 : World.cell? wa ⟨w.heap.size + 2, 1, none⟩ = some (.string ⟨#[97]⟩) := bD.cell 1 rfl; replace q2 : World.cell? wa ⟨w.heap.size + 2, 2, none⟩ = some (.int .i64 2) := bD.cell 2 rfl; replace q3 : World.cell? wa ⟨w.heap.size + 2, 3, none⟩ = some (.int .i64 0) := bD.cell 3 rfl; replace q4 : World.cell? wa ⟨w.heap.size + 2, 4, none⟩ = some (.slice (some ⟨w.heap.size, 0, none⟩) 2 2) := bD.cell 4 rfl; replace q5 : World.cell? wa ⟨w.heap.size + 2, 5, none⟩ = some (.slice (some ⟨w.heap.size + 1, 0, none⟩) 1 1) := bD.cell 5 rfl; replace p0 : World.cell? wa ⟨w.heap.size + 5, 0, none⟩ = some (.string ⟨#[99, 50]⟩) := bE.cell 0 rfl; replace p1 : World.cell? wa ⟨w.heap.size + 5, 1, none⟩ = some (.string ⟨#[97]⟩) := bE.cell 1 rfl; replace p2 : World.cell? wa ⟨w.heap.size + 5, 2, none⟩ = some (.int .i64 2) := bE.cell 2 rfl; replace p3 : World.cell? wa ⟨w.heap.size + 5, 3, none⟩ = some (.int .i64 0) := bE.cell 3 rfl; replace p4 : World.cell? wa ⟨w.heap.size + 5, 4, none⟩ = some (.slice (some ⟨w.heap.size + 3, 0, none⟩) 1 1) := bE.cell 4 rfl; replace p5 : World.cell? wa ⟨w.heap.size + 5, 5, none⟩ = some (.slice (some ⟨w.heap.size + 4, 0, none⟩) 1 1) := bE.cell 5 rfl
  clear hba
  go_wp2_with fail
  refine (dclock_any (exD (some ⟨w.heap.size, 0, none⟩) (some ⟨w.heap.size + 1, 0, none⟩)) 200 okD (by simp [exD])).mono ?_
  rw [(exClock2 _ _).1, (exClock2 _ _).2]
  rintro e wb ⟨rfl, hbb⟩
  replace okD := okD.st hbb; replace okE := okE.st hbb; replace rl := rl.st hbb; replace bD := bD.below hbb bD.lt; replace bE := bE.below hbb bE.lt; replace bW := bW.st hbb; replace q0 : World.cell? wb ⟨w.heap.size + 2, 0, none⟩ = some (.string ⟨#[99, 49]⟩) := bD.cell 0 rfl; replace q1 : World.cell? wb ⟨w.heap.size + 2, 1, none⟩ = some (.string ⟨#[97]⟩) := bD.cell 1 rfl; replace q2 : World.cell? wb ⟨w.heap.size + 2, 2, none⟩ = some (.int .i64 2) := bD.cell 2 rfl; replace q3 : World.cell? wb ⟨w.heap.size + 2, 3, none⟩ = some (.int .i64 0) := bD.cell 3 rfl; replace q4 : World.cell? wb ⟨w.heap.size + 2, 4, none⟩ = some (.slice (some ⟨w.heap.size, 0, none⟩) 2 2) := bD.cell 4 rfl; replace q5 : World.cell? wb ⟨w.heap.size + 2, 5, none⟩ = some (.slice (some ⟨w.heap.size + 1, 0, none⟩) 1 1) := bD.cell 5 rfl; replace p0 : World.cell? wb ⟨w.heap.size + 5, 0, none⟩ = some (.string ⟨#[99, 50]⟩) := bE.cell 0 rfl; replace p1 : World.cell? wb ⟨w.heap.size + 5, 1, none⟩ = some (.string ⟨#[97]⟩) := bE.cell 1 rfl; replace p2 : World.cell? wb ⟨w.heap.size + 5, 2, none⟩ = some (.int .i64 2) := bE.cell 2 rfl; replace p3 : World.cell? wb ⟨w.heap.size + 5, 3, none⟩ = some (.int .i64 0) := bE.cell 3 rfl; replace p4 : World.cell? wb ⟨w.heap.size + 5, 4, none⟩ = some (.slice (some ⟨w.heap.size + 3, 0, none⟩) 1 1) := bE.cell 4 rfl; replace p5 : World.cell? wb ⟨w.heap.size + 5, 5, none⟩ = some (.slice (some ⟨w.heap.size + 4, 0, none⟩) 1 1) := bE.cell 5 rfl
  clear hbb
  go_wp2_with fail
  refine (dclock_any (exE (some ⟨w.heap.size + 3, 0, none⟩) (some ⟨w.heap.size + 4, 0, none⟩)) 9 okE (by simp [exE])).mono ?_
  rw [clock_no (exClock3 _ _), exClock3]
  rintro e wc ⟨rfl, hbc⟩
  replace okD := okD.st hbc; replace okE := okE.st hbc; replace rl := rl.st hbc; replace bD := bD.below hbc bD.lt; replace bE := bE.below hbc bE.lt; replace bW := bW.st hbc; replace q0 : World.cell? wc ⟨w.heap.size + 2, 0, none⟩ = some (.string ⟨#[99, 49]⟩) := bD.cell 0 rfl; replace q1 : World.cell? wc ⟨w.heap.size + 2, 1, none⟩ = some (.string ⟨#[97]⟩) := bD.cell 1 rfl; replace q2 : World.cell? wc ⟨w.heap.size + 2, 2, none⟩ = some (.int .i64 2) := bD.cell 2 rfl; replace q3 : World.cell? wc ⟨w.heap.size + 2, 3, none⟩ = some (.int .i64 0) := bD.cell 3 rfl; replace q4 : World.cell? wc ⟨w.heap.size + 2, 4, none⟩ = some (.slice (some ⟨w.heap.size, 0, none⟩) 2 2) := bD.cell 4 rfl; replace q5 : World.cell? wc ⟨w.heap.size + 2, 5, none⟩ = some (.slice (some ⟨w.heap.size + 1, 0, none⟩) 1 1) := bD.cell 5 rfl; replace p0 : World.cell? wc ⟨w.heap.size + 5, 0, none⟩ = some (.string ⟨#[99, 50]⟩) := bE.cell 0 rfl; replace p1 : World.cell? wc ⟨w.heap.size + 5, 1, none⟩ = some (.string ⟨#[97]⟩) := bE.cell 1 rfl; replace p2 : World.cell? wc ⟨w.heap.size + 5, 2, none⟩ = some (.int .i64 2) := bE.cell 2 rfl; replace p3 : World.cell? wc ⟨w.heap.size + 5, 3, none⟩ = some (.int .i64 0) := bE.cell 3 rfl; replace p4 : World.cell? wc ⟨w.heap.size + 5, 4, none⟩ = some (.slice (some ⟨w.heap.size + 3, 0, none⟩) 1 1) := bE.cell 4 rfl; replace p5 : World.cell? wc ⟨w.heap.size + 5, 5, none⟩ = some (.slice (some ⟨w.heap.size + 4, 0, none⟩) 1 1) := bE.cell 5 rfl
  clear hbc
  have hall : ∀ d ∈ [(exE (some ⟨w.heap.size + 3, 0, none⟩) (some ⟨w.heap.size + 4, 0, none⟩)), (exD (some ⟨w.heap.size, 0, none⟩) (some ⟨w.heap.size + 1, 0, none⟩))], smallD d := by
    intro d hd
    simp only [List.mem_cons, List.not_mem_nil, or_false] at hd
    rcases hd with rfl | rfl <;> simp [smallD, exD, exE]
  have HALL := Lib.hid hall
  have HOK := Lib.hid (fun (W : World) (a : DOk W (exD (some ⟨w.heap.size, 0, none⟩) (some ⟨w.heap.size + 1, 0, none⟩))) (b : DOk W (exE (some ⟨w.heap.size + 3, 0, none⟩) (some ⟨w.heap.size + 4, 0, none⟩))) => show DsOk W [(exE (some ⟨w.heap.size + 3, 0, none⟩) (some ⟨w.heap.size + 4, 0, none⟩)), (exD (some ⟨w.heap.size, 0, none⟩) (some ⟨w.heap.size + 1, 0, none⟩))] from fun d hd => by
    simp only [List.mem_cons, List.not_mem_nil, or_false] at hd
    rcases hd with rfl | rfl
    · exact b
    · exact a)
  clear hall
  go_wp2_with fail
  refine (dout_any 2 sA 2 rl (HOK.out _ okD okE) HALL.out (by simp)).mono ?_
  rintro e wd ⟨r1, hat1, A1, c1, n1, rfl, hn1, hm1, ho1, hbd⟩
  obtain rfl := exOut hat1 hn1 hm1
  have ro1 := ho1.rd encIv_ok
  clear hat1 hn1 hm1 ho1
  replace okD := okD.st hbd; replace okE := okE.st hbd; replace rl := rl.st hbd; replace bD := bD.below hbd bD.lt; replace bE := bE.below hbd bE.lt; replace bW := bW.st hbd; replace q0 : World.cell? wd ⟨w.heap.size + 2, 0, none⟩ = some (.string ⟨#[99, 49]⟩) := bD.cell 0 rfl; replace q1 : World.cell? wd ⟨w.heap.size + 2, 1, none⟩ = some (.string ⟨#[97]⟩) := bD.cell 1 rfl; replace q2 : World.cell? wd ⟨w.heap.size + 2, 2, none⟩ = some (.int .i64 2) := bD.cell 2 rfl; replace q3 : World.cell? wd ⟨w.heap.size + 2, 3, none⟩ = some (.int .i64 0) := bD.cell 3 rfl; replace q4 : World.cell? wd ⟨w.heap.size + 2, 4, none⟩ = some (.slice (some ⟨w.heap.size, 0, none⟩) 2 2) := bD.cell 4 rfl; replace q5 : World.cell? wd ⟨w.heap.size + 2, 5, none⟩ = some (.slice (some ⟨w.heap.size + 1, 0, none⟩) 1 1) := bD.cell 5 rfl; replace p0 : World.cell? wd ⟨w.heap.size + 5, 0, none⟩ = some (.string ⟨#[99, 50]⟩) := bE.cell 0 rfl; replace p1 : World.cell? wd ⟨w.heap.size + 5, 1, none⟩ = some (.string ⟨#[97]⟩) := bE.cell 1 rfl; replace p2 : World.cell? wd ⟨w.heap.size + 5, 2, none⟩ = some (.int .i64 2) := bE.cell 2 rfl; replace p3 : World.cell? wd ⟨w.heap.size + 5, 3, none⟩ = some (.int .i64 0) := bE.cell 3 rfl; replace p4 : World.cell? wd ⟨w.heap.size + 5, 4, none⟩ = some (.slice (some ⟨w.heap.size + 3, 0, none⟩) 1 1) := bE.cell 4 rfl; replace p5 : World.cell? wd ⟨w.heap.size + 5, 5, none⟩ = some (.slice (some ⟨w.heap.size + 4, 0, none⟩) 1 1) := bE.cell 5 rfl
  clear hbd
  go_wp2_with fail
  refine (dout_any 2 sA 1 rl (HOK.out _ okD okE) HALL.out (by simp)).mono ?_
  rintro e we ⟨r2, hat2, A2, c2, n2, rfl, hn2, hm2, ho2, hbe⟩
  obtain rfl := exAll hat2 hn2 hm2
  have ro2 := ho2.rd encIv_ok
  replace ro1 := ro1.st hbe
  clear hat2 hn2 hm2 ho2
  replace okD := okD.st hbe; replace okE := okE.st hbe; replace rl := rl.st hbe; replace bD := bD.below hbe bD.lt; replace bE := bE.below hbe bE.lt; replace bW := bW.st hbe; replace q0 : World.cell? we ⟨w.heap.size + 2, 0, none⟩ = some (.string ⟨#[99, 49]⟩) := bD.cell 0 rfl; replace q1 : World.cell? we ⟨w.heap.size + 2, 1, none⟩ = some (.string ⟨#[97]⟩) := bD.cell 1 rfl; replace q2 : World.cell? we ⟨w.heap.size + 2, 2, none⟩ = some (.int .i64 2) := bD.cell 2 rfl; replace q3 : World.cell? we ⟨w.heap.size + 2, 3, none⟩ = some (.int .i64 0) := bD.cell 3 rfl; replace q4 : World.cell? we ⟨w.heap.size + 2, 4, none⟩ = some (.slice (some ⟨w.heap.size, 0, none⟩) 2 2) := bD.cell 4 rfl; replace q5 : World.cell? we ⟨w.heap.size + 2, 5, none⟩ = some (.slice (some ⟨w.heap.size + 1, 0, none⟩) 1 1) := bD.cell 5 rfl; replace p0 : World.cell? we ⟨w.heap.size + 5, 0, none⟩ = some (.string ⟨#[99, 50]⟩) := bE.cell 0 rfl; replace p1 : World.cell? we ⟨w.heap.size + 5, 1, none⟩ = some (.string ⟨#[97]⟩) := bE.cell 1 rfl; replace p2 : World.cell? we ⟨w.heap.size + 5, 2, none⟩ = some (.int .i64 2) := bE.cell 2 rfl; replace p3 : World.cell? we ⟨w.heap.size + 5, 3, none⟩ = some (.int .i64 0) := bE.cell 3 rfl; replace p4 : World.cell? we ⟨w.heap.size + 5, 4, none⟩ = some (.slice (some ⟨w.heap.size + 3, 0, none⟩) 1 1) := bE.cell 4 rfl; replace p5 : World.cell? we ⟨w.heap.size + 5, 5, none⟩ = some (.slice (some ⟨w.heap.size + 4, 0, none⟩) 1 1) := bE.cell 5 rfl
  clear hbe
  go_wp2_with fail
  refine (dat_any 2 sA 0 rl (HOK.out _ okD okE) HALL.out (by simp)).mono ?_
  rintro e wf ⟨A3, c3, r3, rfl, ho3, -, hat3, hbf⟩
  obtain ⟨hl3, x3, hx3, hnx⟩ := exAt hat3
  replace ro1 := ro1.st hbf
  replace ro2 := ro2.st hbf
  have ro3 := ho3.rd encD_ok
  replace okD := okD.st hbf; replace okE := okE.st hbf; replace rl := rl.st hbf; replace bD := bD.below hbf bD.lt; replace bE := bE.below hbf bE.lt; replace bW := bW.st hbf; replace q0 : World.cell? wf ⟨w.heap.size + 2, 0, none⟩ = some (.string ⟨#[99, 49]⟩) := bD.cell 0 rfl; replace q1 : World.cell? wf ⟨w.heap.size + 2, 1, none⟩ = some (.string ⟨#[97]⟩) := bD.cell 1 rfl; replace q2 : World.cell? wf ⟨w.heap.size + 2, 2, none⟩ = some (.int .i64 2) := bD.cell 2 rfl; replace q3 : World.cell? wf ⟨w.heap.size + 2, 3, none⟩ = some (.int .i64 0) := bD.cell 3 rfl; replace q4 : World.cell? wf ⟨w.heap.size + 2, 4, none⟩ = some (.slice (some ⟨w.heap.size, 0, none⟩) 2 2) := bD.cell 4 rfl; replace q5 : World.cell? wf ⟨w.heap.size + 2, 5, none⟩ = some (.slice (some ⟨w.heap.size + 1, 0, none⟩) 1 1) := bD.cell 5 rfl; replace p0 : World.cell? wf ⟨w.heap.size + 5, 0, none⟩ = some (.string ⟨#[99, 50]⟩) := bE.cell 0 rfl; replace p1 : World.cell? wf ⟨w.heap.size + 5, 1, none⟩ = some (.string ⟨#[97]⟩) := bE.cell 1 rfl; replace p2 : World.cell? wf ⟨w.heap.size + 5, 2, none⟩ = some (.int .i64 2) := bE.cell 2 rfl; replace p3 : World.cell? wf ⟨w.heap.size + 5, 3, none⟩ = some (.int .i64 0) := bE.cell 3 rfl; replace p4 : World.cell? wf ⟨w.heap.size + 5, 4, none⟩ = some (.slice (some ⟨w.heap.size + 3, 0, none⟩) 1 1) := bE.cell 4 rfl; replace p5 : World.cell? wf ⟨w.heap.size + 5, 5, none⟩ = some (.slice (some ⟨w.heap.size + 4, 0, none⟩) 1 1) := bE.cell 5 rfl
  clear hbf hat3 ho3
  obtain ⟨g1, o1, f1, u1, rfl, hg1, hx1, m0, m1⟩ := ro1.iv (i := 0) (by simp)
  obtain ⟨g2, o2, f2, u2, rfl, hg2, hx2, m2, m3⟩ := ro2.iv (i := 0) (by simp)
  obtain ⟨g3, o3, x, rfl, hg3, hx3', m4, m5, m6, m7, m8, m9⟩ := ro3.d (i := 0) (by omega)
  rw [hx3] at hx3'
  obtain rfl := Option.some.inj hx3'
  rw [hnx] at m4
  simp only [List.getElem?_cons_zero, Option.some.injEq, Prod.mk.injEq] at hx1 hx2
  obtain ⟨rfl, rfl⟩ := hx1
  obtain ⟨rfl, rfl⟩ := hx2
  rw [hl3]
  clear hx3 hnx hx3' m5 m6 m7 m8 m9 ro1 ro2 ro3 hl3
  simp only [Nat.zero_mul, Nat.add_zero] at m0 m1 m2 m3 m4
  go_wp2_with fail
  refine (dworks_any (exD (some ⟨w.heap.size, 0, none⟩) (some ⟨w.heap.size + 1, 0, none⟩)) 9 okD (by simp [exD])).mono ?_
  rw [exW1]
  rintro e wg ⟨rfl, hbg⟩
  replace okD := okD.st hbg; replace okE := okE.st hbg; replace rl := rl.st hbg; replace bD := bD.below hbg bD.lt; replace bE := bE.below hbg bE.lt; replace bW := bW.st hbg; replace q0 : World.cell? wg ⟨w.heap.size + 2, 0, none⟩ = some (.string ⟨#[99, 49]⟩) := bD.cell 0 rfl; replace q1 : World.cell? wg ⟨w.heap.size + 2, 1, none⟩ = some (.string ⟨#[97]⟩) := bD.cell 1 rfl; replace q2 : World.cell? wg ⟨w.heap.size + 2, 2, none⟩ = some (.int .i64 2) := bD.cell 2 rfl; replace q3 : World.cell? wg ⟨w.heap.size + 2, 3, none⟩ = some (.int .i64 0) := bD.cell 3 rfl; replace q4 : World.cell? wg ⟨w.heap.size + 2, 4, none⟩ = some (.slice (some ⟨w.heap.size, 0, none⟩) 2 2) := bD.cell 4 rfl; replace q5 : World.cell? wg ⟨w.heap.size + 2, 5, none⟩ = some (.slice (some ⟨w.heap.size + 1, 0, none⟩) 1 1) := bD.cell 5 rfl; replace p0 : World.cell? wg ⟨w.heap.size + 5, 0, none⟩ = some (.string ⟨#[99, 50]⟩) := bE.cell 0 rfl; replace p1 : World.cell? wg ⟨w.heap.size + 5, 1, none⟩ = some (.string ⟨#[97]⟩) := bE.cell 1 rfl; replace p2 : World.cell? wg ⟨w.heap.size + 5, 2, none⟩ = some (.int .i64 2) := bE.cell 2 rfl; replace p3 : World.cell? wg ⟨w.heap.size + 5, 3, none⟩ = some (.int .i64 0) := bE.cell 3 rfl; replace p4 : World.cell? wg ⟨w.heap.size + 5, 4, none⟩ = some (.slice (some ⟨w.heap.size + 3, 0, none⟩) 1 1) := bE.cell 4 rfl; replace p5 : World.cell? wg ⟨w.heap.size + 5, 5, none⟩ = some (.slice (some ⟨w.heap.size + 4, 0, none⟩) 1 1) := bE.cell 5 rfl
  clear hbg
  go_wp2_with fail
  refine (dworks_any (exD (some ⟨w.heap.size, 0, none⟩) (some ⟨w.heap.size + 1, 0, none⟩)) 10 okD (by simp [exD])).mono ?_
  rw [exW2]
  rintro e wh ⟨rfl, hbh⟩
  replace okD := okD.st hbh; replace okE := okE.st hbh; replace rl := rl.st hbh; replace bD := bD.below hbh bD.lt; replace bE := bE.below hbh bE.lt; replace bW := bW.st hbh; replace q0 : World.cell? wh ⟨w.heap.size + 2, 0, none⟩ = some (.string ⟨#[99, 49]⟩) := bD.cell 0 rfl; replace q1 : World.cell? wh ⟨w.heap.size + 2, 1, none⟩ = some (.string ⟨#[97]⟩) := bD.cell 1 rfl; replace q2 : World.cell? wh ⟨w.heap.size + 2, 2, none⟩ = some (.int .i64 2) := bD.cell 2 rfl; replace q3 : World.cell? wh ⟨w.heap.size + 2, 3, none⟩ = some (.int .i64 0) := bD.cell 3 rfl; replace q4 : World.cell? wh ⟨w.heap.size + 2, 4, none⟩ = some (.slice (some ⟨w.heap.size, 0, none⟩) 2 2) := bD.cell 4 rfl; replace q5 : World.cell? wh ⟨w.heap.size + 2, 5, none⟩ = some (.slice (some ⟨w.heap.size + 1, 0, none⟩) 1 1) := bD.cell 5 rfl; replace p0 : World.cell? wh ⟨w.heap.size + 5, 0, none⟩ = some (.string ⟨#[99, 50]⟩) := bE.cell 0 rfl; replace p1 : World.cell? wh ⟨w.heap.size + 5, 1, none⟩ = some (.string ⟨#[97]⟩) := bE.cell 1 rfl; replace p2 : World.cell? wh ⟨w.heap.size + 5, 2, none⟩ = some (.int .i64 2) := bE.cell 2 rfl; replace p3 : World.cell? wh ⟨w.heap.size + 5, 3, none⟩ = some (.int .i64 0) := bE.cell 3 rfl; replace p4 : World.cell? wh ⟨w.heap.size + 5, 4, none⟩ = some (.slice (some ⟨w.heap.size + 3, 0, none⟩) 1 1) := bE.cell 4 rfl; replace p5 : World.cell? wh ⟨w.heap.size + 5, 5, none⟩ = some (.slice (some ⟨w.heap.size + 4, 0, none⟩) 1 1) := bE.cell 5 rfl
  clear hbh
  have hpt : Rd encPt 3 (wh.alloc (.cells #[.string ⟨#[97]⟩, .int .i64 0, .string ⟨#[]⟩] 59)) (wh.alloc (.cells #[.string ⟨#[97]⟩, .int .i64 0, .string ⟨#[]⟩] 59)).heap.size (some ⟨wh.heap.size, 0, none⟩) [(⟨⟨#[97]⟩, 0, ⟨#[]⟩⟩ : Pt)] := Rd.lit wh _ encPt_ok rfl (by simp)
  have hbi := (Below.refl wh.heap.size wh).al (.cells #[.string ⟨#[97]⟩, .int .i64 0, .string ⟨#[]⟩] 59)
  have CK := Lib.hid (dcheck_any 2 (⟨some ⟨wh.heap.size, 0, none⟩, 1, [⟨⟨#[97]⟩, 0, ⟨#[]⟩⟩], none, 0, 0⟩ : Nw) (rl.st hbi) (HOK.out _ (okD.st hbi) (okE.st hbi)) hpt HALL.out (by simp))
  rw [exCheck _ (by simp [hasPt, eqS])] at CK
  have bW2 := bW.st hbi
  clear rl okD okE hpt hbi
  go_wp2_with fail
  refine CK.out.mono ?_
  rintro e wi ⟨rfl, hbi⟩
  go_wp2_with fail
  go_ret
  exact ⟨rfl, bW2.st hbi⟩
end Go.Proofs.Ytflihhikofkheaa
