/- Adding detections one by one, in reverse, leads to the passages of all at once, as the given card Rows.TopAddedCardSaid says of the program's law TopAdded: the walk of the law, lifted, and its card. Conditions: none. -/
import Derived.Test.YtimffppffbideaaGreatDoorShHolds0
import Derived.Test.YtimffppffbideaaGreatDoorJSlSame
import Derived.Test.YtimffppffbideaaGreatDoorTie
import Derived.Test.YtimffppffbideaaGreatDoorCards
set_option linter.unusedSimpArgs false
set_option linter.unusedVariables false
set_option maxRecDepth 100000
namespace Go.Proofs.YtimffppffbideaaGreatDoor
open Go.ChangeShapes Go.WideShapes Go.ChangeAt Go.RowKit Go.Lib Go.Deep
set_option linter.unusedVariables false
theorem topAdded_lifted (os:Os)(started:os.Started)(H:Type)(enc:TypeId×Value→H):
  ReturnsInHanded {} Tryz.checked os 4 .any (fun w args=>(Rows.topAddedSpec.pre enc Tryz.prog Tryz.f4 [] false w args∧laidMetH Tryz.prog lawMonths w)∧sizedMet enc Tryz.prog Tryz.f4 (OpenSpec.ofChange Rows.topAddedSpec) false w args) (Rows.topAddedSpec.post enc Tryz.prog Tryz.f4 false true false false):=by
 refine returnsInHanded_of_change_and (C:=Tryz.checked) (X:=fun w _=>laidMetH Tryz.prog lawMonths w) (fun _ _ _ hh h=>h.of_heap hh) lawOwn started (by kernel_rfl) Tryz.func4
  (ChangeSpec.witness_shaped (enc:=enc) (C:=Tryz.checked) (os:=os) (X:=fun w _=>laidMetH Tryz.prog lawMonths w) false (World.doorLaid Tryz.prog 400 os) #[.agg #[.slice none 0 0,.slice none 0 0,.slice none 0 0,.slice none 0 0,.slice none 0 0,.slice none 0 0,.int .i64 0,.int .i64 0,.slice none 0 0,.int .i64 0,.slice none 0 0,.slice none 0 0,.slice none 0 0,.slice none 0 0,.slice none 0 0,.slice none 0 0,.slice none 0 0,.slice none 0 0,.slice none 0 0,.slice none 0 0,.slice none 0 0,.slice none 0 0,.int .i64 0,.slice none 0 0,.string ⟨#[]⟩],.slice none 0 0] 12 rfl (World.shaped_of_RefB (by kernel_rfl) (by kernel_rfl)) (by kernel_rfl) (by kernel_rfl) (by kernel_rfl) (door_met os _)) ?_
 intro W base args ds gs before hval0 hW hcnd hsz hL _;have hval:∀(j:Nat) t v,Tryz.f4.params[j]? =some t→args[j]? =some v→Value.okWide Tryz.prog W .any base t v:=hval0;have hW':=hW;obtain⟨p,q,hA0,hV,rfl,hfz,hnd⟩:=hW;have hA:DataW.TrodAll enc Tryz.prog W 0 (fun _=>true) true Tryz.f4.params.toList args.toList ds p:=hA0;rw[Tryz.params4]at hA hval;obtain⟨v0,vs0,d0,ds0,p0,q0,hargs,rfl,rfl,h0,r0⟩:=trodAll_cons hA;obtain⟨v1,vs1,d1,ds1,p1,q1,rfl,rfl,rfl,h1,r1⟩:=trodAll_cons r0;obtain⟨rfl,rfl,rfl⟩:=trodAll_nil r1;obtain rfl:args=#[v0,v1]:=by cases args;simp_all
 obtain⟨rfl,rfl⟩:=trodVars_none hV;have k0:=h0;have lt0:∀x∈p0,x.block<W.heap.size:=by obtain⟨m,hm⟩:=k0;exact DataW.trod_lt m _ _ _ hm
 obtain⟨z0,hz0,okz0⟩:∃z:CfY,v0=CfYV z∧CfYOk W z:=by
  obtain⟨cs,rfl,_⟩:=okWide_struct Tryz.underlying46 (hval 0 46 v0 rfl rfl);obtain⟨fuel,hf⟩:=h0;obtain⟨z,hz,hok⟩:=openCfY fuel _ _ hf;refine⟨z,?_,hok⟩;have:cs=(encCfY z).toArray:=by rw[←hz];simp[Value.cells]
  rw[this];rfl
 subst hz0;have k1:=h1;have lt1:∀x∈p1,x.block<W.heap.size:=by obtain⟨m,hm⟩:=k1;exact DataW.trod_lt m _ _ _ hm
 obtain⟨A1,cp1,l1,hl1,hlc1,hcm1,hr1,hok1⟩:∃A c l,v1=.slice A (List.length l) c∧l.length≤c∧c≤maxLen∧Rd encDt 7 W W.heap.size A l∧∀x∈l,SeqOk x:=by
  obtain⟨a,len,cap,rfl⟩:=okWide_slice Tryz.underlying47 (hval 1 47 v1 rfl rfl);obtain⟨fuel,hf⟩:=h1;obtain⟨A,c,l,h1,h2,h3,h4,h5⟩:=open_list Tryz.underlying47 (by kernel_rfl) (by omega) encDt_ok.1 openDt hf;simp[Value.cells]at h1;obtain⟨rfl,rfl,rfl⟩:=h1;exact⟨a,cap,l,rfl,h2,h3,h4,h5⟩
 subst hl1;have hm1:l1.length≤9223372036854775807:=by unfold maxLen at hcm1;omega
 clear hA0 hval0;refine(topadded_any z0.t.v2 z0.v8 z0.v9 z0.v10 z0.v11 z0.v12 z0.v13 z0.v14 z0.v15 z0.v16 z0.v17 z0.v18 z0.v19 z0.v20 z0.v21 z0.v22 z0.v23 z0.v24 z0.t.n.pc z0.t.n.lc z0.dc z0.kc z0.gc cp1 z0.gap z0.weak okz0.1.1.1 okz0.1.1.2 okz0.2.1.1 okz0.2.1.2 okz0.2.2.1 okz0.2.2.2.1 hr1 hok1 okz0.1.2.1 okz0.1.2.2 okz0.2.2.2.2.1 okz0.2.2.2.2.2.1 okz0.2.2.2.2.2.2 hm1 (pow_of hL)).mono fun e W' ⟨he,bel⟩=> ?_;subst he;exact⟨_,rfl,_,_,_,[],_,[],hW',trodAll_mk1 (shut_bool Tryz.underlying4 _),(trodAll_cons_mk (Below.trod lawLaid (by kernel_rfl) (of_decide_eq_true (by kernel_rfl)) k0 bel lt0) (trodAll_cons_mk (Below.trod lawLaid (by kernel_rfl) (of_decide_eq_true (by kernel_rfl)) k1 bel lt1) trodAll_mk0)),rfl,bel.frame _,fun h=>by cases h⟩
theorem topAdded_holds:Rows.TopAddedSaid:=
 OpenClaim.holds_of_wide 4 Tryz.f4 rfl rfl rfl rfl rfl rfl rfl ⟨rfl,rfl,rfl,rfl,rfl⟩ rfl rfl rfl rfl rfl (by kernel_rfl) Tryz.func4 topAdded_facts
  (of_decide_eq_true (by kernel_rfl)) (by unfold Func.isWrapper;first|(rw[if_pos (by decide+kernel)];kernel_rfl)|(rw[if_neg (by decide+kernel)];exact⟨rfl,rfl⟩))
  (fun os started H enc _=>topAdded_lifted os started H enc)
theorem topAdded_card:Rows.TopAddedCardSaid:=
 Claim7.holds_tied_plain_at .later [] [.data,.data,.data] true (true, "4907c2fc83c7a271079fd3210f34a99639784fe6e6f90bd531cfebbfdb33ef02") false
  topAdded_holds (fun _ h=>by cases h) (by kernel_rfl) (fun _ h=>by cases h) topAdded_row_tie rfl ⟨rfl,rfl⟩ (by kernel_rfl) rfl
  (
   fun f fn hf hfn=>by
   obtain rfl:f=4:=Option.some.inj ((show Tryz.prog.funcNamed "tollway/tollwaytop.TopAdded" =some 4 by kernel_rfl).symm.trans hf)|>.symm;obtain rfl:fn=Tryz.f4:=(Option.some.inj (Tryz.func4.symm.trans hfn)).symm;exact⟨by kernel_rfl,fun j t ht=>by
    rw[Tryz.params4]at ht;have hm:t∈[46,47]:=by simpa using Array.mem_of_getElem? ht
    have hall:([46,47].all fun u=> !Tryz.prog.wantsStandIn u)=true:=by kernel_rfl
    exact(show Tryz.prog.wantsStandIn t=false by simpa using List.all_eq_true.1 hall t hm)⟩)
  (by kernel_rfl)
end Go.Proofs.YtimffppffbideaaGreatDoor
