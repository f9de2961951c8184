/- The law returns true for every input of bulk at most 1048576, and leaves its arguments alone: the second form, and its tied card. Conditions: as the row's own cells list them. -/
import Derived.Test.YtomgpelfmgkknaaGreatDoorCards
import Derived.Test.YtomgpelfmgkknaaGreatDoorTie
import Derived.SevenTiedAt
import Derived.Deep.DeepHandedRow
import Derived.Deep.DeepWitnessRowRef
import Derived.Test.YtomgpelfmgkknaaGreatDoorNRowGrace1
import Derived.Test.YtomgpelfmgkknaaGreatDoorNRowGrace2
namespace Go.Proofs.YtomgpelfmgkknaaGreatDoor
open Go.RowKit
open Go.Proofs.Tryz
set_option maxRecDepth 100000
set_option maxHeartbeats 40000000
set_option linter.unusedVariables false
set_option linter.unusedSimpArgs false
theorem Um{n:Int}(h:(Lit.int .u8 n).wf=true):0<=n/\n<=255:=by
 have:=range_u8 (zs:= [n]) (by intro m hm;simp at hm;subst hm;exact h) 0;simpa using this
open Go.ChangeShapes Go.WideShapes Go.ChangeAt Go.Joins in
theorem zU(os:Os)(started:os.Started)(H:Type)(enc:TypeId×Value->H)(F:Stop.Interp):
 ReturnsInHanded {} Tryz.checked os 4 .any ((Rows.OpenSpec.upto Rows.topGraceSpec).preRow enc prog f4 Rows.topGraceUptoRow.domain false Rows.topGraceUptoRow.laid) (((Rows.OpenSpec.upto Rows.topGraceSpec).at F).post enc prog f4 false true false false):=by
 have hx:∃places,DataW.whole enc prog ((World.doorLaid prog 38 os).forCall (fun _ _=>0) ⟨#[],#[.agg #[.slice none 0 0,.slice none 0 0,.slice none 0 0,.slice none 0 0,.slice none 0 0,.slice none 0 0,.slice none 0 0,.int .i64 0,.slice none 0 0,.slice none 0 0,.slice none 0 0,.slice none 0 0,.slice none 0 0],.agg #[.int .i64 0,.slice none 0 0],.agg #[.string ⟨#[]⟩,.slice none 0 0,.slice none 0 0,.int .i64 0,.int .i64 0,.int .i64 0,.bool false,.int .i64 0,.int .i64 0,.int .i64 0,.string ⟨#[]⟩,.string ⟨#[]⟩,.slice none 0 0,.int .i64 0,.int .i64 0,.int .i64 0,.int .i64 0,.int .i64 0,.int .i64 0,.int .i64 0],.int .u8 0],[]⟩).memory f4.params.toList Rows.topGraceSpec.vars false (#[.agg #[.slice none 0 0,.slice none 0 0,.slice none 0 0,.slice none 0 0,.slice none 0 0,.slice none 0 0,.slice none 0 0,.int .i64 0,.slice none 0 0,.slice none 0 0,.slice none 0 0,.slice none 0 0,.slice none 0 0],.agg #[.int .i64 0,.slice none 0 0],.agg #[.string ⟨#[]⟩,.slice none 0 0,.slice none 0 0,.int .i64 0,.int .i64 0,.int .i64 0,.bool false,.int .i64 0,.int .i64 0,.int .i64 0,.string ⟨#[]⟩,.string ⟨#[]⟩,.slice none 0 0,.int .i64 0,.int .i64 0,.int .i64 0,.int .i64 0,.int .i64 0,.int .i64 0,.int .i64 0],.int .u8 0]:Array Value).toList 12=some ([.agg [.agg [.nil,.nil,.nil,.nil,.nil,.nil,.nil,.lit (.int .i64 0)],.nil,.nil,.nil,.nil,.nil],.agg [.lit (.int .i64 0),.nil],.agg [.lit (.string []),.nil,.nil,.lit (.int .i64 0),.lit (.int .i64 0),.lit (.int .i64 0),.lit (.bool false),.lit (.int .i64 0),.agg [.lit (.int .i64 0),.lit (.int .i64 0),.lit (.string []),.lit (.string []),.nil],.agg [.lit (.int .i64 0),.lit (.int .i64 0),.lit (.int .i64 0),.lit (.int .i64 0)],.lit (.int .i64 0),.lit (.int .i64 0),.lit (.int .i64 0)],.lit (.int .u8 0)],[],places):=⟨[],by kernel_rfl⟩;obtain⟨places,hx⟩:=hx;refine returnsInHanded_of_row (C:=Tryz.checked) (s:=Rows.OpenSpec.upto Rows.topGraceSpec) own started (by kernel_rfl) func4
  (witness_row_atRef (enc:=enc) (C:=Tryz.checked) false (World.doorLaid prog 38 os) #[.agg #[.slice none 0 0,.slice none 0 0,.slice none 0 0,.slice none 0 0,.slice none 0 0,.slice none 0 0,.slice none 0 0,.int .i64 0,.slice none 0 0,.slice none 0 0,.slice none 0 0,.slice none 0 0,.slice none 0 0],.agg #[.int .i64 0,.slice none 0 0],.agg #[.string ⟨#[]⟩,.slice none 0 0,.slice none 0 0,.int .i64 0,.int .i64 0,.int .i64 0,.bool false,.int .i64 0,.int .i64 0,.int .i64 0,.string ⟨#[]⟩,.string ⟨#[]⟩,.slice none 0 0,.int .i64 0,.int .i64 0,.int .i64 0,.int .i64 0,.int .i64 0,.int .i64 0,.int .i64 0],.int .u8 0] rfl (by kernel_rfl) (by kernel_rfl) (by kernel_rfl)
   (OpenSpec.preRow_of_cond 12 hx (by kernel_rfl) (fun k hk=>by cases hk;kernel_rfl) (by kernel_rfl) (door_met os _))) ?_
 intro W base args ds gs before hval0 hW _ hcond _ hL Lu _;have hval:∀(j:Nat) t v,f4.params[j]?=some t->args[j]?=some v->Value.okWide prog W .any base t v:=hval0;have hW':=hW;obtain⟨p,q,hA0,hV,rfl,hfz,hnd⟩:=hW;have hA:DataW.TrodAll enc prog W 0 (fun _=>true) true f4.params.toList args.toList ds p:=hA0;rw[Tryz.params4]at hA hval;obtain⟨v0,vs0,d0,ds0,p0,q0,hargs,rfl,rfl,h0,r0⟩:=trodAll_cons hA;obtain⟨v1,vs1,d1,ds1,p1,q1,rfl,rfl,rfl,h1,r1⟩:=trodAll_cons r0;obtain⟨v2,vs2,d2,ds2,p2,q2,rfl,rfl,rfl,h2,r2⟩:=trodAll_cons r1;obtain⟨v3,vs3,d3,ds3,p3,q3,rfl,rfl,rfl,h3,r3⟩:=trodAll_cons r2;obtain⟨rfl,rfl,rfl⟩:=trodAll_nil r3;obtain rfl:args=#[v0,v1,v2,v3]:=by cases args;simp_all
 obtain⟨rfl,rfl⟩:=trodVars_none hV;have hb:Rows.uptoBulkAll [d0,d1,d2,d3]<=1048576:=by have:=of_decide_eq_true (hcond _ rfl);simpa using this
 have hB:∀x∈ [d0,d1,d2,d3],Rows.uptoBulk x<=1048576:=fun x hx=>Nat.le_trans (uj hx) hb
 obtain⟨cs0,rfl,_⟩:=okWide_struct underlying37 (hval 0 37 v0 rfl rfl);obtain⟨m0,z0⟩:=h0;obtain⟨x0,hx0,ho⟩:=Mx (enc:=enc) (w:=W) (base:=0) (spare:=fun _=>true) (held:=true) (n:=m0) (cs:=cs0.toList) ⟨_,z0,hB d0 (by simp)⟩;obtain⟨cs1,rfl,_⟩:=okWide_struct underlying40 (hval 1 40 v1 rfl rfl);obtain⟨m1,z1⟩:=h1;obtain⟨x1,hx1⟩:=Uk (enc:=enc) (w:=W) (base:=0) (spare:=fun _=>true) (held:=true) (n:=m1) (cs:=cs1.toList) ⟨_,z1,hB d1 (by simp)⟩;obtain⟨cs2,rfl,_⟩:=okWide_struct underlying52 (hval 2 52 v2 rfl rfl);obtain⟨m2,z2⟩:=h2;obtain⟨x2,hx2⟩:=Ga (enc:=enc) (w:=W) (base:=0) (spare:=fun _=>true) (held:=true) (n:=m2) (cs:=cs2.toList) ⟨_,z2,hB d2 (by simp)⟩;obtain⟨s3,rfl,rfl,rfl,hw3⟩:=open_int underlying5 (hval 3 5 v3 rfl rfl) h3;clear hA0 hval0;refine(aa6 x0 x1 x2 s3 cs0.toList cs1.toList cs2.toList W (YN Lu) (JE hL) hx0 hx1 hx2 (Um hw3) ho).mono fun e W'⟨he,hx⟩=> ?_
 subst he;exact⟨_,rfl,GL (T:=4) laidOut underlying4 rfl rfl (by rw[Tryz.params4];intro t ht;simp at ht;rcases ht with rfl|rfl|rfl|rfl<;>exact⟨by kernel_rfl,of_decide_eq_true (by kernel_rfl)⟩) hW' rfl hx⟩
theorem Dt:Rows.TopGraceUptoSaid:=
 OpenClaim.holds_of_cond 4 f4 rfl rfl rfl rfl rfl rfl rfl ⟨rfl,rfl,rfl,rfl,rfl⟩ rfl rfl rfl rfl rfl (by kernel_rfl) func4 vB
  (of_decide_eq_true (by kernel_rfl)) (by unfold Func.isWrapper;first|(rw[if_pos (by decide+kernel)];kernel_rfl)|(rw[if_neg (by decide+kernel)];exact⟨rfl,rfl⟩))
  (fun os started H enc _ F=>by rw[OpenClaim.pre_eq_preRow];exact zU os started H enc F)
theorem cz1:Rows.topGraceUptoRow.wfByText (Rows.OpenSpec.upto Rows.topGraceSpec)=true:=by kernel_rfl
theorem cz2:Tryz.pinned.checked.prog.mainIs=some (Rows.topGraceUptoCard.stood.harness.1,Rows.topGraceUptoCard.stood.harness.2.toList):=by kernel_rfl
theorem cz3:true=Tryz.pinned.checked.prog.looks []:=by kernel_rfl
theorem cz4:prog.funcNamed "greenbelt/greenbelttop.TopGrace" =some 4:=by kernel_rfl
theorem cz5:([37,40,52,5].all fun u=> !prog.wantsStandIn u)=true:=by kernel_rfl
theorem cz6:false=Rows.topGraceUptoRow.goesBy Tryz.pinned.checked.prog:=by
 show false=((prog.funcNamed "greenbelt/greenbelttop.TopGrace").any prog.goes||false);rw[cz4];simp[Mz]
theorem cz7(f:FuncId)(fn:Func)(hf:Tryz.pinned.checked.prog.funcNamed Rows.topGraceUptoRow.func=some f)(hfn:Tryz.pinned.checked.prog.funcs[f]?=some fn):true=Tryz.pinned.checked.prog.looks []/\∀(j:Nat) t,fn.params[j]?=some t->Tryz.pinned.checked.prog.wantsStandIn t=false:=by
 obtain rfl:f=4:=(Option.some.inj (cz4.symm.trans hf)).symm;obtain rfl:fn=f4:=(Option.some.inj (func4.symm.trans hfn)).symm;refine⟨cz3,fun j t ht=> ?_⟩;rw[Tryz.params4]at ht;have hm:t∈ [37,40,52,5]:=by have:=Array.mem_of_getElem? ht;simp at this;simp;omega
 exact(show prog.wantsStandIn t=false by simpa using List.all_eq_true.1 cz5 t hm)
theorem topGrace_card:Rows.TopGraceUptoCardSaid:=
 Claim7.holds_tied_plain_at .later [] _ _ _ _ Dt (fun _ h=>by cases h) cz1 (fun _ h=>by cases h) topGraceUpto_row_tie rfl ⟨rfl,rfl⟩ cz2 rfl cz7 cz6
#print axioms topGrace_card
end Go.Proofs.YtomgpelfmgkknaaGreatDoor
