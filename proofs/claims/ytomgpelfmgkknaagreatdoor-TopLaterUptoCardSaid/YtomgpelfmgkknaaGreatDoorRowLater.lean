/- The law returns true for every input of bulk at most 1048576, and leaves its arguments alone: the second form, and its tied card. Conditions: as the row's own cells list them. -/
import Derived.Test.YtomgpelfmgkknaaGreatDoorCards
import Derived.Test.YtomgpelfmgkknaaGreatDoorTie
import Derived.SevenTiedAt
import Derived.Deep.DeepHandedRow
import Derived.Deep.DeepWitnessRowRef
import Derived.Test.YtomgpelfmgkknaaGreatDoorNRowLater1
import Derived.Test.YtomgpelfmgkknaaGreatDoorNRowLater2
namespace Go.Proofs.YtomgpelfmgkknaaGreatDoor
open Go.RowKit
open Go.Proofs.Tryz
set_option maxRecDepth 100000
set_option maxHeartbeats 40000000
set_option linter.unusedVariables false
set_option linter.unusedSimpArgs false
theorem Um{n:Int}(h:(Lit.int .u8 n).wf=true):0<=n/\n<=255:=by
 have:=range_u8 (zs:= [n]) (by intro m hm;simp at hm;subst hm;exact h) 0;simpa using this
open Go.ChangeShapes Go.WideShapes Go.ChangeAt Go.Joins in
theorem zT(os:Os)(started:os.Started)(H:Type)(enc:TypeId×Value->H)(F:Stop.Interp):
 ReturnsInHanded {} Tryz.checked os 3 .any ((Rows.OpenSpec.upto Rows.topLaterSpec).preRow enc prog f3 Rows.topLaterUptoRow.domain false Rows.topLaterUptoRow.laid) (((Rows.OpenSpec.upto Rows.topLaterSpec).at F).post enc prog f3 false true false false):=by
 have hx:∃places,DataW.whole enc prog ((World.doorLaid prog 38 os).forCall (fun _ _=>0) ⟨#[],#[.agg #[.slice none 0 0,.slice none 0 0,.slice none 0 0,.slice none 0 0,.slice none 0 0,.slice none 0 0,.slice none 0 0,.int .i64 0,.slice none 0 0,.slice none 0 0,.slice none 0 0,.slice none 0 0,.slice none 0 0],.agg #[.int .i64 0,.slice none 0 0],.slice none 0 0,.int .i64 0,.int .u8 0],[]⟩).memory f3.params.toList Rows.topLaterSpec.vars false (#[.agg #[.slice none 0 0,.slice none 0 0,.slice none 0 0,.slice none 0 0,.slice none 0 0,.slice none 0 0,.slice none 0 0,.int .i64 0,.slice none 0 0,.slice none 0 0,.slice none 0 0,.slice none 0 0,.slice none 0 0],.agg #[.int .i64 0,.slice none 0 0],.slice none 0 0,.int .i64 0,.int .u8 0]:Array Value).toList 12=some ([.agg [.agg [.nil,.nil,.nil,.nil,.nil,.nil,.nil,.lit (.int .i64 0)],.nil,.nil,.nil,.nil,.nil],.agg [.lit (.int .i64 0),.nil],.nil,.lit (.int .i64 0),.lit (.int .u8 0)],[],places):=⟨[],by kernel_rfl⟩;obtain⟨places,hx⟩:=hx;refine returnsInHanded_of_row (C:=Tryz.checked) (s:=Rows.OpenSpec.upto Rows.topLaterSpec) own started (by kernel_rfl) func3
  (witness_row_atRef (enc:=enc) (C:=Tryz.checked) false (World.doorLaid prog 38 os) #[.agg #[.slice none 0 0,.slice none 0 0,.slice none 0 0,.slice none 0 0,.slice none 0 0,.slice none 0 0,.slice none 0 0,.int .i64 0,.slice none 0 0,.slice none 0 0,.slice none 0 0,.slice none 0 0,.slice none 0 0],.agg #[.int .i64 0,.slice none 0 0],.slice none 0 0,.int .i64 0,.int .u8 0] rfl (by kernel_rfl) (by kernel_rfl) (by kernel_rfl)
   (OpenSpec.preRow_of_cond 12 hx (by kernel_rfl) (fun k hk=>by cases hk;kernel_rfl) (by kernel_rfl) (door_met os _))) ?_
 intro W base args ds gs before hval0 hW _ hcond _ hL Lu _;have hval:∀(j:Nat) t v,f3.params[j]?=some t->args[j]?=some v->Value.okWide prog W .any base t v:=hval0;have hW':=hW;obtain⟨p,q,hA0,hV,rfl,hfz,hnd⟩:=hW;have hA:DataW.TrodAll enc prog W 0 (fun _=>true) true f3.params.toList args.toList ds p:=hA0;rw[Tryz.params3]at hA hval;obtain⟨v0,vs0,d0,ds0,p0,q0,hargs,rfl,rfl,h0,r0⟩:=trodAll_cons hA;obtain⟨v1,vs1,d1,ds1,p1,q1,rfl,rfl,rfl,h1,r1⟩:=trodAll_cons r0;obtain⟨v2,vs2,d2,ds2,p2,q2,rfl,rfl,rfl,h2,r2⟩:=trodAll_cons r1;obtain⟨v3,vs3,d3,ds3,p3,q3,rfl,rfl,rfl,h3,r3⟩:=trodAll_cons r2;obtain⟨v4,vs4,d4,ds4,p4,q4,rfl,rfl,rfl,h4,r4⟩:=trodAll_cons r3;obtain⟨rfl,rfl,rfl⟩:=trodAll_nil r4;obtain rfl:args=#[v0,v1,v2,v3,v4]:=by cases args;simp_all
 obtain⟨rfl,rfl⟩:=trodVars_none hV;have hb:Rows.uptoBulkAll [d0,d1,d2,d3,d4]<=1048576:=by have:=of_decide_eq_true (hcond _ rfl);simpa using this
 have hB:∀x∈ [d0,d1,d2,d3,d4],Rows.uptoBulk x<=1048576:=fun x hx=>Nat.le_trans (uj hx) hb
 obtain⟨cs0,rfl,_⟩:=okWide_struct underlying37 (hval 0 37 v0 rfl rfl);obtain⟨m0,z0⟩:=h0;obtain⟨x0,hx0,ho⟩:=Mx (enc:=enc) (w:=W) (base:=0) (spare:=fun _=>true) (held:=true) (n:=m0) (cs:=cs0.toList) ⟨_,z0,hB d0 (by simp)⟩;obtain⟨cs1,rfl,_⟩:=okWide_struct underlying40 (hval 1 40 v1 rfl rfl);obtain⟨m1,z1⟩:=h1;obtain⟨x1,hx1⟩:=Uk (enc:=enc) (w:=W) (base:=0) (spare:=fun _=>true) (held:=true) (n:=m1) (cs:=cs1.toList) ⟨_,z1,hB d1 (by simp)⟩;obtain⟨ao,n,c,rfl⟩:=okWide_slice underlying41 (hval 2 41 v2 rfl rfl);obtain⟨m2,z2⟩:=h2;obtain⟨ao,c,l,e,hl,_,_⟩:=Rd.sl (enc:=enc) (w:=W) (base:=0) (spare:=fun _=>true) (held:=true) (L:=cY) (G:=fun _=>True) (n:=m2) (x:=.slice ao n c) ⟨_,z2,hB d2 (by simp)⟩ underlying41 c55 (by decide) rfl (fun m cs _ h=>(XC h).imp fun d h=>⟨h,trivial⟩);cases e;obtain⟨s3,rfl,rfl,rfl,hw3⟩:=open_int underlying3 (hval 3 3 v3 rfl rfl) h3;obtain⟨s4,rfl,rfl,rfl,hw4⟩:=open_int underlying5 (hval 4 5 v4 rfl rfl) h4;clear hA0 hval0;refine(aaL x0 x1 l s3 s4 cs0.toList cs1.toList ao l.length c W (YN Lu) (JE hL) hx0 hx1 hl (I64.PN hw3) (Um hw4) ho).mono fun e W'⟨he,hx⟩=> ?_
 subst he;exact⟨_,rfl,GL (T:=4) laidOut underlying4 rfl rfl (by rw[Tryz.params3];intro t ht;simp at ht;rcases ht with rfl|rfl|rfl|rfl|rfl<;>exact⟨by kernel_rfl,of_decide_eq_true (by kernel_rfl)⟩) hW' rfl hx⟩
theorem Ds:Rows.TopLaterUptoSaid:=
 OpenClaim.holds_of_cond 3 f3 rfl rfl rfl rfl rfl rfl rfl ⟨rfl,rfl,rfl,rfl,rfl⟩ rfl rfl rfl rfl rfl (by kernel_rfl) func3 vB
  (of_decide_eq_true (by kernel_rfl)) (by unfold Func.isWrapper;first|(rw[if_pos (by decide+kernel)];kernel_rfl)|(rw[if_neg (by decide+kernel)];exact⟨rfl,rfl⟩))
  (fun os started H enc _ F=>by rw[OpenClaim.pre_eq_preRow];exact zT os started H enc F)
theorem cz1:Rows.topLaterUptoRow.wfByText (Rows.OpenSpec.upto Rows.topLaterSpec)=true:=by kernel_rfl
theorem cz2:Tryz.pinned.checked.prog.mainIs=some (Rows.topLaterUptoCard.stood.harness.1,Rows.topLaterUptoCard.stood.harness.2.toList):=by kernel_rfl
theorem cz3:true=Tryz.pinned.checked.prog.looks []:=by kernel_rfl
theorem cz4:prog.funcNamed "greenbelt/greenbelttop.TopLater" =some 3:=by kernel_rfl
theorem cz5:([37,40,41,3,5].all fun u=> !prog.wantsStandIn u)=true:=by kernel_rfl
theorem cz6:false=Rows.topLaterUptoRow.goesBy Tryz.pinned.checked.prog:=by
 show false=((prog.funcNamed "greenbelt/greenbelttop.TopLater").any prog.goes||false);rw[cz4];simp[Mz]
theorem cz7(f:FuncId)(fn:Func)(hf:Tryz.pinned.checked.prog.funcNamed Rows.topLaterUptoRow.func=some f)(hfn:Tryz.pinned.checked.prog.funcs[f]?=some fn):true=Tryz.pinned.checked.prog.looks []/\∀(j:Nat) t,fn.params[j]?=some t->Tryz.pinned.checked.prog.wantsStandIn t=false:=by
 obtain rfl:f=3:=(Option.some.inj (cz4.symm.trans hf)).symm;obtain rfl:fn=f3:=(Option.some.inj (func3.symm.trans hfn)).symm;refine⟨cz3,fun j t ht=> ?_⟩;rw[Tryz.params3]at ht;have hm:t∈ [37,40,41,3,5]:=by have:=Array.mem_of_getElem? ht;simp at this;simp;omega
 exact(show prog.wantsStandIn t=false by simpa using List.all_eq_true.1 cz5 t hm)
theorem topLater_card:Rows.TopLaterUptoCardSaid:=
 Claim7.holds_tied_plain_at .later [] _ _ _ _ Ds (fun _ h=>by cases h) cz1 (fun _ h=>by cases h) topLaterUpto_row_tie rfl ⟨rfl,rfl⟩ cz2 rfl cz7 cz6
#print axioms topLater_card
end Go.Proofs.YtomgpelfmgkknaaGreatDoor
