/- Lemmas for the law. No conditions. -/
import Derived.Test.YtomgpelfmgkknaaGreatDoorM21
namespace Go.Proofs.YtomgpelfmgkknaaGreatDoor
open Go.RowKit Go.Maps
open Go.Proofs.Tryz
set_option maxRecDepth 100000
set_option maxHeartbeats 40000000
set_option linter.unusedVariables false
set_option linter.unusedSimpArgs false
structure sX(t:mD)(d:rW):Prop where
 zones:t.plan.zones.length<=1000
 rules:t.plan.rules.length<=1000
 defs:t.plan.defs.length<=4
 nm:∀d∈t.plan.defs,(dS d.body).length<=1000000
 lot:∀(i:Nat)(x:Lot),t.land[i]?=some x->x.area.length<=200/\x.old.length<=1048576
 phases:d.phases.length<=3
 phase:∀(i:Nat)(x:Phase),d.phases[i]?=some x->x.cA.length<=3/\x.gives.length<=3
def Mu(r:Except Int jH)(w:World)(e:Ending)(w':World):Prop:=
 match r with
 | .error c=>e=.returned (.tuple #[.agg #[.slice none 0 0,.slice none 0 0,.slice none 0 0,.slice none 0 0,.slice none 0 0,.slice none 0 0,.slice none 0 0,.int .i64 0,.slice none 0 0,.slice none 0 0,.slice none 0 0,.slice none 0 0,.slice none 0 0,.int .i64 0,.int .i64 0,.slice none 0 0,.slice none 0 0,.int .i64 0,.slice none 0 0,.slice none 0 0,.slice none 0 0],.int .i64 c])/\af w w'
 | .ok s=> ∃ur:zv,e=.returned (.tuple #[.agg ur.toArray,.int .i64 0])/\af w w'/\(jO).R w' ur s
theorem Tr(t:mD)(d:rW)(ts ds:zv)(w:World)(hfd:findD t.land d.lot=none)(hg:Gl w)(h:(gg).R w ts t)(h2:(e6).R w ds d)(hf:sX t d):Calls prog 22 #[.agg ts.toArray,.agg ds.toArray] w (Mu (.error 4) w):=by
 have HT:=aa h;have HD:=aa h2;have HF:=aa hf;have HG:=aa hg;obtain⟨aO,aP,ax,ay,aG,aH,aB,aC,aQ,aR,aI,aJ,bk,bm,cG,cH,bQ,bU,cI,cJ,bY,bZ,cL,cM,rfl,q0,q1,q2,q3,q4,q5,q6,q7,q8,q9,q10,q11,q12⟩:=h;obtain⟨cQ,cR,rfl,r0,r1⟩:=h2;have HL:=aa q8;have HP:=aa (show(bq).R w [.slice aO t.plan.defs.length aP,.slice ax t.plan.tables.length ay,.slice aG t.plan.zones.length aH,.slice aB t.plan.rules.length aC,.slice aQ t.plan.caps.length aR,.slice aI t.plan.views.length aJ,.slice bk t.plan.eA.length bm,.int .i64 t.plan.hours] t.plan from⟨aO,aP,ax,ay,aG,aH,aB,aC,aQ,aR,aI,aJ,bk,bm,rfl,q0,q1,q2,q3,q4,q5,q6,q7⟩);have HO:=aa (show∀(i:Nat)(x:Lot),t.land[i]?=some x->x.area.length<=1000/\x.old.length<=1048576 from fun i x hx=>⟨by have:=(hf.lot i x hx).1;omega,(hf.lot i x hx).2⟩);have HV:=aa (show∀(i:Nat)(x:Phase),d.phases[i]?=some x->x.cA.length<=3 from fun i x hx=>(hf.phase i x hx).1);have HW:=aa (show∀(i:Nat)(x:Phase),d.phases[i]?=some x->x.gives.length<=3 from fun i x hx=>(hf.phase i x hx).2);have HN:=aa hf.phases;have HZ:=aa (show t.plan.zones.length<=1000 from hf.zones);clear hf hg q0 q1 q2 q3 q4 q5 q6 q7 q8 q9 q10 q11 q12 r0 r1;have L0:=aa hfd;clear hfd;go_enter func22,ntmps22;go_wp2_with ((with_reducible refine ag (Kt _ _ _ t.land d.lot _ ?_ HO.zo) ?_);exact HL.zo.exts ae;rw[L0.zo];rintro e w' ⟨rfl,x1,rfl⟩)
 refine bodyPost_ret (v:=.tuple #[.agg #[.slice none 0 0,.slice none 0 0,.slice none 0 0,.slice none 0 0,.slice none 0 0,.slice none 0 0,.slice none 0 0,.int .i64 0,.slice none 0 0,.slice none 0 0,.slice none 0 0,.slice none 0 0,.slice none 0 0,.int .i64 0,.int .i64 0,.slice none 0 0,.slice none 0 0,.int .i64 0,.slice none 0 0,.slice none 0 0,.slice none 0 0],.int .i64 4]) (by rw[results_cell_tmp rfl];simp[go_sem]) rfl ?_;exact⟨rfl,ae⟩
theorem Ts(t:mD)(d:rW)(ts ds:zv)(w:World)(lot:Lot)(hfd:findD t.land d.lot=some lot)(hq:jC t.plan.caps lot d=false)(hg:Gl w)(h:(gg).R w ts t)(h2:(e6).R w ds d)(hf:sX t d):Calls prog 22 #[.agg ts.toArray,.agg ds.toArray] w (Mu (.error 1) w):=by
 have HT:=aa h;have HD:=aa h2;have HF:=aa hf;have HG:=aa hg;obtain⟨aO,aP,ax,ay,aG,aH,aB,aC,aQ,aR,aI,aJ,bk,bm,cG,cH,bQ,bU,cI,cJ,bY,bZ,cL,cM,rfl,q0,q1,q2,q3,q4,q5,q6,q7,q8,q9,q10,q11,q12⟩:=h;obtain⟨cQ,cR,rfl,r0,r1⟩:=h2;have HL:=aa q8;have HP:=aa (show(bq).R w [.slice aO t.plan.defs.length aP,.slice ax t.plan.tables.length ay,.slice aG t.plan.zones.length aH,.slice aB t.plan.rules.length aC,.slice aQ t.plan.caps.length aR,.slice aI t.plan.views.length aJ,.slice bk t.plan.eA.length bm,.int .i64 t.plan.hours] t.plan from⟨aO,aP,ax,ay,aG,aH,aB,aC,aQ,aR,aI,aJ,bk,bm,rfl,q0,q1,q2,q3,q4,q5,q6,q7⟩);have HO:=aa (show∀(i:Nat)(x:Lot),t.land[i]?=some x->x.area.length<=1000/\x.old.length<=1048576 from fun i x hx=>⟨by have:=(hf.lot i x hx).1;omega,(hf.lot i x hx).2⟩);have HV:=aa (show∀(i:Nat)(x:Phase),d.phases[i]?=some x->x.cA.length<=3 from fun i x hx=>(hf.phase i x hx).1);have HW:=aa (show∀(i:Nat)(x:Phase),d.phases[i]?=some x->x.gives.length<=3 from fun i x hx=>(hf.phase i x hx).2);have HN:=aa hf.phases;have HZ:=aa (show t.plan.zones.length<=1000 from hf.zones);clear hf hg q0 q1 q2 q3 q4 q5 q6 q7 q8 q9 q10 q11 q12 r0 r1;have L0:=aa hfd;have HI:=aa (show I64 lot.id/\I64 lot.owner from by
  obtain⟨i,hi⟩:=List.getElem?_of_mem (List.mem_of_find?_eq_some hfd);obtain⟨_,_,_,_,_,hR,_⟩:=HL.zo.ld hi;obtain⟨_,_,_,_,_,i1,i2,_,_⟩:=hR;exact⟨i1,i2⟩)
 clear hfd;have HQ:=aa hq;clear hq;go_enter func22,ntmps22;go_wp2_with (first|((with_reducible refine ag (Kt _ _ _ t.land d.lot _ ?_ HO.zo) ?_);exact HL.zo.exts ae;rw[L0.zo];rintro e w' ⟨a1,c1,a2,c2,rfl,⟨x1,rfl⟩,s1,s2⟩;(have UE:=aa (show(pM).R _ [.int .i64 lot.id,.int .i64 lot.owner,.slice a1 lot.area.length c1,.slice a2 lot.old.length c2] lot from⟨a1,c1,a2,c2,rfl,HI.zo.1,HI.zo.2,s1.sl,s2.sl⟩));(have MV:=aa s1);(have HOL:=aa s2);clear s1 s2)|((with_reducible refine ag (LZ t.plan lot d _ _ _ _ ?_ ?_ ?_ ?_ HN.zo HV.zo HW.zo) ?_);exact HG.zo.exts ae;exact(bq).exts HP.zo ae;exact(pM).exts UE.zo ae;exact(e6).exts HD.zo ae;rintro e w' ⟨rfl,x2,rfl⟩;rw[HQ.zo]))
 refine bodyPost_ret (v:=.tuple #[.agg #[.slice none 0 0,.slice none 0 0,.slice none 0 0,.slice none 0 0,.slice none 0 0,.slice none 0 0,.slice none 0 0,.int .i64 0,.slice none 0 0,.slice none 0 0,.slice none 0 0,.slice none 0 0,.slice none 0 0,.int .i64 0,.int .i64 0,.slice none 0 0,.slice none 0 0,.int .i64 0,.slice none 0 0,.slice none 0 0,.slice none 0 0],.int .i64 1]) (by rw[results_cell_tmp rfl];simp[go_sem]) rfl ?_;exact⟨rfl,ae⟩
theorem Tt(t:mD)(d:rW)(ts ds:zv)(w:World)(lot:Lot)(hfd:findD t.land d.lot=some lot)(hq:jC t.plan.caps lot d=true)(hg:Gl w)(h:(gg).R w ts t)(h2:(e6).R w ds d)(hf:sX t d):Calls prog 22 #[.agg ts.toArray,.agg ds.toArray] w (Mu (.ok (fw t lot d)) w):=by
 have HT:=aa h;have HD:=aa h2;have HF:=aa hf;have HG:=aa hg;obtain⟨aO,aP,ax,ay,aG,aH,aB,aC,aQ,aR,aI,aJ,bk,bm,cG,cH,bQ,bU,cI,cJ,bY,bZ,cL,cM,rfl,q0,q1,q2,q3,q4,q5,q6,q7,q8,q9,q10,q11,q12⟩:=h;obtain⟨cQ,cR,rfl,r0,r1⟩:=h2;have HL:=aa q8;have HP:=aa (show(bq).R w [.slice aO t.plan.defs.length aP,.slice ax t.plan.tables.length ay,.slice aG t.plan.zones.length aH,.slice aB t.plan.rules.length aC,.slice aQ t.plan.caps.length aR,.slice aI t.plan.views.length aJ,.slice bk t.plan.eA.length bm,.int .i64 t.plan.hours] t.plan from⟨aO,aP,ax,ay,aG,aH,aB,aC,aQ,aR,aI,aJ,bk,bm,rfl,q0,q1,q2,q3,q4,q5,q6,q7⟩);have HO:=aa (show∀(i:Nat)(x:Lot),t.land[i]?=some x->x.area.length<=1000/\x.old.length<=1048576 from fun i x hx=>⟨by have:=(hf.lot i x hx).1;omega,(hf.lot i x hx).2⟩);have HV:=aa (show∀(i:Nat)(x:Phase),d.phases[i]?=some x->x.cA.length<=3 from fun i x hx=>(hf.phase i x hx).1);have HW:=aa (show∀(i:Nat)(x:Phase),d.phases[i]?=some x->x.gives.length<=3 from fun i x hx=>(hf.phase i x hx).2);have HN:=aa hf.phases;have HZ:=aa (show t.plan.zones.length<=1000 from hf.zones);have Q0:=aa q0;have Q1:=aa q1;have Q2:=aa q2;have Q3:=aa q3;have Q4:=aa q4;have Q5:=aa q5;have Q6:=aa q6;have Q7:=aa q7;have Q8:=aa q8;have Q9:=aa q9;have Q10:=aa q10;have Q11:=aa q11;have Q12:=aa q12;have R0:=aa r0;have R1:=aa r1;clear hf hg q0 q1 q2 q3 q4 q5 q6 q7 q8 q9 q10 q11 q12 r0 r1;have L0:=aa hfd;have HI:=aa (show I64 lot.id/\I64 lot.owner from by
  obtain⟨i,hi⟩:=List.getElem?_of_mem (List.mem_of_find?_eq_some hfd);obtain⟨_,_,_,_,_,hR,_⟩:=HL.zo.ld hi;obtain⟨_,_,_,_,_,i1,i2,_,_⟩:=hR;exact⟨i1,i2⟩)
 clear hfd;have HQ:=aa hq;clear hq;go_enter func22,ntmps22;go_wp2_with (first|((with_reducible refine ag (Kt _ _ _ t.land d.lot _ ?_ HO.zo) ?_);exact HL.zo.exts ae;rw[L0.zo];rintro e w' ⟨a1,c1,a2,c2,rfl,⟨x1,rfl⟩,s1,s2⟩;(have UE:=aa (show(pM).R _ [.int .i64 lot.id,.int .i64 lot.owner,.slice a1 lot.area.length c1,.slice a2 lot.old.length c2] lot from⟨a1,c1,a2,c2,rfl,HI.zo.1,HI.zo.2,s1.sl,s2.sl⟩));(have MV:=aa s1);(have HOL:=aa s2);clear s1 s2)|((with_reducible refine ag (LZ t.plan lot d _ _ _ _ ?_ ?_ ?_ ?_ HN.zo HV.zo HW.zo) ?_);exact HG.zo.exts ae;exact(bq).exts HP.zo ae;exact(pM).exts UE.zo ae;exact(e6).exts HD.zo ae;rintro e w' ⟨rfl,x2,rfl⟩;rw[HQ.zo]))
 refine b9 (S:=fun w'=> ∃x,w'=av _ x) [5,7] [([0,1,2,3,6,8],4),([],9)] [] [10,11,12] (by kernel_rfl) (by kernel_rfl) ⟨_,by first|exact dx _|exact ai _ _⟩ ?_;try simp only[bX,pick,eh]
 try change wpQuiet _ _ _ _ (_::_) _
 repeat (go_big_quiet_step (fail))
 refine wpQuiet_nil ?_;try change wpQuiet _ _ _ _ (_::_) _
 repeat (go_big_quiet_step (fail))
 refine wpQuiet_nil ?_;try change wpList _ _ _ (_::_) _ _
 go_wp2_with ((with_reducible refine ag (Na d _ _ ?_ HN.zo HV.zo) ?_);exact(e6).exts HD.zo ae;rintro e w' ⟨o3,c3,rfl,⟨x3,rfl⟩,s3⟩;(try simp only[bf,au,ai]at s3);(have Tu:=aa (s3.toB rfl));clear s3)
 refine dn (by first|exact⟨_,(cF _).symm⟩|exact⟨_,rfl⟩|exact ae) ?_;try simp only[bX,pick,eh]
 try change wpQuiet _ _ _ _ (_::_) _
 repeat (go_big_quiet_step (fail))
 refine wpQuiet_nil ?_;try change wpList _ _ _ (_::_) _ _
 go_wp2_with ((with_reducible refine ag (afd t.plan _ _ _ _ lot.area _ ?_ ?_ HZ.zo) ?_);exact(bq).exts HP.zo ae;exact MV.zo.sl.exts ae;rintro e w' ⟨o4,c4,rfl,⟨x4,rfl⟩,s4⟩;(try simp only[bf,au,ai]at s4);(have HZS:=aa (s4.toB rfl));clear s4)
 refine dn (by first|exact⟨_,(cF _).symm⟩|exact⟨_,rfl⟩|exact ae) ?_;try simp only[bX,pick,eh]
 try change wpQuiet _ _ _ _ (_::_) _
 repeat (go_big_quiet_step (fail))
 refine wpQuiet_nil ?_;try change wpList _ _ _ (_::_) _ _
 go_wp2;refine cV ?_;go_wp2;refine bodyPost_ret (v:=.tuple #[.agg #[.slice aO t.plan.defs.length aP,.slice ax t.plan.tables.length ay,.slice aG t.plan.zones.length aH,.slice aB t.plan.rules.length aC,.slice aQ t.plan.caps.length aR,.slice aI t.plan.views.length aJ,.slice bk t.plan.eA.length bm,.int .i64 t.plan.hours,.slice cG t.land.length cH,.slice bQ t.dH.length bU,.slice cI t.wins.length cJ,.slice bY t.built.length bZ,.slice cL t.base.length cM,.int .i64 lot.id,.int .i64 lot.owner,.slice a1 lot.area.length c1,.slice a2 lot.old.length c2,.int .i64 d.lot,.slice cQ d.phases.length cR,.slice o3 (dw d).length c3,.slice o4 (km t.plan.zones lot.area).length c4],.int .i64 0]) (by rw[results_cell_tmp rfl];simp[go_sem]) rfl ?_;obtain⟨CH,hCH⟩:∃W:World,W=(((w.alloc (.cells #[.slice aO t.plan.defs.length aP,.slice ax t.plan.tables.length ay,.slice aG t.plan.zones.length aH,.slice aB t.plan.rules.length aC,.slice aQ t.plan.caps.length aR,.slice aI t.plan.views.length aJ,.slice bk t.plan.eA.length bm,.int .i64 t.plan.hours,.slice cG t.land.length cH,.slice bQ t.dH.length bU,.slice cI t.wins.length cJ,.slice bY t.built.length bZ,.slice cL t.base.length cM] 37)).alloc (.cells #[.int .i64 d.lot,.slice cQ d.phases.length cR] 40)).alloc (.cells #[.slice aO t.plan.defs.length aP,.slice ax t.plan.tables.length ay,.slice aG t.plan.zones.length aH,.slice aB t.plan.rules.length aC,.slice aQ t.plan.caps.length aR,.slice aI t.plan.views.length aJ,.slice bk t.plan.eA.length bm,.int .i64 t.plan.hours,.slice cG t.land.length cH,.slice bQ t.dH.length bU,.slice cI t.wins.length cJ,.slice bY t.built.length bZ,.slice cL t.base.length cM,.int .i64 lot.id,.int .i64 lot.owner,.slice a1 lot.area.length c1,.slice a2 lot.old.length c2,.int .i64 d.lot,.slice cQ d.phases.length cR,.slice o3 (dw d).length c3,.slice o4 (km t.plan.zones lot.area).length c4] 88)):=⟨_,rfl⟩;have hs:CH.heap.size=w.heap.size+1+1+1:=by rw[hCH];simp
 have K1:=MV.zo.base CH wu (by rw[hs];simp) (by simp);have K2:=HOL.zo.base CH eZ (by rw[hs];simp) (by simp);have K3:=Tu.zo.base ((av CH x1).alloc (.cells #[.int .i64 lot.id,.int .i64 lot.owner,.slice a1 lot.area.length c1,.slice a2 lot.old.length c2] 77)) AP (by simp[hs]) (by simp<;>omega);have K4:=HZS.zo.base ((av CH x1).alloc (.cells #[.int .i64 lot.id,.int .i64 lot.owner,.slice a1 lot.area.length c1,.slice a2 lot.old.length c2] 77)) wq (by simp[hs]) (by simp<;>omega);subst hCH;exact⟨[.slice aO t.plan.defs.length aP,.slice ax t.plan.tables.length ay,.slice aG t.plan.zones.length aH,.slice aB t.plan.rules.length aC,.slice aQ t.plan.caps.length aR,.slice aI t.plan.views.length aJ,.slice bk t.plan.eA.length bm,.int .i64 t.plan.hours,.slice cG t.land.length cH,.slice bQ t.dH.length bU,.slice cI t.wins.length cJ,.slice bY t.built.length bZ,.slice cL t.base.length cM,.int .i64 lot.id,.int .i64 lot.owner,.slice a1 lot.area.length c1,.slice a2 lot.old.length c2,.int .i64 d.lot,.slice cQ d.phases.length cR,.slice o3 (dw d).length c3,.slice o4 (km t.plan.zones lot.area).length c4],rfl,ae,⟨aO,aP,ax,ay,aG,aH,aB,aC,aQ,aR,aI,aJ,bk,bm,cG,cH,bQ,bU,cI,cJ,bY,bZ,cL,cM,a1,c1,a2,c2,cQ,cR,o3,c3,o4,c4,rfl,(Q0.zo.exts ae),(Q1.zo.exts ae),(Q2.zo.exts ae),(Q3.zo.exts ae),(Q4.zo.exts ae),(Q5.zo.exts ae),(Q6.zo.exts ae),Q7.zo,(Q8.zo.exts ae),(Q9.zo.exts ae),(Q10.zo.exts ae),(Q11.zo.exts ae),(Q12.zo.exts ae),HI.zo.1,HI.zo.2,(K1.sl.exts ae),(K2.sl.exts ae),R0.zo,(R1.zo.exts ae),(K3.sl.exts ae),(K4.sl.exts ae)⟩⟩
theorem KY(t:mD)(d:rW)(ts ds:zv)(w:World)(hg:Gl w)(h:(gg).R w ts t)(h2:(e6).R w ds d)(hf:sX t d):Calls prog 22 #[.agg ts.toArray,.agg ds.toArray] w (Mu (ml t d) w):=by
 cases hfd:findD t.land d.lot with
 |none=>
  rw[show ml t d=.error 4 by unfold ml;rw[hfd]];exact Tr t d ts ds w hfd hg h h2 hf
 |some lot=>
  cases hq:jC t.plan.caps lot d with
  |false=>
   rw[show ml t d=.error 1 by unfold ml;rw[hfd];simp[hq]];exact Ts t d ts ds w lot hfd hq hg h h2 hf
  |true=>
   rw[show ml t d=.ok (fw t lot d)by unfold ml;rw[hfd];simp[hq]];exact Tt t d ts ds w lot hfd hq hg h h2 hf
def ofN(k:Nat):FuncId:= [165,166,167,168,169,170,166,171,172].getD k 0
def ofV(p:Plan)(area:List Rc)(vs:List gR)(k:Nat):Int:=((oK p area vs).map (·.n)).getD k 0
theorem F8{T:Type}(f:T->Int)(M:Int)(hM:0<=M)(l:List T)(hf:∀x∈l,f x<=M):∀k:Nat,0<=rX f (l.take k)/\rX f (l.take k)<=M
 |0=>⟨by simp[rX],by simpa[rX]using hM⟩
 |k+1=>by
  have ih:=F8 f M hM l hf k;rcases Nat.lt_or_ge k l.length with h|h
  ·rw[DT f (fZ h)]
   have:=hf _ (List.getElem_mem h);unfold jF;omega
  ·rw[dQ (by omega)]
   rw[dQ h]at ih;exact ih
theorem TG{T:Type}{f:T->Int}{l:List T}(hl:l.length<=40)(hf:∀x∈l,0<=f x/\f x<=5497558138880000):I64 (sumF f l):=by
 have:=A5 f 5497558138880000 (by decide) l hf l.length;rw[List.take_length]at this;exact⟨by omega,by omega⟩
theorem ofK(k:Nat)(hk:k<9)(b:Nat)(p:Plan)(area:List Rc)(vs:List gR)(w:World)(h:jN w b p area vs)(hl:vs.length<=40)(ha:area.length<=200)(hv:∀v∈vs,iE v=true):Calls prog (ofN k) #[.pointer (some ⟨b,0,none⟩)] w fun e w'=>e=.returned (.int .i64 (ofV p area vs k))/\af w w'/\I64 (ofV p area vs k):=by
 have hr:∀v∈vs,kt v.base=true:=fun v h=>(mS (hv v h)).1
 have hu:∀v∈vs,0<=v.units/\v.units<=5497558138880000:=fun v h=>by have:=mS (hv v h);omega
 have vA:∀{f:FuncId}{x:Int},Calls prog f #[.pointer (some ⟨b,0,none⟩)] w (fun e w'=>e=.returned (.int .i64 x)/\af w w')->I64 x->Calls prog f #[.pointer (some ⟨b,0,none⟩)] w (fun e w'=>e=.returned (.int .i64 x)/\af w w'/\I64 x):=fun h hi=>h.mono fun _ _⟨h1,h2⟩=>⟨h1,h2,hi⟩
 match k,hk with
 |0,_=>exact vA (Zr b p area vs w h) (by
  show I64 (nd area);have:=EJ area area.length;rw[List.take_length]at this;unfold nd;split
  ·exact⟨by omega,by omega⟩
  ·exact⟨by omega,by omega⟩)
 |1,_=>exact Jv b p area vs w h hl hr
 |2,_=>exact vA (QR b p area vs w h hl) (TG hl fun v _=>tS v)
 |3,_=>exact vA (Nw b p area vs w h) (by
  have:=F8 fM 5000 (by decide) vs (fun v _=>(yF v).2) vs.length;rw[List.take_length]at this;show I64 (rX fM vs);exact⟨by omega,by omega⟩)
 |4,_=>exact vA (Nx b p area vs w h) (by
  have:=F8 gR.z1 5000 (by decide) vs (fun v h=>by have:=mS (hv v h);omega) vs.length;rw[List.take_length]at this;show I64 (rX gR.z1 vs);exact⟨by omega,by omega⟩)
 |5,_=>exact vA (QS b p area vs w h hl hu) (TG hl hu)
 |6,_=>exact Jv b p area vs w h hl hr
 |7,_=>exact vA (Kh b p area vs w h ha hr) (by
  have:=A7 area vs vs.length;rw[List.take_length]at this;show I64 (pC area vs);exact⟨by omega,by omega⟩)
 |8,_=>exact vA (Kj b p area vs w h hl hv) (TG hl fun v _=>QU p v)
theorem Xi(p:Plan)(area:List Rc)(vs:List gR)(k:Nat)(hk:k<9):(oK p area vs)[k]?=some ⟨eI.getD k default,ofV p area vs k⟩:=by
 match k,hk with
 |0,_|1,_|2,_|3,_|4,_|5,_|6,_|7,_|8,_=>rfl
instance aeG:iq 278 18:=⟨⟨_,underlying278,rfl⟩,by kernel_rfl⟩
theorem adT(W:World)(k:Nat)(hk:k<9):(Instr.index 278 (.agg #[.string ⟨#[97,114,101,97]⟩,.func (.func 165) #[] #[],.string ⟨#[99,111,118,101,114]⟩,.func (.func 166) #[] #[],.string ⟨#[102,108,111,111,114]⟩,.func (.func 167) #[] #[],.string ⟨#[102,108,111,111,114,115]⟩,.func (.func 168) #[] #[],.string ⟨#[104,101,105,103,104,116]⟩,.func (.func 169) #[] #[],.string ⟨#[104,111,109,101,115]⟩,.func (.func 170) #[] #[],.string ⟨#[114,117,110,111,102,102]⟩,.func (.func 166) #[] #[],.string ⟨#[115,101,116,98,97,99,107]⟩,.func (.func 171) #[] #[],.string ⟨#[116,114,97,102,102,105,99]⟩,.func (.func 172) #[] #[]]) (.int .i64 k)).run prog W=.ok (.agg #[.string (eI.getD k default),.func (.func (ofN k)) #[] #[]]) W:=by
 match k,hk with
 |0,_|1,_|2,_|3,_|4,_|5,_|6,_|7,_|8,_=>simp[Instr.index,go_sem,eI,ofN]
theorem Xj(k:Nat)(hk:k<9):Enters (ofN k):=by
 match k,hk with
 |0,_|1,_|2,_|3,_|4,_|5,_|6,_|7,_|8,_=>exact fun a w=>by rfl
@[go_sem] theorem adU(f:Fn)(a b:Array Value):(Value.func f a b).oneCell'=true:=rfl
theorem agj(p:Plan)(lot:Lot)(d:rW)(ps ls ds:zv)(w:World)(h1:(bq).R w ps p)(h2:(pM).R w ls lot)(h:(e6).R w ds d)(hp:d.phases.length<=3)(hv:∀(i:Nat)(x:Phase),d.phases[i]?=some x->x.cA.length<=3)(hA:ew lot.area=true)(hR:∀v∈dw d,iE v=true)(ha:lot.area.length<=200):
 Calls prog 78 #[.agg ps.toArray,.agg ls.toArray,.agg ds.toArray] w fun e w'=> ∃ao c,e=.returned (.slice ao 9 c)/\af w w'/\Sl eY w' ao 9 c (oK p lot.area (dw d)):=by
 have HP:=aa h1;have HD:=aa h;obtain⟨bF,bG,aN,aK,aX,aY,bH,bE,bN,bO,bj,aZ,cj,ck,rfl,q0,q1,q2,q3,q4,q5,q6,q7⟩:=h1;obtain⟨rB,rC,abK,abL,rfl,r0,r1,r2,r3⟩:=h2;obtain⟨cQ,cR,rfl,s0,s1⟩:=h;have HA:=aa r2;have zC:=aa hA;have HN:=aa hp;have HV:=aa hv;have HR:=aa hR;have EI:=aa ha;have hl9:(dw d).length<=9:=by
  have:=wm hv (Nat.le_refl d.phases.length);rw[List.take_length]at this;have e:dw d=d.phases.flatMap (·.cA):=rfl;rw[e];omega
 clear hp hv hA hR ha q0 q1 q2 q3 q4 q5 q6 q7 r0 r1 r2 r3 s0 s1;go_enter func78,ntmps78;go_wp2_with (first|((with_reducible refine ag (ep zC.zo _ _ _ _ ?_) ?_);exact HA.zo.exts ae;rintro e w' ⟨rfl,x1,rfl⟩)|((with_reducible refine ag (AO d _ _ ?_ HN.zo HV.zo) ?_);exact(e6).exts HD.zo ae;rintro e w' ⟨vo,vc,rfl,⟨x2,rfl⟩,s2⟩;(try simp only[bf,au,ai]at s2);(have Tu:=aa s2);clear s2))
 refine bI ?_;intro W0 hW0;have BX0:Bx W0 (w.heap.size+1+1+1) [.slice bF p.defs.length bG,.slice aN p.tables.length aK,.slice aX p.zones.length aY,.slice bH p.rules.length bE,.slice bN p.caps.length bO,.slice bj p.views.length aZ,.slice cj p.eA.length ck,.int .i64 p.hours,.slice rB lot.area.length rC,.slice none 0 0] 273:=Bx.new' hW0 (by simp);have HX0:=aa (show af w W0 by rw[hW0];exact ae);have TH:aq iD (w.heap.size+1+1+1+1) 98 W0 (.slice vo (dw d).length vc) (dw d):=by
  rw[hW0];exact(Tu.zo.exts ae).lower (by simp<;>omega)
 have Xk:=aa TH;have GI:=aa BX0;have hw0:=HX0.zo.below.size;have hb0:=BX0.lt;clear hW0 Tu BX0 TH;go_loopw [31] (fun i wr=> ∃(k:Nat)(oo:Option Addr)(oc:Nat),k<=(dw d).length/\i=.int .i64 k/\Bx wr (w.heap.size+1+1+1) [.slice bF p.defs.length bG,.slice aN p.tables.length aK,.slice aX p.zones.length aY,.slice bH p.rules.length bE,.slice bN p.caps.length bO,.slice bj p.views.length aZ,.slice cj p.eA.length ck,.int .i64 p.hours,.slice rB lot.area.length rC,.slice oo k oc] 273/\On (fun x=>x≠w.heap.size+1+1+1/\x<W0.heap.size) W0 wr/\bL (fun _=>False) iD W0.heap.size 98 wr (.slice oo k oc) ((dw d).take k)) (fun i _=>(dw d).length - (intOf i).toNat)
 case atStart=>exact⟨0,none,0,by omega,rfl,GI.zo,On.refl _ _,bL.nil _ _ _ _ _⟩
 case round=>
  obtain⟨k,oo,oc,hk,rfl,hB,hO,hS⟩:=hrel;by_cases hlt:k<(dw d).length
  ·have hVr:=Xk.zo.atF AP (hO.mono fun x hx=>by
    obtain⟨h1,h2⟩:=Xk.zo.toB rfl|>.2|>fun _=>(show _/\_ from⟨cm Xk.zo.choose_spec.1 x hx,(Xk.zo.choose_spec.1.lt x hx).2⟩)
    exact⟨by omega,h2⟩)
   have HVR:=aa (hVr.sl rfl);have HB:=aa hB;have HO:=aa hO;have HS:=aa hS;have hwr:=hO.size;have hsw:=hB.lt;clear hVr hB hO hS;obtain⟨v,hd⟩:=HVR.zo.ex hlt;have TJ:=aa (HR.zo v (gH hd));have HD2:=aa hd;obtain⟨bo,off,cs,rfl,lb,hRv,hld⟩:=HVR.zo.ld hd;have HRd:=aa hRv;obtain⟨rfl,_⟩:=hRv;have ahY:(k:Int)<40:=by omega
   clear hd;go_wp2_with ((with_reducible refine ag (js v _) ?_);rw[TJ.zo];rintro e w' ⟨rfl,x5,rfl⟩)
   have c9:wr.cell? ⟨w.heap.size+1+1+1,9,none⟩=some (.slice oo k oc):=HB.zo.cell 9;have hlk:((dw d).take k).length=k:=by rw[List.length_take];omega
   have HLK:=aa hlk;have Pz:=aa (show∀w2,(iD).R w2 [.int .i64 v.base.x0,.int .i64 v.base.y0,.int .i64 v.base.x1,.int .i64 v.base.y1,.int .i64 v.z0,.int .i64 v.z1,.int .i64 v.use,.int .i64 v.units,.bool v.extra] v from fun w2=>AP _ _ _ _ HRd.zo);obtain⟨i0,hi,hz0,hz1,hz2⟩:=info_parts AL;clear hlk;refine b9 (S:=fun w'=> ∃x,w'=av _ x) [0,1,2,3] [([4,5],6)] [] [7,8,9,10] (by kernel_rfl) (by kernel_rfl) ⟨_,by first|exact dx _|exact ai _ _⟩ ?_;try simp only[bX,pick,eh]
   try change wpQuiet _ _ _ _ (_::_) _
   repeat (go_big_quiet_step (fail))
   refine wpQuiet_nil ?_;try change wpQuiet _ _ _ _ (_::_) _
   repeat (go_big_quiet_step (fail))
   refine wpQuiet_nil ?_;try change wpList _ _ _ (_::_) _ _
   go_wp2;refine dn (by first|exact⟨_,(cF _).symm⟩|exact⟨_,rfl⟩|exact ae) ?_;try simp only[bX,pick,eh]
   try change wpQuiet _ _ _ _ (_::_) _
   repeat (go_big_quiet_step (fail))
   refine wpQuiet_nil ?_;try change wpList _ _ _ (_::_) _ _
   go_wp2_with (at_builtin;refine fA rfl (.tmp 46) (.tmp 48) 81 rfl i0 _ 72 underlying81 hi hz0 hz1 hz2 rfl (by decide) rfl HLK.zo (HS.zo.exts ae) _ 1 rfl (cs:= [.int .i64 v.base.x0,.int .i64 v.base.y0,.int .i64 v.base.x1,.int .i64 v.base.y1,.int .i64 v.z0,.int .i64 v.z1,.int .i64 v.use,.int .i64 v.units,.bool v.extra]) (fun w2 _=>Pz.zo w2) (fun j u hu=>(Bx.mv rfl (by simp)).news j u hu) (by omega) (by omega) (by simp<;>omega) ?_;intro g c' w1 hown hgrow;(have HB1:Bx w1 (w.heap.size+1+1+1) [.slice bF p.defs.length bG,.slice aN p.tables.length aK,.slice aX p.zones.length aY,.slice bH p.rules.length bE,.slice bN p.caps.length bO,.slice bj p.views.length aZ,.slice cj p.eA.length ck,.int .i64 p.hours,.slice rB lot.area.length rC,.slice oo k oc] 273:=(HB.zo.exts ae).at (On.grown (D:=fun x=>x=w.heap.size+1+1+1) hgrow (fun x hx h0=>by have:=(HS.zo.lt hx).1;omega)) rfl);(have c1:w1.cell? ⟨w.heap.size+1+1+1,9,none⟩=some (.slice oo k oc):=HB1.cell 9);(have f1:=HB1.fz 9);(have HB2:=aa HB1);(have HW:=aa hown);(have HG:=aa hgrow);clear HB1 hown hgrow)
   refine cV ?_;go_wp2;have e1:(dw d).take (k+1)=(dw d).take k++ [v]:=by rw[List.take_add_one,HD2.zo];rfl
   refine⟨⟨k+1,some ⟨g,0,none⟩,c',by omega,by go_num,HB2.zo.set 9 _,?_,?_⟩,?_⟩
   ·refine HO.zo.trans ((On.exts ae).trans ((On.grown HG.zo fun x hx h0=> ?_).trans (On.grown (bW _ _ _ _) fun x hx h0=> ?_)))
    ·have:=(HS.zo.lt hx).1
     omega
    ·cases hx
     exact h0.1 rfl
   ·rw[e1]
    refine HW.zo.at (On.grown (bW _ _ _ _) fun x hx h0=> ?_);cases hx;have:=(HW.zo.lt (h0.elim False.elim id)).1;omega
   ·simp[intOf];omega
  ·obtain rfl:k=(dw d).length:=by omega
   rw[List.take_length]at hS;have hOx:af W0 W0:=af.refl _;have HX:=aa (show af w wr from af.of_below ((HX0.zo.below).trans (hO.below (fun b hb=>⟨by omega,by omega⟩) (by omega))));have HST:=aa (show jN wr (w.heap.size+1+1+1) p lot.area (dw d)from⟨⟨[.slice bF p.defs.length bG,.slice aN p.tables.length aK,.slice aX p.zones.length aY,.slice bH p.rules.length bE,.slice bN p.caps.length bO,.slice bj p.views.length aZ,.slice cj p.eA.length ck,.int .i64 p.hours],(bq).exts HP.zo HX.zo,fun j u hu=>(hB.cell j).trans (by rw[<-hu];exact(List.getElem?_append_left (l₂:= [.slice rB lot.area.length rC,.slice oo (dw d).length oc]) (bw hu).1))⟩,⟨_,_,hB.cell 8,HA.zo.exts HX.zo⟩,_,_,hB.cell 9,hS.sl rfl⟩);have hsw:=hB.lt;have HL9:=aa hl9;clear hB hO hS;go_wp2;refine bI ?_;intro W9 hW9;have HX9:=aa (show af w W9 by rw[hW9];exact(HX.zo.trans ae));have HS9:=aa (show jN W9 (w.heap.size+1+1+1) p lot.area (dw d)by rw[hW9];exact HST.zo.exts ae);have hw9:w.heap.size+1+1+1<W9.heap.size:=by rw[hW9];simp;omega
   obtain⟨j0,hj,hy0,hy1,hy2⟩:=info_parts AK;have HM:=aa (Xi p lot.area (dw d));have HK:=aa (fun k hk W h=>ofK k hk (w.heap.size+1+1+1) p lot.area (dw d) W h (by omega) EI.zo HR.zo);obtain⟨V,hV⟩:∃V,ofV p lot.area (dw d)=V:=⟨_,rfl⟩;obtain⟨M,hM⟩:∃M,oK p lot.area (dw d)=M:=⟨_,rfl⟩;rw[hV]at HM HK;rw[hM]at HM;have HMD:=aa hM;have HML:=aa (show M.length=9 by rw[<-hM];rfl);clear hW9 hV hM;go_loopw [11,64] (fun o1 i wr=> ∃(k:Nat)(oo:Option Addr)(oc:Nat),k<=9/\i=.int .i64 k/\o1=.slice oo k oc/\af W9 wr/\aq eY W9.heap.size 152 wr (.slice oo k oc) (M.take k)) (fun _ i _=>9 - (intOf i).toNat)
   case atStart=>exact⟨0,none,0,by omega,rfl,rfl,af.refl _,aq.made _ _ _ _⟩
   case round=>
    obtain⟨k,oo,oc,hk,rfl,rfl,hX,hO⟩:=hrel;have S0:=aa hX;have HO:=aa hO;have hwr:=hX.below.size;clear hX hO;by_cases hlt:k<9
    ·have HMK:=aa (HM.zo k hlt)
     have HLK:=aa (show(M.take k).length=k by rw[List.length_take,HML.zo];omega);obtain⟨nm,fn,hix,hnm,hsz,hfn,hen⟩:∃(nm:ByteArray)(fn:FuncId),(∀W,(Instr.index 278 (.agg #[.string ⟨#[97,114,101,97]⟩,.func (.func 165) #[] #[],.string ⟨#[99,111,118,101,114]⟩,.func (.func 166) #[] #[],.string ⟨#[102,108,111,111,114]⟩,.func (.func 167) #[] #[],.string ⟨#[102,108,111,111,114,115]⟩,.func (.func 168) #[] #[],.string ⟨#[104,101,105,103,104,116]⟩,.func (.func 169) #[] #[],.string ⟨#[104,111,109,101,115]⟩,.func (.func 170) #[] #[],.string ⟨#[114,117,110,111,102,102]⟩,.func (.func 166) #[] #[],.string ⟨#[115,101,116,98,97,99,107]⟩,.func (.func 171) #[] #[],.string ⟨#[116,114,97,102,102,105,99]⟩,.func (.func 172) #[] #[]]) (.int .i64 k)).run prog W=.ok (.agg #[.string nm,.func (.func fn) #[] #[]]) W)/\eI.getD k default=nm/\gS nm/\ofN k=fn/\Enters fn:=⟨_,_,fun W=>adT W k hlt,rfl,AG _ (by rw[List.getD_eq_getElem?_getD,fZ (show k<eI.length from hlt)];exact List.getElem_mem _),rfl,Xj k hlt⟩;rw[hnm]at HMK;have tV:=aa hsz;have PB:=aa (HK.zo k hlt);have agk:=aa HMK.zo;rw[hfn]at PB;unfold Enters at hen;clear hnm hsz hfn HMK;go_wp2;refine b9 (S:=fun w'=> ∃x,w'=av _ x) [0,1,3,5] [([2,4],6)] [] [7,8,9,10] (by kernel_rfl) (by kernel_rfl) ⟨_,by first|exact dx _|exact ai _ _⟩ ?_;try simp only[bX,pick,eh]
     try change wpQuiet _ _ _ _ (_::_) _
     repeat (go_big_quiet_step (fail))
     refine wpQuiet_nil ?_;try change wpQuiet _ _ _ _ (_::_) _
     repeat (go_big_quiet_step (fail))
     refine wpQuiet_nil ?_;try change wpList _ _ _ (_::_) _ _
     go_wp2_with ((with_reducible refine ag (PB.zo _ ?_) ?_);exact HS9.zo.exts (S0.zo.trans ae);rintro e w' ⟨rfl,⟨x8,rfl⟩,hi8⟩;(have HI8:=aa hi8);clear hi8)
     refine dn (by first|exact⟨_,(cF _).symm⟩|exact⟨_,rfl⟩|exact ae) ?_;try simp only[bX,pick,eh]
     try change wpQuiet _ _ _ _ (_::_) _
     repeat (go_big_quiet_step (fail))
     refine wpQuiet_nil ?_;try change wpList _ _ _ (_::_) _ _
     go_wp2_with (at_builtin;refine dz rfl (.tmp 67) (.tmp 75) 35 rfl eY W9.heap.size 152 (Flat.turn J6) j0 _ 24 underlying35 hj hy0 hy1 hy2 rfl (by decide) (M.take k) ⟨nm,V k⟩ [.string nm,.int .i64 (V k)] k oo oc rfl HLK.zo HO.zo ae _ 1 rfl ⟨rfl,tV.zo,HI8.zo⟩ (fun j u hu=>(Bx.mv rfl (by simp)).news j u hu) (by omega) (by omega) (by simp<;>omega) ?_;intro ao' c' w1 hown hgrow;(have HW:=aa hown);(have HG:=aa hgrow);clear hown hgrow)
     refine cV ?_;go_wp2;have e1:M.take (k+1)=M.take k++ [⟨nm,V k⟩]:=by rw[List.take_add_one,agk.zo];rfl
     exact⟨⟨k+1,ao',c',by omega,by go_num,rfl,HG.zo W9 (S0.zo.trans ae) (Nat.le_refl _),by rw[e1];exact HW.zo⟩,by simp[intOf];omega⟩
    ·obtain rfl:k=9:=by omega
     have hO2:=HO.zo;rw[dQ (by rw[HML.zo];exact Nat.le_refl _)]at hO2;have my:=aa (hO2.sl HML.zo);clear hO2;go_wp2;go_ret;exact⟨_,_,rfl,HX9.zo.trans (S0.zo.trans ae),by rw[HMD.zo];exact my.zo.exts ae⟩
def OS(defs:List Def):List ByteArray:=eI++defs.map fun d=>d.name
def twB(defs:List Def)(i:Nat):Bool:=((OS defs).take (9+i)).any (nx (defs.getD i default).name)
def K9(defs:List Def)(k:Nat):Bool:=(List.range k).any (twB defs)
theorem OT(defs:List Def)(k:Nat):K9 defs (k+1)=(K9 defs k||twB defs k):=by
 unfold K9;rw[List.range_succ,List.any_append];simp
theorem Xl{defs:List Def}{k:Nat}{d:Def}(h:defs[k]?=some d):(OS defs)[9+k]?=some d.name:=by
 unfold OS;rw[List.getElem?_append_right (by show 9<=9+k;omega)];rw[show 9+k - eI.length=k by show 9+k - 9=k;omega,List.getElem?_map,h];rfl
theorem TK(defs:List Def):EX defs=K9 defs defs.length:=by
 unfold EX K9;congr 1;funext i
 unfold twB OS;rw[List.take_append,dQ (show eI.length<=9+i by show 9<=9+i;omega),List.any_append,show 9+i - eI.length=i by show 9+i - 9=i;omega,<-List.map_take,List.any_map];have e1:pN (defs.getD i default).name=nx (defs.getD i default).name:=by
  funext x
  unfold pN nx;rw[Lib.toList_data,Lib.toList_data,Bool.eq_iff_iff,beq_iff_eq,beq_iff_eq];exact eq_comm
 rw[e1];congr 1;congr 1;funext d
 unfold nx;simp only[Function.comp];rw[Lib.toList_data,Lib.toList_data]
theorem OU(b:Nat)(defs:List Def)(U:List (List Nat))(w:World)(h:kT w b defs U)(hc:jh U=true):Calls prog 304 #[.pointer (some ⟨b,0,none⟩)] w fun e w'=> ∃(a:Addr)(n c:Nat),e=.returned (.slice (some a) n c)/\af w w':=
 (zm b defs U w h).mono fun e w' h=>by
  obtain⟨ao,n,c,rfl,hx,_,_,⟨_,_,_,h2⟩|⟨⟨a,rfl⟩,_⟩⟩:=h
  ·rw[hc]at h2;cases h2
  ·exact⟨a,n,c,rfl,hx⟩
theorem TL(b:Nat)(defs:List Def)(U:List (List Nat))(w:World)(h:kT w b defs U)(hc:jh U=false):Calls prog 304 #[.pointer (some ⟨b,0,none⟩)] w fun e w'=>e=.returned (.slice none 0 0)/\af w w':=
 (zm b defs U w h).mono fun e w' h=>by
  obtain⟨ao,n,c,rfl,hx,_,_,⟨rfl,rfl,rfl,_⟩|⟨_,h2⟩⟩:=h
  ·exact⟨rfl,hx⟩
  ·rw[hc]at h2;cases h2
theorem Jw(p:Plan)(cs:zv)(w:World)(h:bq.R w cs p)(hfew:p.defs.length<=4)(hnm:∀d∈p.defs,(dS d.body).length<=1000000):Calls prog 243 #[.agg cs.toArray] w fun e w'=>af w w'/\((kK p.defs=none/\∃a m c k,e=.returned (.tuple #[.slice none 0 0,.slice a m c,.int .i64 k])/\ ¬k=0)∨∃l oo oc,kK p.defs=some l/\e=.returned (.tuple #[.slice oo l.length oc,.slice none 0 0,.int .i64 0])/\aq dv w.heap.size 3 w' (.slice oo l.length oc) l):=by
 obtain⟨o1,q1,o2,q2,o3,q3,o4,q4,o5,q5,o6,q6,o7,q7,rfl,h1,_⟩:=h;have H:=aa h1;have EM:=aa hnm;have hmm:= @run_makeMap prog;have eS:=fun a n c w=>run_neq_slice_nil_any (P:=prog) w 45 9 (some a) n c 0 0 underlying45
 have eN:=fun w=>run_neq_slice_nil_any (P:=prog) w 45 9 none 0 0 0 0 underlying45
 simp only[Option.isNone_none,Option.isNone_some,Bool.not_true,Bool.not_false]at eN eS;clear h1 hnm;obtain⟨defs,hdf⟩:∃defs,p.defs=defs:=⟨_,rfl⟩;rw[hdf]at H EM hfew ⊢;obtain⟨n,hn⟩:∃n,defs.length=n:=⟨_,rfl⟩;have HN:=aa hn;have HTW:=aa (TK defs);rw[hn]at H hfew HTW ⊢;clear hn hdf;go_enter func243,ntmps243;go_wp2_with ((with_reducible refine ag (G5 _) ?_);rintro e W1 ⟨mb,rfl,hx,hl⟩;(have jZ:=aa (show af w W1 from af.trans ae hx));(have OJ:=aa ((iT.made (w.alloc (.cells #[.slice o1 n q1,.slice o2 p.tables.length q2,.slice o3 p.zones.length q3,.slice o4 p.rules.length q4,.slice o5 p.caps.length q5,.slice o6 p.views.length q6,.slice o7 p.eA.length q7,.int .i64 p.hours] 30)) 9).exts hx));(have cB:W1.cell? ⟨w.heap.size,0,none⟩=some (.slice o1 n q1):=af.cell hx (by simp[go_sem]));(have LM:=aa hl);clear hx hl)
 obtain⟨b0,hb0⟩:∃b0,w.heap.size=b0:=⟨_,rfl⟩;have HB0:=aa hb0;rw[World.size_alloc,hb0]at OJ;rw[hb0]at cB ⊢;have hnb:mb≠b0+1:=by
  rintro rfl;obtain⟨b2,off2,e2,_,c2,_⟩:=lH LM.zo (i:=0) rfl;simp only[Option.some.injEq,Addr.mk.injEq,and_true]at e2;obtain⟨D,⟨es,clock,hm,_⟩,_⟩:=OJ.zo;rw[<-e2.1]at c2;unfold World.cell? at c2;rw[hm]at c2;cases c2
 have GF:=aa (show∀(j:Nat)(s:ByteArray),eI[j]?=some s->W1.cell? ⟨mb,j,none⟩=some (.string s)from fun j s hj=>by
  obtain⟨b2,off2,e2,_,c2,_⟩:=lH LM.zo hj;simp only[Option.some.injEq,Addr.mk.injEq,and_true]at e2;obtain⟨rfl,rfl⟩:=e2;rw[Nat.zero_add]at c2;exact c2)
 clear hb0;go_loopw [15] (fun i wr=> ∃(k:Nat)(f:Lit->Bool),k<=9/\i=.int .i64 k/\af w wr/\iT wr 9 (b0+1) k f/\(∀s:ByteArray,f (.string s.data.toList)=(eI.take k).any (nx s))/\wr.cell? ⟨b0,0,none⟩=some (.slice o1 n q1)/\(∀(j:Nat)(s:ByteArray),eI[j]?=some s->wr.cell? ⟨mb,j,none⟩=some (.string s))) (fun i _=>9 - (intOf i).toNat)
 case atStart=>exact⟨0,fun _=>false,by omega,rfl,jZ.zo,OJ.zo,fun s=>rfl,cB,GF.zo⟩
 case round=>
  clear cB jZ OJ GF LM;obtain⟨k,f,hk,rfl,hx,hmap,hf,cB,hc⟩:=hrel;have HX:=aa hx;have sH:=aa hmap;have HF:=aa hf;have HC:=aa hc;have lB:=bP cB;clear hx hmap hf hc;by_cases hlt:k<9
  ·obtain⟨s,hs⟩:∃s,eI[k]?=some s:=⟨_,fZ hlt⟩
   have c0:=HC.zo k s hs;have l0:=bP c0;have tV:=aa (AG s (gH hs));have HS:=aa hs;clear hs;go_wp2_with (at_mapUpdate;refine lq rfl _ _ _ 113 9 rfl mF underlying113 (b0+1) k _ rfl (sH.zo.exts ae) (by unfold maxLen;omega) _ _ _ rfl rfl (WideMaps.keyOf_string_mk underlying9 tV.zo) trivial ?_;intro w9 hmap' hgrow;(have HM9:=aa hmap');(have HG9:=aa hgrow);clear hmap' hgrow)
   have hB0:=HB0.zo;refine⟨⟨k+1,_,by omega,by go_num,aF HX.zo HG9.zo (fun b hb=>by cases hb;omega),HM9.zo,tU HS.zo HF.zo,(cell_grown HG9.zo lB (by simp)).trans cB,fun j x hj=> ?_⟩,?_⟩
   ·have c1:=HC.zo j x hj
    exact(cell_grown HG9.zo (bP c1) (fun e=>hnb (by simpa using e.symm))).trans c1
   ·simp[intOf];omega
  ·obtain rfl:k=9:=by omega
   have Za:=aa (show∀s:ByteArray,f (.string s.data.toList)=((OS defs).take (9+0)).any (nx s)from fun s=>by rw[HF.zo s];rfl);clear HF HC;go_wp2;go_loopw [25] (fun i wr=> ∃(k:Nat)(f:Lit->Bool),k<=n/\i=.int .i64 k/\af w wr/\iT wr 9 (b0+1) (9+k) f/\(∀s:ByteArray,f (.string s.data.toList)=((OS defs).take (9+k)).any (nx s))/\wr.cell? ⟨b0,0,none⟩=some (.slice o1 n q1)/\K9 defs k=false) (fun i _=>n - (intOf i).toNat)
   case atStart=>exact⟨0,f,by omega,rfl,HX.zo,sH.zo,Za.zo,cB,rfl⟩
   case round=>
    clear cB HX sH Za lB;obtain⟨k,f,hk,rfl,hx,hmap,hf,cB,htw⟩:=hrel;have HX:=aa hx;have sH:=aa hmap;have HF:=aa hf;have lB:=bP cB;have HT:=aa htw;have hsz:=hx.below.size;have hml:=hmap.lt;clear hx hmap hf htw;by_cases hlt:k<n
    ·obtain⟨d,hd⟩:=H.zo.ex hlt
     obtain⟨b,off,cs,rfl,lb,hR,cZ⟩:=H.zo.ld hd;obtain⟨ob,cb,rfl,hs0,hxv⟩:=hR;have hld:∀w',af wr w'->_:=fun w' he=>cZ w' (HX.zo.trans he)
     have tV:=aa hs0;have ed:defs.getD k default=d:=by rw[List.getD_eq_getElem?_getD,hd];rfl
     have Ys:=aa (OT defs k);obtain⟨t,ht⟩:∃t,twB defs k=t:=⟨_,rfl⟩;have ht2:f (.string d.name.data.toList)=t:=by
      rw[HF.zo d.name,<-ht];unfold twB;rw[ed]
     rw[HT.zo,ht]at Ys;have hlook:∀w',af wr w'->(Instr.lookup 113 (.map (some (b0+1))) (.string d.name) false).run prog w'=.ok (.bool t) w':=fun w' he=>by
      rw[<-ht2];exact(sH.zo.exts he).look mF underlying113 (WideMaps.keyOf_string_mk underlying9 tV.zo)
     have HD:=aa (Xl hd);clear cZ hs0 hxv hd ht ht2 ed;cases t with
     |true=>
      have HE:Hid (kK defs=none):=aa (by
       unfold kK;rw[if_pos];refine .inl ?_;rw[HTW.zo];unfold K9 at Ys ⊢;rw[List.any_eq_true];obtain⟨x,hx,hx2⟩:=List.any_eq_true.1 Ys.zo;exact⟨x,List.mem_range.2 (by have:=List.mem_range.1 hx;omega),hx2⟩)
      go_wp2;refine bodyPost_ret (v:=.tuple #[.slice none 0 0,.slice none 0 0,.int .i64 5]) (by simp[results,go_sem]) rfl ?_;exact⟨HX.zo.trans ae,.inl ⟨HE.zo,none,0,0,5,rfl,by decide⟩⟩
     |false=>
      go_wp2_with (at_mapUpdate;refine lq rfl _ _ _ 113 9 rfl mF underlying113 (b0+1) (9+k) _ rfl (sH.zo.exts ae) (by unfold maxLen;omega) _ _ _ rfl rfl (WideMaps.keyOf_string_mk underlying9 tV.zo) trivial ?_;intro w9 hmap' hgrow;(have HM9:=aa hmap');(have HG9:=aa hgrow);clear hmap' hgrow)
      have hB0:=HB0.zo;refine⟨⟨k+1,_,by omega,by go_num,aF (HX.zo.trans ae) HG9.zo (fun b hb=>by cases hb;omega),HM9.zo,tU HD.zo HF.zo,(cell_grown HG9.zo (by simp;omega) (by simp)).trans (af.cell ae cB),Ys.zo⟩,?_⟩;simp[intOf];omega
    ·obtain rfl:n=k:=by omega
     have agl:Hid (EX defs=false):=aa (by rw[HTW.zo];exact HT.zo);have HSL:=aa (H.zo.exts HX.zo);have HNG:=aa (show∀w',Sl mC w' o1 n q1 defs->_ from fun w' h=>by
      have:=Js o1 q1 defs w' (by rw[HN.zo];exact h) (by rw[HN.zo];exact hfew) EM.zo;rw[HN.zo]at this;exact this)
     cases hac:jh (jo defs)with
     |true=>
      have HE:Hid (kK defs=none):=aa (by unfold kK;rw[if_pos (.inr hac)]);go_wp2_with (first|((with_reducible refine ag (HNG.zo _ (HSL.zo.exts ae)) ?_);rintro e w2 ⟨gb,rfl,hx2,hga⟩;(have gm:=aa hx2);(have HGA:=aa hga);clear hx2 hga)|((with_reducible refine ag (OU _ defs _ _ HGA.zo hac) ?_);rintro e w3 ⟨so,sn,sc,rfl,hx3⟩;(have iU:=aa hx3);clear hx3))
      refine bodyPost_ret (v:=.tuple #[.slice none 0 0,.slice (some so) sn sc,.int .i64 16]) (by simp[results,go_sem]) rfl ?_;exact⟨HX.zo.trans (gm.zo.trans iU.zo),.inl ⟨HE.zo,_,_,_,16,rfl,by decide⟩⟩
     |false=>
      have HE:Hid (kK defs=some (ny defs (jo defs) defs.length).2):=aa (by
       unfold kK;rw[if_neg];rw[agl.zo,hac];simp)
      have hiv:=wY (defs:=defs) (U:=jo defs) (by unfold jo;rw[List.length_map]) (xj defs) hac defs.length (Nat.le_refl _);have HOL:=aa hiv.ol;have HAC:=aa hac;clear hiv hac;go_wp2_with (first|((with_reducible refine ag (HNG.zo _ (HSL.zo.exts ae)) ?_);rintro e w2 ⟨gb,rfl,hx2,hga⟩;(have gm:=aa hx2);(have HGA:=aa hga);clear hx2 hga)|((with_reducible refine ag (TL _ defs _ _ HGA.zo HAC.zo) ?_);rintro e w3 ⟨rfl,hx3⟩;(have iU:=aa hx3);clear hx3)|((with_reducible refine ag (Sz _ defs _ _ (HGA.zo.exts iU.zo) HAC.zo) ?_);rintro e w4 ⟨oo,oc,rfl,hx4,hso⟩;(have nv:=aa hx4);(have D8:=aa hso);clear hx4 hso))
      refine bodyPost_ret (v:=.tuple #[.slice oo defs.length oc,.slice none 0 0,.int .i64 0]) (by simp[results,go_sem]) rfl ?_;refine⟨HX.zo.trans (gm.zo.trans (iU.zo.trans nv.zo)),.inr ⟨_,oo,oc,HE.zo,by rw[HOL.zo],?_⟩⟩;rw[HOL.zo];exact D8.zo.base (HX.zo.trans (gm.zo.trans iU.zo)).below.size
section
structure PG(w0 w:World)(h:Nat)(pc ctx:zv)(n1 n2:Nat)(f1:Lit->Int)(f2:Lit->Bool):Prop where
 ext:af w0 w
 hs:w0.heap.size=h
 pl:w.heap[h]?=some (.cells pc.toArray 30 (0,0))
 rs:∃arr:Array Value,arr.size=10/\w.heap[h+1]?=some (.cells arr 267 (0,0))
 cx:w.heap[h+3]?=some (.cells ctx.toArray 267 (0,0))
 m1:si w 9 (h+2) n1 f1
 m2:iT w 9 (h+4) n2 f2
section
variable {w0 w w':World}{h:Nat}{pc ctx:zv}{n1 n2:Nat}{f1:Lit->Int}{f2:Lit->Bool}
theorem PG.lt(H:PG w0 w h pc ctx n1 n2 f1 f2):h+4<w.heap.size:=H.m2.lt
theorem PG.kept(H:PG w0 w h pc ctx n1 n2 f1 f2){r:Option Nat}(hg:w.grownBy w' r)(hr:∀b,r=some b->h+5<=b):PG w0 w' h pc ctx n1 n2 f1 f2:=by
 have hl:=H.lt;have hs:=H.hs;have key:∀k,k<=4->w'.heap[h+k]?=w.heap[h+k]?:=fun k hk=>hg.block _ (by omega) fun e=>by have:=hr _ e.symm;omega
 obtain⟨arr,ha,hb⟩:=H.rs;exact⟨aF H.ext hg fun b hb=>by have:=hr b hb;omega,hs,(key 0 (by omega)).trans H.pl,⟨arr,ha,(key 1 (by omega)).trans hb⟩,(key 3 (by omega)).trans H.cx,H.m1.kept hg (fun e=>by have:=hr _ e.symm;omega),H.m2.kept hg (fun e=>by have:=hr _ e.symm;omega)⟩
theorem PG.exts(H:PG w0 w h pc ctx n1 n2 f1 f2)(he:af w w'):PG w0 w' h pc ctx n1 n2 f1 f2:=H.kept (er he none) fun _ h=>by cases h
theorem PG.aaA(H:PG w0 w h pc ctx n1 n2 f1 f2)(hg:w.grownBy w' (some (h+2))){n:Nat}{f:Lit->Int}(hm:si w' 9 (h+2) n f):PG w0 w' h pc ctx n n2 f f2:=by
 have hl:=H.lt;have hs:=H.hs;have key:∀k,k<=4->k≠2->w'.heap[h+k]?=w.heap[h+k]?:=fun k hk h2=>hg.block _ (by omega) fun e=>h2 (by simp at e;omega)
 obtain⟨arr,ha,hb⟩:=H.rs;exact⟨aF H.ext hg fun b hb=>by cases hb;omega,hs,(key 0 (by omega) (by omega)).trans H.pl,⟨arr,ha,(key 1 (by omega) (by omega)).trans hb⟩,(key 3 (by omega) (by omega)).trans H.cx,hm,H.m2.kept hg (by simp)⟩
theorem PG.agn(H:PG w0 w h pc ctx n1 n2 f1 f2)(hg:w.grownBy w' (some (h+4))){n:Nat}{f:Lit->Bool}(hm:iT w' 9 (h+4) n f):PG w0 w' h pc ctx n1 n f1 f:=by
 have hl:=H.lt;have hs:=H.hs;have key:∀k,k<=4->k≠4->w'.heap[h+k]?=w.heap[h+k]?:=fun k hk h2=>hg.block _ (by omega) fun e=>h2 (by simp at e;omega)
 obtain⟨arr,ha,hb⟩:=H.rs;exact⟨aF H.ext hg fun b hb=>by cases hb;omega,hs,(key 0 (by omega) (by omega)).trans H.pl,⟨arr,ha,(key 1 (by omega) (by omega)).trans hb⟩,(key 3 (by omega) (by omega)).trans H.cx,H.m1.kept hg (by simp),hm⟩
theorem PG.cell(H:PG w0 w h pc ctx n1 n2 f1 f2){j:Nat}{u:Value}(hj:ctx[j]?=some u):w.cell? ⟨h+3,j,none⟩=some u:=by
 rw[cell_of_row _ _ _ _ _ _ H.cx];simpa using hj
theorem PG.YG(H:PG w0 w h pc ctx n1 n2 f1 f2){j:Nat}{u:Value}(hj:pc[j]?=some u):w.cell? ⟨h,j,none⟩=some u:=by
 rw[cell_of_row _ _ _ _ _ _ H.pl];simpa using hj
end
theorem Xo:(prog.info? 30).map (·.size)=some 8:=by kernel_rfl
theorem PG.agp{w0 w:World}{h:Nat}{pc ctx:zv}{n1 n2:Nat}{f1:Lit->Int}{f2:Lit->Bool}(H:PG w0 w h pc ctx n1 n2 f1 f2)(hl:pc.length=8):(jf 30 ⟨h,0,none⟩).run prog w=.ok (.agg pc.toArray) w:=
 run_loadVar_row w h 30 30 pc.toArray (0,0) _ H.pl underlying30 rfl (by rw[List.size_toArray,hl];exact Xo)
theorem PG.TN{w0 w:World}{h:Nat}{pc ctx:zv}{n1 n2:Nat}{f1:Lit->Int}{f2:Lit->Bool}(H:PG w0 w h pc ctx n1 n2 f1 f2)(hl:ctx.length=10):(jf 267 ⟨h+3,0,none⟩).run prog w=.ok (.agg ctx.toArray) w:=
 run_loadVar_row w (h+3) 267 267 ctx.toArray (0,0) _ H.cx underlying267 rfl (by rw[List.size_toArray,hl];exact(iq.s (t:=267)))
theorem PG.YH{w0 w:World}{h:Nat}{pc ctx:zv}{n1 n2:Nat}{f1:Lit->Int}{f2:Lit->Bool}(H:PG w0 w h pc ctx n1 n2 f1 f2)(cs:zv)(hl:cs.length=10)(h1:cs.all (·.oneCell')=true):(PW 267 ⟨h+1,0,none⟩ (.agg cs.toArray)).run prog w=.ok () (w.setRow (h+1) cs.toArray):=by
 obtain⟨arr,ha,hb⟩:=H.rs;exact stT 267 10 w (h+1) cs ⟨arr,267,hb,ha⟩ hl h1
theorem PG.start(w:World)(pc ctx:zv)(z:Array Value)(hz:z.size=10):PG w (((((w.alloc (.cells pc.toArray 30)).alloc (.cells z 267)).alloc (.map #[] 0)).alloc (.cells ctx.toArray 267)).alloc (.map #[] 0)) w.heap.size pc ctx 0 0 (fun _=>0) (fun _=>false):=by
 obtain⟨A1,h1⟩:∃A,A=w.alloc (.cells pc.toArray 30):=⟨_,rfl⟩;obtain⟨A2,h2⟩:∃A,A=A1.alloc (.cells z 267):=⟨_,rfl⟩;obtain⟨A3,h3⟩:∃A,A=A2.alloc (.map #[] 0):=⟨_,rfl⟩;obtain⟨A4,h4⟩:∃A,A=A3.alloc (.cells ctx.toArray 267):=⟨_,rfl⟩;have s1:A1.heap.size=w.heap.size+1:=by rw[h1,World.size_alloc]
 have s2:A2.heap.size=w.heap.size+2:=by rw[h2,World.size_alloc,s1]
 have s3:A3.heap.size=w.heap.size+3:=by rw[h3,World.size_alloc,s2]
 have s4:A4.heap.size=w.heap.size+4:=by rw[h4,World.size_alloc,s3]
 have x4:af A4 (A4.alloc (.map #[] 0)):=ae;have x3:af A3 (A4.alloc (.map #[] 0)):=af.trans (by rw[h4];exact ae) x4;have x2:af A2 (A4.alloc (.map #[] 0)):=af.trans (by rw[h3];exact ae) x3;have x1:af A1 (A4.alloc (.map #[] 0)):=af.trans (by rw[h2];exact ae) x2;have x0:af w (A4.alloc (.map #[] 0)):=af.trans (by rw[h1];exact ae) x1;have m1:=(si.made A2 9).exts (show af (A2.alloc (.map #[] 0)) (A4.alloc (.map #[] 0))by rw[<-h3];exact x3);have m2:=iT.made A4 9;rw[s2]at m1;rw[s4]at m2;have b0:A1.heap[w.heap.size]?=some (.cells pc.toArray 30 (0,0)):=by rw[h1];exact heap_alloc_new w _
 have b1:A2.heap[w.heap.size+1]?=some (.cells z 267 (0,0)):=by rw[h2,<-s1];exact heap_alloc_new A1 _
 have b3:A4.heap[w.heap.size+3]?=some (.cells ctx.toArray 267 (0,0)):=by rw[h4,<-s3];exact heap_alloc_new A3 _
 rw[<-h1,<-h2,<-h3,<-h4];exact⟨x0,rfl,(x1.below.block _ (by omega)).trans b0,⟨z,hz,(x2.below.block _ (by omega)).trans b1⟩,(x4.below.block _ (by omega)).trans b3,m1,m2⟩
theorem OX{ms:List Entry}{k:Nat}{m:Entry}(h:ms[k]?=some m):oX ms (k+1)=Kr (oX ms k) m:=by
 unfold oX;rw[List.take_add_one,h,Option.toList_some,List.foldl_append];rfl
theorem yq{f:Lit->Int}{k:ByteArray->Int}(hf:∀s:ByteArray,f (.string s.data.toList)=k s)(nm:ByteArray)(x:Int)(s:ByteArray):MR f (.string nm.data.toList) x (.string s.data.toList)=wJ k nm x s:=by
 unfold wJ;rw[Lib.toList_data,Lib.toList_data];by_cases e:s.data.toList=nm.data.toList
 ·rw[e,Dw,if_pos (by simp)]
 ·rw[Aw _ _ (fun h=>e (by injection h)),hf,if_neg (by simpa using e)]
theorem OY{f:Lit->Bool}{k:ByteArray->Bool}(hf:∀s:ByteArray,f (.string s.data.toList)=k s)(nm:ByteArray)(x:Bool)(s:ByteArray):xC f (.string nm.data.toList) x (.string s.data.toList)=wJ k nm x s:=by
 unfold wJ;rw[Lib.toList_data,Lib.toList_data];by_cases e:s.data.toList=nm.data.toList
 ·rw[e,tF,if_pos (by simp)]
 ·rw[om _ _ (fun h=>e (by injection h)),hf,if_neg (by simpa using e)]
theorem PG.Xq{w0 w:World}{h:Nat}{pc ctx:zv}{n1 n2:Nat}{f1:Lit->Int}{f2:Lit->Bool}{zo:Option Addr}{zn zc:Nat}{p:Plan}{zs:List ByteArray}{k:ByteArray->Int}(H:PG w0 w h pc ctx n1 n2 f1 f2)(hc:pc++ [.map (some (h+2)),.slice zo zn zc]=ctx)(hp:bq.R w0 pc p)(hz:Sl fC w0 zo zn zc zs)(hf:∀s:ByteArray,f1 (.string s.data.toList)=k s):GU w ctx ⟨p,k,zs⟩:=by
 have hl:=hz.1;subst hl;exact⟨pc,h+2,n1,f1,zo,zc,hc.symm,bq.exts hp H.ext,H.m1,fun s _=>hf s,hz.exts H.ext⟩
theorem PG.fin{w0 w:World}{h:Nat}{pc ctx:zv}{n1 n2:Nat}{f1:Lit->Int}{f2:Lit->Bool}(H:PG w0 w h pc ctx n1 n2 f1 f2)(cs:zv)(hl:cs.length=10):PG w0 (w.setRow (h+1) cs.toArray) h pc ctx n1 n2 f1 f2/\(jf 267 ⟨h+1,0,none⟩).run prog (w.setRow (h+1) cs.toArray)=.ok (.agg cs.toArray) (w.setRow (h+1) cs.toArray):=by
 have hlt:=H.lt;have hs:=H.hs;have hg:w.grownBy (w.setRow (h+1) cs.toArray) (some (h+1)):=⟨rfl,rfl,rfl,by simp,fun k _ hk=>setRow_other w (h+1) k cs.toArray (fun e=>hk (by simp[e]))⟩;have key:∀k,k<=4->k≠1->(w.setRow (h+1) cs.toArray).heap[h+k]?=w.heap[h+k]?:=fun k hk h2=>hg.block _ (by omega) fun e=>h2 (by simp at e;omega)
 obtain⟨arr,ha,hb⟩:=H.rs;have hn:=setRow_heap w (h+1) arr cs.toArray 267 (0,0) hb;exact⟨⟨aF H.ext hg fun b hb=>by cases hb;omega,hs,(key 0 (by omega) (by omega)).trans H.pl,⟨cs.toArray,by simpa using hl,hn⟩,(key 3 (by omega) (by omega)).trans H.cx,H.m1.kept hg (by simp),H.m2.kept hg (by simp)⟩,run_loadVar_row _ (h+1) 267 267 cs.toArray (0,0) _ hn underlying267 rfl (by rw[List.size_toArray,hl];exact(iq.s (t:=267)))⟩
theorem aaB(p:Plan)(cs:zv)(w:World)(h:bq.R w cs p)(hfew:p.defs.length<=4)(hnm:∀d∈p.defs,(dS d.body).length<=1000000)(ho:kK p.defs=none):Calls prog 243 #[.agg cs.toArray] w fun e w'=>af w w'/\∃a m c k,e=.returned (.tuple #[.slice none 0 0,.slice a m c,.int .i64 k])/\ ¬k=0:=
 (Jw p cs w h hfew hnm).mono fun e w' h=>by
  obtain⟨hx,⟨_,h⟩|⟨l,_,_,h,_⟩⟩:=h
  ·exact⟨hx,h⟩
  ·rw[ho]at h;cases h
theorem Xr(p:Plan)(cs:zv)(w:World)(h:bq.R w cs p)(hfew:p.defs.length<=4)(hnm:∀d∈p.defs,(dS d.body).length<=1000000){l:List Int}(ho:kK p.defs=some l):Calls prog 243 #[.agg cs.toArray] w fun e w'=>af w w'/\∃oo oc,e=.returned (.tuple #[.slice oo l.length oc,.slice none 0 0,.int .i64 0])/\aq dv w.heap.size 3 w' (.slice oo l.length oc) l:=
 (Jw p cs w h hfew hnm).mono fun e w' h=>by
  obtain⟨hx,⟨h,_⟩|⟨l2,oo,oc,h,h2,h3⟩⟩:=h
  ·rw[ho]at h;cases h
  ·rw[ho]at h
   cases h;exact⟨hx,oo,oc,h2,h3⟩
theorem uI.made{A W1:World}{n:Nat}(h:af (A.alloc (.cells (madeCells #[.int .i64 0] n) 3)) W1):uI W1 A.heap.size (List.replicate n 0):=by
 refine uI.exts ?_ h;unfold uI;rw[heap_alloc_new,made1];simp
theorem OZ{defs:List Def}{l:List Int}(h:kK defs=some l):∀x∈l,∃i:Nat,x=i/\i<defs.length:=by
 unfold kK at h;split at h
 ·cases h
 ·rename_i hc
  cases h;have ha:jh (jo defs)=false:=by
   cases e:jh (jo defs)
   ·rfl
   ·exact absurd (.inr e) hc
  exact(wY (defs:=defs) (U:=jo defs) (by unfold jo;rw[List.length_map]) (xj defs) ha defs.length (Nat.le_refl _)).el
theorem La{defs:List Def}{l:List Int}(h:kK defs=some l):l.length=defs.length:=by
 unfold kK at h;split at h
 ·cases h
 ·rename_i hc
  cases h;have ha:jh (jo defs)=false:=by
   cases e:jh (jo defs)
   ·rfl
   ·exact absurd (.inr e) hc
  exact(wY (defs:=defs) (U:=jo defs) (by unfold jo;rw[List.length_map]) (xj defs) ha defs.length (Nat.le_refl _)).ol
theorem O7{p:Plan}{ms:List Entry}{zs:List ByteArray}{l:List Int}{j:Nat}{x:Int}(h:l[j]?=some x):uZ p ms zs l (j+1)=qW p (oX ms ms.length).2 zs (uZ p ms zs l j) x:=by
 unfold uZ;rw[List.take_add_one,h,Option.toList_some,List.foldl_append];rfl
theorem Lb(p:Plan)(pc:zv)(mo:Option Addr)(mn mc:Nat)(ms:List Entry)(zo:Option Addr)(zn zc:Nat)(zs:List ByteArray)(w:World)(hp:bq.R w pc p)(hms:Sl eY w mo mn mc ms)(hz:Sl fC w zo zn zc zs)(hfew:p.defs.length<=4)(hnm:∀d∈p.defs,(dS d.body).length<=1000000)(hmn:mn<=1000):
 Calls prog 161 #[.agg pc.toArray,.slice mo mn mc,.slice zo zn zc] w fun e w'=> ∃cs vv,e=.returned (.tuple #[.agg cs.toArray,vv])/\af w w'/\GU w' cs ⟨p,pF p ms zs,zs⟩/\∀s,I64 (pF p ms zs s):=by
 have HP:=aa hp;obtain⟨o1,q1,o2,q2,o3,q3,o4,q4,o5,q5,o6,q6,o7,q7,rfl,h1,_⟩:=hp;have H1:=aa h1;have HM:=aa hms;have HZ:=aa hz;have EM:=aa hnm;have hmm:= @run_makeMap prog;obtain⟨h,hh⟩:∃h,w.heap.size=h:=⟨_,rfl⟩;clear h1 hms hz hnm;go_enter func161,ntmps161;go_wp2;simp only[Nat.add_assoc,Nat.reduceAdd];refine bI ?_;intro W1 hW1;obtain⟨pc,hpc⟩:∃pc:zv,[Value.slice o1 p.defs.length q1,.slice o2 p.tables.length q2,.slice o3 p.zones.length q3,.slice o4 p.rules.length q4,.slice o5 p.caps.length q5,.slice o6 p.views.length q6,.slice o7 p.eA.length q7,.int .i64 p.hours]=pc:=⟨_,rfl⟩;have Xs:=aa hpc;have HG1:Hid (PG w W1 h pc (pc++ [.map (some (h+2)),.slice zo zn zc]) 0 0 (fun _=>0) (fun _=>false)):=aa (by
  rw[hW1,<-hpc];have:=PG.start w [Value.slice o1 p.defs.length q1,.slice o2 p.tables.length q2,.slice o3 p.zones.length q3,.slice o4 p.rules.length q4,.slice o5 p.caps.length q5,.slice o6 p.views.length q6,.slice o7 p.eA.length q7,.int .i64 p.hours] [Value.slice o1 p.defs.length q1,.slice o2 p.tables.length q2,.slice o3 p.zones.length q3,.slice o4 p.rules.length q4,.slice o5 p.caps.length q5,.slice o6 p.views.length q6,.slice o7 p.eA.length q7,.int .i64 p.hours,.map (some (h+2)),.slice zo zn zc] _ (show#[Value.slice none 0 0,Value.slice none 0 0,Value.slice none 0 0,Value.slice none 0 0,Value.slice none 0 0,Value.slice none 0 0,Value.slice none 0 0,Value.int IntKind.i64 0,Value.map none,Value.slice none 0 0].size=10 from rfl);rw[hh]at this;exact this)
 clear hW1;go_loopw [26] (fun i wr=> ∃(k n1 n2:Nat)(f1:Lit->Int)(f2:Lit->Bool),k<=mn/\n1<=k/\n2<=k/\i=.int .i64 k/\PG w wr h pc (pc++ [.map (some (h+2)),.slice zo zn zc]) n1 n2 f1 f2/\(∀s:ByteArray,f1 (.string s.data.toList)=(oX ms k).1 s)/\(∀s:ByteArray,f2 (.string s.data.toList)=(oX ms k).2 s)/\∀s,I64 ((oX ms k).1 s)) (fun i _=>mn - (intOf i).toNat)
 case atStart=>exact⟨0,0,0,_,_,by omega,by omega,by omega,rfl,HG1.zo,fun s=>rfl,fun s=>rfl,fun s=>by show I64 0;unfold I64;omega⟩
 case round=>
  clear HG1;obtain⟨k,n1,n2,f1,f2,hk,hn1,hn2,rfl,hg,hf1,hf2,hik⟩:=hrel;have HG:=aa hg;have HF1:=aa hf1;have HF2:=aa hf2;have HIK:=aa hik;have hlt:=hg.lt;have hx:=hg.ext;have hsz:=hx.below.size;have c8:=hg.cell (j:=8) (u:=.map (some (h+2))) (by rw[<-Xs.zo];rfl);clear hg hf1 hf2 hik;by_cases hkn:k<mn
  ·obtain⟨m,hm⟩:=HM.zo.ex hkn
   obtain⟨b,off,cs,rfl,lb,hR,cZ⟩:=HM.zo.ld hm;obtain⟨rfl,hsn,him⟩:=hR;have hld:∀w',af wr w'->_:=fun w' he=>cZ w' (hx.trans he)
   have HS:=aa hsn;have HIM:=aa him;have Xt:=aa (OX hm);obtain⟨t,ht⟩:∃t,(oX ms k).2 m.name=t:=⟨_,rfl⟩;have hlook:∀w',af wr w'->(Instr.lookup 113 (.map (some (h+4))) (.string m.name) false).run prog w'=.ok (.bool t) w':=fun w' he=>by
    rw[<-ht,<-HF2.zo];exact(HG.zo.m2.exts he).look mF underlying113 (WideMaps.keyOf_string_mk underlying9 HS.zo)
   have adX:Kr (oX ms k) m=if t=true then oX ms k else(wJ (oX ms k).1 m.name m.n,wJ (oX ms k).2 m.name true):=by rw[<-ht];rfl
   rw[adX]at Xt;clear cZ hsn him hm ht adX hx;cases t with
   |true=>
    rw[if_pos rfl]at Xt;go_wp2;refine⟨⟨k+1,n1,n2,f1,f2,by omega,by omega,by omega,by go_num,HG.zo.exts ae,by rw[Xt.zo];exact HF1.zo,by rw[Xt.zo];exact HF2.zo,by rw[Xt.zo];exact HIK.zo⟩,?_⟩;simp[intOf];omega
   |false=>
    rw[if_neg (by simp)]at Xt;go_wp2;refine bI ?_;intro W hW;have hxW:af wr W:=by rw[hW];exact ae
    have d8:=af.cell hxW c8;have d0:W.cell? ⟨wr.heap.size,0,none⟩=some (.string m.name):=by rw[hW];simp[go_sem]
    have d1:W.cell? ⟨wr.heap.size,1,none⟩=some (.int .i64 m.n):=by rw[hW];simp[go_sem]
    have hWs:wr.heap.size<W.heap.size:=bP d0;have HGW:=aa (HG.zo.exts (show af wr W.drew from hxW.drew));obtain⟨W10,r10,m10,g10⟩:=HGW.zo.m1.put (t:=250) mF underlying250 (by unfold maxLen;omega) (WideMaps.keyOf_string_mk underlying9 HS.zo) trivial m.n HIM.zo;have WW:=aa (HGW.zo.aaA g10 m10);have y8:=(cell_grown (j:=8) g10 (show h+3<W.heap.size by omega) (by simp)).trans d8;have y0:=(cell_grown (j:=0) g10 (show wr.heap.size<W.heap.size from hWs) (by simp;omega)).trans d0;have y1:=(cell_grown (j:=1) g10 (show wr.heap.size<W.heap.size from hWs) (by simp;omega)).trans d1;have ahZ:=g10.size;obtain⟨W11,r11,m11,g11⟩:=WW.zo.m2.put (t:=113) mF underlying113 (by unfold maxLen;omega) (WideMaps.keyOf_string_mk underlying9 HS.zo) trivial true;have agq:=aa (WW.zo.agn g11 m11);have h8:=(cell_grown (j:=8) g11 (show h+3<W10.heap.size by have:W.drew.heap.size=W.heap.size:=rfl;omega) (by simp)).trans y8;clear hW hxW c8 hlook hld m10 g10 m11 g11;go_region
    (try go_frame)
    go_wp2;refine⟨⟨k+1,n1+1,n2+1,_,_,by omega,by omega,by omega,by go_num,agq.zo,by rw[Xt.zo];exact yq HF1.zo m.name m.n,by rw[Xt.zo];exact OY HF2.zo m.name true,fun s=> ?_⟩,?_⟩
    ·rw[Xt.zo]
     show I64 (wJ _ _ _ s);unfold wJ;split
     ·exact HIM.zo
     ·exact HIK.zo s
    ·simp[intOf];omega
  ·obtain rfl:mn=k:=by omega
   have hp0:=HG.zo.YG (j:=0) (u:=.slice o1 p.defs.length q1) (by rw[<-Xs.zo];rfl);have M:=Sq (n:=p.defs.length) (hn:=by omega);have hpl:pc.length=8:=by rw[<-Xs.zo];rfl
   have Rp:∀w',af wr w'->_:=fun w' he=>(HG.zo.exts he).agp hpl
   clear c8;rw[Xs.zo]at HP;obtain⟨ctx,TP⟩:∃ctx,pc++ [Value.map (some (h+2)),.slice zo zn zc]=ctx:=⟨_,rfl⟩;have Lc:=aa TP;have hcl:ctx.length=10:=by rw[<-TP,dG,hpl];rfl
   have hc1:ctx.all (·.oneCell')=true:=by rw[<-TP,<-Xs.zo];rfl
   rw[TP]at HG;have adY:=HM.zo.1;clear TP;cases hod:kK p.defs with
   |none=>
    have HO:=aa hod;have Ic:Hid (pF p ms zs=(oX ms mn).1):=aa (by unfold pF;rw[hod,adY]);clear hod;go_wp2_with ((with_reducible refine ag (aaB p pc _ (bq.exts HP.zo (HG.zo.ext.trans ae)) hfew EM.zo HO.zo) ?_);rintro e w3 ⟨hx3,a,m,c,e3,rfl,hk0⟩;(have Tl:=aa (HG.zo.exts (af.trans ae hx3)));(have hk1:(e3==0)=false:=by simpa using hk0);(have hk2:(e3 !=0)=true:=by simpa using hk0);(have agr:=Tl.zo.TN hcl);(have hst:=Tl.zo.YH ctx hcl hc1);(obtain⟨hfi,hlf⟩:=Tl.zo.fin ctx hcl);(have HFI:=aa hfi);clear hx3 hfi)
    refine bodyPost_ret (v:=.tuple #[.agg ctx.toArray,.slice (some ⟨wr.heap.size,0,none⟩) p.defs.length p.defs.length]) (by rw[results_cell_tmp rfl];simp[go_sem,hlf]) rfl ?_;refine⟨ctx,_,rfl,HFI.zo.ext,?_,?_⟩
    ·rw[Ic.zo]
     exact HFI.zo.Xq Lc.zo HP.zo HZ.zo HF1.zo
    ·rw[Ic.zo]
     exact HIK.zo
   |some l=>
    have HO:=aa hod;clear hod;go_wp2_with ((with_reducible refine ag (Xr p pc _ (bq.exts HP.zo (HG.zo.ext.trans ae)) hfew EM.zo HO.zo) ?_);rintro e w3 ⟨hx3,oo,oc,rfl,hso⟩;(have iU:=aa (show af wr w3 from af.trans ae hx3));(have HB3:=aa (uI.made hx3));(have D8:=aa hso);clear hx3 hso)
    rw[World.size_alloc]at D8;have Tl:=aa (HG.zo.exts iU.zo);have CO:=aa (OZ HO.zo);have Ic:Hid (pF p ms zs=uZ p ms zs l l.length):=aa (by unfold pF;rw[HO.zo]);obtain⟨V,hV⟩:∃V,wr.heap.size=V:=⟨_,rfl⟩;have hVh:h+5<=V:=by omega
    obtain⟨n,hn⟩:∃n,p.defs.length=n:=⟨_,rfl⟩;have HN:=aa hn;have hll:l.length<=4:=by rw[La HO.zo];exact hfew
    rw[hV]at HB3 D8 ⊢;rw[hn]at HB3 H1 CO hp0 ⊢;rw[<-adY]at HF1 HF2 HIK;clear Rp hp0;go_loopw [61] (fun i wr2=> ∃(j n1:Nat)(f1:Lit->Int)(vals:List Int),j<=l.length/\n1<=mn+j/\i=.int .i64 j/\PG w wr2 h pc ctx n1 n2 f1 f2/\uI wr2 V vals/\vals.length=n/\aq dv (V+1) 3 wr2 (.slice oo l.length oc) l/\(∀s:ByteArray,f1 (.string s.data.toList)=uZ p ms zs l j s)/\(∀s,I64 (uZ p ms zs l j s))/\∀(i:Nat)(d:Def),p.defs[i]?=some d->ow d.body=false->vals.getD i 0=0) (fun i _=>l.length - (intOf i).toNat)
    case atStart=>exact⟨0,n1,f1,_,by omega,by omega,rfl,Tl.zo,HB3.zo,by simp,D8.zo,HF1.zo,HIK.zo,fun i d _ _=>by rw[List.getD_eq_getElem?_getD,List.getElem?_replicate];split<;>rfl⟩
    case round=>
     clear HG HF1 HIK hlt hsz Tl HB3 D8;obtain⟨j,n1,f1,vals,hj,hn1,rfl,hg,hb,hvl,hso,hf1,hik,hz0⟩:=hrel;have ym:=aa hg;have HB4:=aa hb;have yn:=aa hso;have Kl:=aa hf1;have Ld:=aa hik;have HZ4:=aa hz0;have hlt:=hg.lt;have lV:=hb.lt;have hx:=hg.ext;have hsz:=hx.below.size;have c8:=hg.cell (j:=8) (u:=.map (some (h+2))) (by rw[<-Lc.zo,<-Xs.zo];rfl);have hp0:=hg.YG (j:=0) (u:=.slice o1 n q1) (by rw[<-Xs.zo,<-HN.zo];rfl);clear hg hb hso hf1 hik hz0;by_cases hjl:j<l.length
     ·obtain⟨x,hxl⟩:∃x,l[j]?=some x:=⟨_,fZ hjl⟩
      obtain⟨i,rfl,hin⟩:=CO.zo x (gH hxl);obtain⟨ob2,of2,rfl,lo2,oc2,-⟩:=dV (yn.zo.sl rfl) hxl;obtain⟨d,hd⟩:=H1.zo.ex hin;obtain⟨b,off,cs,rfl,lb,hR,cZ⟩:=H1.zo.ld hd;obtain⟨ob,cb,rfl,hs0,hxv⟩:=hR;have hld:∀w',af wr w'->_:=fun w' he=>cZ w' (hx.trans he)
      have agr:∀w',af wr w'->_:=fun w' he=>(ym.zo.exts he).TN hcl
      have HS:=aa hs0;have wH:=aa (show(j7).R w _ d.body from yv.shut hxv);have JN:=aa (O7 (p:=p) (ms:=ms) (zs:=zs) hxl);have ed:p.defs.getD ((i:Int).toNat) default=d:=by rw[Int.toNat_natCast,List.getD_eq_getElem?_getD,hd];rfl
      have hvi:=wX (o:=vals) (k:=i) (by omega);obtain⟨t,ht⟩:∃t,(oX ms ms.length).2 d.name=t:=⟨_,rfl⟩;have HT:=aa ((HF2.zo d.name).trans ht);have hlook:∀w',af wr w'->(Instr.lookup 113 (.map (some (h+4))) (.string d.name) false).run prog w'=.ok (.bool t) w':=fun w' he=>by
       rw[<-HT.zo];exact(ym.zo.m2.exts he).look mF underlying113 (WideMaps.keyOf_string_mk underlying9 HS.zo)
      have hkv:qW p (oX ms ms.length).2 zs (uZ p ms zs l j) (i:Int)=if t=true then uZ p ms zs l j else wJ (uZ p ms zs l j) d.name (if ow d.body=true then qM 12 ⟨p,uZ p ms zs l j,zs⟩ d.body else 0):=by
       unfold qW ZC;rw[ed,ht]
      rw[hkv]at JN;have v0:(0:Int)<=(i:Int):=by omega
      have v1:(i:Int)<(n:Int):=by omega
      have HD:=aa hd;obtain⟨r,hr⟩:∃r,ow d.body=r:=⟨_,rfl⟩;have HR:=aa hr;rw[hr]at JN;clear cZ hs0 hxv hxl hd ed ht hkv hx hr;cases r with
      |true=>
       have GH:=aa (JV 12 d.body (of_decide_eq_true HR.zo));obtain⟨y,hy⟩:∃y,qM 12 ⟨p,uZ p ms zs l j,zs⟩ d.body=y:=⟨_,rfl⟩;have HY:=aa hy;rw[if_pos rfl,hy]at JN;clear hy;cases t with
       |true=>
        rw[if_pos rfl]at JN;go_wp2_with (first|((with_reducible refine ag (kB d.body _ _ (j7.exts wH.zo (ym.zo.ext.trans ae))) ?_);rintro e w4 ⟨rfl,x4,rfl⟩;rw[HR.zo])|(go_at_call 162;((with_reducible refine ag (Cv ⟨p,uZ p ms zs l j,zs⟩ Ld.zo 12 d.body _ _ _ GH.zo ((ym.zo.exts ae).Xq Lc.zo HP.zo HZ.zo Kl.zo) (j7.exts wH.zo (ym.zo.ext.trans ae))) ?_);rintro e w5 ⟨rfl,hx5,hI5⟩;rw[HY.zo]at hI5 ⊢;(have CG:=aa (show af wr w5 from af.trans ae hx5));(have HI5:=aa hI5);(have z0:w5.cell? ⟨wr.heap.size,0,none⟩=some (.string d.name):=af.cell hx5 (by simp[go_sem]));(have HG5:=aa (ym.zo.exts CG.zo));(have Om:=aa (HB4.zo.exts CG.zo));(have zv:=Om.zo.cell hvi);(have zf:=Om.zo.fz i);(have lV5:=Om.zo.lt);(have s5:(w5.setCell ⟨V,i,none⟩ (.int .i64 y)).heap.size=w5.heap.size:=by simp[World.setCell]);(have UI:=aa (HG5.zo.kept (bW w5 V i (.int .i64 y)) (fun b' hb'=>by cases hb';omega)));(have z6:(w5.setCell ⟨V,i,none⟩ (.int .i64 y)).cell? ⟨wr.heap.size,0,none⟩=_:=(cell_grown (bW w5 V i (.int .i64 y)) (bP z0) (by simp;omega)).trans z0);(have HB6:=aa (Om.zo.set i y));(have hl6:=UI.zo.m2.look (t:=113) mF underlying113 (WideMaps.keyOf_string_mk underlying9 HS.zo));rw[HT.zo]at hl6;clear hx5 hI5)))
        have SA:=aa (aq.wZ eZ (yn.zo.exts CG.zo) (bW w5 V i (.int .i64 y)) fun b' hb' e=>by
         obtain⟨xs,h1,_⟩:=yn.zo;have:=cm h1 b' hb';simp only[Option.some.injEq]at e;omega)
        have HZ6:=aa (show∀(i2:Nat)(d2:Def),p.defs[i2]?=some d2->ow d2.body=false->(vals.set i y).getD i2 0=0 from fun i2 d2 h2 h3=>by
         rw[pX];split
         ·rename_i h4
          obtain⟨rfl,_⟩:=h4;rw[HD.zo]at h2;cases h2;rw[HR.zo]at h3;cases h3
         ·exact HZ4.zo i2 d2 h2 h3)
        refine⟨⟨j+1,n1,f1,vals.set i y,by omega,by omega,by go_num,UI.zo,HB6.zo,by rw[List.length_set,hvl],SA.zo,by rw[JN.zo];exact Kl.zo,by rw[JN.zo];exact Ld.zo,HZ6.zo⟩,?_⟩;simp[intOf];omega
       |false=>
        rw[if_neg (by simp)]at JN;go_wp2_with (first|((with_reducible refine ag (kB d.body _ _ (j7.exts wH.zo (ym.zo.ext.trans ae))) ?_);rintro e w4 ⟨rfl,x4,rfl⟩;rw[HR.zo])|(go_at_call 162;((with_reducible refine ag (Cv ⟨p,uZ p ms zs l j,zs⟩ Ld.zo 12 d.body _ _ _ GH.zo ((ym.zo.exts ae).Xq Lc.zo HP.zo HZ.zo Kl.zo) (j7.exts wH.zo (ym.zo.ext.trans ae))) ?_);rintro e w5 ⟨rfl,hx5,hI5⟩;rw[HY.zo]at hI5 ⊢;(have CG:=aa (show af wr w5 from af.trans ae hx5));(have HI5:=aa hI5);(have z0:w5.cell? ⟨wr.heap.size,0,none⟩=some (.string d.name):=af.cell hx5 (by simp[go_sem]));(have HG5:=aa (ym.zo.exts CG.zo));(have Om:=aa (HB4.zo.exts CG.zo));(have zv:=Om.zo.cell hvi);(have zf:=Om.zo.fz i);(have lV5:=Om.zo.lt);(have s5:(w5.setCell ⟨V,i,none⟩ (.int .i64 y)).heap.size=w5.heap.size:=by simp[World.setCell]);(have UI:=aa (HG5.zo.kept (bW w5 V i (.int .i64 y)) (fun b' hb'=>by cases hb';omega)));(have z6:(w5.setCell ⟨V,i,none⟩ (.int .i64 y)).cell? ⟨wr.heap.size,0,none⟩=_:=(cell_grown (bW w5 V i (.int .i64 y)) (bP z0) (by simp;omega)).trans z0);(have HB6:=aa (Om.zo.set i y));(have hl6:=UI.zo.m2.look (t:=113) mF underlying113 (WideMaps.keyOf_string_mk underlying9 HS.zo));rw[HT.zo]at hl6;clear hx5 hI5)))
        have SA:=aa (aq.wZ eZ (yn.zo.exts CG.zo) (bW w5 V i (.int .i64 y)) fun b' hb' e=>by
         obtain⟨xs,h1,_⟩:=yn.zo;have:=cm h1 b' hb';simp only[Option.some.injEq]at e;omega)
        have HZ6:=aa (show∀(i2:Nat)(d2:Def),p.defs[i2]?=some d2->ow d2.body=false->(vals.set i y).getD i2 0=0 from fun i2 d2 h2 h3=>by
         rw[pX];split
         ·rename_i h4
          obtain⟨rfl,_⟩:=h4;rw[HD.zo]at h2;cases h2;rw[HR.zo]at h3;cases h3
         ·exact HZ4.zo i2 d2 h2 h3)
        refine bI ?_;intro W6 Xu;have Xv:=aa (show PG w W6 h pc ctx n1 n2 f1 f2 by rw[Xu];exact UI.zo);have Ww:=aa (show uI W6 V (vals.set i y)by rw[Xu];exact HB6.zo);have TQ:=aa (show aq dv (V+1) 3 W6 (.slice (some ⟨ob2,of2,none⟩) l.length oc) l by rw[Xu];exact SA.zo);have z8:W6.cell? ⟨wr.heap.size,0,none⟩=some (.string d.name):=by rw[Xu];exact z6
        have hcx:=Xv.zo.cell (j:=8) (u:=.map (some (h+2))) (by rw[<-Lc.zo,<-Xs.zo];rfl);have lW:=Xv.zo.lt;have lz:=bP z8;have lV8:=Ww.zo.lt;have zv8:=Ww.zo.cell (i:=i) (x:=y) (by rw[List.getElem?_set,if_pos rfl,if_pos (by omega)]);obtain⟨W7,r7,m7,g7⟩:=(Xv.zo.exts (ae:af W6 W6.drew)).m1.put (t:=250) mF underlying250 (by unfold maxLen;omega) (WideMaps.keyOf_string_mk underlying9 HS.zo) trivial y HI5.zo;have HG7:=aa ((Xv.zo.exts (ae:af W6 W6.drew)).aaA g7 m7);have HB7:=aa ((Ww.zo.exts (ae:af W6 W6.drew)).kept g7 (by simp;omega));have aaC:=aa (aq.wZ eZ (TQ.zo.exts (ae:af W6 W6.drew)) g7 fun b' hb' e=>by
         obtain⟨xs,h1,_⟩:=TQ.zo;have:=cm h1 b' hb';simp only[Option.some.injEq]at e;omega)
        clear Xu m7 g7;go_region
        (try go_frame)
        go_wp2;refine⟨⟨j+1,n1+1,_,vals.set i y,by omega,by omega,by go_num,HG7.zo,HB7.zo,by rw[List.length_set,hvl],aaC.zo,by rw[JN.zo];exact yq Kl.zo d.name y,fun s=> ?_,HZ6.zo⟩,?_⟩
        ·rw[JN.zo]
         unfold wJ;split
         ·exact HI5.zo
         ·exact Ld.zo s
        ·simp[intOf];omega
      |false=>
       rw[if_neg (show ¬false=true by simp)]at JN;have hv0:=HZ4.zo i d HD.zo HR.zo;cases t with
       |true=>
        rw[if_pos rfl]at JN;go_wp2_with ((with_reducible refine ag (kB d.body _ _ (j7.exts wH.zo (ym.zo.ext.trans ae))) ?_);rintro e w4 ⟨rfl,x4,rfl⟩;rw[HR.zo])
        refine⟨⟨j+1,n1,f1,vals,by omega,by omega,by go_num,ym.zo.exts ae,HB4.zo.exts ae,hvl,yn.zo.exts ae,by rw[JN.zo];exact Kl.zo,by rw[JN.zo];exact Ld.zo,HZ4.zo⟩,?_⟩;simp[intOf];omega
       |false=>
        rw[if_neg (show ¬false=true by simp)]at JN;have HI0:Hid (I64 0):=aa (by unfold I64;omega);go_wp2_with ((with_reducible refine ag (kB d.body _ _ (j7.exts wH.zo (ym.zo.ext.trans ae))) ?_);rintro e w4 ⟨rfl,x4,rfl⟩;rw[HR.zo])
        refine bI ?_;intro W6 Xu;have PD:=aa (show af wr W6 by rw[Xu];exact ae);have Xv:=aa (ym.zo.exts PD.zo);have Ww:=aa (HB4.zo.exts PD.zo);have TQ:=aa (yn.zo.exts PD.zo);have z8:W6.cell? ⟨wr.heap.size,0,none⟩=some (.string d.name):=by rw[Xu];simp[go_sem]
        have hcx:=Xv.zo.cell (j:=8) (u:=.map (some (h+2))) (by rw[<-Lc.zo,<-Xs.zo];rfl);have lW:=Xv.zo.lt;have lz:=bP z8;have lV8:=Ww.zo.lt;have zv8:=Ww.zo.cell (i:=i) (x:=0) (by rw[hvi,hv0]);obtain⟨W7,r7,m7,g7⟩:=(Xv.zo.exts (ae:af W6 W6.drew)).m1.put (t:=250) mF underlying250 (by unfold maxLen;omega) (WideMaps.keyOf_string_mk underlying9 HS.zo) trivial 0 HI0.zo;have HG7:=aa ((Xv.zo.exts (ae:af W6 W6.drew)).aaA g7 m7);have HB7:=aa ((Ww.zo.exts (ae:af W6 W6.drew)).kept g7 (by simp;omega));have aaC:=aa (aq.wZ eZ (TQ.zo.exts (ae:af W6 W6.drew)) g7 fun b' hb' e=>by
         obtain⟨xs,h1,_⟩:=TQ.zo;have:=cm h1 b' hb';simp only[Option.some.injEq]at e;omega)
        clear Xu m7 g7;go_region
        (try go_frame)
        go_wp2;refine⟨⟨j+1,n1+1,_,vals,by omega,by omega,by go_num,HG7.zo,HB7.zo,hvl,aaC.zo,by rw[JN.zo];exact yq Kl.zo d.name 0,fun s=> ?_,HZ4.zo⟩,?_⟩
        ·rw[JN.zo]
         unfold wJ;split
         ·exact HI0.zo
         ·exact Ld.zo s
        ·simp[intOf];omega
     ·obtain rfl:l.length=j:=by omega
      have HG9:=ym.zo.TN hcl;have hst:=ym.zo.YH ctx hcl hc1;obtain⟨hfi,hlf⟩:=ym.zo.fin ctx hcl;have HFI:=aa hfi;clear hfi;go_wp2;refine bodyPost_ret (v:=.tuple #[.agg ctx.toArray,.slice (some ⟨V,0,none⟩) n n]) (by rw[results_cell_tmp rfl];simp[go_sem,hlf]) rfl ?_;refine⟨ctx,_,rfl,HFI.zo.ext,?_,?_⟩
      ·rw[Ic.zo]
       exact HFI.zo.Xq Lc.zo HP.zo HZ.zo Kl.zo
      ·rw[Ic.zo]
       exact Ld.zo
end
theorem O8{w:World}{cs:zv}{c:Ctx}(h:GU w cs c):∃o1 n1 c1 o2 n2 c2 o3 n3 c3 o4 n4 c4 o5 n5 c5 o6 n6 c6 o7 n7 c7 k m o8 n8 c8,cs= [.slice o1 n1 c1,.slice o2 n2 c2,.slice o3 n3 c3,.slice o4 n4 c4,.slice o5 n5 c5,.slice o6 n6 c6,.slice o7 n7 c7,.int .i64 k,.map m,.slice o8 n8 c8]:=by
 obtain⟨pc,b,n,f,zo,zc,rfl,⟨o1,q1,o2,q2,o3,q3,o4,q4,o5,q5,o6,q6,o7,q7,rfl,_⟩,_⟩:=h;exact⟨_,_,_,_,_,_,_,_,_,_,_,_,_,_,_,_,_,_,_,_,_,_,_,_,_,_,rfl⟩
theorem aaD(p:Plan)(pc:zv)(mo:Option Addr)(mn mc:Nat)(ms:List Entry)(zo:Option Addr)(zn zc:Nat)(zs:List ByteArray)(e:Xp)(es:zv)(w:World)(hp:bq.R w pc p)(hms:Sl eY w mo mn mc ms)(hz:Sl fC w zo zn zc zs)(he:j7.R w es e)(hfew:p.defs.length<=4)(hnm:∀d∈p.defs,(dS d.body).length<=1000000)(hmn:mn<=1000):
 Calls prog 77 #[.agg pc.toArray,.slice mo mn mc,.slice zo zn zc,.agg es.toArray] w fun r w'=>r=.returned (.int .i64 (qp p ms zs e))/\af w w'/\I64 (qp p ms zs e):=by
 have HP:=aa hp;have HE:=aa he;obtain⟨o1,q1,o2,q2,o3,q3,o4,q4,o5,q5,o6,q6,o7,q7,rfl,h1,_⟩:=hp;obtain⟨eo,ec,rfl,_⟩:=(show iP w es e from he).opened;have HM:=aa hms;have HZ:=aa hz;have EM:=aa hnm;have HEV:Hid (qp p ms zs e=if ow e=true then qM 12 ⟨p,pF p ms zs,zs⟩ e else 0):=aa rfl;obtain⟨r,hr⟩:∃r,ow e=r:=⟨_,rfl⟩;have HR:=aa hr;rw[hr]at HEV;clear h1 hms hz hnm he hr;cases r with
 |false=>
  rw[if_neg (by simp)]at HEV;go_enter func77,ntmps77;go_wp2_with ((with_reducible refine ag (kB e _ _ (j7.exts HE.zo ae)) ?_);rintro r' w4 ⟨rfl,x4,rfl⟩;rw[HR.zo])
  go_ret;exact⟨by rw[HEV.zo];rfl,ae,by rw[HEV.zo];unfold I64;omega⟩
 |true=>
  rw[if_pos rfl]at HEV;have GH:=aa (JV 12 e (of_decide_eq_true HR.zo));go_enter func77,ntmps77;go_wp2_with (first|((with_reducible refine ag (kB e _ _ (j7.exts HE.zo ae)) ?_);rintro r' w4 ⟨rfl,x4,rfl⟩;rw[HR.zo])|((with_reducible refine ag (Lb p _ _ _ _ ms _ _ _ zs _ (bq.exts HP.zo ae) (HM.zo.exts ae) (HZ.zo.exts ae) hfew EM.zo hmn) ?_);rintro r' w5 ⟨cs,vv,rfl,⟨y5,rfl⟩,hc,hI⟩;rw[il]at hc;(have HC:=aa hc);(have HI:=aa hI);(have hcs:=O8 hc);(obtain⟨a1,a2,a3,a4,a5,a6,a7,a8,a9,a10,a11,a12,a13,a14,a15,a16,a17,a18,a19,a20,a21,a22,a23,a24,a25,a26,rfl⟩:=hcs);clear hc hI)|((with_reducible refine ag (Cv ⟨p,pF p ms zs,zs⟩ HI.zo 12 e _ _ _ GH.zo ?_ ?_) ?_);exact HC.zo.exts ae;exact j7.exts HE.zo ae;rintro r' w6 ⟨rfl,hx6,hI6⟩;(have PD:=aa (show af w w6 from af.trans ae hx6));(have HI6:=aa hI6);clear hx6 hI6))
  go_ret;exact⟨by rw[HEV.zo];rfl,PD.zo,by rw[HEV.zo];exact HI6.zo⟩
structure aaE(s:jH):Prop where
 bJ:s.bJ=dw s.d
 ph:s.d.phases.length<=3
 pv:∀(i:Nat)(x:Phase),s.d.phases[i]?=some x->x.cA.length<=3
 area:ew s.lot.area=true
 al:s.lot.area.length<=200
 vr:∀v∈s.bJ,iE v=true
 defs:s.cC.plan.defs.length<=4
 nm:∀d∈s.cC.plan.defs,(dS d.body).length<=1000000
theorem Jy(s:jH)(r:Rule)(hk:r.kind=0)(hs:aaE s)(ur rcs:zv)(w:World)(h:(jO).R w ur s)(hr:(aw).R w rcs r):Calls prog 26 #[.agg ur.toArray,.agg rcs.toArray] w (cX (.bool (qp s.cC.plan (oK s.cC.plan s.lot.area s.bJ) s.zones r.test==0)) w):=by
 obtain⟨dK,dL,dp,dt,dA,dB,dC,dD,dM,dN,dE,dF,dW,dX,gW,gX,gJ,gK,gY,gZ,gL,gM,ic,ie,gA,gB,ig,ij,gC,gD,ng,nh,ly,lC,rfl,zD,zE,zF,zG,zH,zI,zJ,zK,A9,Ba,sx,rH,sA,rI,rJ,ql,rK,rL,rM,sB,rN⟩:=h;obtain⟨cN,cO,dY,dZ,ej,ek,rfl,Bb,Bc,Bd,Bf,Bg,Bh,Bi,zL,zM,zN,rO,rP,sD,sF,sG⟩:=hr;have HP:=aa (show(bq).R w [.slice dK s.cC.plan.defs.length dL,.slice dp s.cC.plan.tables.length dt,.slice dA s.cC.plan.zones.length dB,.slice dC s.cC.plan.rules.length dD,.slice dM s.cC.plan.caps.length dN,.slice dE s.cC.plan.views.length dF,.slice dW s.cC.plan.eA.length dX,.int .i64 s.cC.plan.hours] s.cC.plan from⟨dK,dL,dp,dt,dA,dB,dC,dD,dM,dN,dE,dF,dW,dX,rfl,zD,zE,zF,zG,zH,zI,zJ,zK⟩);have HL:=aa (show(pM).R w [.int .i64 s.lot.id,.int .i64 s.lot.owner,.slice gA s.lot.area.length gB,.slice ig s.lot.old.length ij] s.lot from⟨gA,gB,ig,ij,rfl,rI,rJ,ql,rK⟩);have HD:=aa (show(e6).R w [.int .i64 s.d.lot,.slice gC s.d.phases.length gD] s.d from⟨gC,gD,rfl,rL,rM⟩);have HZ:=aa rN;have HT:=aa zL;have HK:=aa hs;have HVR:=aa (show∀v∈dw s.d,iE v=true by rw[<-hs.bJ];exact hs.vr);obtain⟨V,hV⟩:∃V,qp s.cC.plan (oK s.cC.plan s.lot.area s.bJ) s.zones r.test=V:=⟨_,rfl⟩;have HV:=aa (show qp s.cC.plan (oK s.cC.plan s.lot.area (dw s.d)) s.zones r.test=V by rw[<-hs.bJ];exact hV);rw[hV,hk];clear hk hs hV zD zE zF zG zH zI zJ zK A9 Ba sx rH sA rI rJ ql rK rL rM sB rN Bb Bc Bd Bf Bg Bh Bi zL zM zN rO rP sD sF sG;go_enter func26,ntmps26;go_wp2;refine b9 (S:=fun w'=> ∃x,w'=av _ x) [0,1,3,4,6,8,11,13] [([2,5,7,9,12,14],10),([],15)] [] [16,17] (by kernel_rfl) (by kernel_rfl) ⟨_,by first|exact dx _|exact ai _ _⟩ ?_;try simp only[bX,pick,eh]
 try change wpQuiet _ _ _ _ (_::_) _
 repeat (go_big_quiet_step (fail))
 refine wpQuiet_nil ?_;try change wpQuiet _ _ _ _ (_::_) _
 repeat (go_big_quiet_step (fail))
 refine wpQuiet_nil ?_;try change wpList _ _ _ (_::_) _ _
 go_wp2_with ((with_reducible refine ag (agj s.cC.plan s.lot s.d _ _ _ _ ?_ ?_ ?_ HK.zo.ph HK.zo.pv HK.zo.area HVR.zo HK.zo.al) ?_);exact(bq).exts HP.zo ae;exact(pM).exts HL.zo ae;exact(e6).exts HD.zo ae;rintro e w' ⟨mo,mc,rfl,⟨x1,rfl⟩,hs1⟩;(have HM:=aa hs1);clear hs1)
 refine dn (by first|exact⟨_,(cF _).symm⟩|exact⟨_,rfl⟩|exact ae) ?_;try simp only[bX,pick,eh]
 try change wpQuiet _ _ _ _ (_::_) _
 repeat (go_big_quiet_step (fail))
 refine wpQuiet_nil ?_;try change wpList _ _ _ (_::_) _ _
 go_wp2_with ((with_reducible refine ag (aaD s.cC.plan _ _ _ _ (oK s.cC.plan s.lot.area (dw s.d)) _ _ _ s.zones r.test _ _ ?_ ?_ ?_ ?_ HK.zo.defs HK.zo.nm (by decide)) ?_);exact(bq).exts HP.zo ae;exact HM.zo.exts ae;exact HZ.zo.exts ae;exact(HT.zo.exts ae).shut;rintro e w' ⟨rfl,⟨x2,rfl⟩,hi⟩;(have HI:=aa hi);rw[HV.zo];clear hi)
 refine dn (by first|exact⟨_,(cF _).symm⟩|exact⟨_,rfl⟩|exact ae) ?_;try simp only[bX,pick,eh]
 try change wpQuiet _ _ _ _ (_::_) _
 repeat (go_big_quiet_step (fail))
 refine wpQuiet_nil ?_;try change wpList _ _ _ (_::_) _ _
 go_wp2;refine cV ?_;go_wp2;go_ret;exact⟨rfl,ae⟩
theorem TR(s:jH)(r:Rule)(hs:aaE s)(ur rcs:zv)(w:World)(h:(jO).R w ur s)(hr:(aw).R w rcs r):Calls prog 26 #[.agg ur.toArray,.agg rcs.toArray] w (cX (.bool (xS s r)) w):=by
 unfold xS;by_cases h0:r.kind=0
 ·rw[if_pos h0]
  exact Jy s r h0 hs ur rcs w h hr
 ·rw[if_neg h0]
  by_cases h1:r.kind=1
  ·rw[if_pos h1]
   exact Hq s r h1 hs.vr ur rcs w h hr
  ·rw[if_neg h1]
   by_cases h2:r.kind=2
   ·rw[if_pos h2]
    exact Hn s r h2 hs.vr ur rcs w h hr
   ·rw[if_neg h2]
    by_cases h3:r.kind=3
    ·rw[if_pos h3]
     exact Ho s r h3 hs.vr ur rcs w h hr
    ·rw[if_neg h3]
     exact Hp s r h0 h1 h2 h3 ur rcs w h hr
theorem Jz{l:List gR}(h:oF l=true):∀v∈l,iE v=true:=fun v hv=>by
 obtain⟨i,hi⟩:=List.getElem?_of_mem hv;have hl:=(bw hi).1;have:=List.all_eq_true.1 h i (List.mem_range.2 hl);unfold pD at this;rw[hi]at this;simp at this;exact this.1
theorem O9{t:mD}{d:rW}{c:Int}(h:ml t d=.error c):c=4∨c=1:=by
 unfold ml at h;split at h
 ·cases h;exact .inl rfl
 ·split at h
  ·cases h
  ·cases h;exact .inr rfl
theorem TS{t:mD}{d:rW}{s:jH}(h:ml t d=.ok s)(hf:sX t d):s.cC=t/\s.d=d/\s.bJ=dw d/\aaE s:=by
 unfold ml at h;split at h
 ·cases h
 ·rename_i lot hl
  split at h
  ·rename_i hd
   simp only[Except.ok.injEq]at h;subst h;unfold jC sI at hd;simp only[Bool.and_eq_true]at hd;obtain⟨i,hi⟩:=List.getElem?_of_mem (List.mem_of_find?_eq_some hl);exact⟨rfl,rfl,rfl,rfl,hf.phases,fun i x hx=>(hf.phase i x hx).1,hd.2.2.1,(hf.lot i lot hi).1,Jz hd.1.2.1,hf.defs,hf.nm⟩
  ·cases h
theorem rD(s:jH)(day:Int):∀j,(gN s day j).length<=j
 |0=>by simp[gN]
 |j+1=>by
  have ih:=rD s day j;unfold gN at ih ⊢;rw[List.take_add_one,List.foldl_append];cases h:(di s.zones day s.cC.plan.rules s.cC.plan.rules.length)[j]? with
  |none=>simp;omega
  |some x=>
   simp only[Option.toList_some,List.foldl_cons,List.foldl_nil,Bv,xT,addN];split
   ·rw[dG];simp;omega
   ·omega
theorem Dr{s:jH}{day:Int}{j:Nat}{i:Nat}{r:Rule}(h:(di s.zones day s.cC.plan.rules s.cC.plan.rules.length)[j]?=some (i:Int))(hr:s.cC.plan.rules[i]?=some r):gN s day (j+1)=addN (gN s day j) r.name (xS s r):=by
 unfold gN;rw[List.take_add_one,List.foldl_append,h];simp only[Option.toList_some,List.foldl_cons,List.foldl_nil,Bv,xT];rw[Int.toNat_natCast,List.getD_eq_getElem?_getD,hr];rfl
theorem Cw(zs:List ByteArray)(day:Int)(l:List Rule)(n:Nat):(di zs day l n).length<=n:=by
 unfold di;rw[List.length_map];exact Nat.le_trans (List.length_filter_le _ _) (by simp)
def xn(r:List ByteArray×Int)(w:World)(e:Ending)(w':World):Prop:= ∃oo oc,e=.returned (.tuple #[.slice oo r.1.length oc,.int .i64 r.2])/\af w w'/\Sl fC w' oo r.1.length oc r.1
theorem JA(t:mD)(d:rW)(day c:Int)(ts ds:zv)(w:World)(he:ml t d=.error c)(hg:Gl w)(h:(gg).R w ts t)(h2:(e6).R w ds d)(hf:sX t d):Calls prog 9 #[.agg ts.toArray,.agg ds.toArray,.int .i64 day] w (xn ([],c) w):=by
 have HT:=aa h;have HD:=aa h2;have HF:=aa hf;have HG:=aa hg;have HE:=aa he;have hc:=O9 he;obtain⟨aO,aP,ax,ay,aG,aH,aB,aC,aQ,aR,aI,aJ,bk,bm,cG,cH,bQ,bU,cI,cJ,bY,bZ,cL,cM,rfl,q0,q1,q2,q3,q4,q5,q6,q7,q8,q9,q10,q11,q12⟩:=h;obtain⟨cQ,cR,rfl,r0,r1⟩:=h2;clear hf hg he q0 q1 q2 q3 q4 q5 q6 q7 q8 q9 q10 q11 q12 r0 r1;rcases hc with rfl|rfl
 ·go_enter func9,ntmps9
  go_wp2_with ((with_reducible refine ag (KY t d _ _ _ ?_ ?_ ?_ HF.zo) ?_);exact HG.zo.exts ae;exact(gg).exts HT.zo ae;exact(e6).exts HD.zo ae;rw[HE.zo];rintro e w' ⟨rfl,⟨x1,rfl⟩⟩)
  refine bodyPost_ret (v:=.tuple #[.slice none 0 0,.int .i64 4]) (by simp[results,go_sem]) rfl ?_;exact⟨none,0,rfl,ae,Sl.nil _ _⟩
 ·go_enter func9,ntmps9
  go_wp2_with ((with_reducible refine ag (KY t d _ _ _ ?_ ?_ ?_ HF.zo) ?_);exact HG.zo.exts ae;exact(gg).exts HT.zo ae;exact(e6).exts HD.zo ae;rw[HE.zo];rintro e w' ⟨rfl,⟨x1,rfl⟩⟩)
  refine bodyPost_ret (v:=.tuple #[.slice none 0 0,.int .i64 1]) (by simp[results,go_sem]) rfl ?_;exact⟨none,0,rfl,ae,Sl.nil _ _⟩
theorem Le(t:mD)(d:rW)(day:Int)(s:jH)(ts ds:zv)(w:World)(he:ml t d=.ok s)(hg:Gl w)(h:(gg).R w ts t)(h2:(e6).R w ds d)(hf:sX t d):Calls prog 9 #[.agg ts.toArray,.agg ds.toArray,.int .i64 day] w (xn (uv s day,0) w):=by
 have HT:=aa h;have HD:=aa h2;have HF:=aa hf;have HG:=aa hg;have HE:=aa he;obtain⟨et,ed,ev,hok⟩:=TS he hf;have ET:=aa et;have ED:=aa ed;have GH:=aa hok;obtain⟨aO,aP,ax,ay,aG,aH,aB,aC,aQ,aR,aI,aJ,bk,bm,cG,cH,bQ,bU,cI,cJ,bY,bZ,cL,cM,rfl,q0,q1,q2,q3,q4,q5,q6,q7,q8,q9,q10,q11,q12⟩:=h;obtain⟨cQ,cR,rfl,r0,r1⟩:=h2;have HP:=aa (show(bq).R w [.slice aO t.plan.defs.length aP,.slice ax t.plan.tables.length ay,.slice aG t.plan.zones.length aH,.slice aB t.plan.rules.length aC,.slice aQ t.plan.caps.length aR,.slice aI t.plan.views.length aJ,.slice bk t.plan.eA.length bm,.int .i64 t.plan.hours] t.plan from⟨aO,aP,ax,ay,aG,aH,aB,aC,aQ,aR,aI,aJ,bk,bm,rfl,q0,q1,q2,q3,q4,q5,q6,q7⟩);have Yr:=aa q3;have HEA:=aa q9;clear hf hg he et ed ev hok q0 q1 q2 q3 q4 q5 q6 q7 q8 q9 q10 q11 q12 r0 r1;go_enter func9,ntmps9;go_wp2_with (first|((with_reducible refine ag (KY t d _ _ _ ?_ ?_ ?_ HF.zo) ?_);exact HG.zo.exts ae;exact(gg).exts HT.zo ae;exact(e6).exts HD.zo ae;rw[HE.zo];rintro e w' ⟨ur,rfl,⟨x1,rfl⟩,hsc⟩;(have HSC:=aa hsc);(obtain⟨dK,dL,dp,dt,dA,dB,dC,dD,dM,dN,dE,dF,dW,dX,gW,gX,gJ,gK,gY,gZ,gL,gM,ic,ie,gA,gB,ig,ij,gC,gD,ng,nh,ly,lC,rfl,s0,s1,s2,s3,s4,s5,s6,s7,s8,s9,s10,s11,s12,s13,s14,s15,s16,s17,s18,s19,s20⟩:=hsc);(have HZ:=aa s20);clear s0 s1 s2 s3 s4 s5 s6 s7 s8 s9 s10 s11 s12 s13 s14 s15 s16 s17 s18 s19 s20)|((with_reducible refine ag (VU t.plan _ s.zones _ _ _ day _ ?_ ?_ HF.zo.rules) ?_);exact(bq).exts HP.zo ae;exact HZ.zo.exts ae;rintro e w' ⟨ao,ac,rfl,⟨x2,rfl⟩,hs2⟩;(have Hx:=aa hs2);clear hs2))
 refine bI ?_;intro W5 Kf;obtain⟨B,hB⟩:∃B,w.heap.size+1+1+x1.bs.size=B:=⟨_,rfl⟩;obtain⟨n,hn⟩:∃n,(di s.zones day t.plan.rules t.plan.rules.length).length=n:=⟨_,rfl⟩;have HN:=aa hn;have c3:W5.cell? ⟨w.heap.size,3,none⟩=some (.slice aB t.plan.rules.length aC):=by rw[Kf];simp[go_sem]
 have c9:W5.cell? ⟨w.heap.size,9,none⟩=some (.slice bQ t.dH.length bU):=by rw[Kf];simp[go_sem]
 have c0:W5.cell? ⟨w.heap.size+1,0,none⟩=some (.int .i64 d.lot):=by rw[Kf];simp[go_sem]
 have i8:isRow W5 (w.heap.size+1+1+x1.bs.size) 21:=by rw[Kf];simp[go_sem]
 have r8:rowOf W5 (w.heap.size+1+1+x1.bs.size)=#[.slice dK s.cC.plan.defs.length dL,.slice dp s.cC.plan.tables.length dt,.slice dA s.cC.plan.zones.length dB,.slice dC s.cC.plan.rules.length dD,.slice dM s.cC.plan.caps.length dN,.slice dE s.cC.plan.views.length dF,.slice dW s.cC.plan.eA.length dX,.int .i64 s.cC.plan.hours,.slice gW s.cC.land.length gX,.slice gJ s.cC.dH.length gK,.slice gY s.cC.wins.length gZ,.slice gL s.cC.built.length gM,.slice ic s.cC.base.length ie,.int .i64 s.lot.id,.int .i64 s.lot.owner,.slice gA s.lot.area.length gB,.slice ig s.lot.old.length ij,.int .i64 s.d.lot,.slice gC s.d.phases.length gD,.slice ng s.bJ.length nh,.slice ly s.zones.length lC]:=by rw[Kf];simp[go_sem]
 have Pa:Bx W5 (w.heap.size+1+1+x1.bs.size+1) [.slice none 0 0] 45:=Bx.new' Kf (by simp<;>omega);have uB:=aa (show af w W5 by rw[Kf];exact ae);have VO:=aa (fun(wr:World)(ho:On (fun x=>x≠w.heap.size+1+1+x1.bs.size+1/\x<W5.heap.size) W5 wr)=>(jO).exts HSC.zo (af.of_below (Below.trans (af.below (show af _ W5 by rw[Kf];exact ae)) (ho.below (fun b hb=>⟨by simp at hb;omega,by have:=Pa.lt;simp at hb;omega⟩) (by have:=Pa.lt;simp;omega)))));have ad1:=aa (show Sl dv W5 ao n ac (di s.zones day t.plan.rules t.plan.rules.length)by rw[Kf,<-hn];exact Hx.zo.exts ae);have ad2:=Pa.lt;rw[hB]at i8 r8 Pa VO ad2 ⊢;rw[hn];have hB2:w.heap.size+1<B:=by omega
 have GI:=aa Pa;have H3:=aa c3;have H9:=aa c9;have H0:=aa c0;have H8:=aa (And.intro i8 r8);clear Kf hB hn Hx HSC c3 c9 c0 i8 r8 Pa;go_loopw [31] (fun i wr=> ∃(k:Nat),k<=n/\i=.int .i64 k/\On (fun x=>x≠B+1/\x<W5.heap.size) W5 wr/\Eu wr (B+1) W5.heap.size (gN s day k)) (fun i _=>n - (intOf i).toNat)
 case atStart=>exact⟨0,by omega,rfl,On.refl _ _,none,0,GI.zo,bL.nil _ _ _ _ _⟩
 case round=>
  obtain⟨k,hk,rfl,hO,hA⟩:=hrel;have HO:=aa hO;have HA:=aa hA;have hwr:=hO.size;have S0:=aa (show af w wr from af.of_below (Below.trans uB.zo.below (hO.below (fun b hb=>⟨by omega,by omega⟩) (by omega))));clear hO hA;by_cases hlt:k<n
  ·obtain⟨ik,hik⟩:=ad1.zo.ex hlt
   obtain⟨j,r,rfl,hr,_⟩:=BA (gH hik);obtain⟨xb,xf,rfl,lxb,cx,_⟩:=dV ad1.zo hik;have hne:xb≠B+1:=fun h0=>by
    subst h0;have:=(GI.zo.cell (xf+k)).symm.trans cx;cases hq:xf+k with
    |zero=>rw[hq]at this;cases this
    |succ m=>rw[hq]at this;cases this
   have CX:=HO.zo.cell (D:=fun x=>x≠B+1/\x<W5.heap.size) ⟨hne,lxb⟩ cx;have C3:=HO.zo.cell (D:=fun x=>x≠B+1/\x<W5.heap.size) ⟨by omega,by omega⟩ H3.zo;obtain⟨I8,R8⟩:=HO.zo.row (D:=fun x=>x≠B+1/\x<W5.heap.size) ⟨by omega,by omega⟩ H8.zo.1;rw[H8.zo.2]at R8;have Sy:=aa (Dr (s:=s) (day:=day) (j:=k) (i:=j) (r:=r) (by rw[ET.zo];exact hik) (by rw[ET.zo];exact hr));obtain⟨br,Vg,rcs,rfl,lbr,hRr,ah0⟩:=(Yr.zo.exts S0.zo).ld hr;obtain⟨br2,ahx,ah1,e2,_,hR2,hc2⟩:=(Yr.zo.exts S0.zo).at hr;simp only[Option.some.injEq,Addr.mk.injEq,and_true]at e2;obtain⟨rfl,rfl⟩:=e2;have CN:wr.cell? ⟨br,Vg+j*20,none⟩=some (.string r.name)/\gS r.name:=by
    obtain⟨_,_,_,_,_,_,rfl,hz,_⟩:=hR2;exact⟨hc2 0 _ rfl,hz⟩
   obtain⟨CN,hz⟩:=CN;have HZN:=aa hz;have HRR:=aa hRr;have HSW:=aa (VO.zo wr HO.zo);have Px:=aa (rD s day k);have hjl:j<t.plan.rules.length:=(bw hr).1;have hkn:n<=1000:=by
    rw[<-HN.zo];refine Nat.le_trans (Cw _ _ _ _) HF.zo.rules
   clear hik hr hR2 hc2 hz hRr;go_wp2;refine b9 (S:=fun w'=> ∃x,w'=av _ x) [0,1,2,4,9,10,12] [([3,5,6,7,8,11,13,14],15)] [] [16] (by kernel_rfl) (by kernel_rfl) ⟨_,by first|exact dx _|exact ai _ _⟩ ?_;try simp only[bX,pick,eh]
   try change wpQuiet _ _ _ _ (_::_) _
   repeat (go_big_quiet_step (fail))
   refine wpQuiet_nil ?_;try change wpQuiet _ _ _ _ (_::_) _
   repeat (go_big_quiet_step (fail))
   refine wpQuiet_nil ?_;try change wpList _ _ _ (_::_) _ _
   go_wp2_with ((with_reducible refine ag (TR s r GH.zo _ _ _ ?_ ?_) ?_);exact(jO).exts HSW.zo ae;exact(aw).exts HRR.zo ae;rintro e w' ⟨rfl,⟨x5,rfl⟩⟩)
   refine dn (by first|exact⟨_,(cF _).symm⟩|exact⟨_,rfl⟩|exact ae) ?_;try simp only[bX,pick,eh]
   try change wpQuiet _ _ _ _ (_::_) _
   repeat (go_big_quiet_step (fail))
   refine wpQuiet_nil ?_;try change wpList _ _ _ (_::_) _ _
   go_wp2_with ((with_reducible refine ag (adZ r.name (xS s r) (gN s day k) (B+1) W5.heap.size _ ?_ ?_ ?_ ?_ ?_) ?_);exact HA.zo.at ae;omega;(simp<;>omega);exact HZN.zo;(have:=Px.zo;omega);rintro e w' ⟨rfl,hon,hout⟩;(have Jh:=aa hon);(have agt:=aa hout);clear hon hout)
   refine cV ?_;go_wp2;exact⟨⟨k+1,by omega,by go_num,HO.zo.trans ((On.exts ae).trans Jh.zo),by rw[Sy.zo];exact agt.zo⟩,by simp[intOf];omega⟩
  ·obtain rfl:k=n:=by omega
   have C9:=HO.zo.cell (D:=fun x=>x≠B+1/\x<W5.heap.size) ⟨by omega,by omega⟩ H9.zo;have C0:=HO.zo.cell (D:=fun x=>x≠B+1/\x<W5.heap.size) ⟨by omega,by omega⟩ H0.zo;obtain⟨I8,R8⟩:=HO.zo.row (D:=fun x=>x≠B+1/\x<W5.heap.size) ⟨by omega,by omega⟩ H8.zo.1;rw[H8.zo.2]at R8;have HC9:=aa C9;have HC0:=aa C0;have HSW:=aa (VO.zo wr HO.zo);have Px:=aa (rD s day k);have hkn:k<=1000:=by
    rw[<-HN.zo];refine Nat.le_trans (Cw _ _ _ _) HF.zo.rules
   have HOD:=aa (show uv s day=addN (gN s day k) ⟨#[101,97,115,101,109,101,110,116]⟩ (s.bJ.any fun v=> !ko t.dH d.lot v)by unfold uv;rw[ET.zo,ED.zo,HN.zo];rfl);clear C9 C0;go_wp2_with (first|((with_reducible refine ag (LS 28 #[.pointer (some ⟨w.heap.size,0,none⟩),.pointer (some ⟨w.heap.size+1,0,none⟩)] (fun v=> !ko t.dH d.lot v) s _ _ Re ?_ ?_) ?_);exact(jO).exts HSW.zo ae;exact(fun w' i v cs he hd GG=>ags t.dH d.lot v (GH.zo.vr v (gH hd)) w.heap.size (w.heap.size+1) _ _ _ cs w' GG (HEA.zo.exts (S0.zo.trans (af.trans ae he))) (af.cell (af.trans ae he) HC9.zo) (af.cell (af.trans ae he) HC0.zo));rintro e w' ⟨rfl,⟨x7,rfl⟩⟩)|(go_at_call 23;((with_reducible refine ag (adZ ⟨#[101,97,115,101,109,101,110,116]⟩ (s.bJ.any fun v=> !ko t.dH d.lot v) (gN s day k) (B+1) W5.heap.size _ ?_ ?_ ?_ ?_ ?_) ?_);exact HA.zo.at ae;omega;(simp<;>omega);(unfold gS;decide);(have:=Px.zo;omega);rintro e w1 ⟨rfl,hon,oo,oc,hb1,hs1⟩;(have Jh:=aa hon);(have xM:=aa hs1);(have C10:w1.cell? ⟨B+1,0,none⟩=some (.slice oo (addN (gN s day k) ⟨#[101,97,115,101,109,101,110,116]⟩ (s.bJ.any fun v=> !ko t.dH d.lot v)).length oc):=hb1.cell 0);clear hon hb1 hs1)))
   rw[<-HOD.zo]at xM;refine bodyPost_ret (v:=.tuple #[.slice oo (uv s day).length oc,.int .i64 0]) (by rw[HOD.zo];simp[results,go_sem]) rfl ?_;exact⟨oo,oc,rfl,af.of_below (Below.trans uB.zo.below ((HO.zo.trans ((On.exts ae).trans Jh.zo)).below (fun b hb=>⟨by omega,by omega⟩) (by omega))),xM.zo.sl rfl⟩
theorem mq(t:mD)(d:rW)(day:Int)(ts ds:zv)(w:World)(hg:Gl w)(h:(gg).R w ts t)(h2:(e6).R w ds d)(hf:sX t d):Calls prog 9 #[.agg ts.toArray,.agg ds.toArray,.int .i64 day] w (xn (gG t d day) w):=by
 unfold gG;cases he:ml t d with
 |error c=>exact JA t d day c ts ds w he hg h h2 hf
 |ok s=>exact Le t d day s ts ds w he hg h h2 hf
end Go.Proofs.YtomgpelfmgkknaaGreatDoor
