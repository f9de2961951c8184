/- Lemmas for the law. No conditions. -/
import Derived.Test.YtomgpelfmgkknaaGreatDoorM23
import Derived.Test.YtomgpelfmgkknaaGreatDoorM24
import Derived.Test.YtomgpelfmgkknaaGreatDoorM22
namespace Go.Proofs.YtomgpelfmgkknaaGreatDoor
open Go.RowKit Go.Maps
open Go.Proofs.Tryz
set_option maxRecDepth 100000
set_option maxHeartbeats 40000000
set_option linter.unusedVariables false
set_option linter.unusedSimpArgs false
theorem Cl(e:fN)(ds:zv)(w:World)(hg:Gl w)(h2:(cY).R w ds e)(hk:zi e):Calls prog 31 #[.agg ds.toArray] w (cX (.bool (kP e)) w):=by
 rcases hk with hk|hk|hk
 ·exact OB e ds w hg h2 hk
 ·exact Oz e ds w hg h2 hk
 ·exact OA e ds w hg h2 hk
theorem Jg(p:Plan)(e:fN)(cs ds:zv)(w:World)(h:(bq).R w cs p)(h2:(cY).R w ds e)(hk:zi e)(hr:p.rules.length<200)(hc:p.caps.length<=1000):Calls prog 32 #[.agg cs.toArray,.agg ds.toArray] w fun r w'=> ∃(cs':zv),r=.returned (.tuple #[.agg cs'.toArray,.int .i64 (mJ p e)])/\af w w'/\zr cs'/\(mJ p e=0->(bq).R w' cs' (jR p e)):=by
 rcases hk with hk|hk|hk
 ·exact Ow p e cs ds w h h2 hk hr hc
 ·exact Oy p e cs ds w h h2 hk hr hc
 ·exact Ox p e cs ds w h h2 hk hr hc
theorem FQ{w:World}{cs:zv}{p:Plan}(h:(bq).R w cs p):zr cs:=by
 obtain⟨bF,bG,aN,aK,aX,aY,bH,bE,bN,bO,bj,aZ,cj,ck,rfl,q0,q1,q2,q3,q4,q5,q6,q7⟩:=h;exact⟨_,_,_,_,_,_,_,_,_,_,_,_,_,_,_,_,_,_,_,_,_,_,rfl⟩
theorem Mr{p:Plan}{e:fN}(h:(dP p&&kP e)=false):qx p e=1:=by
 unfold qx;rw[if_neg (by rw[h];decide)]
theorem SX{p:Plan}{e:fN}(h1:dP p=true)(h2:kP e=true):qx p e=mJ p e:=by
 unfold qx;rw[if_pos (by rw[h1,h2];rfl)]
theorem Yu(p:Plan)(e:fN)(cs ds:zv)(w:World)(n:Nat)(hg:Gl w)(h:(bq).R w cs p)(h2:(cY).R w ds e)(hk:zi e)(hw:mA n p)(hn:n<200)(hrs:oN e.rule):Calls prog 12 #[.agg cs.toArray,.agg ds.toArray] w fun r w'=> ∃cs':zv,r=.returned (.tuple #[.agg cs'.toArray,.int .i64 (qx p e)])/\af w w'/\zr cs'/\(qx p e=0->(bq).R w' cs' (jR p e)):=by
 have hpb:II p:=hw.b (by omega);have hp2:p.rules.length<200:=by have:=hw.rules;omega
 have hp3:=hw.caps;have HP:=aa h;have rp:=aa h2;have HG:=aa hg;have HK:=aa hk;obtain⟨bF,bG,aN,aK,aX,aY,bH,bE,bN,bO,bj,aZ,cj,ck,rfl,q0,q1,q2,q3,q4,q5,q6,q7⟩:=h;obtain⟨az,aA,aT,aU,aL,aM,dg,dh,bA,bC,rfl,t0,t1,t2,t3,t4,t5,t6,t7,t8,t9,t10,t11,t12,t13,t14,t15,t16,t17,uw,t19,t20⟩:=h2;clear q0 q1 q2 q3 q4 q5 q6 q7 t0 t1 t2 t3 t4 t5 t6 t7 t8 t9 t10 t11 t12 t13 t14 t15 t16 t17 uw t19 t20 hg hk;cases hr:dP p with
 |false=>
  have HC:=aa (Mr (p:=p) (e:=e) (by rw[hr];rfl));rw[HC.zo];go_enter func12,ntmps12;go_wp2_with ((with_reducible refine ag (pI p _ _ ?_ ?_ hpb) ?_);exact HG.zo.exts ae;exact(bq).exts HP.zo ae;rintro r w' ⟨rfl,⟨x1,rfl⟩⟩;rw[hr])
  refine bodyPost_ret (v:=.tuple #[.agg #[.slice none 0 0,.slice none 0 0,.slice none 0 0,.slice none 0 0,.slice none 0 0,.slice none 0 0,.slice none 0 0,.int .i64 0],.int .i64 1]) (by simp[results,go_sem]) rfl ⟨[.slice none 0 0,.slice none 0 0,.slice none 0 0,.slice none 0 0,.slice none 0 0,.slice none 0 0,.slice none 0 0,.int .i64 0],rfl,ae,⟨_,_,_,_,_,_,_,_,_,_,_,_,_,_,_,_,_,_,_,_,_,_,rfl⟩,fun h0=>by omega⟩
 |true=>
  cases ho:kP e with
  |false=>
   have HC:=aa (Mr (p:=p) (e:=e) (by rw[hr,ho];rfl));rw[HC.zo];go_enter func12,ntmps12;go_wp2_with (first|((with_reducible refine ag (pI p _ _ ?_ ?_ hpb) ?_);exact HG.zo.exts ae;exact(bq).exts HP.zo ae;rintro r w' ⟨rfl,⟨x1,rfl⟩⟩;rw[hr])|((with_reducible refine ag (Cl e _ _ ?_ ?_ HK.zo) ?_);exact HG.zo.exts ae;exact(cY).exts rp.zo ae;rintro r w' ⟨rfl,⟨x2,rfl⟩⟩;rw[ho]))
   refine bodyPost_ret (v:=.tuple #[.agg #[.slice none 0 0,.slice none 0 0,.slice none 0 0,.slice none 0 0,.slice none 0 0,.slice none 0 0,.slice none 0 0,.int .i64 0],.int .i64 1]) (by simp[results,go_sem]) rfl ⟨[.slice none 0 0,.slice none 0 0,.slice none 0 0,.slice none 0 0,.slice none 0 0,.slice none 0 0,.slice none 0 0,.int .i64 0],rfl,ae,⟨_,_,_,_,_,_,_,_,_,_,_,_,_,_,_,_,_,_,_,_,_,_,rfl⟩,fun h0=>by omega⟩
  |true=>
   have hpo:mJ p e=0->Sr (jR p e):=fun h0=>(Fy hw hrs).o (by omega) (Ef (sR hr).1 HK.zo ho)
   have HC:=aa (SX hr ho);rw[HC.zo];cases hz:decide (mJ p e=0)with
   |false=>
    have hz:=of_decide_eq_false hz;go_enter func12,ntmps12;go_wp2_with (first|((with_reducible refine ag (pI p _ _ ?_ ?_ hpb) ?_);exact HG.zo.exts ae;exact(bq).exts HP.zo ae;rintro r w' ⟨rfl,⟨x1,rfl⟩⟩;rw[hr])|((with_reducible refine ag (Cl e _ _ ?_ ?_ HK.zo) ?_);exact HG.zo.exts ae;exact(cY).exts rp.zo ae;rintro r w' ⟨rfl,⟨x2,rfl⟩⟩;rw[ho])|((with_reducible refine ag (Jg p e _ _ _ ?_ ?_ HK.zo hp2 hp3) ?_);exact(bq).exts HP.zo ae;exact(cY).exts rp.zo ae;rintro r w' ⟨cs3,rfl,⟨x3,rfl⟩,⟨o1,n1,c1,o2,n2,c2,o3,n3,c3,o4,n4,c4,o5,n5,c5,o6,n6,c6,o7,n7,c7,hh,rfl⟩,VQ⟩;(try simp only[bf,au,ai]at VQ);(have HR3:=aa VQ);clear VQ))
    refine bodyPost_ret (v:=.tuple #[.agg #[.slice none 0 0,.slice none 0 0,.slice none 0 0,.slice none 0 0,.slice none 0 0,.slice none 0 0,.slice none 0 0,.int .i64 0],.int .i64 (mJ p e)]) (by simp[results,go_sem]) rfl ⟨[.slice none 0 0,.slice none 0 0,.slice none 0 0,.slice none 0 0,.slice none 0 0,.slice none 0 0,.slice none 0 0,.int .i64 0],rfl,ae,⟨_,_,_,_,_,_,_,_,_,_,_,_,_,_,_,_,_,_,_,_,_,_,rfl⟩,fun h0=>absurd h0 hz⟩
   |true=>
    have hz:=of_decide_eq_true hz;have afC:=hpo hz;rw[hz];go_enter func12,ntmps12;go_wp2_with (first|((with_reducible refine ag (pI p _ _ ?_ ?_ hpb) ?_);exact HG.zo.exts ae;exact(bq).exts HP.zo ae;rintro r w' ⟨rfl,⟨x1,rfl⟩⟩;rw[hr])|((with_reducible refine ag (Cl e _ _ ?_ ?_ HK.zo) ?_);exact HG.zo.exts ae;exact(cY).exts rp.zo ae;rintro r w' ⟨rfl,⟨x2,rfl⟩⟩;rw[ho])|((with_reducible refine ag (Jg p e _ _ _ ?_ ?_ HK.zo hp2 hp3) ?_);exact(bq).exts HP.zo ae;exact(cY).exts rp.zo ae;rintro r w' ⟨cs3,rfl,⟨x3,rfl⟩,⟨o1,n1,c1,o2,n2,c2,o3,n3,c3,o4,n4,c4,o5,n5,c5,o6,n6,c6,o7,n7,c7,hh,rfl⟩,VQ⟩;rw[hz];(try simp only[bf,au,ai]at VQ);(have HR3:=aa VQ);clear VQ))
    with_reducible refine ag (Ym (jR p e) _ _ ?_ afC) ?_
    ·exact(bq).exts (HR3.zo hz) ae
    rintro r W4 ⟨cs4,rfl,hx4,VB⟩;obtain⟨u1,v1,k1,u2,v2,k2,u3,v3,k3,u4,v4,k4,u5,v5,k5,u6,v6,k6,u7,v7,k7,h4,rfl⟩:=FQ VB;have hB4:Bx W4 (w.heap.size+1+1) [.slice none 0 0,.slice none 0 0,.slice none 0 0,.slice none 0 0,.slice none 0 0,.slice none 0 0,.slice none 0 0,.int .i64 0] 30:=by
     have h0:=Bx.new ((w.alloc (.cells #[.slice bF p.defs.length bG,.slice aN p.tables.length aK,.slice aX p.zones.length aY,.slice bH p.rules.length bE,.slice bN p.caps.length bO,.slice bj p.views.length aZ,.slice cj p.eA.length ck,.int .i64 p.hours] 30)).alloc (.cells #[.int .i64 e.kind,.string e.name,.string e.key,.int .i64 e.n,.string e.rule.name,.slice az e.rule.zones.length aA,.slice aT e.rule.exc.length aU,.int .i64 e.rule.start,.int .i64 e.rule.stop,.int .i64 e.rule.bM,.bool e.rule.vary,.int .i64 e.rule.kind,.int .i64 e.rule.test.op,.int .i64 e.rule.test.num,.string e.rule.test.str,.string e.rule.test.key,.slice aL e.rule.test.args.length aM,.int .i64 e.rule.ah.side,.int .i64 e.rule.ah.base,.int .i64 e.rule.ah.num,.int .i64 e.rule.ah.den,.int .i64 e.rule.uses,.int .i64 e.rule.other,.int .i64 e.rule.n,.int .i64 e.body.op,.int .i64 e.body.num,.string e.body.str,.string e.body.key,.slice dg e.body.args.length dh,.slice bA e.corners.length bC] 55)) [.slice none 0 0,.slice none 0 0,.slice none 0 0,.slice none 0 0,.slice none 0 0,.slice none 0 0,.slice none 0 0,.int .i64 0] 30;rw[show((w.alloc (.cells #[.slice bF p.defs.length bG,.slice aN p.tables.length aK,.slice aX p.zones.length aY,.slice bH p.rules.length bE,.slice bN p.caps.length bO,.slice bj p.views.length aZ,.slice cj p.eA.length ck,.int .i64 p.hours] 30)).alloc (.cells #[.int .i64 e.kind,.string e.name,.string e.key,.int .i64 e.n,.string e.rule.name,.slice az e.rule.zones.length aA,.slice aT e.rule.exc.length aU,.int .i64 e.rule.start,.int .i64 e.rule.stop,.int .i64 e.rule.bM,.bool e.rule.vary,.int .i64 e.rule.kind,.int .i64 e.rule.test.op,.int .i64 e.rule.test.num,.string e.rule.test.str,.string e.rule.test.key,.slice aL e.rule.test.args.length aM,.int .i64 e.rule.ah.side,.int .i64 e.rule.ah.base,.int .i64 e.rule.ah.num,.int .i64 e.rule.ah.den,.int .i64 e.rule.uses,.int .i64 e.rule.other,.int .i64 e.rule.n,.int .i64 e.body.op,.int .i64 e.body.num,.string e.body.str,.string e.body.key,.slice dg e.body.args.length dh,.slice bA e.corners.length bC] 55)).heap.size=w.heap.size+1+1 by simp]at h0;exact h0.exts (af.trans ae hx4)
    have hon:On (fun b=>b<w.heap.size) w W4:=On.exts (af.trans ae hx4);have HB4:=aa hB4;have HR4:=aa VB;have zA:=aa hon;have i4:isRow W4 (w.heap.size+1+1) 8:=hB4.row.1;have l4:w.heap.size+1+1<W4.heap.size:=hB4.lt;clear hx4 VB hB4 hon;go_wp2;have hon:=On.setRow W4 (w.heap.size+1+1) #[.slice u1 v1 k1,.slice u2 v2 k2,.slice u3 v3 k3,.slice u4 v4 k4,.slice u5 v5 k5,.slice u6 v6 k6,.slice u7 v7 k7,.int .i64 h4];have hrow:=HB4.zo.setRow [.slice u1 v1 k1,.slice u2 v2 k2,.slice u3 v3 k3,.slice u4 v4 k4,.slice u5 v5 k5,.slice u6 v6 k6,.slice u7 v7 k7,.int .i64 h4];exact bodyPost_ret (v:=.tuple #[.agg #[.slice u1 v1 k1,.slice u2 v2 k2,.slice u3 v3 k3,.slice u4 v4 k4,.slice u5 v5 k5,.slice u6 v6 k6,.slice u7 v7 k7,.int .i64 h4],.int .i64 0]) (by have hc:=hrow.cell;simp[results,go_sem,hc]) rfl ⟨[.slice u1 v1 k1,.slice u2 v2 k2,.slice u3 v3 k3,.slice u4 v4 k4,.slice u5 v5 k5,.slice u6 v6 k6,.slice u7 v7 k7,.int .i64 h4],rfl,af.of_below ((zA.zo.trans (hon.mono fun b hb=>by have hb:b<w.heap.size:=hb;omega)).below (fun b hb=>hb) (Nat.le_refl _)),⟨_,_,_,_,_,_,_,_,_,_,_,_,_,_,_,_,_,_,_,_,_,_,rfl⟩,fun _=>yg HR4.zo (Bar.of HB4.zo ⟨_,_,_,_,_,_,_,_,_,_,_,_,_,_,_,_,_,_,_,_,_,_,rfl⟩) hon⟩
def oU(p:Plan)(l:List fN):Int:=if dP p=true then(match fK p l with| .ok _=>0| .error c=>c)else 1
theorem En{p:Plan}{e:fN}(h:qx p e=0):dP p=true/\kP e=true:=by
 unfold qx at h;split at h
 ·rename_i h1
  simpa using h1
 ·exact absurd h (by decide)
theorem OH{T:Type}{l:List T}{k:Nat}{d:T}(h:l[k]?=some d):l.take (k+1)=l.take k++ [d]:=by
 rw[List.take_add_one,h];rfl
structure App(w wr:World)(p q:Plan)(l:List fN)(m k:Nat)(cs:zv):Prop where
 ap:fK p (l.take k)=.ok q
 pw:mA (m+k) q
 deep:I3 q
 on:On (fun b=>b<w.heap.size) w wr
 b2:Bx wr w.heap.size cs 30
 b4:Bx wr (w.heap.size+1) [.slice none 0 0,.slice none 0 0,.slice none 0 0,.slice none 0 0,.slice none 0 0,.slice none 0 0,.slice none 0 0,.int .i64 0] 30
 r:(bq).R wr cs q
theorem SY(p:Plan)(l:List fN)(cs:zv)(ao:Option Addr)(n c m:Nat)(w:World)(hg:Gl w)(h:(bq).R w cs p)(hl:Sl cY w ao n c l)(hk:∀e∈l,zi e/\oN e.rule)(hw:mA m p)(hm:m+n<200):Calls prog 8 #[.agg cs.toArray,.slice ao n c] w fun r w'=> ∃cs':zv,r=.returned (.tuple #[.agg cs'.toArray,.int .i64 (oU p l)])/\af w w'/\zr cs'/\(∀q,dP p=true->fK p l=.ok q->(bq).R w' cs' q):=by
 have hpb:II p:=hw.b (by omega);have HL:=aa hl;have hll:l.length=n:=hl.1;have HP:=aa h;have HG:=aa hg;have HK:=aa hk;obtain⟨bF,bG,aN,aK,aX,aY,bH,bE,bN,bO,bj,aZ,cj,ck,rfl,q0,q1,q2,q3,q4,q5,q6,q7⟩:=h;clear q0 q1 q2 q3 q4 q5 q6 q7 hg hk hl;cases hr:dP p with
 |false=>
  have HC:=aa (show oU p l=1 by unfold oU;rw[hr];rfl);rw[HC.zo];go_enter func8,ntmps8;go_wp2_with ((with_reducible refine ag (pI p _ _ ?_ ?_ hpb) ?_);exact HG.zo.exts ae;exact(bq).exts HP.zo ae;rintro r w' ⟨rfl,⟨x1,rfl⟩⟩;rw[hr])
  exact bodyPost_ret (v:=.tuple #[.agg #[.slice none 0 0,.slice none 0 0,.slice none 0 0,.slice none 0 0,.slice none 0 0,.slice none 0 0,.slice none 0 0,.int .i64 0],.int .i64 1]) (by simp[results,go_sem]) rfl ⟨[.slice none 0 0,.slice none 0 0,.slice none 0 0,.slice none 0 0,.slice none 0 0,.slice none 0 0,.slice none 0 0,.int .i64 0],rfl,ae,⟨_,_,_,_,_,_,_,_,_,_,_,_,_,_,_,_,_,_,_,_,_,_,rfl⟩,fun q h0=>by cases h0⟩
 |true=>
  have hdp:=(sR hr).1;have HCA:=aa (show∀q,fK p l=.ok q->oU p l=0 from fun q h=>by unfold oU;rw[hr,h];rfl);have HCE:=aa (show∀c,fK p l=.error c->oU p l=c from fun q h=>by unfold oU;rw[hr,h];rfl);go_enter func8,ntmps8;go_wp2_with ((with_reducible refine ag (pI p _ _ ?_ ?_ hpb) ?_);exact HG.zo.exts ae;exact(bq).exts HP.zo ae;rintro r w' ⟨rfl,⟨x1,rfl⟩⟩;rw[hr])
  go_loopw [15] (fun i wr=> ∃(k:Nat)(q:Plan)(cs:zv),k<=n/\i=.int .i64 k/\App w wr p q l m k cs) (fun i _=>n - (intOf i).toNat)
  case atStart=>
   refine⟨0,p,_,by omega,rfl,by simp[fK],hw,hdp,On.exts ae,?_,?_,(bq).exts HP.zo ae⟩
   ·exact(Bx.new w [.slice bF p.defs.length bG,.slice aN p.tables.length aK,.slice aX p.zones.length aY,.slice bH p.rules.length bE,.slice bN p.caps.length bO,.slice bj p.views.length aZ,.slice cj p.eA.length ck,.int .i64 p.hours] 30).exts ae
   ·have h0:=Bx.new (w.alloc (.cells #[.slice bF p.defs.length bG,.slice aN p.tables.length aK,.slice aX p.zones.length aY,.slice bH p.rules.length bE,.slice bN p.caps.length bO,.slice bj p.views.length aZ,.slice cj p.eA.length ck,.int .i64 p.hours] 30)) [.slice none 0 0,.slice none 0 0,.slice none 0 0,.slice none 0 0,.slice none 0 0,.slice none 0 0,.slice none 0 0,.int .i64 0] 30
    rw[show(w.alloc (.cells #[.slice bF p.defs.length bG,.slice aN p.tables.length aK,.slice aX p.zones.length aY,.slice bH p.rules.length bE,.slice bN p.caps.length bO,.slice bj p.views.length aZ,.slice cj p.eA.length ck,.int .i64 p.hours] 30)).heap.size=w.heap.size+1 by simp]at h0;exact h0.exts ae
  case round=>
   obtain⟨k,q,cq,hkn,rfl,happ⟩:=hrel;obtain⟨o1,n1,c1,o2,n2,c2,o3,n3,c3,o4,n4,c4,o5,n5,c5,o6,n6,c6,o7,n7,c7,hh,rfl⟩:=FQ happ.r;have hxr:af w wr:=af.of_below (happ.on.below (fun b hb=>hb) (Nat.le_refl _));have lr2:w.heap.size<wr.heap.size:=happ.b2.lt;have lr4:w.heap.size+1<wr.heap.size:=happ.b4.lt;have vx:=aa happ;have S0:=aa hxr;have SI:∀wz,af wr wz->(jf 30 ⟨w.heap.size,0,none⟩).run prog wz=.ok (.agg #[.slice o1 n1 c1,.slice o2 n2 c2,.slice o3 n3 c3,.slice o4 n4 c4,.slice o5 n5 c5,.slice o6 n6 c6,.slice o7 n7 c7,.int .i64 hh]) wz:=fun wz he=>yz (cs:= [.slice o1 n1 c1,.slice o2 n2 c2,.slice o3 n3 c3,.slice o4 n4 c4,.slice o5 n5 c5,.slice o6 n6 c6,.slice o7 n7 c7,.int .i64 hh]) rfl fun j u hu=>by rw[Nat.zero_add];exact((happ.b2.exts he).cell j).trans hu
   clear happ hxr;by_cases hlt:k<n
   ·obtain⟨d,hd⟩:=HL.zo.ex hlt
    obtain⟨b,off,dc,rfl,lb,hR,hld⟩:=HL.zo.ld hd;replace hld:∀w',af wr w'->(jf 55 ⟨b,off+k*30,none⟩).run prog w'=.ok (.agg dc.toArray) w':=fun w' he=>hld w' (S0.zo.trans he)
    have HDR:=aa ((cY).exts hR S0.zo);obtain⟨fP,fQ,gT,gU,gy,gz,eO,eP,aV,aW,rfl,t0,t1,t2,t3,t4,t5,t6,t7,t8,t9,t10,t11,t12,t13,t14,t15,t16,t17,uw,t19,t20⟩:=hR;clear t0 t1 t2 t3 t4 t5 t6 t7 t8 t9 t10 t11 t12 t13 t14 t15 t16 t17 uw t19 t20;have hdk:=HK.zo d (gH hd);have HDK:=aa hdk;have htk:=OH hd;have VC:=aa htk;clear hdk htk;go_wp2_with fail
    with_reducible refine ag (Yu q d _ _ _ (m+k) ?_ ?_ ?_ HDK.zo.1 vx.zo.pw (by omega) HDK.zo.2) ?_
    ·exact HG.zo.exts (S0.zo.trans ae)
    ·exact(bq).exts vx.zo.r ae
    ·exact(cY).exts HDR.zo ae
    rintro e W5 ⟨c5,rfl,hx5,hpc,Z7⟩;obtain⟨u1,v1,S5,u2,v2,S6,u3,v3,S7,u4,v4,S8,u5,v5,S9,u6,v6,Ta,u7,v7,Tb,h4,rfl⟩:=hpc;have FR:af wr W5:=af.trans ae hx5;have hb2:=vx.zo.b2.exts FR;have hb4:=vx.zo.b4.exts FR;have i2:isRow W5 w.heap.size 8:=hb2.row.1;have l2:w.heap.size<W5.heap.size:=hb2.lt;have l4:w.heap.size+1<W5.heap.size:=hb4.lt;have Dm:=On.setRow W5 w.heap.size #[.slice u1 v1 S5,.slice u2 v2 S6,.slice u3 v3 S7,.slice u4 v4 S8,.slice u5 v5 S9,.slice u6 v6 Ta,.slice u7 v7 Tb,.int .i64 h4];have Z8:=hb2.setRow [.slice u1 v1 S5,.slice u2 v2 S6,.slice u3 v3 S7,.slice u4 v4 S8,.slice u5 v5 S9,.slice u6 v6 Ta,.slice u7 v7 Tb,.int .i64 h4];have OI:=hb4.at Dm (show w.heap.size+1≠w.heap.size by omega);have i46:isRow (W5.setRow w.heap.size #[.slice u1 v1 S5,.slice u2 v2 S6,.slice u3 v3 S7,.slice u4 v4 S8,.slice u5 v5 S9,.slice u6 v6 Ta,.slice u7 v7 Tb,.int .i64 h4]) (w.heap.size+1) 8:=OI.row.1;have l46:w.heap.size+1<(W5.setRow w.heap.size #[.slice u1 v1 S5,.slice u2 v2 S6,.slice u3 v3 S7,.slice u4 v4 S8,.slice u5 v5 S9,.slice u6 v6 Ta,.slice u7 v7 Tb,.int .i64 h4]).heap.size:=OI.lt;have hon:On (fun b=>b<w.heap.size) w (W5.setRow w.heap.size #[.slice u1 v1 S5,.slice u2 v2 S6,.slice u3 v3 S7,.slice u4 v4 S8,.slice u5 v5 S9,.slice u6 v6 Ta,.slice u7 v7 Tb,.int .i64 h4]):=(vx.zo.on.trans (On.exts FR)).trans (Dm.mono fun b hb=>by have hb:b<w.heap.size:=hb;omega);by_cases hz:qx q d=0
    ·have hz2:=En hz
     have hnew:App w (W5.setRow w.heap.size #[.slice u1 v1 S5,.slice u2 v2 S6,.slice u3 v3 S7,.slice u4 v4 S8,.slice u5 v5 S9,.slice u6 v6 Ta,.slice u7 v7 Tb,.int .i64 h4]) p (jR q d) l m (k+1) [.slice u1 v1 S5,.slice u2 v2 S6,.slice u3 v3 S7,.slice u4 v4 S8,.slice u5 v5 S9,.slice u6 v6 Ta,.slice u7 v7 Tb,.int .i64 h4]:=⟨by rw[VC.zo,sS _ _ _ _ vx.zo.ap,if_pos hz],Fy vx.zo.pw HDK.zo.2,Ef vx.zo.deep HDK.zo.1 hz2.2,hon,Z8,OI,yg (Z7 hz) (Bar.of hb2 ⟨_,_,_,_,_,_,_,_,_,_,_,_,_,_,_,_,_,_,_,_,_,_,rfl⟩) Dm⟩;have Tc:=aa hnew;rw[hz];clear hnew hx5 Z7 FR hb2 hb4 Dm Z8 OI i46 l46 hon;go_wp2;exact⟨⟨k+1,_,_,by omega,by go_num,Tc.zo⟩,by simp[intOf];omega⟩
    ·have herr:fK p l=.error (qx q d):=by
      have h1:=sS _ _ _ d vx.zo.ap;rw[if_neg hz,<-VC.zo]at h1;have h2:=BW _ (l.drop (k+1)) _ _ h1
      rwa [List.take_append_drop]at h2
     have hone:=HCE.zo _ herr;have afD:=aa herr;clear herr;have Jh:=aa hon;have afE:=aa OI;clear hx5 Z7 FR hb2 hb4 Dm Z8 OI hon;go_wp2;exact bodyPost_ret (v:=.tuple #[.agg #[.slice none 0 0,.slice none 0 0,.slice none 0 0,.slice none 0 0,.slice none 0 0,.slice none 0 0,.slice none 0 0,.int .i64 0],.int .i64 (oU p l)]) (by have hc:=(afE.zo.setRow [.slice none 0 0,.slice none 0 0,.slice none 0 0,.slice none 0 0,.slice none 0 0,.slice none 0 0,.slice none 0 0,.int .i64 0]).cell;rw[hone];simp[results,go_sem,hc]) rfl ⟨[.slice none 0 0,.slice none 0 0,.slice none 0 0,.slice none 0 0,.slice none 0 0,.slice none 0 0,.slice none 0 0,.int .i64 0],rfl,af.of_below ((Jh.zo.trans ((On.setRow _ _ _).mono fun b hb=>by have hb:b<w.heap.size:=hb;omega)).below (fun b hb=>hb) (Nat.le_refl _)),⟨_,_,_,_,_,_,_,_,_,_,_,_,_,_,_,_,_,_,_,_,_,_,rfl⟩,fun q0 _ h0=>by rw[afD.zo]at h0;cases h0⟩
   ·obtain rfl:k=n:=by omega
    have hap:=vx.zo.ap;rw[<-hll,List.take_length]at hap;have HPO:=aa (vx.zo.pw.o (by omega) vx.zo.deep);have HA:=aa hap;have hc0:=HCA.zo q hap;clear hap;go_wp2_with fail
    with_reducible refine ag (Ym q _ _ ?_ HPO.zo) ?_
    ·exact(bq).exts vx.zo.r ae
    rintro e W5 ⟨c5,rfl,hx5,Z7⟩;obtain⟨u1,v1,S5,u2,v2,S6,u3,v3,S7,u4,v4,S8,u5,v5,S9,u6,v6,Ta,u7,v7,Tb,h4,rfl⟩:=FQ Z7;have FR:af wr W5:=af.trans ae hx5;have hb4:=vx.zo.b4.exts FR;have i4:isRow W5 (w.heap.size+1) 8:=hb4.row.1;have l4:w.heap.size+1<W5.heap.size:=hb4.lt;have HB4:=aa hb4;have HR5:=aa Z7;have Jh:=aa (vx.zo.on.trans (On.exts FR));clear hx5 Z7 FR hb4;go_wp2;exact bodyPost_ret (v:=.tuple #[.agg #[.slice u1 v1 S5,.slice u2 v2 S6,.slice u3 v3 S7,.slice u4 v4 S8,.slice u5 v5 S9,.slice u6 v6 Ta,.slice u7 v7 Tb,.int .i64 h4],.int .i64 (oU p l)]) (by have hc:=(HB4.zo.setRow [.slice u1 v1 S5,.slice u2 v2 S6,.slice u3 v3 S7,.slice u4 v4 S8,.slice u5 v5 S9,.slice u6 v6 Ta,.slice u7 v7 Tb,.int .i64 h4]).cell;rw[hc0];simp[results,go_sem,hc]) rfl ⟨[.slice u1 v1 S5,.slice u2 v2 S6,.slice u3 v3 S7,.slice u4 v4 S8,.slice u5 v5 S9,.slice u6 v6 Ta,.slice u7 v7 Tb,.int .i64 h4],rfl,af.of_below ((Jh.zo.trans ((On.setRow _ _ _).mono fun b hb=>by have hb:b<w.heap.size:=hb;omega)).below (fun b hb=>hb) (Nat.le_refl _)),⟨_,_,_,_,_,_,_,_,_,_,_,_,_,_,_,_,_,_,_,_,_,_,rfl⟩,fun q0 _ h0=>by
     rw[HA.zo]at h0;cases h0;exact yg HR5.zo (Bar.of HB4.zo ⟨_,_,_,_,_,_,_,_,_,_,_,_,_,_,_,_,_,_,_,_,_,_,rfl⟩) (On.setRow _ _ _)⟩
def xx:Plan:=⟨[],[],[],yi,[],[],[],0⟩
def FX:Plan:=jR (jR xx yj) xi
def smA:List Rc:= [⟨0,0,9,9⟩]
def FY:List Rc:= [⟨2,2,7,7⟩]
def Co:gR:=⟨⟨2,2,7,7⟩,0,12,1,0,false⟩
def F0:Lot:=⟨1,0,smA,[]⟩
def Cp(p:Plan):mD:=⟨p,[F0],[],[],[],[]⟩
def rZ:rW:=⟨1,[⟨[Co],[]⟩]⟩
theorem Jo:dP xx=true:=by kernel_rfl
theorem aar:qx xx yj=0:=by kernel_rfl
theorem aas:qx (jR xx yj) xi=0:=by kernel_rfl
theorem Jp:fK xx [yj,xi]=.ok FX:=by
 unfold fK;rw[if_pos aar];unfold fK;rw[if_pos aas];rfl
theorem xsA:Pu smA= [0,9]:=by
 unfold Pu;rw[show nu smA= [0,9]by kernel_rfl,show fL [0,9]= [0,9]by simp[fL,List.mergeSort,List.MergeSort.Internal.splitInTwo]];kernel_rfl
theorem xsB:Pu FY= [2,7]:=by
 unfold Pu;rw[show nu FY= [2,7]by kernel_rfl,show fL [2,7]= [2,7]by simp[fL,List.mergeSort,List.MergeSort.Internal.splitInTwo]];kernel_rfl
theorem af2:Pu (smA++FY)= [0,2,7,9]:=by
 unfold Pu;rw[show nu (smA++FY)= [0,9,2,7]by kernel_rfl,show fL [0,9,2,7]= [0,2,7,9]by simp[fL,List.mergeSort,List.MergeSort.Internal.splitInTwo]];kernel_rfl
theorem ofA:Nk smA=(smA,0):=by
 unfold Nk cP;rw[xsA];kernel_rfl
theorem ofB:Nk FY=(FY,0):=by
 unfold Nk cP;rw[xsB];kernel_rfl
theorem rgA:ew smA=true:=by
 unfold ew;rw[ofA];kernel_rfl
theorem rgB:ew FY=true:=by
 unfold ew;rw[ofB];kernel_rfl
theorem stA:cP smA= [⟨0,9,[⟨0,9⟩]⟩]:=by
 unfold cP;rw[xsA];kernel_rfl
theorem stB:cP FY= [⟨2,7,[⟨2,7⟩]⟩]:=by
 unfold cP;rw[xsB];kernel_rfl
theorem af4:cP (smA++FY)= [⟨0,2,[⟨0,9⟩]⟩,⟨2,7,[⟨0,9⟩]⟩,⟨7,9,[⟨0,9⟩]⟩]:=by
 unfold cP;rw[af2];kernel_rfl
theorem mg0:mergeD [⟨0,9⟩] []= []:=by
 unfold mergeD;rw[show Py [⟨0,9⟩] []= [0,9]by unfold Py;rw[show oA ([⟨0,9⟩]++ [])= [0,9]by kernel_rfl,show fL [0,9]= [0,9]by simp[fL,List.mergeSort,List.MergeSort.Internal.splitInTwo]];kernel_rfl];kernel_rfl
theorem mg1:mergeD [⟨0,9⟩] [⟨2,7⟩]= [⟨2,7⟩]:=by
 unfold mergeD;rw[show Py [⟨0,9⟩] [⟨2,7⟩]= [0,2,7,9]by unfold Py;rw[show oA ([⟨0,9⟩]++ [⟨2,7⟩])= [0,9,2,7]by kernel_rfl,show fL [0,9,2,7]= [0,2,7,9]by simp[fL,List.mergeSort,List.MergeSort.Internal.splitInTwo]];kernel_rfl];kernel_rfl
theorem cf0:lx smA FY ⟨0,2,[⟨0,9⟩]⟩=⟨0,2,[]⟩:=by
 unfold lx;rw[stA,stB,show gV [⟨0,9,[⟨0,9⟩]⟩] 0= [⟨0,9⟩]by kernel_rfl,show gV [⟨2,7,[⟨2,7⟩]⟩] 0= []by kernel_rfl,mg0]
theorem cf2:lx smA FY ⟨2,7,[⟨0,9⟩]⟩=⟨2,7,[⟨2,7⟩]⟩:=by
 unfold lx;rw[stA,stB,show gV [⟨0,9,[⟨0,9⟩]⟩] 2= [⟨0,9⟩]by kernel_rfl,show gV [⟨2,7,[⟨2,7⟩]⟩] 2= [⟨2,7⟩]by kernel_rfl,mg1]
theorem cf7:lx smA FY ⟨7,9,[⟨0,9⟩]⟩=⟨7,9,[]⟩:=by
 unfold lx;rw[stA,stB,show gV [⟨0,9,[⟨0,9⟩]⟩] 7= [⟨0,9⟩]by kernel_rfl,show gV [⟨2,7,[⟨2,7⟩]⟩] 7= []by kernel_rfl,mg0]
theorem af5:pB smA FY=(FY,0):=by
 unfold pB;rw[rgA,rgB,af4,List.map_cons,List.map_cons,List.map_cons,List.map_nil,cf0,cf2,cf7];kernel_rfl
theorem arA:nd smA=81:=by
 unfold nd;rw[rgA];kernel_rfl
theorem arB:nd FY=25:=by
 unfold nd;rw[rgB];kernel_rfl
theorem vfV:mg smA Co=true:=by
 show((pB smA FY).2==0&& !decide (nd (pB smA FY).1<fO Co.base))=true;rw[af5];show((0:Int)==0&& !decide (nd FY<fO Co.base))=true;rw[arB];kernel_rfl
theorem drV(p:Plan):jC p.caps F0 rZ=true:=by
 unfold jC;rw[show sI rZ=true by kernel_rfl,show F0.area=smA from rfl,rgA,show(dw rZ).all (mg smA)=true by rw[show dw rZ= [Co]by kernel_rfl,List.all_cons,vfV];rfl];rfl
theorem znA:km [] smA= []:=by
 unfold km iJ;rw[rgA];kernel_rfl
theorem cvV:sL [Co]=25:=by
 unfold sL;rw[show yS [Co]= [2,7]by unfold yS;simp[Co,fL,List.mergeSort,List.MergeSort.Internal.splitInTwo]];kernel_rfl
def smM:List Entry:=(eI.zip [81,25,100,4,12,0,25,2,0]).map fun x=>⟨x.1,x.2⟩
theorem msV(p:Plan)(hp:sumF (DV p) [Co]=0):oK p smA [Co]=smM:=by
 unfold oK;rw[arA,cvV,show sumF jl [Co]=100 by kernel_rfl,show rX fM [Co]=4 by kernel_rfl,show rX gR.z1 [Co]=12 by kernel_rfl,show sumF gR.units [Co]=0 by kernel_rfl,show pC smA [Co]=2 by kernel_rfl,hp];rfl
theorem bkV(p:Plan)(hp:sumF (DV p) [Co]=0)(hz:p.zones= [])(r:Rule)(hk:r.kind=0):xS (fw (Cp p) F0 rZ) r=(qp p smM [] r.test==0):=by
 unfold xS;rw[if_pos hk];show(qp p (oK p smA (dw rZ)) (km p.zones smA) r.test==0)=_;rw[hz,znA,show dw rZ= [Co]by kernel_rfl,msV p hp]
theorem lkV(p:Plan):ml (Cp p) rZ=.ok (fw (Cp p) F0 rZ):=by
 unfold ml;rw[show findD (Cp p).land rZ.lot=some F0 from rfl];show(if jC p.caps F0 rZ=true then _ else _)=_;rw[if_pos (drV p)]
theorem adV(p:Plan)(hp:sumF (DV p) [Co]=0)(hz:p.zones= [])(out:List ByteArray)(i:Int)(hk:(p.rules.getD i.toNat default).kind=0):Bv (fw (Cp p) F0 rZ) out i=addN out (p.rules.getD i.toNat default).name (qp p smM [] (p.rules.getD i.toNat default).test==0):=by
 unfold Bv xT;show addN out (p.rules.getD i.toNat default).name (xS (fw (Cp p) F0 rZ) (p.rules.getD i.toNat default))=_;rw[bkV p hp hz _ hk]
theorem ouV(p:Plan)(hz:p.zones= [])(day:Int)(l:List Int)(hl:di [] day p.rules p.rules.length=l):uv (fw (Cp p) F0 rZ) day=l.foldl (Bv (fw (Cp p) F0 rZ)) []:=by
 unfold uv gN;show addN (((di (km p.zones smA) day p.rules p.rules.length).take (di (km p.zones smA) day p.rules p.rules.length).length).foldl (Bv (fw (Cp p) F0 rZ)) []) sM ((dw rZ).any fun v=> !ko [] 1 v)=_;rw[hz,znA,hl,List.take_length,show((dw rZ).any fun v=> !ko [] 1 v)=false by
  rw[show dw rZ= [Co]by kernel_rfl,List.any_cons,List.any_nil];show(!(ew FY&&true)||false)=false;rw[rgB];rfl]
 rfl
theorem brV(p:Plan)(hz:p.zones= [])(day:Int)(l:List Int)(hl:di [] day p.rules p.rules.length=l):gG (Cp p) rZ day=(l.foldl (Bv (fw (Cp p) F0 rZ)) [],0):=by
 unfold gG;rw[lkV];show(uv (fw (Cp p) F0 rZ) day,(0:Int))=_;rw[ouV p hz day l hl]
theorem tiP:sumF (DV xx) [Co]=0:=by kernel_rfl
theorem tiQ:sumF (DV FX) [Co]=0:=by kernel_rfl
theorem af6:gG (Cp xx) rZ 5=([⟨#[108,111,119]⟩],0):=by
 rw[brV xx rfl 5 [0,1] (by kernel_rfl),List.foldl_cons,List.foldl_cons,List.foldl_nil,adV xx tiP rfl _ 0 (by kernel_rfl),adV xx tiP rfl _ 1 (by kernel_rfl)];kernel_rfl
theorem af7:gG (Cp FX) rZ 5=([],0):=by
 rw[brV FX rfl 5 [1,2] (by kernel_rfl),List.foldl_cons,List.foldl_cons,List.foldl_nil,adV FX tiQ rfl _ 1 (by kernel_rfl),adV FX tiQ rfl _ 2 (by kernel_rfl)];kernel_rfl
theorem af8:gG (Cp FX) rZ 4=([⟨#[108,111,119]⟩],0):=by
 rw[brV FX rfl 4 [0,1] (by kernel_rfl),List.foldl_cons,List.foldl_cons,List.foldl_nil,adV FX tiQ rfl _ 0 (by kernel_rfl),adV FX tiQ rfl _ 1 (by kernel_rfl)];kernel_rfl
theorem Mt{T:Type}{L:Lay T}{w:World}{b:Nat}{cs:zv}{t:TypeId}{d:T}(hb:Bx w b cs t)(h:L.R w cs d):Sl L w (some ⟨b,0,none⟩) 1 1 [d]:=sj hb.lt h fun j u hu=>by rw[hb.cell];exact hu
theorem vy{z:Int}(h:0<=z)(h2:z<=100):I64 z:=⟨by omega,by omega⟩
theorem WX(w:World):Calls prog 17 #[.int .i64 2,.int .i64 12] w fun e w'=> ∃cs:zv,e=.returned (.agg cs.toArray)/\af w w'/\(e6).R w' cs rZ:=by
 go_enter func17,ntmps17;go_wp2;refine bodyPost_ret (v:=.agg #[.int .i64 1,.slice (some ⟨w.heap.size+1+1+1,0,none⟩) 1 1]) (by simp[results,go_sem]) rfl ⟨[.int .i64 1,.slice (some ⟨w.heap.size+1+1+1,0,none⟩) 1 1],rfl,ae,some ⟨w.heap.size+1+1+1,0,none⟩,1,rfl,vy (by decide) (by decide),?_⟩;refine Mt (L:=uP) (t:=83) (d:=⟨[Co],[]⟩) (cs:= [.slice (some ⟨w.heap.size+1+1,0,none⟩) 1 1,.slice none 0 0]) ?_ ⟨_,1,_,0,rfl,?_,Sl.nil _ _⟩
 ·repeat (first|exact Bx.mv rfl (by simp<;>omega)|refine Bx.up ?_ _)
 ·refine Mt (L:=iD) (t:=98) (d:=Co) (cs:= [.int .i64 2,.int .i64 2,.int .i64 7,.int .i64 7,.int .i64 0,.int .i64 12,.int .i64 1,.int .i64 0,.bool false]) ?_ ⟨rfl,vy (by decide) (by decide),vy (by decide) (by decide),vy (by decide) (by decide),vy (by decide) (by decide),vy (by decide) (by decide),vy (by decide) (by decide),vy (by decide) (by decide),vy (by decide) (by decide)⟩
  repeat (first|exact Bx.mv rfl (by simp<;>omega)|refine Bx.up ?_ _)
theorem Xw:oU xx [yj,xi]=0:=by
 unfold oU;rw[if_pos Jo,Jp]
theorem agu:mA 2 xx:=by
 refine⟨by simp[xx],by simp[xx],by simp[xx],by simp[xx,yi],by simp[xx],by simp[xx],by simp[xx],fun i t h=>by simp[xx]at h,fun i t h=>by simp[xx]at h,fun i r h=> ?_,fun i t h=>by simp[xx]at h,fun i t h=>by simp[xx]at h⟩;have h1:r∈yi:=gH h;have h2:r.zones= []/\r.exc= []:=by
  simp only[yi,List.mem_cons,List.not_mem_nil,or_false]at h1;rcases h1 with rfl|rfl<;>exact⟨rfl,rfl⟩
 exact⟨by rw[h2.1];simp,by rw[h2.2];simp⟩
theorem agv:∀e∈ [yj,xi],zi e/\oN e.rule:=fun e he=>by
 simp only[List.mem_cons,List.not_mem_nil,or_false]at he;rcases he with rfl|rfl
 ·exact⟨.inr (.inl rfl),by constructor<;>decide⟩
 ·exact⟨.inl rfl,by constructor<;>decide⟩
theorem aaF(p:Plan)(h1:p.zones= [])(h2:p.rules.length<=3)(h3:p.defs= []):sX (Cp p) rZ:=by
 refine⟨?_,?_,?_,?_,?_,?_,?_⟩
 ·show p.zones.length<=1000
  rw[h1];simp
 ·show p.rules.length<=1000
  omega
 ·show p.defs.length<=4
  rw[h3];simp
 ·show∀d∈p.defs,_
  rw[h3];simp
 ·intro i x h
  have h:x∈ [F0]:=gH h;simp only[List.mem_singleton]at h;subst h;constructor<;>simp[F0,smA]
 ·simp[rZ]
 ·intro i x h
  have h:x∈rZ.phases:=gH h;simp only[rZ,List.mem_singleton]at h;subst h;constructor<;>simp
theorem Lf{w:World}{p:Plan}{o1 o2 o3 o4 o5 o6 o7 lo:Option Addr}{n1 c1 n2 c2 n3 c3 n4 c4 n5 c5 n6 c6 n7 c7 lc:Nat}{hh:Int}(h:(bq).R w [.slice o1 n1 c1,.slice o2 n2 c2,.slice o3 n3 c3,.slice o4 n4 c4,.slice o5 n5 c5,.slice o6 n6 c6,.slice o7 n7 c7,.int .i64 hh] p)(hl:Sl pM w lo 1 lc [F0]):(gg).R w [.slice o1 n1 c1,.slice o2 n2 c2,.slice o3 n3 c3,.slice o4 n4 c4,.slice o5 n5 c5,.slice o6 n6 c6,.slice o7 n7 c7,.int .i64 hh,.slice lo 1 lc,.slice none 0 0,.slice none 0 0,.slice none 0 0,.slice none 0 0] (Cp p):=by
 obtain⟨a1,b1,a2,b2,a3,b3,a4,b4,a5,b5,a6,b6,a7,b7,hcs,q0,q1,q2,q3,q4,q5,q6,q7⟩:=h;simp only[List.cons.injEq,Value.slice.injEq,Value.int.injEq,true_and,and_true]at hcs;obtain⟨⟨rfl,rfl,rfl⟩,⟨rfl,rfl,rfl⟩,⟨rfl,rfl,rfl⟩,⟨rfl,rfl,rfl⟩,⟨rfl,rfl,rfl⟩,⟨rfl,rfl,rfl⟩,⟨rfl,rfl,rfl⟩,rfl⟩:=hcs;exact⟨_,_,_,_,_,_,_,_,_,_,_,_,_,_,lo,lc,_,_,_,_,_,_,_,_,rfl,q0,q1,q2,q3,q4,q5,q6,q7,hl,Sl.nil _ _,Sl.nil _ _,Sl.nil _ _,Sl.nil _ _⟩
theorem Lg{w:World}{a b:Nat}(h1:Bx w a [.int .i64 0,.int .i64 0,.int .i64 9,.int .i64 9] 74)(h2:Bx w b [.int .i64 1,.int .i64 0,.slice (some ⟨a,0,none⟩) 1 1,.slice none 0 0] 77):Sl pM w (some ⟨b,0,none⟩) 1 1 [F0]:=
 Mt (L:=pM) (d:=F0) h2 ⟨_,1,_,0,rfl,vy (by decide) (by decide),vy (by decide) (by decide),Mt (L:=je) (d:=⟨0,0,9,9⟩) h1 ⟨rfl,vy (by decide) (by decide),vy (by decide) (by decide),vy (by decide) (by decide),vy (by decide) (by decide)⟩,Sl.nil _ _⟩
theorem agw{ts ds:zv}{w:World}(hg:Gl w)(h:(gg).R w ts (Cp xx))(h2:(e6).R w ds rZ):Calls prog 9 #[.agg ts.toArray,.agg ds.toArray,.int .i64 5] w (xn ([⟨#[108,111,119]⟩],0) w):=by
 have h3:=mq (Cp xx) rZ 5 ts ds w hg h h2 (aaF xx rfl (by decide) rfl)
 rwa [af6]at h3
theorem agx{ts ds:zv}{w:World}(hg:Gl w)(h:(gg).R w ts (Cp FX))(h2:(e6).R w ds rZ):Calls prog 9 #[.agg ts.toArray,.agg ds.toArray,.int .i64 5] w (xn ([],0) w):=by
 have h3:=mq (Cp FX) rZ 5 ts ds w hg h h2 (aaF FX rfl (by rw[show FX.rules.length=3 by kernel_rfl];decide) rfl)
 rwa [af7]at h3
theorem agy{ts ds:zv}{w:World}(hg:Gl w)(h:(gg).R w ts (Cp FX))(h2:(e6).R w ds rZ):Calls prog 9 #[.agg ts.toArray,.agg ds.toArray,.int .i64 4] w (xn ([⟨#[108,111,119]⟩],0) w):=by
 have h3:=mq (Cp FX) rZ 4 ts ds w hg h h2 (aaF FX rfl (by rw[show FX.rules.length=3 by kernel_rfl];decide) rfl)
 rwa [af8]at h3
theorem TT(w:World)(hg:Gl w)(hsg:qA w):Calls prog 5 #[] w (cX (.bool true) w):=by
 have HG:=aa hg;have za:=aa hsg;clear hg hsg;go_enter func5,ntmps5;go_wp2_with fail
 refine ag (Jl _ ?_ ?_) ?_
 ·exact HG.zo.exts ae
 ·exact za.zo.exts ae
 rintro e W1 ⟨cs,rfl,⟨x1,rfl⟩,hpl,g1,k1,hcs,_⟩;subst hcs;have hp1:=show(bq).R _ [.slice none 0 0,.slice none 0 0,.slice none 0 0,.slice (some ⟨g1,0,none⟩) 2 k1,.slice none 0 0,.slice none 0 0,.slice none 0 0,.int .i64 0] xx from hpl.r;try simp only[bf,au,ai]at hp1
 have CE:=aa hp1;clear hpl hp1;go_wp2_with fail
 refine ag (WU _ ?_ ?_) ?_
 ·exact HG.zo.exts ae
 ·exact za.zo.exts ae
 rintro e W2 ⟨eo,ec,rfl,⟨x2,rfl⟩,hse⟩;try simp only[bf,au,ai]at hse
 have HSE:=aa hse;clear hse;go_wp2_with fail
 with_reducible refine ag (SY xx [yj,xi] _ eo 2 ec 2 _ ?_ ?_ ?_ agv agu (by decide)) ?_
 ·exact HG.zo.exts ae
 ·exact(bq).exts CE.zo ae
 ·exact HSE.zo.exts ae
 rintro e W3 ⟨c3,rfl,⟨x3,rfl⟩,⟨u1,v1,z1,u2,v2,z2,u3,v3,z3,u4,v4,z4,u5,v5,z5,u6,v6,z6,u7,v7,z7,h4,rfl⟩,hr3⟩;rw[Xw];have hr3:=hr3 FX Jo Jp;try simp only[bf,au,ai]at hr3
 have HR3:=aa hr3;clear hr3;go_wp2_with fail
 with_reducible refine ag (WX _) ?_
 rintro e W4 ⟨c4,rfl,⟨x4,rfl⟩,hd4⟩;try simp only[bf,au,ai]at hd4
 have HD4:=aa hd4;obtain⟨dO,dk,rfl,_,_⟩:=hd4;go_wp2_with fail
 with_reducible refine ag (agw ?_ ?_ ?_) ?_
 ·exact HG.zo.exts ae
 ·skip
  refine Lf ((bq).exts CE.zo ae) (Lg (a:=w.heap.size+x1.bs.size+1+x2.bs.size+x3.bs.size+1) ?_ ?_)
  ·repeat (first|exact Bx.mv rfl (by simp<;>omega)|refine Bx.up ?_ _|refine Bx.exts ?_ ⟨_,rfl⟩)
  ·repeat (first|exact Bx.mv rfl (by simp<;>omega)|refine Bx.up ?_ _|refine Bx.exts ?_ ⟨_,rfl⟩)
 ·exact(e6).exts HD4.zo ae
 rintro e W5 ⟨o5,k5,rfl,⟨x5,rfl⟩,hs5⟩;try simp only[bf,au,ai]at hs5
 have HS5:=aa hs5;clear hs5;go_wp2_with fail
 with_reducible refine ag (agx ?_ ?_ ?_) ?_
 ·exact HG.zo.exts ae
 ·skip
  refine Lf ((bq).exts HR3.zo ae) (Lg (a:=w.heap.size+x1.bs.size+1+x2.bs.size+x3.bs.size+1) ?_ ?_)
  ·repeat (first|exact Bx.mv rfl (by simp<;>omega)|refine Bx.up ?_ _|refine Bx.exts ?_ ⟨_,rfl⟩)
  ·repeat (first|exact Bx.mv rfl (by simp<;>omega)|refine Bx.up ?_ _|refine Bx.exts ?_ ⟨_,rfl⟩)
 ·exact(e6).exts HD4.zo ae
 rintro e W6 ⟨o6,k6,rfl,⟨x6,rfl⟩,hs6⟩;clear hs6;go_wp2_with fail
 with_reducible refine ag (agy ?_ ?_ ?_) ?_
 ·exact HG.zo.exts ae
 ·skip
  refine Lf ((bq).exts HR3.zo ae) (Lg (a:=w.heap.size+x1.bs.size+1+x2.bs.size+x3.bs.size+1) ?_ ?_)
  ·repeat (first|exact Bx.mv rfl (by simp<;>omega)|refine Bx.up ?_ _|refine Bx.exts ?_ ⟨_,rfl⟩)
  ·repeat (first|exact Bx.mv rfl (by simp<;>omega)|refine Bx.up ?_ _|refine Bx.exts ?_ ⟨_,rfl⟩)
 ·exact(e6).exts HD4.zo ae
 rintro e W7 ⟨o7,k7,rfl,hx7,hs7⟩;have hs5:=HS5.zo.exts (af.trans ae hx7);have hxw:af w W7:=af.trans ae hx7;clear hx7;obtain⟨b5,p5,cs5,rfl,l5,⟨rfl,_⟩,hc5⟩:=hs5.at (show [(⟨#[108,111,119]⟩:ByteArray)][0]?=some _ from rfl);obtain⟨b7,p7,cs7,rfl,l7,⟨rfl,_⟩,hc7⟩:=hs7.at (show [(⟨#[108,111,119]⟩:ByteArray)][0]?=some _ from rfl);have c5:=hc5 0 _ rfl;have c7:=hc7 0 _ rfl;simp only[fC,Nat.zero_mul,Nat.add_zero]at c5 c7;have m5:=hs5.nle;have m7:=hs7.nle;have uB:=aa hxw;clear hc5 hc7 hs5 hs7 hxw;go_wp2;go_ret;exact⟨rfl,uB.zo⟩
theorem JB:∀(l:List fN)(p q:Plan)(m:Nat),mA m p->(∀e∈l,oN e.rule)->fK p l=.ok q->mA (m+l.length) q/\q.defs=p.defs
 | [],p,q,m,h,_,ha=>by
  unfold fK at ha;cases ha;exact⟨h,rfl⟩
 |e::l,p,q,m,h,hl,ha=>by
  unfold fK at ha;split at ha
  ·have h1:=JB l (jR p e) q (m+1) (Fy h (hl e List.mem_cons_self)) (fun x hx=>hl x (List.mem_cons_of_mem _ hx)) ha
   rw[List.length_cons,show m+(l.length+1)=m+1+l.length by omega];exact⟨h1.1,h1.2.trans (ya p e)⟩
  ·cases ha
theorem Cx:∀(l:List fN)(p:Plan){c:Int},fK p l=.error c->c≠0
 | [],p,c,h=>by
  unfold fK at h;cases h
 |e::l,p,c,h=>by
  unfold fK at h;split at h
  ·exact Cx l _ h
  ·rename_i h0
   cases h;exact h0
theorem Lh{p:Plan}{l:List fN}(h:oU p l=0):dP p=true/\∃q,fK p l=.ok q:=by
 unfold oU at h;split at h
 ·rename_i h1
  refine⟨h1,?_⟩;split at h
  ·rename_i q hq
   exact⟨q,hq⟩
  ·rename_i c hc
   exfalso;exact Cx l p hc h
 ·cases h
theorem ui{t:mD}{d:rW}{q:Plan}{n:Nat}(hf:aaI t d)(ho:∀x∈t.land,x.old.length<=1048576)(hw:mA n q)(hn:n<=1000)(hd:q.defs=t.plan.defs)(hr:dP t.plan=true):sX {t with plan:=q} d:=
 ⟨hw.zones,by have:=hw.rules;show q.rules.length<=1000;omega,hw.defs,fun x hx=>(sR hr).2 x (by rw[<-hd];exact hx),fun i x hi=>⟨by have:=hf.lot i x hi;omega,ho x (gH hi)⟩,hf.phases,hf.phase⟩
theorem JC{t:mD}{d:rW}(hf:aaI t d)(ho:∀x∈t.land,x.old.length<=1048576)(hr:dP t.plan=true):sX t d:=ui (q:=t.plan) hf ho hf.plan.w (by decide) rfl hr
theorem xr{w:World}{t:mD}{p:Plan}{o1 o2 o3 o4 o5 o6 o7 cG bQ cI bY cL:Option Addr}{n1 c1 n2 c2 n3 c3 n4 c4 n5 c5 n6 c6 n7 c7 cH bU cJ bZ cM:Nat}{hh:Int}(h:(bq).R w [.slice o1 n1 c1,.slice o2 n2 c2,.slice o3 n3 c3,.slice o4 n4 c4,.slice o5 n5 c5,.slice o6 n6 c6,.slice o7 n7 c7,.int .i64 hh] p)(r0:Sl pM w cG t.land.length cH t.land)(r1:Sl vG w bQ t.dH.length bU t.dH)(r2:Sl PU w cI t.wins.length cJ t.wins)(r3:Sl lI w bY t.built.length bZ t.built)(r4:Sl eY w cL t.base.length cM t.base):(gg).R w [.slice o1 n1 c1,.slice o2 n2 c2,.slice o3 n3 c3,.slice o4 n4 c4,.slice o5 n5 c5,.slice o6 n6 c6,.slice o7 n7 c7,.int .i64 hh,.slice cG t.land.length cH,.slice bQ t.dH.length bU,.slice cI t.wins.length cJ,.slice bY t.built.length bZ,.slice cL t.base.length cM] {t with plan:=p}:=by
 obtain⟨a1,b1,a2,b2,a3,b3,a4,b4,a5,b5,a6,b6,a7,b7,hcs,q0,q1,q2,q3,q4,q5,q6,q7⟩:=h;simp only[List.cons.injEq,Value.slice.injEq,Value.int.injEq,true_and,and_true]at hcs;obtain⟨⟨rfl,rfl,rfl⟩,⟨rfl,rfl,rfl⟩,⟨rfl,rfl,rfl⟩,⟨rfl,rfl,rfl⟩,⟨rfl,rfl,rfl⟩,⟨rfl,rfl,rfl⟩,⟨rfl,rfl,rfl⟩,rfl⟩:=hcs;exact⟨_,_,_,_,_,_,_,_,_,_,_,_,_,_,_,_,_,_,_,_,_,_,_,_,rfl,q0,q1,q2,q3,q4,q5,q6,q7,r0,r1,r2,r3,r4⟩
end Go.Proofs.YtomgpelfmgkknaaGreatDoor
