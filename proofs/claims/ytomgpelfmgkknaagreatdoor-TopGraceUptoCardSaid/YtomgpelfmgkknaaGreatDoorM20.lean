/- Lemmas for the law. No conditions. -/
import Derived.Test.YtomgpelfmgkknaaGreatDoorM15
import Derived.Test.YtomgpelfmgkknaaGreatDoorM14
import Derived.Test.YtomgpelfmgkknaaGreatDoorM18
import Derived.Maps.OwnIn
import Derived.Test.YtomgpelfmgkknaaGreatDoorM19
namespace Go.Proofs.YtomgpelfmgkknaaGreatDoor
open Go.RowKit Go.Maps
open Go.Proofs.Tryz
set_option maxRecDepth 100000
set_option maxHeartbeats 40000000
set_option linter.unusedVariables false
set_option linter.unusedSimpArgs false
theorem LY{w:World}{b:Nat}{u0 u1 u2 u3:Value}(h0:w.cell? ⟨b,0,none⟩=some u0)(h1:w.cell? ⟨b,1,none⟩=some u1)(h2:w.cell? ⟨b,2,none⟩=some u2)(h3:w.cell? ⟨b,3,none⟩=some u3):∀j u,[u0,u1,u2,u3][j]?=some u->w.cell? ⟨b,j,none⟩=some u:=fun j u hu=>by
 match j,hu with
 |0,hu=>(cases hu;exact h0)
 |1,hu=>(cases hu;exact h1)
 |2,hu=>(cases hu;exact h2)
 |3,hu=>(cases hu;exact h3)
def mg(area:List Rc)(v:gR):Bool:=(pB area [v.base]).2==0&& !decide (nd (pB area [v.base]).1<fO v.base)
def oG(caps:List Cap)(x:Entry):Bool:=caps.any fun c=>c.name.toList==x.name.toList
def jC(caps:List Cap)(lot:Lot)(d:rW):Bool:=sI d&&((lot.id==d.lot)&&(ew lot.area&&((dw d).all (mg lot.area)&&d.phases.all fun p=>p.gives.all (oG caps))))
theorem Rl{l:List Rc}{s:Int}(hs:nd l=s)(ao:Option Addr)(n c:Nat)(w:World)(h:Sl je w ao n c l):Calls prog 153 #[.slice ao n c] w (cX (.int .i64 s) w):=by
 rw[<-hs];exact LR ao n c l w h
theorem DY{r:Rc}{s:Int}(hs:fO r=s)(w:World):Calls prog 154 #[.agg #[.int .i64 r.x0,.int .i64 r.y0,.int .i64 r.x1,.int .i64 r.y1]] w (cX (.int .i64 s) w):=by
 rw[<-hs];exact tG r w
theorem LZ(p:Plan)(t:Lot)(d:rW)(ps ts ds:zv)(w:World)(hg:Gl w)(h1:(bq).R w ps p)(h2:(pM).R w ts t)(h:(e6).R w ds d)(hp:d.phases.length<=3)(hv:∀(i:Nat)(x:Phase),d.phases[i]?=some x->x.cA.length<=3)(hgv:∀(i:Nat)(x:Phase),d.phases[i]?=some x->x.gives.length<=3):Calls prog 72 #[.agg ps.toArray,.agg ts.toArray,.agg ds.toArray] w (cX (.bool (jC p.caps t d)) w):=by
 have hvl:(dw d).length<=9:=by
  have:=wm hv (k:=d.phases.length) (Nat.le_refl _);rw[List.take_length]at this;exact Nat.le_trans this (by omega)
 obtain⟨o,c,rfl,i1,q1⟩:=h;obtain⟨a1,b1,a2,b2,rfl,j0,j1,j2,j3⟩:=h2;obtain⟨o1,c1,o2,c2,o3,c3,o4,c4,o5,c5,o6,c6,o7,c7,rfl,p0,p1,p2,p3,p4,p5,p6,p7⟩:=h1;have HR:=aa (show(e6).R w [.int .i64 d.lot,.slice o d.phases.length c] d from⟨o,c,rfl,i1,q1⟩);have HP:=aa q1;have HA:=aa j2;have HC:=aa p4;have HV:=aa hv;have Zx:=aa hgv;have HG:=aa hg;obtain⟨res,hres⟩:∃r,jC p.caps t d=r:=⟨_,rfl⟩;have aD:=aa hres;rw[hres];obtain⟨fd,hfd⟩:∃r,sI d=r:=⟨_,rfl⟩;have L0:=aa hfd;obtain⟨ra,hra⟩:∃r,ew t.area=r:=⟨_,rfl⟩;have zC:=aa hra;clear hres hv hgv hg i1 q1 j0 j1 j2 j3 p0 p1 p2 p3 p4 p5 p6 p7 hfd hra;cases fd with
 |false=>
  have HF:=aa (show res=false by rw[<-aD.zo];unfold jC;rw[L0.zo];rfl);go_enter func72,ntmps72;go_wp2_with (first|((with_reducible refine ag (Ac d _ _ ?_ ?_ hp HV.zo Zx.zo) ?_);exact HG.zo.exts ae;exact(e6).exts HR.zo ae;rw[L0.zo];rintro e w' ⟨rfl,y0,rfl⟩)|((with_reducible refine ag (ep zC.zo _ _ _ _ ?_) ?_);exact HA.zo.exts ae;rintro e w' ⟨rfl,y1,rfl⟩))
  go_ret;rw[HF.zo];exact⟨rfl,ae⟩
 |true=>
 cases t0:(t.id==d.lot)with
 |false=>
  have HF:=aa (show res=false by rw[<-aD.zo];unfold jC;rw[L0.zo,t0];rfl);have t1:(t.id !=d.lot)=true:=by simpa using t0
  have t2: ¬t.id=d.lot:=by simpa using t0
  go_enter func72,ntmps72;go_wp2_with (first|((with_reducible refine ag (Ac d _ _ ?_ ?_ hp HV.zo Zx.zo) ?_);exact HG.zo.exts ae;exact(e6).exts HR.zo ae;rw[L0.zo];rintro e w' ⟨rfl,y0,rfl⟩)|((with_reducible refine ag (ep zC.zo _ _ _ _ ?_) ?_);exact HA.zo.exts ae;rintro e w' ⟨rfl,y1,rfl⟩))
  go_ret;rw[HF.zo];exact⟨rfl,ae⟩
 |true=>
 have HID:=aa t0;have t2:t.id=d.lot:=by simpa using t0
 have t1:(d.lot !=d.lot)=false:=by simp
 obtain⟨tid,cC,uF,told⟩:=t;simp only at t2 t0 HID aD zC HA;subst t2;clear t0;cases ra with
 |false=>
  have HF:=aa (show res=false by rw[<-aD.zo];unfold jC;simp only;rw[L0.zo,HID.zo,zC.zo];rfl);go_enter func72,ntmps72;go_wp2_with (first|((with_reducible refine ag (Ac d _ _ ?_ ?_ hp HV.zo Zx.zo) ?_);exact HG.zo.exts ae;exact(e6).exts HR.zo ae;rw[L0.zo];rintro e w' ⟨rfl,y0,rfl⟩)|((with_reducible refine ag (ep zC.zo _ _ _ _ ?_) ?_);exact HA.zo.exts ae;rintro e w' ⟨rfl,y1,rfl⟩))
  go_ret;rw[HF.zo];exact⟨rfl,ae⟩
 |true=>
 have HF:=aa (show res=((dw d).all (mg uF)&&d.phases.all fun q=>q.gives.all (oG p.caps))by rw[<-aD.zo];unfold jC;simp only;rw[L0.zo,HID.zo,zC.zo];rfl);obtain⟨l,hl⟩:∃l,dw d=l:=⟨_,rfl⟩;have QV:=aa hl;rw[hl]at HF hvl;clear hl;have HVN:=aa (show∀(j:Nat)(v:gR),l[j]?=some v->mg uF v=false->res=false from fun j v hj hv2=>by
  rw[HF.zo];have:l.all (mg uF)=false:=by
   rw[List.all_eq_false];exact⟨v,gH hj,by rw[hv2];simp⟩
  rw[this];rfl)
 go_enter func72,ntmps72;go_wp2_with (first|((with_reducible refine ag (Ac d _ _ ?_ ?_ hp HV.zo Zx.zo) ?_);exact HG.zo.exts ae;exact(e6).exts HR.zo ae;rw[L0.zo];rintro e w' ⟨rfl,y0,rfl⟩)|((with_reducible refine ag (ep zC.zo _ _ _ _ ?_) ?_);exact HA.zo.exts ae;rintro e w' ⟨rfl,y1,rfl⟩)|((with_reducible refine ag (xI d _ _ ?_ hp HV.zo) ?_);exact(e6).exts HR.zo ae;rw[QV.zo];rintro e w' ⟨vo,vc,rfl,⟨y2,rfl⟩,hs⟩;(try simp only[bf,au]at hs);(have HS:=aa hs);clear hs))
 refine bI ?_;intro V hV;have wH:=aa (show af w V by rw[hV];exact ae);have HSV:=aa (show Sl iD V vo l.length vc l by rw[hV];exact HS.zo.exts ae);have K0:=aa (show V.cell? ⟨w.heap.size+1,2,none⟩=some (.slice a1 uF.length b1)by rw[hV];simp[go_sem]);have K1:=aa (show V.cell? ⟨w.heap.size+1+1,1,none⟩=some (.slice o d.phases.length c)by rw[hV];simp[go_sem]);have K2:=aa (show V.cell? ⟨w.heap.size,4,none⟩=some (.slice o5 p.caps.length c5)by rw[hV];simp[go_sem]);clear hV HS;go_loopw [34] (fun i wr=> ∃(k:Nat),k<=l.length/\i=.int .i64 k/\af V wr/\∀(j:Nat)(v:gR),j<k->l[j]?=some v->mg uF v=true) (fun i _=>l.length - (intOf i).toNat)
 case atStart=>exact⟨0,by omega,rfl,af.refl _,fun j v hj=>by omega⟩
 case round=>
  obtain⟨k,hk,rfl,hx,hall⟩:=hrel;have HX:=aa hx;have ey:=aa hall;have k0:=af.cell hx K0.zo;have X4:=bP k0;clear hx hall;by_cases hlt:k<l.length
  ·obtain⟨v,hvv⟩:=HSV.zo.ex hlt
   obtain⟨b,off,cs,rfl,lb,hR,cZ⟩:=HSV.zo.ld hvv;obtain⟨rfl,m0,m1,m2,m3,_⟩:=hR;have hld:∀w',af wr w'->_:=fun w' he=>cZ w' (HX.zo.trans he)
   have HVV:=aa hvv;have HM:=aa (show I64 v.base.x0/\I64 v.base.y0/\I64 v.base.x1/\I64 v.base.y1 from⟨m0,m1,m2,m3⟩);obtain⟨⟨r1,r2⟩,hcr⟩:∃r,pB uF [v.base]=r:=⟨_,rfl⟩;have X5:=aa hcr;obtain⟨s1,hs1⟩:∃s,nd r1=s:=⟨_,rfl⟩;obtain⟨s2,hs2⟩:∃s,fO v.base=s:=⟨_,rfl⟩;have xM:=aa hs1;have HS2:=aa hs2;have HVF:=aa (show mg uF v=((r2==0)&& !decide (s1<s2))by unfold mg;rw[hcr,<-hs1,<-hs2]);clear hvv cZ m0 m1 m2 m3 hcr hs1 hs2;go_wp2_with ((with_reducible refine ag (Nq _ _ _ _ _ _ uF [v.base] _ ?_ ?_) ?_);exact HA.zo.exts (wH.zo.trans (HX.zo.trans ae));(refine sj (cs:= [.int .i64 v.base.x0,.int .i64 v.base.y0,.int .i64 v.base.x1,.int .i64 v.base.y1]) (by simp<;>omega) ⟨rfl,HM.zo⟩ (LY ?_ ?_ ?_ ?_)<;>(simp[go_sem];done));rw[X5.zo];rintro e w' ⟨co,cc,rfl,⟨y5,rfl⟩,hs⟩;(try simp only[bf,au]at hs);(have HCO:=aa hs);clear hs)
   refine bI ?_;intro W4 zB;have Hh:=aa (show af V W4 by rw[zB];exact HX.zo.trans ae);have HC4:=aa (show Sl je W4 co r1.length cc r1 by rw[zB];exact HCO.zo.exts ae);have HB4:∀j u,[Value.int .i64 v.base.x0,.int .i64 v.base.y0,.int .i64 v.base.x1,.int .i64 v.base.y1][j]?=some u->W4.cell? ⟨wr.heap.size,j,none⟩=some u:=by
    rw[zB];refine LY ?_ ?_ ?_ ?_<;>(simp[go_sem];done)
   have hl4:∀w',af W4 w'->(jf 74 ⟨wr.heap.size,0,none⟩).run prog w'=.ok (.agg #[.int .i64 v.base.x0,.int .i64 v.base.y0,.int .i64 v.base.x1,.int .i64 v.base.y1]) w':=fun w' he=>pg (cs:= [.int .i64 v.base.x0,.int .i64 v.base.y0,.int .i64 v.base.x1,.int .i64 v.base.y1]) rfl fun j u hu=>by rw[Nat.zero_add];exact af.cell he (HB4 j u hu)
   clear zB HB4 hld k0 X4 HCO;cases z:(r2==0)with
   |false=>
    have JL:=aa (HVN.zo k v HVV.zo (by rw[HVF.zo,z];rfl));have z1:(r2 !=0)=true:=by simpa using z
    have z2: ¬r2=0:=by simpa using z
    first|refine eK ?_|refine eJ ?_
    repeat (go_big_quiet_step (fail))
    refine eM fun xq=> ?_
    go_wp2;go_ret;rw[JL.zo];exact⟨rfl,wH.zo.trans (Hh.zo.trans ae)⟩
   |true=>
   have HZ:=aa (show r2=0 by simpa using z);obtain rfl:=HZ.zo;clear z;cases z:decide (s1<s2)with
   |true=>
    have JL:=aa (HVN.zo k v HVV.zo (by rw[HVF.zo,z];rfl));first|refine eK ?_|refine eJ ?_
    repeat (go_big_quiet_step (((first|(go_at_call 153;exact Calls.dJ (Rl xM.zo _ _ _ _ (HC4.zo.exts ae)))|(go_at_call 154;exact Calls.dJ (DY HS2.zo _))))))
    refine eM fun xq=> ?_
    go_wp2;go_ret;rw[JL.zo];exact⟨rfl,wH.zo.trans (Hh.zo.trans ae)⟩
   |false=>
    have JL:=aa (show mg uF v=true by rw[HVF.zo,z];rfl);first|refine eK ?_|refine eJ ?_
    repeat (go_big_quiet_step (((first|(go_at_call 153;exact Calls.dJ (Rl xM.zo _ _ _ _ (HC4.zo.exts ae)))|(go_at_call 154;exact Calls.dJ (DY HS2.zo _))))))
    refine eM fun xq=> ?_
    go_wp2;refine⟨⟨k+1,by omega,by go_num,Hh.zo.trans ae,fun j v2 hj hv2=> ?_⟩,?_⟩
    ·rcases Nat.lt_or_ge j k with h1|h1
     ·exact ey.zo j v2 h1 hv2
     ·obtain rfl:j=k:=by omega
      have e:=HVV.zo;rw[hv2]at e;cases e;exact JL.zo
    ·simp[intOf];omega
  ·obtain rfl:l.length=k:=by omega
   have HF3:=aa (show res=d.phases.all fun q=>q.gives.all (oG p.caps)by
    rw[HF.zo];have:l.all (mg uF)=true:=by
     rw[List.all_eq_true];intro x hx;obtain⟨j,hj⟩:=List.getElem?_of_mem hx;exact ey.zo j x (bw hj).1 hj
    rw[this];rfl)
   have HGN:=aa (show∀(j i:Nat)(q:Phase)(x:Entry),d.phases[j]?=some q->q.gives[i]?=some x->oG p.caps x=false->res=false from fun j i q x hj hi hx=>by
    rw[HF3.zo,List.all_eq_false];refine⟨q,gH hj,?_⟩;rw[Bool.not_eq_true,List.all_eq_false];exact⟨x,gH hi,by rw[hx];simp⟩)
   have k1:=af.cell HX.zo K1.zo;clear k0 X4;go_wp2;go_loopw [63] (fun i w2=> ∃(k:Nat),k<=d.phases.length/\i=.int .i64 k/\af wr w2/\∀(j:Nat)(q:Phase),j<k->d.phases[j]?=some q->q.gives.all (oG p.caps)=true) (fun i _=>d.phases.length - (intOf i).toNat)
   case atStart=>exact⟨0,by omega,rfl,ae,fun j q hj=>by omega⟩
   case round=>
    obtain⟨k,hk,rfl,hx,hall⟩:=hrel;obtain⟨U,hU⟩:∃U:World,U=wr:=⟨_,rfl⟩;subst hU;have gm:=aa (HX.zo.trans hx);have CV:=aa hx;have Rk:=aa hall;clear hx hall;by_cases hlt:k<d.phases.length
    ·obtain⟨q,hqq⟩:=HP.zo.ex hlt
     obtain⟨b,off,cs,rfl,lb,hR,cZ⟩:=HP.zo.ld hqq;obtain⟨u1,e1,u2,e2,rfl,r1,r2⟩:=hR;have hld:∀w',af U w'->_:=fun w' he=>cZ w' (wH.zo.trans (gm.zo.trans he))
     have HQQ:=aa hqq;have HGE:=aa r2;have hgl:=Zx.zo k q hqq;clear hqq cZ r1 r2;go_wp2;go_loopw [70] (fun i w3=> ∃(j:Nat),j<=q.gives.length/\i=.int .i64 j/\af U w3/\∀(m:Nat)(x:Entry),m<j->q.gives[m]?=some x->oG p.caps x=true) (fun i _=>q.gives.length - (intOf i).toNat)
     case atStart=>exact⟨0,by omega,rfl,ae,fun m x hm=>by omega⟩
     case round=>
      obtain⟨j,hj,rfl,hx,hall⟩:=hrel;have iU:=aa (gm.zo.trans hx);have acN:=aa hx;have acO:=aa hall;have k2:=af.cell iU.zo K2.zo;have lk2:=bP k2;clear hx hall;by_cases hlj:j<q.gives.length
      ·obtain⟨x,hxx⟩:=HGE.zo.ex hlj
       obtain⟨bg,acM,csg,rfl,lbg,hRg,Ht⟩:=HGE.zo.ld hxx;obtain⟨rfl,gs,gi⟩:=hRg;have ae8:∀w',af wr w'->_:=fun w' he=>Ht w' (wH.zo.trans (iU.zo.trans he))
       have ER:=aa hxx;obtain⟨h,hh⟩:∃h,oG p.caps x=h:=⟨_,rfl⟩;have HH:=aa hh;clear hxx Ht gs gi hh;cases h with
       |false=>
        have JL:=aa (HGN.zo k j q x HQQ.zo ER.zo HH.zo);go_wp2_with ((with_reducible refine ag (pj 156 #[.pointer (some ⟨wr.heap.size,0,none⟩)] (fun c=>c.name.toList==x.name.toList) _ _ _ p.caps _ DX ?_ ?_) ?_);exact HC.zo.exts (wH.zo.trans (iU.zo.trans ae));exact(fun w' i d2 cs he _ hR=>yL d2 x.name x.n wr.heap.size cs w' hR (af.cell he (by simp[go_sem])));rw[show(p.caps.any fun c=>c.name.toList==x.name.toList)=_ from HH.zo];rintro e w' ⟨rfl,x8,rfl⟩)
        go_ret;rw[JL.zo];exact⟨rfl,wH.zo.trans (iU.zo.trans ae)⟩
       |true=>
        go_wp2_with ((with_reducible refine ag (pj 156 #[.pointer (some ⟨wr.heap.size,0,none⟩)] (fun c=>c.name.toList==x.name.toList) _ _ _ p.caps _ DX ?_ ?_) ?_);exact HC.zo.exts (wH.zo.trans (iU.zo.trans ae));exact(fun w' i d2 cs he _ hR=>yL d2 x.name x.n wr.heap.size cs w' hR (af.cell he (by simp[go_sem])));rw[show(p.caps.any fun c=>c.name.toList==x.name.toList)=_ from HH.zo];rintro e w' ⟨rfl,x8,rfl⟩)
        refine⟨⟨j+1,by omega,by go_num,acN.zo.trans ae,fun m x2 hm hx2=> ?_⟩,?_⟩
        ·rcases Nat.lt_or_ge m j with h1|h1
         ·exact acO.zo m x2 h1 hx2
         ·obtain rfl:m=j:=by omega
          have e:=ER.zo;rw[hx2]at e;cases e;exact HH.zo
        ·simp[intOf];omega
      ·obtain rfl:q.gives.length=j:=by omega
       go_wp2;refine⟨⟨k+1,by omega,by go_num,CV.zo.trans (acN.zo.trans ae),fun m q2 hm hq2=> ?_⟩,?_⟩
       ·rcases Nat.lt_or_ge m k with h1|h1
        ·exact Rk.zo m q2 h1 hq2
        ·obtain rfl:m=k:=by omega
         have e:=HQQ.zo;rw[hq2]at e;cases e;rw[List.all_eq_true];intro x hx;obtain⟨i,hi⟩:=List.getElem?_of_mem hx;exact acO.zo i x (bw hi).1 hi
       ·simp[intOf];omega
    ·obtain rfl:d.phases.length=k:=by omega
     have HR3:=aa (show res=true by
      rw[HF3.zo,List.all_eq_true];intro x hx;obtain⟨j,hj⟩:=List.getElem?_of_mem hx;exact Rk.zo j x (bw hj).1 hj)
     go_wp2;go_ret;rw[HR3.zo];exact⟨rfl,wH.zo.trans (gm.zo.trans ae)⟩
instance :Inhabited Def:=⟨⟨⟨#[]⟩,default⟩⟩
instance :Inhabited Rule:=⟨⟨⟨#[]⟩,[],[],0,0,0,false,0,default,⟨0,0,0,0⟩,0,0,0⟩⟩
def wJ{T:Type}(k:ByteArray->T)(s:ByteArray)(x:T):ByteArray->T:=fun a=>if(a.toList==s.toList)=true then x else k a
def oI:List (List UInt8)->List (List UInt8)
 | []=> []
 |a::l=>if l.contains a=true then oI l else a::oI l
theorem oJ(x:List UInt8):∀l,x∈oI l↔x∈l
 | []=>by simp[oI]
 |a::l=>by
  unfold oI;split
  ·rename_i h
   rw[oJ x l,List.mem_cons];refine⟨.inr,fun h2=>h2.elim (fun h3=> ?_) id⟩;rw[h3];simpa using h
  ·rw[List.mem_cons,List.mem_cons,oJ x l]
theorem qV:∀l,(oI l).Nodup
 | []=>List.nodup_nil
 |a::l=>by
  unfold oI;split
  ·exact qV l
  ·rename_i h
   refine List.nodup_cons.2 ⟨fun h2=>h ?_,qV l⟩;simpa using(oJ a l).1 h2
def mj(e:Xp):List (List UInt8):=(oI ((dS e).map (·.data.toList))).mergeSort fun x y=>decide (x<=y)
def wK(defs:List Def)(j:Nat):List UInt8->Option Nat:=(List.range j).foldl (fun f i s=>if((defs.getD i default).name.data.toList==s)=true then some i else f s) fun _=>none
def EW(defs:List Def)(e:Xp):List Nat:=(mj e).filterMap (wK defs defs.length)
def jo(defs:List Def):List (List Nat):=defs.map fun d=>EW defs d.body
def ltS(a b:ByteArray):Bool:=decide (a.toList<b.toList)
def nextK(defs:List Def)(U:List (List Nat))(done:List Bool)(b:Int)(i:Nat):Int:=if(pO U done i&&(decide (b<0)||ltS (defs.getD i default).name (defs.getD b.toNat default).name))=true then(i:Int)else b
def jc(defs:List Def)(U:List (List Nat))(done:List Bool)(m:Nat):Int:=(List.range m).foldl (nextK defs U done) (-1)
def tY(defs:List Def)(U:List (List Nat))(s:List Bool×List Int):List Bool×List Int:=(s.1.set (jc defs U s.1 defs.length).toNat true,s.2++ [jc defs U s.1 defs.length])
def ny(defs:List Def)(U:List (List Nat)):Nat->List Bool×List Int
 |0=>(List.replicate defs.length false,[])
 |r+1=>tY defs U (ny defs U r)
def EX(defs:List Def):Bool:=(List.range defs.length).any fun i=>eI.any (pN (defs.getD i default).name)||((defs.take i).any fun d=>d.name.toList==(defs.getD i default).name.toList)
def kK(defs:List Def):Option (List Int):=if EX defs=true∨jh (jo defs)=true then none else some (ny defs (jo defs) defs.length).2
def Kr(st:(ByteArray->Int)×(ByteArray->Bool))(m:Entry):(ByteArray->Int)×(ByteArray->Bool):=if st.2 m.name=true then st else(wJ st.1 m.name m.n,wJ st.2 m.name true)
def oX(ms:List Entry)(j:Nat):(ByteArray->Int)×(ByteArray->Bool):=(ms.take j).foldl Kr (fun _=>0,fun _=>false)
def ZC(p:Plan)(zs:List ByteArray)(k:ByteArray->Int)(i:Int):Int:=if ow (p.defs.getD i.toNat default).body=true then qM 12 ⟨p,k,zs⟩ (p.defs.getD i.toNat default).body else 0
def qW(p:Plan)(own:ByteArray->Bool)(zs:List ByteArray)(k:ByteArray->Int)(i:Int):ByteArray->Int:=if own (p.defs.getD i.toNat default).name=true then k else wJ k (p.defs.getD i.toNat default).name (ZC p zs k i)
def uZ(p:Plan)(ms:List Entry)(zs:List ByteArray)(l:List Int)(j:Nat):ByteArray->Int:=(l.take j).foldl (qW p (oX ms ms.length).2 zs) (oX ms ms.length).1
def pF(p:Plan)(ms:List Entry)(zs:List ByteArray):ByteArray->Int:=
 match kK p.defs with
 |none=>(oX ms ms.length).1
 |some l=>uZ p ms zs l l.length
def qp(p:Plan)(ms:List Entry)(zs:List ByteArray)(e:Xp):Int:=if ow e=true then qM 12 ⟨p,pF p ms zs,zs⟩ e else 0
def ZE(lo hi:Int)(st:Int×Int)(b:Rc):Int×Int:=if(decide (b.x0<=lo)&&(decide (lo<b.x1)&&decide (st.2<b.y1)))=true then(st.1+(hi - lo)*(b.y1 - jF st.2 b.y0),b.y1)else st
def jQ(bs:List Rc)(lo hi:Int)(n:Int)(j:Nat):Int×Int:=(bs.take j).foldl (ZE lo hi) (n,0)
def wL(bs:List Rc)(xs:List Int)(i:Nat):Int:=(List.range i).foldl (fun n i=>(jQ bs (xs.getD i 0) (xs.getD (i+1) 0) n bs.length).1) 0
def Bu(vs:List gR):List Rc:=qN (vs.map (·.base))
def yS(vs:List gR):List Int:=fL (vs.flatMap fun v=> [v.base.x0,v.base.x1])
def sL(vs:List gR):Int:=wL (Bu vs) (yS vs) ((yS vs).length - 1)
def oK(p:Plan)(area:List Rc)(vs:List gR):List Entry:=
 (eI.zip [nd area,sL vs,sumF jl vs,rX fM vs,rX gR.z1 vs,sumF gR.units vs,sL vs,pC area vs,sumF (DV p) vs]).map fun x=>⟨x.1,x.2⟩
def xS(s:jH)(r:Rule):Bool:=
 if r.kind=0 then qp s.cC.plan (oK s.cC.plan s.lot.area s.bJ) s.zones r.test==0
 else if r.kind=1 then s.bJ.any fun v=> !qU (iA s.lot.area).1 r.ah v
 else if r.kind=2 then s.bJ.any fun v=>LU r.uses v.use
 else if r.kind=3 then s.bJ.any fun v=>s.cC.built.any (pQ s.d.lot v r.uses r.other r.n)
 else false
def fw(t:mD)(lot:Lot)(d:rW):jH:=⟨t,lot,d,dw d,km t.plan.zones lot.area⟩
def ml(t:mD)(d:rW):Except Int jH:=
 match findD t.land d.lot with
 |none=> .error 4
 |some lot=>if jC t.plan.caps lot d=true then .ok (fw t lot d)else .error 1
def addN(out:List ByteArray)(s:ByteArray)(bad:Bool):List ByteArray:=if(bad&& !out.any (pN s))=true then out++ [s]else out
def xT(s:jH)(out:List ByteArray)(r:Rule):List ByteArray:=addN out r.name (xS s r)
def Bv(s:jH)(out:List ByteArray)(i:Int):List ByteArray:=xT s out (s.cC.plan.rules.getD i.toNat default)
def sM:ByteArray:=⟨#[101,97,115,101,109,101,110,116]⟩
def gN(s:jH)(day:Int)(j:Nat):List ByteArray:=((di s.zones day s.cC.plan.rules s.cC.plan.rules.length).take j).foldl (Bv s) []
def uv(s:jH)(day:Int):List ByteArray:=addN (gN s day (di s.zones day s.cC.plan.rules s.cC.plan.rules.length).length) sM (s.bJ.any fun v=> !ko s.cC.dH s.d.lot v)
def gG(t:mD)(d:rW)(day:Int):List ByteArray×Int:=
 match ml t d with
 | .error e=>([],e)
 | .ok s=>(uv s day,0)
theorem yT(zs:List ByteArray)(day:Int)(l:List Rule)(k:Nat):di zs day l (k+1)=di zs day l k++if NP zs day l k=true then [(k:Int)]else []:=by
 unfold di;rw[List.range_succ,List.filter_append,List.map_append];simp only[List.filter_cons,List.filter_nil];split<;>simp
theorem ve:∀(f:Nat)(c c':Ctx)(e:Xp),c.p.tables=c'.p.tables->c.k=c'.k->c.zones=c'.zones->qM f c e=qM f c' e
 |0,_,_,_,_,_,_=>rfl
 |f+1,c,c',e,h1,h2,h3=>by
  have:qM f c=qM f c':=funext fun x=>ve f c c' x h1 h2 h3
  unfold qM;rw[this];unfold LJ Ay;rw[h1,h2,h3]
theorem Iq(p q:Plan)(ms:List Entry)(zs:List ByteArray)(h1:q.defs=p.defs)(h2:q.tables=p.tables):pF q ms zs=pF p ms zs:=by
 have e:∀k i,qW q (oX ms ms.length).2 zs k i=qW p (oX ms ms.length).2 zs k i:=fun k i=>by
  unfold qW ZC;rw[h1,ve 12 ⟨q,k,zs⟩ ⟨p,k,zs⟩ _ h2 rfl rfl]
 unfold pF;rw[h1];split
 ·rfl
 ·unfold uZ
  rw[show qW q (oX ms ms.length).2 zs=qW p (oX ms ms.length).2 zs from funext fun k=>funext fun i=>e k i]
theorem Ir(p q:Plan)(ms:List Entry)(zs:List ByteArray)(e:Xp)(h1:q.defs=p.defs)(h2:q.tables=p.tables):qp q ms zs e=qp p ms zs e:=by
 unfold qp;rw[Iq p q ms zs h1 h2,ve 12 ⟨q,pF p ms zs,zs⟩ ⟨p,pF p ms zs,zs⟩ e h2 rfl rfl]
theorem Iu(p q:Plan)(area:List Rc)(vs:List gR)(h2:q.tables=p.tables):oK q area vs=oK p area vs:=by
 have:DV q=DV p:=funext fun v=>by
  unfold DV mz;rw[h2]
 unfold oK;rw[this]
structure E8(p q:Plan):Prop where
 defs:q.defs=p.defs
 tables:q.tables=p.tables
 zones:q.zones=p.zones
 caps:∀x,oG q.caps x=oG p.caps x
theorem Bz(t:mD)(p q:Plan)(lot:Lot)(d:rW)(h:E8 p q)(r:Rule)(s:Int):xS (fw {t with plan:=q} lot d) {r with stop:=s}=xS (fw {t with plan:=p} lot d) r:=by
 unfold xS fw;simp only;rw[Ir p q _ _ _ h.defs h.tables,Iu p q _ _ h.tables,h.zones]
theorem E9(p q:Plan)(lot:Lot)(d:rW)(h:E8 p q):jC q.caps lot d=jC p.caps lot d:=by
 unfold jC;rw[show oG q.caps=oG p.caps from funext h.caps]
structure kq(day:Int)(p q:Plan):Prop where
 same:E8 p q
 len:p.rules.length<=q.rules.length
 old:∀(i:Nat)(r:Rule),p.rules[i]?=some r->∃s,q.rules[i]?=some {r with stop:=s}/\(s=r.stop∨(day<s/\(r.stop=0∨day<r.stop)))
 new:∀(i:Nat)(r:Rule),p.rules.length<=i->q.rules[i]?=some r->day<r.start
theorem kq.le{day dy:Int}{p q:Plan}(h:kq day p q)(hd:dy<=day):kq dy p q:=
 ⟨h.same,h.len,fun i r hr=>by
  obtain⟨s,h1,h2⟩:=h.old i r hr;exact⟨s,h1,by omega⟩,fun i r hi hr=>by
  have:=h.new i r hi hr;omega⟩
theorem Fa(r:Rule)(s:Int)(zs:List ByteArray):jD {r with stop:=s} zs=jD r zs:=rfl
theorem NS{day:Int}{p q:Plan}(h:kq day p q)(zs:List ByteArray):∀i,NP zs day q.rules i=NP zs day p.rules i:=fun i=>by
 unfold NP;cases hp:p.rules[i]? with
 |none=>
  cases hq:q.rules[i]? with
  |none=>rfl
  |some r=>
   have:=h.new i r (List.getElem?_eq_none_iff.1 hp) hq;show dI zs day r=false;unfold dI;rw[show decide (r.start<=day)=false from jE (by omega)];rfl
 |some r=>
  obtain⟨s,hq,hs⟩:=h.old i r hp;rw[hq];show dI zs day {r with stop:=s}=dI zs day r;unfold dI;rw[Fa];show(((_&&(s==0||decide (day<s)))&&_)=_);rcases hs with rfl|⟨h1,h2⟩
  ·rfl
  ·rw[show decide (day<s)=true from zdt h1,Bool.or_true]
   rcases h2 with h2|h2
   ·rw[h2];rfl
   ·rw[show decide (day<r.stop)=true from zdt h2,Bool.or_true]
theorem Fb{day:Int}{p q:Plan}(h:kq day p q)(zs:List ByteArray):di zs day q.rules q.rules.length=di zs day p.rules p.rules.length:=by
 have e:∀n,di zs day q.rules n=di zs day p.rules n:=fun n=>by
  unfold di;rw[show NP zs day q.rules=NP zs day p.rules from funext (NS h zs)]
 have e2:∀n,di zs day p.rules (p.rules.length+n)=di zs day p.rules p.rules.length:=fun n=>by
  induction n with
  |zero=>rfl
  |succ n ih=>
   rw[<-Nat.add_assoc,yT,ih,if_neg,List.append_nil];unfold NP;rw[List.getElem?_eq_none (by omega)];simp
 rw[e,show q.rules.length=p.rules.length+(q.rules.length - p.rules.length)by have:=h.len;omega,e2]
theorem BA{zs:List ByteArray}{day:Int}{l:List Rule}{n:Nat}{i:Int}(h:i∈di zs day l n):∃(k:Nat)(r:Rule),i=k/\l[k]?=some r/\dI zs day r=true:=by
 unfold di at h;obtain⟨k,hk,rfl⟩:=List.mem_map.1 h;obtain⟨_,hk⟩:=List.mem_filter.1 hk;unfold NP at hk;cases hl:l[k]? with
 |none=>rw[hl]at hk;cases hk
 |some r=>rw[hl]at hk;exact⟨k,r,rfl,hl,hk⟩
theorem vg{α β:Type}{f g:β->α->β}:∀{l:List α}{b:β},(∀x∈l,∀b,f b x=g b x)->l.foldl f b=l.foldl g b
 | [],_,_=>rfl
 |a::l,b,h=>by
  rw[List.foldl_cons,List.foldl_cons,h a List.mem_cons_self b];exact vg fun x hx b=>h x (List.mem_cons_of_mem _ hx) b
theorem pR{day:Int}{p q:Plan}(h:kq day p q)(t:mD)(d:rW):gG {t with plan:=q} d day=gG {t with plan:=p} d day:=by
 unfold gG ml;simp only;cases hf:findD t.land d.lot with
 |none=>rfl
 |some lot=>
  simp only;rw[E9 p q lot d h.same];by_cases hd:jC p.caps lot d=true
  ·rw[if_pos hd,if_pos hd]
   have hz:(fw {t with plan:=q} lot d).zones=(fw {t with plan:=p} lot d).zones:=by
    unfold fw;simp only;rw[h.same.zones]
   have ha:di (fw {t with plan:=q} lot d).zones day q.rules q.rules.length=di (fw {t with plan:=p} lot d).zones day p.rules p.rules.length:=by
    rw[hz,Fb h]
   have hr:gN (fw {t with plan:=q} lot d) day (di (fw {t with plan:=q} lot d).zones day q.rules q.rules.length).length=gN (fw {t with plan:=p} lot d) day (di (fw {t with plan:=p} lot d).zones day p.rules p.rules.length).length:=by
    show((di (fw {t with plan:=q} lot d).zones day q.rules q.rules.length).take _).foldl _ _=((di (fw {t with plan:=p} lot d).zones day p.rules p.rules.length).take _).foldl _ _;rw[List.take_length,List.take_length];show(di (fw {t with plan:=q} lot d).zones day q.rules q.rules.length).foldl _ _=(di (fw {t with plan:=p} lot d).zones day p.rules p.rules.length).foldl _ _;rw[ha];refine vg fun i hi out=> ?_
    obtain⟨k,r,rfl,hk,_⟩:=BA hi;obtain⟨s,hq,_⟩:=h.old k r hk;show xT _ out (q.rules.getD k default)=xT _ out (p.rules.getD k default);rw[List.getD_eq_getElem?_getD,List.getD_eq_getElem?_getD,hk,hq];show addN out r.name (xS _ {r with stop:=s})=addN out r.name (xS _ r);rw[Bz t p q lot d h.same r s]
   show(uv _ day,(0:Int))=(uv _ day,0);rw[show uv (fw {t with plan:=q} lot d) day=uv (fw {t with plan:=p} lot d) day from by
    unfold uv;exact congrArg (fun o=>addN o sM _) hr]
  ·rw[if_neg hd,if_neg hd]
theorem rQ(s:jH)(day:Int):gN s day (di s.zones day s.cC.plan.rules s.cC.plan.rules.length).length=(s.cC.plan.rules.filter (dI s.zones day)).foldl (xT s) []:=by
 unfold gN;rw[List.take_length];have e:∀n,n<=s.cC.plan.rules.length->(di s.zones day s.cC.plan.rules n).foldl (Bv s) []=((s.cC.plan.rules.take n).filter (dI s.zones day)).foldl (xT s) []:=fun n=>by
  induction n with
  |zero=>intro _;rfl
  |succ n ih=>
   intro hn;have hx:s.cC.plan.rules[n]?=some s.cC.plan.rules[n]:=fZ (by omega);rw[yT,List.foldl_append,ih (by omega),List.take_add_one,hx,Option.toList_some,List.filter_append,List.foldl_append];rw[show NP s.zones day s.cC.plan.rules n=dI s.zones day s.cC.plan.rules[n]by unfold NP;rw[hx]];generalize (List.filter (dI s.zones day) (List.take n s.cC.plan.rules)).foldl (xT s) []=o;have hg:Bv s o (n:Int)=xT s o s.cC.plan.rules[n]:=by
    unfold Bv;rw[Int.toNat_natCast,List.getD_eq_getElem?_getD,hx];rfl
   cases hq:dI s.zones day s.cC.plan.rules[n]with
   |false=>simp[hq]
   |true=>simp[hq,hg]
 rw[e _ (Nat.le_refl _),List.take_length]
theorem CY(zs:List ByteArray)(day:Int)(l:List Rule):(l.filter fun r=>decide (r.start<=day)).filter (dI zs day)=l.filter (dI zs day):=by
 rw[List.filter_filter];refine List.filter_congr fun r _=> ?_
 cases h:dI zs day r with
 |false=>rfl
 |true=>
  unfold dI at h;simp only[Bool.and_eq_true]at h;rw[h.1.1];rfl
theorem BB(t:mD)(q:Plan)(d:rW)(day:Int):gG {t with plan:={q with rules:=q.rules.filter fun r=>decide (r.start<=day)}} d day=gG {t with plan:=q} d day:=by
 have hs:E8 q {q with rules:=q.rules.filter fun r=>decide (r.start<=day)}:=⟨rfl,rfl,rfl,fun _=>rfl⟩;unfold gG ml;simp only;cases hf:findD t.land d.lot with
 |none=>rfl
 |some lot=>
  simp only;by_cases hd:jC q.caps lot d=true
  ·rw[if_pos hd,if_pos hd]
   show(uv _ day,(0:Int))=(uv _ day,0);unfold uv;rw[rQ,rQ];show(addN (((q.rules.filter fun r=>decide (r.start<=day)).filter (dI (km q.zones lot.area) day)).foldl _ _) sM _,(0:Int))=(addN ((q.rules.filter (dI (km q.zones lot.area) day)).foldl _ _) sM _,0);rw[CY];have e:∀(out:List ByteArray)(r:Rule),xT (fw {t with plan:={q with rules:=q.rules.filter fun r=>decide (r.start<=day)}} lot d) out r=xT (fw {t with plan:=q} lot d) out r:=fun out r=>by
    unfold xT;rw[show r={r with stop:=r.stop}from rfl,Bz t q _ lot d hs r r.stop]
   rw[vg fun r _ out=>e out r];rfl
  ·rw[if_neg hd,if_neg hd]
def gw(l:List Nat):List Int:=l.map fun k:Nat=>(k:Int)
structure kT(w:World)(b:Nat)(defs:List Def)(U:List (List Nat)):Prop where
 len:U.length=defs.length
 few:defs.length<=4
 inn:∀i k,jr U i k=true->k<U.length
 dfs:∃o c,w.cell? ⟨b,0,none⟩=some (.slice o defs.length c)/\Sl mC w o defs.length c defs
 uses:∃o c,w.cell? ⟨b,1,none⟩=some (.slice o defs.length c)/\Sl (Ps dv) w o defs.length c (U.map gw)
theorem kT.exts{w w':World}{b:Nat}{defs:List Def}{U:List (List Nat)}(h:kT w b defs U)(he:af w w'):kT w' b defs U:=by
 obtain⟨h1,h2,h3,⟨o,c,h4,h5⟩,o2,c2,h6,h7⟩:=h;exact⟨h1,h2,h3,⟨o,c,af.cell he h4,h5.exts he⟩,o2,c2,af.cell he h6,h7.exts he⟩
theorem Sx(r:List Nat)(k:Nat):(gw r).any (Ap k)=r.contains k:=by
 rw[Bool.eq_iff_iff,List.any_eq_true,List.contains_iff_mem];unfold gw Ap;simp only[List.mem_map,beq_iff_eq];constructor
 ·rintro ⟨x,⟨a,ha,rfl⟩,hx⟩
  rw[show k=a by omega];exact ha
 ·exact fun h=>⟨_,⟨k,h,rfl⟩,rfl⟩
theorem Oj{U:List (List Nat)}{i:Nat}{r:List Nat}(h:U[i]?=some r)(k:Nat):(gw r).any (Ap k)=jr U i k:=by
 rw[Sx];unfold jr;rw[List.getD_eq_getElem?_getD,h];rfl
theorem wX{o:List Int}{k:Nat}(h:k<o.length):o[k]?=some (o.getD k 0):=by
 rw[List.getD_eq_getElem?_getD,fZ h];rfl
theorem uR.i64{U:List (List Nat)}{t:Nat}{s:List Int×List Nat}(h:uR U t s)(hf:U.length<=4):∀x∈s.1,I64 x:=fun x hx=>by
 obtain⟨i,hi⟩:=List.getElem?_of_mem hx;have hl:=(bw hi).1;rw[h.len]at hl;have h1:=h.low i hl;have h2:=h.top i hl;rw[List.getD_eq_getElem?_getD,hi]at h1 h2;simp only[Option.getD_some]at h1 h2;unfold I64;omega
theorem uI.rep{A W1:World}{n:Nat}(h:af (A.alloc (.cells (Array.replicate n (.int .i64 (-1))) 3)) W1):uI W1 A.heap.size (List.replicate n (-1)):=by
 refine uI.exts ?_ h;unfold uI;rw[heap_alloc_new];simp
theorem FC(b t:Nat)(defs:List Def)(U:List (List Nat))(w:World)(h:kT w b defs U)(ht:t<U.length):Calls prog 355 #[.pointer (some ⟨b,0,none⟩),.int .i64 (t:Int)] w fun e w'=> ∃g,e=.returned (.slice (some ⟨g,0,none⟩) U.length U.length)/\af w w'/\Sl dv w' (some ⟨g,0,none⟩) U.length U.length (pW U t):=by
 obtain⟨hlen,hfew,zP,⟨qo,qc,c0,hd⟩,uo,uc,c1,hu⟩:=h;have lb:=bP c0;rw[<-hlen]at c0 c1 hu hfew;have HU:=aa hu;have HL:=aa hlen;have HI:=aa (tE U t ht);have HC:=aa (vV U t ht);have HS:=aa (Av U t ht);obtain⟨n,hn⟩:∃n,U.length=n:=⟨_,rfl⟩;have HN:=aa hn;rw[hn]at c0 c1 ht hfew HU ⊢;have v0:(0:Int)<=(t:Int):=by omega
 have v1:(t:Int)<(n:Int):=by omega
 clear hu hlen hd zP hn;go_enter func355,ntmps355;go_wp2_with (go_at_call 370;((with_reducible refine ag (Og (n:=n) (by omega) hfew _ _ ?_) ?_);(simp[go_sem]);rintro e W1 ⟨rfl,hx⟩;(have jZ:=aa (show af w W1 from af.trans ae hx));(have HB1:=aa (uI.rep hx));(have e1:(w.alloc (.cells #[Value.int .i64 (-1)] 3)).heap.size=w.heap.size+1:=by simp);rw[e1]at HB1;clear hx e1;(have hc1:=HB1.zo.cell (i:=t) (x:= -1) (by rw[List.getElem?_replicate,if_pos ht]));(have hf1:=HB1.zo.fz t)))
 obtain⟨g,hg⟩:∃g,w.heap.size+1=g:=⟨_,rfl⟩;rw[hg]at HB1 hc1 hf1 ⊢;have hgw:w.heap.size<=g:=by omega
 have hg1:g<W1.heap.size:=HB1.zo.lt;have HB2:=aa (HB1.zo.set t 0);have gm:=aa (jx jZ.zo hgw t (.int .i64 0));have hs2:(W1.setCell ⟨g,t,none⟩ (.int .i64 0)).heap.size=W1.heap.size:=by simp[World.setCell]
 have HD:=aa (show(List.replicate n (-1)).set t 0=(lQ U t).1 from by rw[<-HN.zo];rfl);rw[HD.zo]at HB2;have HQ0:Hid (uQ U (n+1) (lQ U t)=pW U t):=aa (by rw[<-HN.zo];rfl);rw[HN.zo]at HS;clear hc1 hf1;go_loopg [6] (n+1) (fun f q wr=> ∃S:List Int×List Nat,f<=n+1/\uQ U f S=pW U t/\uR U t S/\qI U S/\mE S.1+S.2.length<=f/\nj (g+1) wr q S.2/\uI wr g S.1/\af w wr)
 case atStart=>
  refine⟨lQ U t,Nat.le_refl _,HQ0.zo,HI.zo,HC.zo,HS.zo,?_,HB2.zo.exts ae,gm.zo.trans ae⟩;have:=nj.new (w:=W1.setCell ⟨g,t,none⟩ (.int .i64 0)) (base:=g+1) (k:=t) (by omega);rw[hs2]at this;exact this
 case round=>
  obtain⟨⟨o,q⟩,aft,hgo,hinv,hcl,hsz,hq,hb,hx⟩:=hrel;obtain⟨g2,o2,c2,hv,hb2,hl2⟩:=hq.lt;subst hv;have ahM:g<wr.heap.size:=hb.lt
  match q,hgo,hinv,hcl,hsz,hq with
  | [],hgo,hinv,hcl,hsz,hq=>
   have hgo:o=pW U t:=by
    rw[<-hgo];cases gk<;>rfl
   have HB:=aa hb;have HX:=aa hx;have HV:=aa hinv;have HG:=aa hgo;clear hb hx hinv hcl hsz hq hgo;go_wp2;go_ret;have hlo:o.length=n:=by rw[HV.zo.len,HN.zo]
   refine⟨g,rfl,HX.zo,?_⟩;rw[<-HG.zo,<-hlo];exact HB.zo.sl (HV.zo.i64 (by rw[HN.zo];exact hfew)) (by rw[hlo];unfold maxLen;omega)
  |k::q,hgo,hinv,hcl,hsz,hq=>
   obtain⟨hql,hqc,hqt⟩:=hq.tail;have c3:=hq.cell (j:=0) (k:=k) rfl;obtain⟨hk,hk0⟩:=hinv.q k List.mem_cons_self;obtain⟨hv2,hc2,hz2⟩:=Ar hinv hcl;have hv':uR U t (o,q):=⟨hinv.len,hinv.root,fun x hx=>hinv.q x (List.mem_cons_of_mem _ hx),hinv.top,hinv.low,hinv.via⟩;have HUP:=aa (fun m=>EB hv' hk hk0 m);have HGO:=aa (show∀f',gk=f'+1->uQ U f' (xu U k U.length (o,q))=pW U t from fun f' hf'=>by rw[<-hgo,hf'];rfl);have MP:=aa hv2;have HC2:=aa hc2;have hsz:mE o+(k::q).length<=gk:=hsz;have hz3:mE (xu U k U.length (o,q)).1+(xu U k U.length (o,q)).2.length+1<=gk:=by omega
   have HZ:=aa hz3;have tV:=aa (show mE o+q.length<=n+1 from by simp only[List.length_cons]at hsz;omega);have HB:=aa hb;have HX:=aa hx;have HV:=aa hv';rw[HN.zo]at hk;have hlq:(k::q).length=q.length+1:=rfl;rw[Nat.add_zero]at c3;have cB:wr.cell? ⟨b,1,none⟩=_:=af.cell hx c1;obtain⟨ln,hln⟩:∃ln,q.length=ln:=⟨_,rfl⟩;rw[hlq,hln];rw[hln]at hqt;have HQT:=aa hqt;have Px:=aa hln;clear hb hx hqt hv' hv2 hc2 hz2 hz3 hgo hinv hcl hsz hq hln hlq hk0 hql;by_cases hc21:c2=1
   all_goals
    have HQ5:=aa (by first|exact HQT.zo.1 hc21|exact HQT.zo.2 hc21);clear HQT;go_wp2;go_loopw [6,35] (fun v i wr2=> ∃m:Nat,m<=n/\i=.int .i64 m/\(∃o2 c2,v=.slice o2 (xu U k m (o,q)).2.length c2)/\nj (g+1) wr2 v (xu U k m (o,q)).2/\uI wr2 g (xu U k m (o,q)).1/\af w wr2) (fun _ i _=>n - (intOf i).toNat)
    case atStart=>exact⟨0,by omega,rfl,⟨_,_,by rw[<-Px.zo];rfl⟩,HQ5.zo,HB.zo,HX.zo⟩
    case round=>
     clear HB HX HQ5 cB c3;obtain⟨m,hm,rfl,⟨o3,c3,rfl⟩,hq,hb,hx⟩:=hrel;have ahN:g<wr.heap.size:=hb.lt;obtain⟨hu1,hu2,-,-,-,-⟩:=HUP.zo m (by rw[HN.zo];exact hm);by_cases hmn:m<n
     ·obtain⟨r,hr⟩:∃r,U[m]?=some r:=⟨_,fZ (by rw[HN.zo];exact hmn)⟩
      have hr2:(U.map gw)[m]?=some (gw r):=by rw[List.getElem?_map,hr];rfl
      obtain⟨ub,uof,ucs,rfl,hul,⟨ro,rc,rfl,hrow⟩,adu⟩:=HU.zo.at hr2;have c5:wr.cell? ⟨ub,uof+m,none⟩=some (.slice ro (gw r).length rc):=by
       have:=af.cell hx (adu 0 _ rfl);simpa[Ps]using this
      have ye:=aa (hrow.exts hx);have HUS:=aa (Oj hr k);have XX:=aa (GN U k m (o,q));have hw:=hx.below.size;obtain⟨rl,hrl⟩:∃rl,(gw r).length=rl:=⟨_,rfl⟩;rw[hrl]at c5 ye;obtain⟨⟨o5,q5⟩,hS⟩:∃S,xu U k m (o,q)=S:=⟨_,rfl⟩;rw[hS]at hq hb hu1 hu2 XX ⊢;have hl5:o5.length=n:=by rw[<-HN.zo];exact hu1.len
      have c6:=hb.cell (wX (o:=o5) (k:=m) (by omega));have c7:=hb.cell (wX (o:=o5) (k:=k) (by omega));obtain⟨x,hx0⟩:∃x,o5.getD m 0=x:=⟨_,rfl⟩;obtain⟨y,hy0⟩:∃y,o5.getD k 0=y:=⟨_,rfl⟩;have hy1:=hu1.low k (by rw[HN.zo];exact hk);have hy2:=hu1.top k (by rw[HN.zo];exact hk);rw[HN.zo]at hy2;simp only[hy0]at hy1 hy2;have HLQ:=aa (show mE o5+q5.length=mE o+q.length from hu2);have HZ5:=aa (show q5.length<=1000000 by have:=HLQ.zo;have:=tV.zo;omega);rw[hx0]at c6;rw[hy0]at c7;have HST:=aa (show od U k (o5,q5) m=if(decide (x<0)&&jr U m k)=true then(o5.set m (y+1),q5++ [m])else(o5,q5)from by rw[<-hx0,<-hy0];rfl);have HQ:=aa hq;have HB:=aa hb;have HX:=aa hx;clear hq hb hx hrow adu hr hr2 hrl hS hu1 hu2 hx0 hy0;by_cases hneg:x<0
      ·have q1:decide (x<0)=true:=zdt hneg
       rw[q1,Bool.true_and]at HST;cases hus:jr U m k with
       |false=>
        rw[hus]at HST HUS;go_wp2_with ((with_reducible refine ag (sK _ _ _ _ _ _ ye.zo) ?_);rintro e w1 ⟨rfl,y1,rfl⟩;rw[HUS.zo])
        have e:xu U k (m+1) (o,q)=(o5,q5):=by rw[XX.zo,HST.zo];rfl
        refine⟨⟨m+1,by omega,by go_num,⟨o3,c3,by rw[e]⟩,by rw[e];exact HQ.zo.exts ae,by rw[e];exact HB.zo.exts ae,HX.zo.trans ae⟩,?_⟩;simp[intOf];omega
       |true=>
        rw[hus]at HST HUS;have HK:=aa (show∀w1,af wr w1->w1.cell? ⟨g,m,none⟩=some (.int .i64 x)/\w1.cell? ⟨g,k,none⟩=some (.int .i64 y)/\w1.frozen? ⟨g,m,none⟩=false from fun w1 h=>⟨af.cell h c6,af.cell h c7,(HB.zo.exts h).fz m⟩);have w1y:IntKind.i64.wrap (y+1)=y+1:=IntWalk.i64_in _ (by omega);go_wp2_with (first|((with_reducible refine ag (sK _ _ _ _ _ _ ye.zo) ?_);rintro e w1 ⟨rfl,hx1⟩;rw[HUS.zo];(have PD:=aa hx1);(obtain⟨c61,c71,f61⟩:=HK.zo _ hx1);(have ahO:=hx1.below.size);(have hs62:(w1.setCell ⟨g,m,none⟩ (.int .i64 (y+1))).heap.size=w1.heap.size:=by simp[World.setCell]);clear c6 c7 hx1;(have HQ6:=aa ((HQ.zo.exts PD.zo).kept (bW w1 g m (.int .i64 (y+1))) (by intro g3 hg3 e3;have:=vk HQ.zo g3 hg3;simp at e3;omega)));(have HB6:=aa ((HB.zo.exts PD.zo).set m (y+1)));(have HX7:=aa (jx (HX.zo.trans PD.zo) hgw m (.int .i64 (y+1)))))|(at_builtin;refine BO rfl (.tmp 58) (.tmp 60) rfl rfl (HQ6.zo.exts ae) _ 1 m rfl (by simp[go_sem]) HZ5.zo (by simp;omega) ?_;intro v' w' hq' hgr;(have HQ8:=aa hq');(have Ww:=aa ((HB6.zo.exts ae).kept hgr (by intro e3;have:=vk HQ6.zo g e3;omega)));(have HX8:=aa (aF (HX7.zo.trans ae) hgr (fun b3 hb3=>by have:=vk HQ6.zo b3 hb3;omega)));clear hq' hgr))
        have e:xu U k (m+1) (o,q)=(o5.set m (y+1),q5++ [m]):=by rw[XX.zo,HST.zo];rfl
        refine⟨⟨m+1,by omega,by go_num,?_,by rw[e];exact HQ8.zo,by rw[e];exact Ww.zo,HX8.zo⟩,?_⟩
        ·obtain⟨g7,o7,c7,hv7,_⟩:=HQ8.zo.lt
         exact⟨_,c7,by rw[e];exact hv7⟩
        ·simp[intOf];omega
      ·have q1:decide (x<0)=false:=jE hneg
       rw[q1,Bool.false_and]at HST;go_wp2;have e:xu U k (m+1) (o,q)=(o5,q5):=by rw[XX.zo,HST.zo];rfl
       refine⟨⟨m+1,by omega,by go_num,⟨o3,c3,by rw[e]⟩,by rw[e];exact HQ.zo.exts ae,by rw[e];exact HB.zo.exts ae,HX.zo.trans ae⟩,?_⟩;simp[intOf];omega
     ·obtain rfl:m=n:=by omega
      rw[HN.zo]at HGO MP HC2 HZ;have HQ:=aa hq;have HB:=aa hb;have HX:=aa hx;clear hq hb hx;go_wp2;go_roundg (gk - 1)
      case measure=>have:=HZ.zo;omega
      case rel=>
       exact⟨xu U k m (o,q),by have:=aft;omega,HGO.zo _ (by have:=HZ.zo;omega),MP.zo,HC2.zo,by have:=HZ.zo;omega,HQ.zo,HB.zo,HX.zo⟩
theorem ZY(x:ByteArray)(w:World):Calls prog 371 #[.string x] w fun e w'=>e=.returned (.bool false)/\w'=w:=by
 go_enter func371,ntmps371;go_wp2;go_ret;exact⟨rfl,rfl⟩
theorem ZZ(x y:ByteArray)(w:World):Calls prog 356 #[.string x,.string y] w fun e w'=>(∃k:Int,e=.returned (.int .i64 k)/\I64 k)/\w'=w:=by
 go_enter func356,ntmps356;go_wp2_with ((with_reducible refine ag (ZY _ _) ?_);rintro e w' ⟨rfl,rfl⟩)
 all_goals(go_ret;exact⟨⟨_,rfl,by unfold I64;omega⟩,rfl⟩)
theorem KI(ao bo:Option Addr)(n c m d:Nat)(l r:List ByteArray)(w:World)(hl:Sl fC w ao n c l)(hr:Sl fC w bo m d r):Calls prog 329 #[.slice ao n c,.slice bo m d] w fun e w'=>(∃k:Int,e=.returned (.int .i64 k)/\I64 k)/\w'=w:=by
 have hn:=hl.nle;have hm:=hr.nle;unfold maxLen at hn hm;have HL:=aa hl;have HR:=aa hr;clear hl hr;go_enter func329,ntmps329;go_wp2;go_loop [11] (fun i=> ∃k:Nat,k<=n/\i=.int .i64 k) (fun i=>n - (intOf i).toNat)
 case atStart=>exact⟨0,by omega,rfl⟩
 case round=>
  obtain⟨k,hk,rfl⟩:=hrel;by_cases hkn:k<n
  ·obtain⟨x,hx⟩:=HL.zo.ex hkn
   obtain⟨b,off,rfl,lb,c0⟩:=lH HL.zo hx;by_cases hkm:k<m
   ·obtain⟨y,hy⟩:=HR.zo.ex hkm
    obtain⟨b2,off2,rfl,Uz,c1⟩:=lH HR.zo hy;clear hx hy;go_wp2_with ((with_reducible refine ag (ZZ _ _ _) ?_);rintro e w' ⟨⟨z,rfl,hz⟩,rfl⟩)
    all_goals first|(go_ret;exact⟨⟨_,rfl,hz⟩,rfl⟩)|(refine⟨⟨k+1,by omega,by go_num⟩,?_⟩;simp[intOf];omega)
   ·clear hx
    go_wp2;go_ret;exact⟨⟨_,rfl,by unfold I64;omega⟩,rfl⟩
  ·go_wp2
   all_goals(go_ret;exact⟨⟨_,rfl,by unfold I64;omega⟩,rfl⟩)
theorem Eh(b t:Nat)(defs:List Def)(U:List (List Nat))(w:World)(h:kT w b defs U)(ht:t<U.length):Calls prog 328 #[.pointer (some ⟨b,0,none⟩),.int .i64 (t:Int)] w fun e w'=> ∃(ao:Option Addr)(n c:Nat)(l:List ByteArray),e=.returned (.slice ao n c)/\af w w'/\Sl fC w' ao n c l/\n<=1000000/\((ao=none/\n=0/\c=0/\oh U t=false)∨((∃a,ao=some a)/\oh U t=true)):=by
 obtain⟨j0,hj,hy0,hy1,hy2⟩:=info_parts sk;have HG:=aa h;obtain⟨hlen,hfew,zP,⟨qo,qc,c0,hd⟩,uo,uc,c1,hu⟩:=h;have lb:=bP c0;rw[<-hlen]at c0 c1 hu hd hfew;have HU:=aa hu;have Z0:=aa hd;have rG:=aa zP;have HDL:=aa (xB ht).1;obtain⟨n,hn⟩:∃n,U.length=n:=⟨_,rfl⟩;have HN:=aa hn;have HT:=aa ht;rw[hn]at c0 c1 ht hfew HU Z0;obtain⟨D,hD⟩:∃D,pW U t=D:=⟨_,rfl⟩;have Yi:=aa hD;rw[hD]at HDL;clear hu hlen hd zP hn hD;go_enter func328,ntmps328;go_wp2_with ((with_reducible refine ag (FC b t defs U _ HG.zo HT.zo) ?_);rintro e W1 ⟨g,rfl,hx,hd⟩;(have jZ:=aa hx);rw[HN.zo,Yi.zo]at hd;rw[HN.zo];(have HD:=aa hd);clear hx hd)
 have hsw:=jZ.zo.below.size;go_loopg [6,7] (n+2) (fun f p a wr=> ∃(at':Nat)(po:Option Addr)(pc:Nat)(l:List ByteArray),a=.int .i64 at'/\p=.slice po l.length pc/\aq fC W1.heap.size 9 wr (.slice po l.length pc) l/\af W1 wr/\at'<n/\l.length+f<=n+3/\0<f/\((at'=t/\f=n+2)∨(oh U t=true/\0<=D.getD at' 0/\D.getD at' 0<f/\f<=n+1/\at'≠t)))
 case atStart=>exact⟨t,none,0,[],rfl,rfl,aq.made _ _ _ _,af.refl _,ht,by simp,by omega,.inl ⟨rfl,rfl⟩⟩
 case round=>
  obtain⟨at',po,pc,l,rfl,rfl,hp,hx,hat,hlf,hf0,hst⟩:=hrel;have HST:=aa hst;have HP:=aa hp;have HX:=aa hx;have HLF:=aa hlf;have hxw:af w wr:=jZ.zo.trans hx;obtain⟨df,hdf⟩:=Z0.zo.ex hat;obtain⟨db,KJ,_,_,rfl,ldb,d0,_,_,_,_,_,hsz,_⟩:=Ew Z0.zo hdf;have tV:=aa hsz;have e0:wr.cell? ⟨db,KJ+at'*6,none⟩=_:=af.cell hxw d0;have e1:wr.cell? ⟨b,0,none⟩=_:=af.cell hxw c0;have hsr:=hx.below.size;obtain⟨r,hr⟩:∃r,U[at']?=some r:=⟨_,fZ (by rw[HN.zo];exact hat)⟩;have hr2:(U.map gw)[at']?=some (gw r):=by rw[List.getElem?_map,hr];rfl
  obtain⟨ub,uof,ro,rc,rfl,lub,f0,hrow⟩:=xJ HU.zo hr2;obtain⟨R,hR⟩:∃R,r.length=R:=⟨_,rfl⟩;have eR:(gw r).length=R:=by unfold gw;rw[List.length_map,hR]
  have HR:=aa hR;rw[eR]at f0 hrow;have HC:=aa (show∀w1,af W1 w1->w1.cell? ⟨b,1,none⟩=_/\w1.cell? ⟨ub,uof+at',none⟩=_/\W1.heap.size<=w1.heap.size from fun w1 h=>⟨af.cell (jZ.zo.trans h) c1,af.cell (jZ.zo.trans h) f0,h.below.size⟩);have HRW:=aa (hrow.exts jZ.zo);have hRm:=hrow.nle;unfold maxLen at hRm;have Sy:=aa (show∀k,k∈r->k<n/\jr U at' k=true from fun k hk=>by
   have:jr U at' k=true:=by
    unfold jr;rw[List.getD_eq_getElem?_getD,hr];exact List.contains_iff_mem.2 hk
   exact⟨by rw[<-HN.zo];exact rG.zo _ _ this,this⟩)
  have Yj:=aa (show U.getD at' []=r from by rw[List.getD_eq_getElem?_getD,hr];rfl);obtain⟨ll,hll⟩:∃ll,l.length=ll:=⟨_,rfl⟩;have rY:=aa hll;rw[hll]at HP HLF ⊢;have ahP:ll<1000000:=by have:=HLF.zo;omega
  clear hp hx hst d0 f0 hrow hR eR hr hr2 hsz hll hdf hlf;go_wp2_with (at_builtin;refine dz rfl (.tmp 15) (.tmp 24) 45 rfl fC W1.heap.size 9 wq.turn j0 _ 16 underlying45 hj hy0 hy1 hy2 rfl (by decide) l df.name [.string df.name] ll _ _ rfl rY.zo HP.zo ae _ 1 rfl ⟨rfl,tV.zo⟩ (jw (by simp[go_sem])) (by omega) (by omega) (by simp<;>omega) ?_;intro ao' c' w1 hown hgrow;(have HP2:=aa hown);(have gm:=aa (hgrow W1 (HX.zo.trans ae) (Nat.le_refl _)));(obtain⟨g0,g1,gs⟩:=HC.zo w1 gm.zo);clear hown hgrow)
  go_loopw [8,34] (fun v i wr2=> ∃j:Nat,j<=R/\i=.int .i64 j/\v=.int .i64 (og D (r.take j))/\af w1 wr2) (fun _ i _=>R - (intOf i).toNat)
  case atStart=>exact⟨0,by omega,rfl,rfl,af.refl _⟩
  case round=>
   obtain⟨j,hj,rfl,rfl,hy⟩:=hrel;have iU:=aa (gm.zo.trans hy);have HY:=aa hy;have hs3:=hy.below.size;clear hy;by_cases hjR:j<R
   ·obtain⟨k,hk⟩:∃k,r[j]?=some k:=⟨_,fZ (by rw[HR.zo];exact hjR)⟩
    have hk2:(gw r)[j]?=some (k:Int):=by unfold gw;rw[List.getElem?_map,hk];rfl
    obtain⟨rb,rof,rfl,lrb,i0,_⟩:=dV HRW.zo hk2;have k0:wr.cell? ⟨rb,rof+j,none⟩=_:=af.cell iU.zo i0;have hkn:=(Sy.zo k (gH hk)).1;obtain⟨gb,gof,hgb,lgb,i1,-⟩:=dV HD.zo (wX (o:=D) (k:=k) (by rw[show D.length=n from HDL.zo.len.trans HN.zo];exact hkn));simp only[Option.some.injEq,Addr.mk.injEq,and_true]at hgb;obtain⟨rfl,rfl⟩:=hgb;rw[Nat.zero_add]at i1;have k1:wr.cell? ⟨g,k,none⟩=_:=af.cell iU.zo i1;have Ic:=aa (yA D hk);have hrc:=uS D r j (by rw[HR.zo];omega);have HCD:=aa (show∀k,k<n->wr.cell? ⟨g,k,none⟩=some (.int .i64 (D.getD k 0))from fun k hk=>by
     obtain⟨gb,gof,hgb,_,i1,-⟩:=dV HD.zo (wX (o:=D) (k:=k) (by rw[show D.length=n from HDL.zo.len.trans HN.zo];exact hk));simp only[Option.some.injEq,Addr.mk.injEq,and_true]at hgb;obtain⟨rfl,rfl⟩:=hgb;rw[Nat.zero_add]at i1;exact af.cell iU.zo i1)
    have v0:(0:Int)<=(k:Int):=by omega
    have v1:(k:Int)<(n:Int):=by omega
    obtain⟨x,hx0⟩:∃x,D.getD k 0=x:=⟨_,rfl⟩;obtain⟨pb,hpb⟩:∃pb,og D (r.take j)=pb:=⟨_,rfl⟩;rw[hx0]at k1;rw[hpb]at hrc Ic ⊢;have hpk:LH D pb k=if(decide (0<=x)&&(decide (pb<0)||decide (x<D.getD pb.toNat 0)))=true then(k:Int)else pb:=by rw[<-hx0];rfl
    rw[hpk]at Ic;clear hk hk2 i0 i1 hpk hpb hx0;by_cases h0:0<=x
    ·have q0:decide (0<=x)=true:=zdt h0
     rcases hrc with⟨rfl,-⟩|⟨z,rfl,hz,-,-⟩
     ·have HE:Hid (og D (r.take (j+1))=(k:Int)):=aa (by rw[Ic.zo,q0];rfl)
      clear h0;go_wp2;first|refine eK ?_|refine eJ ?_
      repeat (go_big_quiet_step (fail))
      refine eM fun xq=> ?_
      go_wp2;refine⟨⟨j+1,by omega,by go_num,by rw[HE.zo],HY.zo.trans ae⟩,?_⟩;simp[intOf];omega
     ·have hz2:=(Sy.zo z (List.mem_of_mem_take hz)).1
      have k2:=HCD.zo z hz2;obtain⟨y,hy0⟩:∃y,D.getD z 0=y:=⟨_,rfl⟩;rw[Int.toNat_natCast,hy0,show decide ((z:Int)<0)=false from jE (by omega)]at Ic;rw[hy0]at k2;have v2:(0:Int)<=(z:Int):=by omega
      have v3:(z:Int)<(n:Int):=by omega
      have v4:decide ((z:Int)<0)=false:=jE (by omega);clear hz hy0;by_cases h3:x<y
      ·have q3:decide (x<y)=true:=zdt h3
       have HE:Hid (og D (r.take (j+1))=(k:Int)):=aa (by rw[Ic.zo,q0,q3];rfl);clear h0 h3;go_wp2;first|refine eK ?_|refine eJ ?_
       repeat (go_big_quiet_step (fail))
       refine eM fun xq=> ?_
       go_wp2;refine⟨⟨j+1,by omega,by go_num,by rw[HE.zo],HY.zo.trans ae⟩,?_⟩;simp[intOf];omega
      ·have q3:decide (x<y)=false:=jE h3
       have HE:Hid (og D (r.take (j+1))=(z:Int)):=aa (by rw[Ic.zo,q0,q3];rfl);clear h0 h3;go_wp2;first|refine eK ?_|refine eJ ?_
       repeat (go_big_quiet_step (fail))
       refine eM fun xq=> ?_
       go_wp2;refine⟨⟨j+1,by omega,by go_num,by rw[HE.zo],HY.zo.trans ae⟩,?_⟩;simp[intOf];omega
    ·have q0:decide (0<=x)=false:=jE h0
     have HE:Hid (og D (r.take (j+1))=pb):=aa (by rw[Ic.zo,q0];rfl);clear h0 hrc;go_wp2;first|refine eK ?_|refine eJ ?_
     repeat (go_big_quiet_step (fail))
     refine eM fun xq=> ?_
     go_wp2;refine⟨⟨j+1,by omega,by go_num,by rw[HE.zo],HY.zo.trans ae⟩,?_⟩;simp[intOf];omega
   ·obtain rfl:j=R:=by omega
    have hrc:=uS D r r.length (Nat.le_refl _);rw[List.take_length]at hrc;have etk:r.take j=r:=by rw[<-HR.zo,List.take_length]
    rw[etk];rcases hrc with⟨hp,hall⟩|⟨z,hp,hz,hz0,hzm⟩
    ·have HF:Hid (oh U t=false):=aa (by
      rcases HST.zo with⟨rfl,_⟩|⟨_,h2,_,_,h5⟩
      ·unfold oh
       rw[Yj.zo,Yi.zo,List.any_eq_false];intro k hk;have:=hall k hk;simp only[decide_eq_true_eq];omega
      ·rcases HDL.zo.via at' (by rw[HN.zo];exact hat) h2 with h6|⟨k,h6,h7,h8,_⟩
       ·exact absurd h6 h5
       ·have h8:0<=D.getD k 0:=h8
        have:=hall k (by unfold jr at h7;rw[Yj.zo]at h7;exact List.contains_iff_mem.1 h7);omega)
     rw[hp];clear hp hall etk;go_wp2;go_ret;exact⟨none,0,0,[],rfl,jZ.zo.trans iU.zo,Sl.nil _ _,by omega,.inl ⟨rfl,rfl,rfl,HF.zo⟩⟩
    ·have HT2:Hid (oh U t=true):=aa (by
      rcases HST.zo with⟨rfl,_⟩|⟨h1,_⟩
      ·unfold oh
       rw[Yj.zo,Yi.zo,List.any_eq_true];exact⟨z,hz,zdt hz0⟩
      ·exact h1)
     have hzn:=(Sy.zo z hz).1;have HZ:Hid ((at'=t/\gk=n+2/\D.getD z 0<n+1)∨(gk<=n+1/\D.getD z 0+1<gk)):=aa (by
      rcases HST.zo with⟨h1,h2⟩|⟨_,h2,h3,h4,h5⟩
      ·have h6:=HDL.zo.top z (by rw[HN.zo];exact hzn)
       rw[HN.zo]at h6;have h7:D.getD z 0<n - mE D:=h6;exact .inl ⟨h1,h2,by omega⟩
      ·rcases HDL.zo.via at' (by rw[HN.zo];exact hat) h2 with h6|⟨k,h6,h7,h8,h9⟩
       ·exact absurd h6 h5
       ·have h10:=hzm k (by unfold jr at h7;rw[Yj.zo]at h7;exact List.contains_iff_mem.1 h7) h8
        have h9:D.getD k 0<D.getD at' 0:=h9;exact .inr ⟨h4,by omega⟩)
     have HZ0:=aa hz0;rw[hp];have hzf:decide ((z:Int)<0)=false:=jE (by omega);clear hp hzm hz0 etk hz;by_cases hzt:z=t
     ·subst hzt
      go_wp2;go_ret;refine⟨_,_,c',l++ [df.name],rfl,jZ.zo.trans iU.zo,(HP2.zo.exts HY.zo).sl (by rw[dG,rY.zo];rfl),by omega,.inr ⟨?_,HT2.zo⟩⟩;obtain⟨xs,h1,_⟩:=HP2.zo;rw[dG,rY.zo]at h1;rcases gq h1 with⟨h0,_⟩|⟨g3,h0,_⟩
      ·simp at h0
      ·exact⟨_,h0⟩
     ·have ahQ:(decide ((z:Int)=(t:Int)))=false:=jE (by omega)
      have ahR:((z:Int)==(t:Int))=false:=beq_eq_false_iff_ne.2 (by omega);go_wp2;go_roundg (gk - 1)
      case measure=>omega
      case rel=>
       have el:(l++ [df.name]).length=ll+1:=by rw[dG,rY.zo];rfl
       refine⟨z,ao',c',l++ [df.name],rfl,by rw[el],by rw[el];exact HP2.zo.exts HY.zo,iU.zo,hzn,?_,?_,.inr ⟨HT2.zo,HZ0.zo,?_,?_,hzt⟩⟩
       ·have:=HLF.zo
        rw[dG,rY.zo,List.length_singleton];omega
       all_goals(have h1:=HZ.zo;have h2:=HZ0.zo;omega)
def yf(U:List (List Nat))(k:Nat):Bool:=(List.range k).any (oh U)
theorem I4(U:List (List Nat))(k:Nat):yf U (k+1)=(yf U k||oh U k):=by
 unfold yf;rw[List.range_succ,List.any_append];simp
def Yk(w:World)(ao:Option Addr)(n c:Nat)(b:Bool):Prop:=(∃l,Sl fC w ao n c l)/\n<=1000000/\((ao=none/\n=0/\c=0/\b=false)∨((∃a,ao=some a)/\b=true))
theorem FD(b t:Nat)(defs:List Def)(U:List (List Nat))(w:World)(h:kT w b defs U)(ht:t<U.length)(hc:oh U t=false):Calls prog 328 #[.pointer (some ⟨b,0,none⟩),.int .i64 (t:Int)] w fun e w'=>e=.returned (.slice none 0 0)/\af w w':=
 (Eh b t defs U w h ht).mono fun e w' h=>by
  obtain⟨_,_,_,_,rfl,hx,_,_,⟨rfl,rfl,rfl,_⟩|⟨_,h2⟩⟩:=h
  ·exact⟨rfl,hx⟩
  ·rw[hc]at h2;cases h2
theorem uK(b t:Nat)(defs:List Def)(U:List (List Nat))(w:World)(h:kT w b defs U)(ht:t<U.length)(hc:oh U t=true):Calls prog 328 #[.pointer (some ⟨b,0,none⟩),.int .i64 (t:Int)] w fun e w'=> ∃a n c l,e=.returned (.slice (some a) n c)/\af w w'/\Sl fC w' (some a) n c l/\n<=1000000:=
 (Eh b t defs U w h ht).mono fun e w' h=>by
  obtain⟨_,_,_,_,rfl,hx,hl,hn,⟨_,_,_,h2⟩|⟨⟨a,rfl⟩,h2⟩⟩:=h
  ·rw[hc]at h2;cases h2
  ·exact⟨a,_,_,_,rfl,hx,hl,hn⟩
theorem zm(b:Nat)(defs:List Def)(U:List (List Nat))(w:World)(h:kT w b defs U):Calls prog 304 #[.pointer (some ⟨b,0,none⟩)] w fun e w'=> ∃(ao:Option Addr)(n c:Nat),e=.returned (.slice ao n c)/\af w w'/\Yk w' ao n c (jh U):=by
 have HG:=aa h;obtain⟨hlen,hfew,zP,⟨qo,qc,c0,hd⟩,uo,uc,c1,hu⟩:=h;have lb:=bP c0;rw[<-hlen]at c0 hfew;obtain⟨n,hn⟩:∃n,U.length=n:=⟨_,rfl⟩;have HN:=aa hn;rw[hn]at c0 hfew;clear hu hlen hd zP hn c1;have eN:=fun w=>Lib.run_eql_slice_nil (P:=prog) w 45 9 none 0 0 0 0 underlying45
 have eS:=fun a n c w=>Lib.run_eql_slice_nil (P:=prog) w 45 9 (some a) n c 0 0 underlying45
 simp only[Option.isNone_none,Option.isNone_some]at eN eS;go_enter func304,ntmps304;go_wp2;go_loopw [3,11] (fun v i wr=> ∃(k:Nat)(ao:Option Addr)(m c:Nat),k<=n/\i=.int .i64 k/\v=.slice ao m c/\af w wr/\Yk wr ao m c (yf U k)) (fun _ i _=>n - (intOf i).toNat)
 case atStart=>exact⟨0,none,0,0,by omega,rfl,rfl,af.refl _,⟨[],Sl.nil _ _⟩,by omega,.inl ⟨rfl,rfl,rfl,rfl⟩⟩
 case round=>
  obtain⟨k,ao,m,c,hk,rfl,rfl,hx,⟨l,hl⟩,hm,hcs⟩:=hrel;have HX:=aa hx;have HL:=aa hl;have hsr:=hx.below.size;have e1:wr.cell? ⟨b,0,none⟩=_:=af.cell hx c0;have HS:=aa (I4 U k);have PC:=aa hcs;by_cases hkn:k<n
  ·have HKN:=aa (show k<U.length by rw[HN.zo];exact hkn)
   clear hx hl hcs;cases hci:oh U k with
   |false=>
    rw[hci,Bool.or_false]at HS;go_wp2_with ((with_reducible refine ag (FD b k defs U _ (HG.zo.exts HX.zo) HKN.zo hci) ?_);rintro e w1 ⟨rfl,hx2⟩;(have gm:=aa hx2);clear hx2)
    refine⟨⟨k+1,ao,m,c,by omega,by go_num,rfl,HX.zo.trans gm.zo,⟨l,HL.zo.exts gm.zo⟩,hm,by rw[HS.zo];exact PC.zo⟩,?_⟩;simp[intOf];omega
   |true=>
    rw[hci,Bool.or_true]at HS;rcases PC.zo with⟨rfl,rfl,rfl,_⟩|⟨⟨a,rfl⟩,_⟩
    ·go_wp2_with ((with_reducible refine ag (uK b k defs U _ (HG.zo.exts HX.zo) HKN.zo hci) ?_);rintro e w1 ⟨a2,n2,c2,l2,rfl,hx2,hl2,hn2⟩;(have gm:=aa hx2);(have HL2:=aa hl2);clear hl2 hx2)
     refine⟨⟨k+1,_,n2,c2,by omega,by go_num,rfl,HX.zo.trans gm.zo,⟨l2,HL2.zo⟩,hn2,.inr ⟨⟨_,rfl⟩,HS.zo⟩⟩,?_⟩;simp[intOf];omega
    ·go_wp2_with (first|((with_reducible refine ag (uK b k defs U _ (HG.zo.exts HX.zo) HKN.zo hci) ?_);rintro e w1 ⟨a2,n2,c2,l2,rfl,hx2,hl2,hn2⟩;(have gm:=aa hx2);(have HL2:=aa hl2);clear hl2 hx2)|((with_reducible refine ag (KI _ _ _ _ _ _ _ _ _ HL2.zo (HL.zo.exts gm.zo)) ?_);rintro e w2 ⟨⟨z,rfl,hz⟩,rfl⟩))
     all_goals first
      |(refine⟨⟨k+1,_,n2,c2,by omega,by go_num,rfl,HX.zo.trans gm.zo,⟨l2,HL2.zo⟩,hn2,.inr ⟨⟨_,rfl⟩,HS.zo⟩⟩,?_⟩;simp[intOf];omega)
      |(refine⟨⟨k+1,_,m,c,by omega,by go_num,rfl,HX.zo.trans gm.zo,⟨l,HL.zo.exts gm.zo⟩,hm,.inr ⟨⟨_,rfl⟩,HS.zo⟩⟩,?_⟩;simp[intOf];omega)
  ·obtain rfl:n=k:=by omega
   go_wp2;go_ret;refine⟨ao,m,c,rfl,HX.zo,⟨l,HL.zo⟩,hm,?_⟩;have e:jh U=yf U n:=by unfold jh yf;rw[HN.zo]
   rw[e];exact PC.zo
theorem zq(defs:List Def)(U:List (List Nat))(done:List Bool)(m:Nat):jc defs U done (m+1)=nextK defs U done (jc defs U done m) m:=by
 unfold jc;rw[List.range_succ,List.foldl_append];rfl
theorem Ai(defs:List Def)(U:List (List Nat))(done:List Bool):∀m,(jc defs U done m= -1/\∀i,i<m->pO U done i=false)∨∃j:Nat,jc defs U done m=j/\j<m/\pO U done j=true
 |0=> .inl ⟨rfl,fun i hi=>absurd hi (Nat.not_lt_zero _)⟩
 |m+1=>by
  rw[zq];cases hr:pO U done m with
  |false=>
   have e:nextK defs U done (jc defs U done m) m=jc defs U done m:=by unfold nextK;rw[hr];rfl
   rw[e];rcases Ai defs U done m with⟨h1,h2⟩|⟨j,h1,h2,h3⟩
   ·exact .inl ⟨h1,fun i hi=>by
     rcases Nat.lt_or_ge i m with h|h
     ·exact h2 i h
     ·rw[show i=m by omega];exact hr⟩
   ·exact .inr ⟨j,h1,by omega,h3⟩
  |true=>
   refine .inr ?_;unfold nextK;rw[hr,Bool.true_and];split
   ·exact⟨m,rfl,by omega,hr⟩
   ·rename_i h
    rcases Ai defs U done m with⟨h1,h2⟩|⟨j,h1,h2,h3⟩
    ·rw[h1]at h
     exact absurd (by rfl) h
    ·exact⟨j,h1,by omega,h3⟩
theorem Mm{p:Nat->Bool}:∀n,(∀i,i<n->p i=true)->cnt p n=n
 |0,_=>rfl
 |n+1,h=>by rw[mY,Mm n fun i hi=>h i (by omega),h n (by omega)];rfl
theorem Mn(d:List Bool)(j:Nat)(hd:d.getD j false=false):∀n,n<=d.length->cnt (fun i=>(d.set j true).getD i false) n=cnt (fun i=>d.getD i false) n+if j<n then 1 else 0
 |0,_=>rfl
 |n+1,hn=>by
  rw[mY,mY,Mn d j hd n (by omega),pX];by_cases h:j=n
  ·subst h
   rw[List.getD_eq_getElem?_getD,fZ (by omega)]at hd;have hd:d[j]=false:=hd;simp[hd,show j<d.length by omega]
  ·have e:(if j=n/\j<d.length then true else d.getD n false)=d.getD n false:=if_neg fun h'=>h h'.1
   have e2:(if j<n+1 then 1 else 0)=(if j<n then 1 else 0:Nat):=by split<;>split<;>omega
   rw[e,e2];omega
structure FE(n:Nat)(s:List Bool×List Int)(r:Nat):Prop where
 dl:s.1.length=n
 ol:s.2.length=r
 cn:cnt (fun i=>s.1.getD i false) n=r
 el:∀x∈s.2,∃j:Nat,x=j/\j<n
theorem I5{defs:List Def}{U:List (List Nat)}(hl:U.length=defs.length)(hu:∀i k,jr U i k=true->k<U.length)(hc:jh U=false){s:List Bool×List Int}{r:Nat}(h:FE defs.length s r)(hr:r<defs.length):
 ∃j:Nat,jc defs U s.1 defs.length=j/\j<defs.length/\FE defs.length (tY defs U s) (r+1):=by
 have h1:∃i,i<defs.length/\s.1.getD i false=false:=by
  by_cases h2:∃i,i<defs.length/\s.1.getD i false=false
  ·exact h2
  ·have:=Mm (p:=fun i=>s.1.getD i false) defs.length fun i hi=>by
    cases h3:s.1.getD i false
    ·exact absurd ⟨i,hi,h3⟩ h2
    ·rfl
   rw[h.cn]at this;omega
 obtain⟨i,hi,hd⟩:=h1;obtain⟨j,hj,hrj⟩:=GQ hu hc s.1 _ i (by rw[hl];exact hi) hd (Nat.le_refl _);rw[hl]at hj;rcases Ai defs U s.1 defs.length with⟨_,h3⟩|⟨k,h3,h4,h5⟩
 ·rw[h3 j hj]at hrj
  cases hrj
 ·refine⟨k,h3,h4,?_⟩
  have hk:s.1.getD k false=false:=by
   unfold pO at h5;rw[Bool.and_eq_true]at h5;simpa using h5.1
  have e:tY defs U s=(s.1.set k true,s.2++ [(k:Int)]):=by unfold tY;rw[h3];rfl
  rw[e];refine⟨by simp[h.dl],by simp[h.ol],?_,fun x hx=> ?_⟩
  ·show cnt (fun i=>(s.1.set k true).getD i false) _=_
   rw[Mn s.1 k hk _ (by rw[h.dl];exact Nat.le_refl _),if_pos h4,h.cn]
  ·rcases List.mem_append.1 hx with hx|hx
   ·exact h.el x hx
   ·exact⟨k,by simpa using hx,h4⟩
theorem afu(defs:List Def)(U:List (List Nat)):FE defs.length (ny defs U 0) 0:=by
 refine⟨by simp[ny],rfl,?_,fun x hx=>by simp[ny]at hx⟩;have:∀n,cnt (fun i=>(List.replicate defs.length false).getD i false) n=0:=fun n=>by
  induction n with
  |zero=>rfl
  |succ n ih=>
   rw[mY,ih];rw[if_neg];rw[List.getD_eq_getElem?_getD,List.getElem?_replicate];split<;>simp
 exact this _
theorem wY{defs:List Def}{U:List (List Nat)}(hl:U.length=defs.length)(hu:∀i k,jr U i k=true->k<U.length)(hc:jh U=false)(r:Nat)(h:r<=defs.length):FE defs.length (ny defs U r) r:=by
 induction r with
 |zero=>exact afu defs U
 |succ r ih=>
  obtain⟨_,_,_,h2⟩:=I5 hl hu hc (ih (by omega)) (by omega);exact h2
def oZ(w:World)(g:Nat)(o:List Bool):Prop:=w.heap[g]?=some (.cells (o.map Value.bool).toArray 4 (0,0))
theorem oZ.lt{w:World}{g:Nat}{o:List Bool}(h:oZ w g o):g<w.heap.size:=(Array.getElem?_eq_some_iff.1 h).1
theorem oZ.cell{w:World}{g:Nat}{o:List Bool}(h:oZ w g o){i:Nat}{x:Bool}(hi:o[i]?=some x):w.cell? ⟨g,i,none⟩=some (.bool x):=by
 rw[cell_of_row _ _ _ _ _ _ h];simp[hi]
theorem oZ.kept{w w':World}{g:Nat}{o:List Bool}{row:Option Nat}(h:oZ w g o)(hg:w.grownBy w' row)(hne:row≠some g):oZ w' g o:=
 (hg.block g h.lt fun e=>hne e.symm).trans h
theorem oZ.exts{w w':World}{g:Nat}{o:List Bool}(h:oZ w g o)(he:af w w'):oZ w' g o:=h.kept (er he none) (by simp)
theorem oZ.set{w:World}{g:Nat}{o:List Bool}(h:oZ w g o)(i:Nat)(x:Bool):oZ (w.setCell ⟨g,i,none⟩ (.bool x)) g (o.set i x):=by
 unfold oZ at*;rw[heap_setCell_same w g i _ 4 _ h];simp[List.map_set]
theorem oZ.fz{w:World}{g:Nat}{o:List Bool}(h:oZ w g o)(i:Nat):w.frozen? ⟨g,i,none⟩=false:=frozen_of_row w g i _ 4 h
theorem Z1:(prog.info? 4).map (fun i=>(i.zero,i.size,i.bytes))=some (some (.bool false),1,1):=by kernel_rfl
theorem adv(w:World)(n:Nat)(hn:n<=1000):(Instr.makeSlice 425 (.int .i64 n) (.int .i64 n)).run prog w=.ok (.slice (some ⟨w.heap.size,0,none⟩) n n) (w.alloc (.cells (madeCells #[.bool false] n) 4)):=by
 obtain⟨i0,hi,q⟩:=Option.map_eq_some_iff.1 Z1;simp only[Prod.mk.injEq]at q;obtain⟨hz0,hz1,hz2⟩:=q;have h:=run_make (P:=prog) w 425 4 i0 _ underlying425 hi hz0 .i64 .i64 n n (by omega) (by omega) (by rw[hz2];omega) (by omega);rw[hz1,Int.toNat_natCast,Nat.mul_one]at h;exact h
theorem made1(v:Value)(n:Nat):madeCells #[v] n=(List.replicate n v).toArray:=by
 apply Array.ext
 ·simp[size_madeCells]
 ·intro i h1 h2
  simp[madeCells,Nat.mod_one]
theorem cell_grown{w w':World}{row:Option Nat}(hg:w.grownBy w' row){b j:Nat}(hb:b<w.heap.size)(hne:row≠some b):w'.cell? ⟨b,j,none⟩=w.cell? ⟨b,j,none⟩:=by
 unfold World.cell?;rw[hg.block b hb fun e=>hne e.symm]
theorem aq.wZ{T:Type}{L:Lay T}(hf:Flat L){base:Nat}{e:TypeId}{w w':World}{v:Value}{l:List T}{row:Option Nat}(h:aq L base e w v l)(hg:w.grownBy w' row)(hne:∀b,v.ownBlock=some b->row≠some b):aq L base e w' v l:=by
 obtain⟨xs,h1,h2⟩:=h;refine⟨xs,h1.kept hg ?_,fun i d hd=>hf _ _ _ _ (h2 i d hd)⟩;cases hv:v.ownBlock with
 |none=>exact .inl rfl
 |some b=>exact .inr fun e=>hne b hv e.symm
theorem uL{w:World}{base base':Nat}{e:TypeId}{k n:Nat}{v:Value}{xs:zv}(h:w.ownsRow base e k v n xs)(hb:base'<=base):w.ownsRow base' e k v n xs:=by
 obtain⟨h1,h2|⟨g,cap,cur,hv,h3,h4⟩⟩:=h
 ·exact⟨h1,.inl h2⟩
 ·exact⟨h1,.inr ⟨g,cap,cur,hv,by omega,h4⟩⟩
theorem aq.base{T:Type}{L:Lay T}{base base':Nat}{e:TypeId}{w:World}{v:Value}{l:List T}(h:aq L base e w v l)(hb:base'<=base):aq L base' e w v l:=by
 obtain⟨xs,h1,h2⟩:=h;exact⟨xs,uL h1 hb,h2⟩
theorem FH{w:World}{ops:Array Oper}{rest:List Oper}{o:Oper}{a:Act}{Q:Exit->Act->World->Prop}(hgd:o.guard=none)(s x:Operand)(ho:o.op=.call {callee:=.builtin .append,args:=#[s,x],argTypes:=#[66,66]})(base:Nat)(l:List Int)(d:Int)(n:Nat)(oo:Option Addr)(oc:Nat)(hs:a.eval s=.slice oo n oc)(hn:l.length=n)(hown:aq dv base 3 w (.slice oo n oc) l)
 (ad:Addr) (c:Nat) (hx:a.eval x=.slice (some ad) 1 c) (hd:I64 d) (hc:w.cell? ad=some (.int .i64 d)) (hb:n<1000000) (hbase:base<=w.heap.size)
 (h:∀ao' c' w',aq dv base 3 w' (.slice ao' (n+1) c') (l++ [d])->w.grownBy w' (Value.slice oo n oc).ownBlock->wpList prog ops Q rest (a.put o.dst (.slice ao' (n+1) c')) w'):wpList prog ops Q (o::rest) a w:=by
 obtain⟨i0,hi,q⟩:=Option.map_eq_some_iff.1 BN;simp only[Prod.mk.injEq]at q;obtain⟨hz0,hz1,hz2⟩:=q;obtain⟨xs,h2,h3⟩:=hown;rw[hn]at h2;refine wpList_append_own w hgd s x 66 ho base 3 i0 _ 1 8 underlying66 hi hz0 hz1 hz2 rfl (by decide) _ n xs hs h2 ad 1 c [.int .i64 d] hx rfl (fun j u hj=> ?_) (by simp[Value.oneCell']) (by unfold maxLen;omega) (by omega) hbase fun v' w' hw1 hw2 hw3=> ?_
 ·match j,hj with
  |0,hj=>(cases hj;obtain⟨b,off,p⟩:=ad;simpa[Addr.add]using hc)
 ·obtain⟨ao',c',rfl⟩:=eC hw1
  subst hn;refine h ao' c' w' (aq.app (L:=dv) (l2:= [d]) hw1 h2.1 (fun i d hd=>h3 i d hd) fun i y hy=> ?_) hw2
  match i,hy with
  |0,hy=>(cases hy;exact⟨rfl,hd⟩)
theorem oP(bx g:Nat)(done:List Bool)(k:Nat)(w:World)(hk:k<done.length)(hb:oZ w g done)(c:Nat)(c0:w.cell? ⟨bx,0,none⟩=some (.slice (some ⟨g,0,none⟩) done.length c)):Calls prog 331 #[.int .i64 (k:Int),.pointer (some ⟨bx,0,none⟩)] w (cX (.bool (!(done.getD k false))) w):=by
 have lb:=bP c0;have lg:=hb.lt;have c1:=hb.cell (i:=k) (x:=done.getD k false) (by rw[List.getD_eq_getElem?_getD,fZ hk];rfl);have v0:(0:Int)<=(k:Int):=by omega
 have v1:(k:Int)<(done.length:Int):=by omega
 obtain⟨x,hx⟩:∃x,done.getD k false=x:=⟨_,rfl⟩;obtain⟨m,hm⟩:∃m,done.length=m:=⟨_,rfl⟩;rw[hx]at c1 ⊢;rw[hm]at c0 v1;clear hx hb hm hk;go_enter func331,ntmps331;go_wp2;go_ret;exact⟨rfl,ae⟩
theorem qy:Enters 331:=fun a w=>by rfl
theorem Sz(b:Nat)(defs:List Def)(U:List (List Nat))(w:World)(h:kT w b defs U)(hac:jh U=false):Calls prog 305 #[.pointer (some ⟨b,0,none⟩)] w fun e w'=> ∃oo oc,e=.returned (.slice oo defs.length oc)/\af w w'/\aq dv w.heap.size 3 w' (.slice oo defs.length oc) (ny defs U defs.length).2:=by
 have HG:=aa h;obtain⟨hlen,hfew,zP,⟨qo,qc,c0,hd⟩,uo,uc,c1,hu⟩:=h;have lb:=bP c0;have HU:=aa hu;have Z0:=aa hd;have HIV:=aa (wY hlen zP hac);have HNX:=aa (fun r(hr:r<defs.length)=>I5 hlen zP hac (wY hlen zP hac r (by omega)) hr);have rG:=aa zP;have HL:=aa hlen;obtain⟨n,hn⟩:∃n,defs.length=n:=⟨_,rfl⟩;have HN:=aa hn;rw[hn]at c0 c1 hfew HU Z0 HIV HNX HL ⊢;have M:=adv (n:=n) (hn:=by omega);clear hu hlen hd zP hn hac;go_enter func305,ntmps305;go_wp2;refine bI ?_;intro W1 hW1;obtain⟨g,hg⟩:∃g,w.heap.size=g:=⟨_,rfl⟩;have jZ:=aa (show af w W1 by rw[hW1];exact ae);have cB1:W1.cell? ⟨g+1,0,none⟩=some (.slice (some ⟨g,0,none⟩) n n):=by rw[hW1,<-hg];simp[go_sem]
 have HB1:=aa (show oZ W1 g (ny defs U 0).1 by
  have h0:oZ (w.alloc (.cells (madeCells #[.bool false] n) 4)) g (ny defs U 0).1:=by
   unfold oZ;rw[<-hg,heap_alloc_new,made1];simp[ny,HN.zo]
  rw[hW1];exact h0.exts ae)
 have hs1:W1.heap.size=g+2:=by rw[hW1,<-hg];simp
 rw[hg];clear hW1 M;go_loopw [4,20] (fun v i wr=> ∃(r:Nat)(oo:Option Addr)(oc:Nat),r<=n/\i=.int .i64 r/\v=.slice oo r oc/\aq dv (g+2) 3 wr (.slice oo r oc) (ny defs U r).2/\oZ wr g (ny defs U r).1/\wr.cell? ⟨g+1,0,none⟩=some (.slice (some ⟨g,0,none⟩) n n)/\af w wr/\g+2<=wr.heap.size) (fun _ i _=>n - (intOf i).toNat)
 case atStart=>exact⟨0,none,0,by omega,rfl,rfl,aq.made _ _ _ _,HB1.zo,cB1,jZ.zo,by omega⟩
 case round=>
  clear cB1 HB1 jZ hs1;obtain⟨r,oo,oc,hr,rfl,rfl,hso,hb,cB,hx,hsz⟩:=hrel;have D8:=aa hso;have HB:=aa hb;have HX:=aa hx;by_cases hrn:r<n
  ·obtain⟨jn,hjn,hjl,hnx⟩:=HNX.zo r hrn
   have hiv:=HIV.zo r (by omega);obtain⟨⟨done,o⟩,hS⟩:∃S,ny defs U r=S:=⟨_,rfl⟩;have xM:=aa (show ny defs U (r+1)=(done.set jn true,o++ [(jn:Int)])by
    show tY defs U (ny defs U r)=_;rw[hS]at hjn ⊢;unfold tY;rw[HN.zo];show(done.set (jc defs U done n).toNat true,o++ [jc defs U done n])=_;rw[show jc defs U done n=jn from hjn];rfl)
   rw[hS]at hjn hiv D8 HB;have hdl:done.length=n:=hiv.dl;have hol:o.length=r:=hiv.ol;have HJN:=aa (show jc defs U done n=jn from hjn);have HOL:=aa hol;have e1:wr.cell? ⟨b,1,none⟩=_:=af.cell hx c1;have e0:wr.cell? ⟨b,0,none⟩=_:=af.cell hx c0;have Z2:Hid (aq dv (g+2) 3 wr (.slice oo r oc) o):=D8;have HB2:Hid (oZ wr g done):=HB;have gm:Hid (af w wr):=HX;clear hso hb hx hS hjn hiv D8 HB hol hnx HX;go_wp2;go_loopw [5,27] (fun v i wr2=> ∃m:Nat,m<=n/\i=.int .i64 m/\v=.int .i64 (jc defs U done m)/\af wr wr2) (fun _ i _=>n - (intOf i).toNat)
   case atStart=>exact⟨0,by omega,rfl,rfl,af.refl _⟩
   case round=>
    obtain⟨m,hm,rfl,rfl,hy⟩:=hrel;have HY:=aa hy;have hsy:=hy.below.size;by_cases hmn:m<n
    ·obtain⟨row,hrow⟩:∃row,U[m]?=some row:=⟨_,fZ (by rw[HL.zo];exact hmn)⟩
     have hr2:(U.map gw)[m]?=some (gw row):=by rw[List.getElem?_map,hrow];rfl
     obtain⟨ub,uof,ro,rc,rfl,lub,f0,hrw⟩:=xJ HU.zo hr2;have cB2:wr.cell? ⟨g+1,0,none⟩=_:=af.cell hy cB;have hxw:af w wr:=gm.zo.trans hy;have hsw:=hxw.below.size;have f1:wr.cell? ⟨ub,uof+m,none⟩=_:=af.cell hxw f0;have HRW:=aa (hrw.exts hxw);have HB3:=aa (HB2.zo.exts hy);have hmd:done[m]?=some (done.getD m false):=by rw[List.getD_eq_getElem?_getD,fZ (by omega)];rfl
     have d1:=HB3.zo.cell hmd;have lg:=HB3.zo.lt;have Ol:=aa (show(gw row).any (fun k=> !(done.getD k.toNat false))=(U.getD m []).any fun k=> !(done.getD k false)from by
      rw[List.getD_eq_getElem?_getD,hrow];unfold gw;rw[List.any_map];rfl)
     have Sy:=aa (show∀(i:Nat)(d:Int),(gw row)[i]?=some d->∃k:Nat,d=k/\k<done.length from fun i d hd=>by
      unfold gw at hd;rw[List.getElem?_map]at hd;obtain⟨k,hk,rfl⟩:=Option.map_eq_some_iff.1 hd;have:jr U m k=true:=by
       unfold jr;rw[List.getD_eq_getElem?_getD,hrow];exact List.contains_iff_mem.2 (gH hk)
      have:=rG.zo _ _ this;exact⟨k,rfl,by rw[hdl,<-HL.zo];exact this⟩)
     have UH:=aa (zq defs U done m);have hrd:pO U done m=(!(done.getD m false)&& !((U.getD m []).any fun k=> !(done.getD k false))):=rfl;obtain⟨x,hx0⟩:∃x,done.getD m false=x:=⟨_,rfl⟩;obtain⟨y,hy0⟩:∃y,((U.getD m []).any fun k=> !(done.getD k false))=y:=⟨_,rfl⟩;rw[hx0]at d1 hrd;rw[hy0]at Ol hrd;obtain⟨rl,hrl⟩:∃rl,(gw row).length=rl:=⟨_,rfl⟩;rw[hrl]at f1 HRW;have hor:=Ai defs U done m;obtain⟨nb,hnb⟩:∃nb,jc defs U done m=nb:=⟨_,rfl⟩;rw[hnb]at hor UH ⊢;have hnk:nextK defs U done nb m=if(pO U done m&&(decide (nb<0)||ltS (defs.getD m default).name (defs.getD nb.toNat default).name))=true then(m:Int)else nb:=rfl
     rw[hnk,hrd]at UH;clear hr2 hrow f0 hrw hmd hx0 hy0 hrl hnb hnk hrd;have HK:=aa (show∀w1,af wr w1->w1.cell? ⟨g+1,0,none⟩=some (.slice (some ⟨g,0,none⟩) n n)/\w1.cell? ⟨g,m,none⟩=some (.bool x)/\w1.cell? ⟨b,0,none⟩=some (.slice qo n qc)/\wr.heap.size<=w1.heap.size from fun w1 h=>⟨af.cell h cB2,af.cell h d1,af.cell (hxw.trans h) c0,h.below.size⟩);have EM:=aa (show∀i,i<n->∃db KJ,qo=some ⟨db,KJ,none⟩/\db<w.heap.size/\∀w1,af wr w1->w1.cell? ⟨db,KJ+i*6,none⟩=some (.string (defs.getD i default).name)from fun i hi=>by
      obtain⟨df,hdf⟩:=Z0.zo.ex hi;obtain⟨db,KJ,_,_,e,ldb,d0,_⟩:=Ew Z0.zo hdf;have ed:defs.getD i default=df:=by rw[List.getD_eq_getElem?_getD,hdf];rfl
      rw[ed];exact⟨db,KJ,e,ldb,fun w1 h=>af.cell (hxw.trans h) d0⟩)
     clear cB2 d1 hxw;cases x with
     |true=>
      have HE:=aa (show jc defs U done (m+1)=nb by rw[UH.zo];rfl);clear hor;go_wp2_with ((with_reducible refine ag (mZ 331 _ (fun k=> !(done.getD k.toNat false)) _ _ _ _ _ qy HRW.zo ?_) ?_);(intro w' i d cs he hd hR;obtain⟨k,rfl,hk⟩:=Sy.zo i d hd;obtain⟨rfl,_⟩:=hR;exact oP (g+1) g done k w' hk (HB3.zo.exts he) n (by rw[hdl];exact(HK.zo w' he).1));rintro e w1 ⟨rfl,hx1⟩;rw[Ol.zo];(have iU:=aa hx1);(obtain⟨k1,k2,k3,k4⟩:=HK.zo w1 hx1);(have hs3:=hx1.below.size);clear hx1)
      first|refine eK ?_|refine eJ ?_
      repeat (go_big_quiet_step (fail))
      refine eM fun xq=> ?_
      go_wp2;refine⟨⟨m+1,by omega,by go_num,by rw[HE.zo],HY.zo.trans (iU.zo.trans ae)⟩,?_⟩;simp[intOf];omega
     |false=>
      cases y with
      |true=>
       have HE:=aa (show jc defs U done (m+1)=nb by rw[UH.zo];rfl);clear hor;go_wp2_with ((with_reducible refine ag (mZ 331 _ (fun k=> !(done.getD k.toNat false)) _ _ _ _ _ qy HRW.zo ?_) ?_);(intro w' i d cs he hd hR;obtain⟨k,rfl,hk⟩:=Sy.zo i d hd;obtain⟨rfl,_⟩:=hR;exact oP (g+1) g done k w' hk (HB3.zo.exts he) n (by rw[hdl];exact(HK.zo w' he).1));rintro e w1 ⟨rfl,hx1⟩;rw[Ol.zo];(have iU:=aa hx1);(obtain⟨k1,k2,k3,k4⟩:=HK.zo w1 hx1);(have hs3:=hx1.below.size);clear hx1)
       first|refine eK ?_|refine eJ ?_
       repeat (go_big_quiet_step (fail))
       refine eM fun xq=> ?_
       go_wp2;refine⟨⟨m+1,by omega,by go_num,by rw[HE.zo],HY.zo.trans (iU.zo.trans ae)⟩,?_⟩;simp[intOf];omega
      |false=>
       rcases hor with⟨rfl,-⟩|⟨j,rfl,hj,-⟩
       ·have HE:=aa (show jc defs U done (m+1)=(m:Int)by rw[UH.zo];rfl)
        go_wp2_with ((with_reducible refine ag (mZ 331 _ (fun k=> !(done.getD k.toNat false)) _ _ _ _ _ qy HRW.zo ?_) ?_);(intro w' i d cs he hd hR;obtain⟨k,rfl,hk⟩:=Sy.zo i d hd;obtain⟨rfl,_⟩:=hR;exact oP (g+1) g done k w' hk (HB3.zo.exts he) n (by rw[hdl];exact(HK.zo w' he).1));rintro e w1 ⟨rfl,hx1⟩;rw[Ol.zo];(have iU:=aa hx1);(obtain⟨k1,k2,k3,k4⟩:=HK.zo w1 hx1);(have hs3:=hx1.below.size);clear hx1)
        first|refine eK ?_|refine eJ ?_
        repeat (go_big_quiet_step (fail))
        refine eM fun xq=> ?_
        go_wp2;refine⟨⟨m+1,by omega,by go_num,by rw[HE.zo],HY.zo.trans (iU.zo.trans ae)⟩,?_⟩;simp[intOf];omega
       ·obtain⟨db,KJ,rfl,ldb,hn1⟩:=EM.zo m hmn
        obtain⟨db2,ahw,e2,_,hn2⟩:=EM.zo j (by omega);simp only[Option.some.injEq,Addr.mk.injEq,and_true]at e2;obtain⟨rfl,rfl⟩:=e2;have HN1:=aa hn1;have Yl:=aa hn2;have v2:(0:Int)<=(j:Int):=by omega
        have v3:(j:Int)<(n:Int):=by omega
        have v4:decide ((j:Int)<0)=false:=jE (by omega);obtain⟨s1,hs1⟩:∃s,(defs.getD m default).name=s:=⟨_,rfl⟩;obtain⟨s2,hs2⟩:∃s,(defs.getD j default).name=s:=⟨_,rfl⟩;rw[Int.toNat_natCast,v4,hs1,hs2]at UH;rw[hs1]at HN1;rw[hs2]at Yl;clear hn1 hn2 EM hs1 hs2;cases hlt:ltS s1 s2 with
        |true=>
         rw[hlt]at UH;have hq:Op.bytesLess s1.toList s2.toList=true:=(bytesLess_eq _ _).trans hlt;have HE:=aa (show jc defs U done (m+1)=(m:Int)by rw[UH.zo];rfl);go_wp2_with ((with_reducible refine ag (mZ 331 _ (fun k=> !(done.getD k.toNat false)) _ _ _ _ _ qy HRW.zo ?_) ?_);(intro w' i d cs he hd hR;obtain⟨k,rfl,hk⟩:=Sy.zo i d hd;obtain⟨rfl,_⟩:=hR;exact oP (g+1) g done k w' hk (HB3.zo.exts he) n (by rw[hdl];exact(HK.zo w' he).1));rintro e w1 ⟨rfl,hx1⟩;rw[Ol.zo];(have iU:=aa hx1);(obtain⟨k1,k2,k3,k4⟩:=HK.zo w1 hx1);(have hs3:=hx1.below.size);(have k5:=HN1.zo w1 hx1);(have k6:=Yl.zo w1 hx1);clear hx1)
         first|refine eK ?_|refine eJ ?_
         repeat (go_big_quiet_step (fail))
         refine eM fun xq=> ?_
         go_wp2;refine⟨⟨m+1,by omega,by go_num,by rw[HE.zo],HY.zo.trans (iU.zo.trans ae)⟩,?_⟩;simp[intOf];omega
        |false=>
         rw[hlt]at UH;have hq:Op.bytesLess s1.toList s2.toList=false:=(bytesLess_eq _ _).trans hlt;have HE:=aa (show jc defs U done (m+1)=(j:Int)by rw[UH.zo];rfl);go_wp2_with ((with_reducible refine ag (mZ 331 _ (fun k=> !(done.getD k.toNat false)) _ _ _ _ _ qy HRW.zo ?_) ?_);(intro w' i d cs he hd hR;obtain⟨k,rfl,hk⟩:=Sy.zo i d hd;obtain⟨rfl,_⟩:=hR;exact oP (g+1) g done k w' hk (HB3.zo.exts he) n (by rw[hdl];exact(HK.zo w' he).1));rintro e w1 ⟨rfl,hx1⟩;rw[Ol.zo];(have iU:=aa hx1);(obtain⟨k1,k2,k3,k4⟩:=HK.zo w1 hx1);(have hs3:=hx1.below.size);(have k5:=HN1.zo w1 hx1);(have k6:=Yl.zo w1 hx1);clear hx1)
         first|refine eK ?_|refine eJ ?_
         repeat (go_big_quiet_step (fail))
         refine eM fun xq=> ?_
         go_wp2;refine⟨⟨m+1,by omega,by go_num,by rw[HE.zo],HY.zo.trans (iU.zo.trans ae)⟩,?_⟩;simp[intOf];omega
    ·obtain rfl:m=n:=by omega
     have v2:(0:Int)<=(jn:Int):=by omega
     have v3:(jn:Int)<(m:Int):=by omega
     have cB2:wr.cell? ⟨g+1,0,none⟩=_:=af.cell hy cB;have HB3:=aa (HB2.zo.exts hy);have Z3:=aa (Z2.zo.exts hy);have lg:=HB3.zo.lt;have fz:=HB3.zo.fz jn;have d1:=HB3.zo.cell (i:=jn) (x:=done.getD jn false) (by rw[List.getD_eq_getElem?_getD,fZ (by omega)];rfl);have HXY:=aa (gm.zo.trans hy);rw[HJN.zo];have afv:=aa (aq.wZ eZ Z3.zo (bW wr g jn (.bool true)) fun b' hb' e=>by
      obtain⟨xs,h1,_⟩:=Z3.zo;have:=cm h1 b' hb';simp only[Option.some.injEq]at e;omega)
     have HOW:=aa (show∀b',(Value.slice oo r oc).ownBlock=some b'->g+2<=b' from by
      obtain⟨xs,h1,_⟩:=Z3.zo;exact cm h1)
     have Ab:=aa (show(Value.slice oo r oc).ownBlock≠some g from fun e=>by have:=HOW.zo g e;omega);have HN7:=aa (show(Value.slice oo r oc).ownBlock≠some (g+1)from fun e=>by have:=HOW.zo (g+1) e;omega);have Om:=aa (HB3.zo.set jn true);have lgb:=bP cB2;have CG:=aa (jx HXY.zo (show w.heap.size<=g by omega) jn (.bool true));have hss:(wr.setCell ⟨g,jn,none⟩ (.bool true)).heap.size=wr.heap.size:=by simp[World.setCell]
     clear hy;go_wp2_with (at_builtin;refine FH rfl (.tmp 72) (.tmp 74) rfl (g+2) o (jn:Int) r oo oc rfl HOL.zo ?_ _ 1 rfl (by unfold I64;omega) (by simp[go_sem]) (by omega) (by simp[World.setCell]<;>omega) ?_;exact afv.zo.exts ae;intro ao' c' w1 hown hgr;(have SA:=aa hown);(have UI:=aa hgr);clear hown hgr)
     refine⟨⟨r+1,ao',c',by omega,by go_num,rfl,by rw[xM.zo];exact SA.zo,?_,?_,?_,?_⟩,?_⟩
     ·rw[xM.zo]
      exact(Om.zo.exts ae).kept UI.zo Ab.zo
     ·refine(cell_grown UI.zo ?_ HN7.zo).trans ?_
      ·simp[World.setCell]
       omega
      ·exact af.cell ae ((cell_grown (bW wr g jn (.bool true)) lgb (by simp)).trans cB2)
     ·refine aF (CG.zo.trans ae) UI.zo fun b' hb'=> ?_
      have:=HOW.zo b' hb';omega
     ·have:=UI.zo.size
      simp[World.setCell]at this;omega
     ·simp[intOf];omega
  ·obtain rfl:r=n:=by omega
   go_wp2;go_ret;exact⟨oo,oc,rfl,HX.zo,D8.zo.base (by omega)⟩
section
open Go.RowKit Go.Maps Go.Shelf Go.Sort
attribute [local go_sem] Oper.semAt_some
theorem sortsA(m:Nat):AnyZ.SortsIn prog Tryz.sortedA_ren Fence.wide m:=
 ⟨fun blk off cap ss W hH hblk hsz=>callsIn_wide.2 (Go.Proofs.Tryz.slices_Sort_string blk off cap ss W hH hblk hsz),fun p cap W=>callsIn_wide.2 (Go.Proofs.Tryz.slices_Sort_string_none p cap W)⟩
def WZ(s:ByteArray):Lit:=.string s.data.toList
def Cr(ys:List ByteArray)(j:Nat):DataW Unit:=setOf (.lit (.bool true)) ((ys.take j).map WZ)
theorem Jr{w:World}{cs:zv}{e:Xp}(h:iP w cs e):∀s∈dS e,gS s:=by
 induction h with
 |mk op num str key args ao c xs h1 h2 h3 h4 hr h ih=>
  have key2:∀k,k<=args.length->∀s∈dm (args.take k),gS s:=fun k=>by
   induction k with
   |zero=>intro _ s hs;simp[dm]at hs
   |succ k ihk=>
    intro hk s hs;have hx:args[k]?=some args[k]:=fZ (by omega);rw[nG hx]at hs;rcases List.mem_append.1 hs with hs|hs
    ·exact ihk (by omega) s hs
    ·exact ih k _ hx s hs
  intro s hs;rw[dS]at hs;rcases List.mem_append.1 hs with hs|hs
  ·split at hs
   ·rw[List.mem_singleton.1 hs]
    exact h3
   ·cases hs
  ·exact key2 args.length (Nat.le_refl _) s (by rw[List.take_length];exact hs)
theorem OP{ys:List ByteArray}{j:Nat}{s:ByteArray}(h:ys[j]?=some s):Cr ys (j+1)=(Cr ys j).put (WZ s) (.lit (.bool true)):=by
 unfold Cr;rw[List.take_add_one,h,Option.toList_some,List.map_append,List.map_cons,List.map_nil,setOf_snoc]
theorem TB(ys:List ByteArray)(x:List UInt8):has (Cr ys ys.length) (.string x)=true↔x∈ys.map (·.data.toList):=by
 unfold Cr;rw[List.take_length,has_setOf _ _ _ (fun y hy=>by obtain⟨s,_,rfl⟩:=List.mem_map.1 hy;exact trivial),List.any_map,List.any_eq_true,List.mem_map];constructor
 ·rintro ⟨s,h1,h2⟩
  exact⟨s,h1,by simpa[WZ,Lit.sameKey]using h2⟩
 ·rintro ⟨s,h1,h2⟩
  exact⟨s,h1,by simpa[WZ,Lit.sameKey]using h2⟩
theorem F4{w:World}{b n:Nat}{e:Xp}{ss:List (List UInt8)}(h:w.ownsMap prog 9 (plainElem (H:=Unit) prog 4) b n (Cr (dS e) (dS e).length))(hp:ss.Perm (strKeys (Cr (dS e) (dS e).length))):ss.mergeSort (fun x y=>decide (x<=y))=mj e:=by
 have hc:Collected (Cr (dS e) (dS e).length) (fun _=>false) (oI ((dS e).map (·.data.toList))):=⟨qV _,fun x=>by rw[oJ,TB];simp⟩;exact mergeSort_of_perm (hp.trans (hc.perm h mF underlying9 fun _=>rfl).symm)
theorem adL{w W:World}{cs:zv}(hl:cs.length=5)(he:af (w.alloc (.cells cs.toArray 48)) W):(jf 48 ⟨w.heap.size,0,none⟩).run prog W=.ok (.agg cs.toArray) W:=
 uy hl fun j u hu=>af.cell he (by rw[Nat.zero_add,World.cell?_alloc_new];simpa using hu)
theorem Xa{w W:World}{cs:zv}{e:Xp}(h:iP w cs e)(he:af (w.alloc (.cells cs.toArray 48)) W):KZ W w.heap.size e:=
 ⟨Nat.lt_of_lt_of_le (by simp) he.below.size,cs,iP.exts h (((af.refl w).alloc _).trans he),fun j u hu=>af.cell he (by rw[World.cell?_alloc_new];simpa using hu)⟩
theorem F5{H:Type}{P:Program}{w w':World}{k:TypeId}{R:Value->Option (DataW H×List MemPlace)}{b n:Nat}{D:DataW H}(h:w.ownsMap P k R b n D)(he:af w w'):w'.ownsMap P k R b n D:=h.kept (er he none) (by simp)
theorem TC(e:Xp)(cs:zv)(w:World)(h:iP w cs e)(hn:(dS e).length<=1000000):Calls prog 327 #[.agg cs.toArray] w fun r w'=> ∃ao c,r=.returned (.slice ao (mj e).length c)/\af w w'/\w'.ownsRow w.heap.size 9 1 (.slice ao (mj e).length c) (mj e).length ((mj e).map encStr):=by
 have HR:=aa h;have tV:=aa (Jr h);obtain⟨ao,c,rfl,hv⟩:=h.opened;clear h hv;refine(callsIn_wide (n:=12)).1 ?_;refine callsIn_of_wp_marks func327 rfl trivial ?_ rfl;simp only[ntmps327,List.size_toArray,List.length_cons,List.length_nil,Nat.reduceAdd,Nat.reduceSub,Array.replicate_succ,Array.replicate_zero,List.push_toArray,List.append_toArray,List.nil_append,List.cons_append];have hmm:= @run_makeMap prog;have hbx:=adL (w:=w) (W:=((w.alloc (.cells #[.int .i64 e.op,.int .i64 e.num,.string e.str,.string e.key,.slice ao e.args.length c] 48)).alloc (.map #[] 0)).alloc (.cells #[.map (some (w.heap.size+1))] 113)) (cs:= [.int .i64 e.op,.int .i64 e.num,.string e.str,.string e.key,.slice ao e.args.length c]) rfl ae
 gi_wp2_with (refine⟨trivial,?_⟩;((with_reducible refine CallsIn.mono (Cq Fence.wide _ Tv fwR e _ _ ?_) ?_);exact iP.exts HR.zo ae;rintro r' w' ⟨rfl,rfl⟩))
 have GI:=aa (Xa (w:=((w.alloc (.cells #[.int .i64 e.op,.int .i64 e.num,.string e.str,.string e.key,.slice ao e.args.length c] 48)).alloc (.map #[] 0)).alloc (.cells #[.map (some (w.heap.size+1))] 113)) (iP.exts HR.zo ae) (af.refl _));have HOM:=aa (F5 (World.ownsMap_made (w.alloc (.cells #[.int .i64 e.op,.int .i64 e.num,.string e.str,.string e.key,.slice ao e.args.length c] 48)) prog 9 (plainElem (H:=Unit) prog 4)) (w':=(((w.alloc (.cells #[.int .i64 e.op,.int .i64 e.num,.string e.str,.string e.key,.slice ao e.args.length c] 48)).alloc (.map #[] 0)).alloc (.cells #[.map (some (w.heap.size+1))] 113)).alloc (.cells #[.int .i64 e.op,.int .i64 e.num,.string e.str,.string e.key,.slice ao e.args.length c] 48)) ae);have HEX:=aa (show af w ((((w.alloc (.cells #[.int .i64 e.op,.int .i64 e.num,.string e.str,.string e.key,.slice ao e.args.length c] 48)).alloc (.map #[] 0)).alloc (.cells #[.map (some (w.heap.size+1))] 113)).alloc (.cells #[.int .i64 e.op,.int .i64 e.num,.string e.str,.string e.key,.slice ao e.args.length c] 48))from ae);have hc0:((((w.alloc (.cells #[.int .i64 e.op,.int .i64 e.num,.string e.str,.string e.key,.slice ao e.args.length c] 48)).alloc (.map #[] 0)).alloc (.cells #[.map (some (w.heap.size+1))] 113)).alloc (.cells #[.int .i64 e.op,.int .i64 e.num,.string e.str,.string e.key,.slice ao e.args.length c] 48)).cell? ⟨w.heap.size+1+1,0,none⟩=some (.map (some (w.heap.size+1))):=af.cell (w:=(w.alloc (.cells #[.int .i64 e.op,.int .i64 e.num,.string e.str,.string e.key,.slice ao e.args.length c] 48)).alloc (.map #[] 0)|>.alloc (.cells #[.map (some (w.heap.size+1))] 113)) ae (by have:=World.cell?_alloc_new ((w.alloc (.cells #[.int .i64 e.op,.int .i64 e.num,.string e.str,.string e.key,.slice ao e.args.length c] 48)).alloc (.map #[] 0)) #[.map (some (w.heap.size+1))] 113 0;simp only[World.size_alloc]at this;rw[this];rfl);simp only[World.size_alloc]at GI HOM;have hsz0:w.heap.size+4=((((w.alloc (.cells #[.int .i64 e.op,.int .i64 e.num,.string e.str,.string e.key,.slice ao e.args.length c] 48)).alloc (.map #[] 0)).alloc (.cells #[.map (some (w.heap.size+1))] 113)).alloc (.cells #[.int .i64 e.op,.int .i64 e.num,.string e.str,.string e.key,.slice ao e.args.length c] 48)).heap.size:=by simp
 clear hbx;generalize ((((w.alloc (.cells #[.int .i64 e.op,.int .i64 e.num,.string e.str,.string e.key,.slice ao e.args.length c] 48)).alloc (.map #[] 0)).alloc (.cells #[.map (some (w.heap.size+1))] 113)).alloc (.cells #[.int .i64 e.op,.int .i64 e.num,.string e.str,.string e.key,.slice ao e.args.length c] 48))=W0 at GI HOM HEX hc0 hsz0 ⊢;refine vz (gf:=366) (lb:=#[.pointer (some ⟨w.heap.size+1+1+1,0,none⟩)]) (ys:=dS e) rfl yl (Tw e _ _ GI.zo) rfl (fun j W=>W.ownsMap prog 9 (plainElem (H:=Unit) prog 4) (w.heap.size+1) j (Cr (dS e) j)/\af w W) (OwnFrom.and (fun s A B row hs hg hr=>hs.kept hg (fun h=>by have:=(hr _ h.symm).1;omega)) (fun s A B row hs hg hr=>aF hs hg fun b hb=>by have:=(hr b hb).1;omega)) ⟨HOM.zo,HEX.zo⟩ ?a1 ?assign ?body ?done
 case assign=>
  intro l' m s W2 K hK
  gi_wp2
  exact hK
 case body=>
  intro l' m j s W2 hs hi hkk;have hc2:=hkk.cell hc0;have hsz:=tV.zo s (gH hs);have hjl:=(bw hs).1;have HS:=aa hs;have HI:=aa hi;clear hi hs
  gi_wp2_with (gi_at_mapUpdate;refine wpListIn_mapUpdate_own _ rfl _ _ _ 113 rfl 9 4 mF underlying113 _ _ j _ rfl HI.zo.1 (by unfold maxLen;omega) _ _ _ rfl rfl (WideMaps.keyOf_string_mk underlying9 hsz) _ [] (plainElem_bool underlying4 true) ?_;intro w1 hown1 hgrow1)
  obtain⟨es,clock,hb,_⟩:=HI.zo.1;refine⟨KeepsFrom.of_grownBy hgrow1 (fun j e=>by cases e;omega),cE.grown hgrow1 (fun r e=>by cases e;exact⟨_,hb,rfl⟩),?_,aF HI.zo.2 hgrow1 (fun b hb=>by cases hb;omega)⟩;rw[OP HS.zo];exact hown1
 case done=>
  intro D W2 hD1 hD2 hi hkk hdd;have hc2:=hkk.cell hc0;obtain⟨hom,hex⟩:=hi;have HM:=aa hom;have HE:=aa hex;have HD:=aa hdd;have hsize:Maps.size (Cr (dS e) (dS e).length)<=1000000:=Nat.le_trans hom.size_le hn;have cK:CallsIn Fence.wide 11 prog 354 #[.map (some (w.heap.size+1))] W2 fun e w'=>e=.returned (.func (.func 369) #[] #[.pointer (some ⟨W2.heap.size,0,none⟩)])/\w'=W2.alloc (.cells #[.map (some (w.heap.size+1))] 113):=AnyZ.keys_in Go.Proofs.Tryz.keysA Fence.wide 11 trivial rfl (some (w.heap.size+1)) W2
  have hseq:=AnyZ.keys_gives (ρ:=Go.Proofs.Tryz.keysA_ren) {Go.Proofs.Tryz.keysA with} Fence.wide 8 trivial rfl (by omega) W2.heap.size (w.heap.size+1) _ _ (W2.alloc (.cells #[.map (some (w.heap.size+1))] 113)) (by simp) (World.cell?_alloc_new W2 _ _ 0) (hom.alloc _);have cS:=AnyZ.sorted_in Go.Proofs.Tryz.sortedA Fence.wide 11 trivial trivial trivial trivial rfl (by omega) (sortsA _) (enters_of Go.Proofs.Tryz.func368 (by kernel_rfl) rfl) 369 #[.pointer (some ⟨W2.heap.size,0,none⟩)] trivial (enters_of Go.Proofs.Tryz.func369 (by kernel_rfl) rfl) _ _ (by unfold maxLen;omega) (by omega) _ hseq;change CallsIn _ _ prog 353 #[.func (.func 369) #[] #[.pointer (some ⟨W2.heap.size,0,none⟩)]] (W2.alloc (.cells #[.map (some (w.heap.size+1))] 113)) (fun r w'=> ∃(v:Value)(ss:List (List UInt8)),r=.returned v/\ss.Perm (strKeys (Cr (dS e) (dS e).length))/\w'.ownsRow (W2.alloc (.cells #[.map (some (w.heap.size+1))] 113)).heap.size 9 1 v ss.length ((ss.mergeSort (fun x y=>decide (x<=y))).map encStr)/\(v=.slice none 0 0↔ss= [])/\Below (W2.alloc (.cells #[.map (some (w.heap.size+1))] 113)).heap.size (W2.alloc (.cells #[.map (some (w.heap.size+1))] 113)) w')at cS;have CK:=aa cK;have CS:=aa cS;clear hom hex hdd cK cS hseq hkk
  gi_wp2_with (first|(refine⟨trivial,?_⟩;((with_reducible refine CallsIn.mono CK.zo ?_);rintro r' w' ⟨rfl,rfl⟩))|(refine⟨trivial,?_⟩;((with_reducible refine CallsIn.mono CS.zo ?_);rintro r' w' ⟨v,ss,rfl,hS,hrow,hnil,hb⟩)))
  have hsd:ss.mergeSort (fun x y=>decide (x<=y))=mj e:=F4 HM.zo hS;have hln:ss.length=(mj e).length:=by rw[<-hsd,List.length_mergeSort]
  rw[hsd,hln]at hrow;obtain⟨ao',c',rfl⟩:=eC hrow;have hbe:=af.of_below (w:=W2.alloc (.cells #[.map (some (w.heap.size+1))] 113)) hb;have hdW:w'.heap[D]?=some (.deferred (some [])):=(hb.block D (by simp;omega)).trans ((Below.heap_alloc _ _ D hD2).trans HD.zo);refine⟨by simp,.inl ⟨_,_,rfl,run_takeDeferred hdW,⟨_,results_tmp rfl _ _ _,ao',c',rfl,aF ((HE.zo.alloc _).trans hbe) (grownBy_putObj' _ D _) (fun b hb=>by cases hb;omega),?_⟩⟩⟩;refine ownsRow_putObj ?_ _ hdW rfl;obtain⟨h1,h2⟩:=hrow;refine⟨h1,h2.imp id ?_⟩;rintro ⟨g,cap,cur,q1,q2,q3⟩;exact⟨g,cap,cur,q1,by simp at q2;omega,q3⟩
end
end Go.Proofs.YtomgpelfmgkknaaGreatDoor
