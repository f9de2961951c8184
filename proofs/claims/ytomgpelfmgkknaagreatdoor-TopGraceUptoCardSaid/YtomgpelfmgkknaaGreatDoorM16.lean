/- Lemmas for the law. No conditions. -/
import Derived.Test.YtomgpelfmgkknaaGreatDoorM12
import Derived.Test.YtomgpelfmgkknaaGreatDoorM9
import Derived.Test.YtomgpelfmgkknaaGreatDoorM14
namespace Go.Proofs.YtomgpelfmgkknaaGreatDoor
open Go.RowKit Go.Maps
open Go.Proofs.Tryz
set_option maxRecDepth 100000
set_option maxHeartbeats 40000000
set_option linter.unusedVariables false
set_option linter.unusedSimpArgs false
theorem kH:I64 0:=⟨by decide,by decide⟩
def Dd:Dv:=⟨0,0,0,0⟩
def PE:Xp:=.mk 0 0 ⟨#[]⟩ ⟨#[]⟩ []
theorem Wa(w:World):yv w none 0 PE:=⟨⟨by decide,by decide⟩,⟨by decide,by decide⟩,Nat.zero_le _,Nat.zero_le _,Sl.nil _ _⟩
def Eb(r:Rule):Rule:=⟨r.name,r.zones,r.exc,r.start,r.stop,r.bM,r.vary,r.kind,if r.kind=0 then r.test else PE,if r.kind=1 then r.ah else Dd,if r.kind=2∨r.kind=3 then r.uses else 0,if r.kind=3 then r.other else 0,if r.kind=3 then r.n else 0⟩
def okR(r:Rule):Bool:=if r.kind=0 then ea 12 r.test else if r.kind=1 then [r.ah.side].all (inB 0 3)&&([r.ah.base,r.ah.num].all (inB 0 4096)&& [r.ah.den].all (inB 1 4096))else if r.kind=2 then [r.uses].all (inB 1 63)else if r.kind=3 then [r.uses,r.other].all (inB 0 5)&& [r.n].all (inB 0 1048576)else false
def Kz(r:Rule):Bool:=mH false r.zones&&(mH false r.exc&&([r.start,r.bM,r.stop].all (inB 0 1073741824)&&(r.stop==0|| !decide (r.stop<=r.start))))
def jq(r:Rule):Bool:=Kz r&&(okR r&&jI r (Eb r))
theorem sN{W:World}{b:Nat}{x:Int}(hx:I64 x)(c0:W.cell? ⟨b,0,none⟩=some (.int .i64 x)):Sl dv W (some ⟨b,0,none⟩) 1 1 [x]:=by
 refine ints_at (bP c0) rfl (by decide) (by intro z hz;simp at hz;rcases hz with rfl;exact hx) (fun j z hj=> ?_)
 match j,hj with
 |0,hj=>(simp at hj;subst hj;exact c0)
theorem Ad{W:World}{b:Nat}{x y:Int}(hx:I64 x)(hy:I64 y)(c0:W.cell? ⟨b,0,none⟩=some (.int .i64 x))(c1:W.cell? ⟨b,1,none⟩=some (.int .i64 y)):Sl dv W (some ⟨b,0,none⟩) 2 2 [x,y]:=by
 refine ints_at (bP c0) rfl (by decide) (by intro z hz;simp at hz;rcases hz with rfl|rfl;exact hx;exact hy) (fun j z hj=> ?_)
 match j,hj with
 |0,hj=>(simp at hj;subst hj;exact c0)
 |1,hj=>(simp at hj;subst hj;exact c1)
theorem jJ{W:World}{b:Nat}{x y z:Int}(hx:I64 x)(hy:I64 y)(hz:I64 z)(c0:W.cell? ⟨b,0,none⟩=some (.int .i64 x))(c1:W.cell? ⟨b,1,none⟩=some (.int .i64 y))(c2:W.cell? ⟨b,2,none⟩=some (.int .i64 z)):Sl dv W (some ⟨b,0,none⟩) 3 3 [x,y,z]:=by
 refine ints_at (bP c0) rfl (by decide) (by intro t ht;simp at ht;rcases ht with rfl|rfl|rfl;exact hx;exact hy;exact hz) (fun j t hj=> ?_)
 match j,hj with
 |0,hj=>(simp at hj;subst hj;exact c0)
 |1,hj=>(simp at hj;subst hj;exact c1)
 |2,hj=>(simp at hj;subst hj;exact c2)
theorem zO(r:Rule)(cs:zv)(w:World)(hg:Gl w)(h:(aw).R w cs r)(hp:Kz r=false):Calls prog 59 #[.agg cs.toArray] w (cX (.bool false) w):=by
 obtain⟨cN,cO,dY,dZ,ej,ek,rfl,q0,q1,q2,q3,q4,q5,q6,q7,q8,q9,q10,q11,q12,q13,pV⟩:=h;have HG:=aa hg;have fj:=aa q1;have qY:=aa q2;have HT:=aa q7;have SN:=aa q0;have iB:=aa q3;have jS:=aa q4;have iC:=aa q5;have xW:=aa q6;have Fs:=aa q8;have Fu:=aa q9;have Mg:=aa q10;have Mh:=aa q11;have qZ:=aa q12;have wN:=aa q13;have I_n:=aa pV;clear hg q0 q1 q2 q3 q4 q5 q6 q7 q8 q9 q10 q11 q12 q13 pV;cases q0:mH false r.zones with
 |false=>
  have Q0:=aa q0;clear q0 hp;go_enter func59,ntmps59;go_wp2_with ((with_reducible refine(dR false _ _ _ r.zones _ (HG.zo.exts ae) (fj.zo.exts ae)).mono ?_);rintro e w' ⟨rfl,x1,rfl⟩;rw[Q0.zo])
  go_ret;exact⟨rfl,ae⟩
 |true=>
  have Q0:=aa q0;have hp0:=hp;cases q1:mH false r.exc with
  |false=>
   have Q1:=aa q1;clear q1 hp;go_enter func59,ntmps59;go_wp2_with (first|((with_reducible refine(dR false _ _ _ r.zones _ (HG.zo.exts ae) (fj.zo.exts ae)).mono ?_);rintro e w' ⟨rfl,x1,rfl⟩;rw[Q0.zo])|((with_reducible refine(dR false _ _ _ r.exc _ (HG.zo.exts ae) (qY.zo.exts ae)).mono ?_);rintro e w' ⟨rfl,x2,rfl⟩;rw[Q1.zo]))
   go_ret;exact⟨rfl,ae⟩
  |true=>
   have Q1:=aa q1;have hp1:=hp;cases q2: [r.start,r.bM,r.stop].all (inB 0 1073741824)with
   |false=>
    have Q2:=aa q2;clear q2 hp;go_enter func59,ntmps59;go_wp2_with (first|((with_reducible refine(dR false _ _ _ r.zones _ (HG.zo.exts ae) (fj.zo.exts ae)).mono ?_);rintro e w' ⟨rfl,x1,rfl⟩;rw[Q0.zo])|((with_reducible refine(dR false _ _ _ r.exc _ (HG.zo.exts ae) (qY.zo.exts ae)).mono ?_);rintro e w' ⟨rfl,x2,rfl⟩;rw[Q1.zo])|((with_reducible refine ag (eG 0 1073741824 _ 3 3 [r.start,r.bM,r.stop] _ ?_) ?_);exact jJ iB.zo iC.zo jS.zo (by simp[go_sem]) (by simp[go_sem]) (by simp[go_sem]);rintro e w' ⟨rfl,x7,rfl⟩;rw[Q2.zo]))
    go_ret;exact⟨rfl,ae⟩
   |true=>
    have Q2:=aa q2;have hp2:=hp;have hs:(r.stop==0)=false/\decide (r.stop<=r.start)=true:=by
     simp only[Kz,q0,q1,q2,Bool.true_and,Bool.or_eq_false_iff,Bool.not_eq_false']at hp;exact hp
    obtain⟨s1,s2⟩:=hs;clear hp hp0 hp1 hp2 q0 q1 q2;go_enter func59,ntmps59;go_wp2_with (first|((with_reducible refine(dR false _ _ _ r.zones _ (HG.zo.exts ae) (fj.zo.exts ae)).mono ?_);rintro e w' ⟨rfl,x1,rfl⟩;rw[Q0.zo])|((with_reducible refine(dR false _ _ _ r.exc _ (HG.zo.exts ae) (qY.zo.exts ae)).mono ?_);rintro e w' ⟨rfl,x2,rfl⟩;rw[Q1.zo])|((with_reducible refine ag (eG 0 1073741824 _ 3 3 [r.start,r.bM,r.stop] _ ?_) ?_);exact jJ iB.zo iC.zo jS.zo (by simp[go_sem]) (by simp[go_sem]) (by simp[go_sem]);rintro e w' ⟨rfl,x7,rfl⟩;rw[Q2.zo]))
    go_ret;exact⟨rfl,ae⟩
@[go_sem] theorem adh(w:World)(o1 o2 o3 o4:Obj)(x y:Ex):af w (av ((av (((w.alloc o1).alloc o2).alloc o3) x).alloc o4) y)=True:=eq_true (((((((af.refl w).alloc o1).alloc o2).alloc o3).av x).alloc o4).av y)
theorem BK(d:Nat)(xa xb xc:Xp)(ao:Option Addr)(c:Nat)(w:World)(hg:Gl w)(hd:d<100)(hs:Sl j7 w ao 3 c [xa,xb,xc])(ih:∀(e:Xp)(cs:zv)(w:World),Gl w->iP w cs e->Calls prog 146 #[.agg cs.toArray,.int .i64 (d:Int)] w (cX (.bool (ea d e)) w)):Calls prog 146 #[.agg #[.int .i64 16,.int .i64 0,.string ⟨#[]⟩,.string ⟨#[]⟩,.slice ao 3 c],.int .i64 ((d+1:Nat):Int)] w (cX (.bool (ea d xa&&(ea d xb&&(ea d xc)))) w):=by
 have q:((d:Int)+1==0)=false:=by simp;omega
 have WD:((d+1:Nat):Int) - 1=(d:Int):=by omega
 have WE:(d:Int)+1 - 1=(d:Int):=by omega
 have HG:=aa hg;clear hg;have IH:=aa ih;have HSL:=aa hs;clear ih hs;obtain⟨b0,ZO,cs0,rfl,JJ,hR0,cZ⟩:=HSL.zo.ld (i:=0) rfl;simp only[Nat.zero_mul,Nat.one_mul,Nat.add_zero,Nat.reduceMul]at cZ;have HR0:=aa (show iP _ cs0 _ from hR0);have ZP:=List.all_eq_true.2 ((j7).one hR0);have len0:=(j7).len hR0
 (try simp only[j7]at len0)
 clear hR0;obtain⟨b1,off1,cs1,he1,lb1,hR1,Wb⟩:=HSL.zo.ld (i:=1) rfl;simp only[Option.some.injEq,Addr.mk.injEq,and_true]at he1;obtain⟨rfl,rfl⟩:=he1;simp only[Nat.zero_mul,Nat.one_mul,Nat.add_zero,Nat.reduceMul]at Wb;have HR1:=aa (show iP _ cs1 _ from hR1);have one1:=List.all_eq_true.2 ((j7).one hR1);have len1:=(j7).len hR1
 (try simp only[j7]at len1)
 clear hR1;obtain⟨b2,off2,cs2,he2,Uz,hR2,Ez⟩:=HSL.zo.ld (i:=2) rfl;simp only[Option.some.injEq,Addr.mk.injEq,and_true]at he2;obtain⟨rfl,rfl⟩:=he2;simp only[Nat.zero_mul,Nat.one_mul,Nat.add_zero,Nat.reduceMul]at Ez;have HR2:=aa (show iP _ cs2 _ from hR2);have aeS:=List.all_eq_true.2 ((j7).one hR2);have len2:=(j7).len hR2
 (try simp only[j7]at len2)
 clear hR2;obtain⟨r0,hr0⟩:∃r,ea d xa=r:=⟨_,rfl⟩;have wO:=aa hr0;rw[hr0];clear hr0;obtain⟨r1,hr1⟩:∃r,ea d xb=r:=⟨_,rfl⟩;have IA:=aa hr1;rw[hr1];clear hr1;obtain⟨r2,hr2⟩:∃r,ea d xc=r:=⟨_,rfl⟩;have Wc:=aa hr2;rw[hr2];clear hr2;cases r0 with
 |false=>
  go_enter func146,ntmps146;go_wp2_with (first|(refine wp_loop_rounds 6 ?_;rw[rounds_succ])|(rw[rounds_succ])|((with_reducible refine(IH.zo xa _ _ (HG.zo.exts ae) (iP.exts HR0.zo ae)).mono ?_);rintro e w' ⟨rfl,x20,rfl⟩;rw[wO.zo])|((with_reducible refine(IH.zo xb _ _ (HG.zo.exts ae) (iP.exts HR1.zo ae)).mono ?_);rintro e w' ⟨rfl,x21,rfl⟩;rw[IA.zo])|((with_reducible refine(IH.zo xc _ _ (HG.zo.exts ae) (iP.exts HR2.zo ae)).mono ?_);rintro e w' ⟨rfl,x22,rfl⟩;rw[Wc.zo]))
  go_ret;exact⟨by rfl,ae⟩
 |true=>
  cases r1 with
  |false=>
   go_enter func146,ntmps146;go_wp2_with (first|(refine wp_loop_rounds 6 ?_;rw[rounds_succ])|(rw[rounds_succ])|((with_reducible refine(IH.zo xa _ _ (HG.zo.exts ae) (iP.exts HR0.zo ae)).mono ?_);rintro e w' ⟨rfl,x20,rfl⟩;rw[wO.zo])|((with_reducible refine(IH.zo xb _ _ (HG.zo.exts ae) (iP.exts HR1.zo ae)).mono ?_);rintro e w' ⟨rfl,x21,rfl⟩;rw[IA.zo])|((with_reducible refine(IH.zo xc _ _ (HG.zo.exts ae) (iP.exts HR2.zo ae)).mono ?_);rintro e w' ⟨rfl,x22,rfl⟩;rw[Wc.zo]))
   go_ret;exact⟨by rfl,ae⟩
  |true=>
   cases r2 with
   |false=>
    go_enter func146,ntmps146;go_wp2_with (first|(refine wp_loop_rounds 6 ?_;rw[rounds_succ])|(rw[rounds_succ])|((with_reducible refine(IH.zo xa _ _ (HG.zo.exts ae) (iP.exts HR0.zo ae)).mono ?_);rintro e w' ⟨rfl,x20,rfl⟩;rw[wO.zo])|((with_reducible refine(IH.zo xb _ _ (HG.zo.exts ae) (iP.exts HR1.zo ae)).mono ?_);rintro e w' ⟨rfl,x21,rfl⟩;rw[IA.zo])|((with_reducible refine(IH.zo xc _ _ (HG.zo.exts ae) (iP.exts HR2.zo ae)).mono ?_);rintro e w' ⟨rfl,x22,rfl⟩;rw[Wc.zo]))
    go_ret;exact⟨by rfl,ae⟩
   |true=>
    go_enter func146,ntmps146;go_wp2_with (first|(refine wp_loop_rounds 6 ?_;rw[rounds_succ])|(rw[rounds_succ])|((with_reducible refine(IH.zo xa _ _ (HG.zo.exts ae) (iP.exts HR0.zo ae)).mono ?_);rintro e w' ⟨rfl,x20,rfl⟩;rw[wO.zo])|((with_reducible refine(IH.zo xb _ _ (HG.zo.exts ae) (iP.exts HR1.zo ae)).mono ?_);rintro e w' ⟨rfl,x21,rfl⟩;rw[IA.zo])|((with_reducible refine(IH.zo xc _ _ (HG.zo.exts ae) (iP.exts HR2.zo ae)).mono ?_);rintro e w' ⟨rfl,x22,rfl⟩;rw[Wc.zo]))
    go_ret;exact⟨by rfl,ae⟩
theorem empty_of{s:ByteArray}(h:s.toList.isEmpty=true):s=⟨#[]⟩:=by
 have h1:s.toList= []:=by simpa using h
 have h2:s.data.toList= []:=by rw[<-ByteArray.toList_eq];exact h1
 obtain⟨⟨l⟩⟩:=s;simp at h2;subst h2;rfl
theorem len0{T:Type}{l:List T}(h:l.length=0):l= []:=List.length_eq_zero_iff.1 h
theorem len1{T:Type}{l:List T}(h:l.length=1):∃a,l= [a]:=List.length_eq_one_iff.1 h
theorem len2{T:Type}{l:List T}(h:l.length=2):∃a b,l= [a,b]:=by
 match l,h with
 | [a,b],_=>exact⟨a,b,rfl⟩
theorem aff{T:Type}{l:List T}(h:l.length=3):∃a b c,l= [a,b,c]:=by
 match l,h with
 | [a,b,c],_=>exact⟨a,b,c,rfl⟩
theorem KA{op num:Int}{str key:ByteArray}{args:List Xp}(h:iz (.mk op num str key args)=true):(op=2->nameB key=true)/\args.length=argN op/\(if op=0 then ou (jF num 0) 1099511627776 else 0)=num/\(named3 op=false->str=⟨#[]⟩)/\(op≠2->key=⟨#[]⟩)/\(named3 op=true->nameB str=true):=by
 simp only[iz,Xp.op,Xp.num,Xp.str,Xp.key,Xp.args,Bool.and_eq_true,Bool.or_eq_true,Bool.not_eq_true',beq_iff_eq,beq_eq_false_iff_ne,ne_eq]at h;obtain⟨_,⟨h1,h2⟩,h3,h4,h5,h6⟩:=h;refine⟨fun e=>h1.resolve_left (fun x=>x e),h2,h3,fun e=>empty_of (h4.resolve_left (by rw[e];simp)),fun e=>empty_of (h5.resolve_left e),fun e=>h6.resolve_left (by rw[e];simp)⟩
theorem IB:∀(d:Nat)(hd:d<100)(e:Xp)(cs:zv)(w:World),Gl w->iP w cs e->Calls prog 146 #[.agg cs.toArray,.int .i64 (d:Int)] w (cX (.bool (ea d e)) w)
 |0,_,e,cs,w,_,h=>Ky e cs w h
 |d+1,hd,e,cs,w,hg,h=>by
  have ih:=IB d (by omega);by_cases ho:e.op<0∨17<=e.op
  ·exact Fj d e cs w h (by omega) ho
  obtain⟨ao,c,rfl,hv⟩:=h.opened;obtain⟨op,num,str,key,args⟩:=e;simp only[Xp.op]at ho;obtain⟨_,_,h3,h4,hs⟩:=hv;simp only[Xp.str,Xp.key,Xp.args,Xp.op,Xp.num]at h3 h4 hs ⊢;have hl:=hs.nle;unfold maxLen at hl;have oc:(0<=op/\op<17):=by omega
  have OC:op=0∨op=1∨op=2∨op=3∨op=9∨op=15∨op=16∨((0<=op/\op<17)/\op≠0/\op≠1/\op≠2/\op≠3/\op≠9/\op≠15/\op≠16):=by omega
  cases hh:iz (.mk op num str key args)with
  |false=>
   have e0:ea (d+1) (.mk op num str key args)=false:=by simp[ea,hh]
   rw[e0];rcases OC with k|k|k|k|k|k|k|k
   ·exact Fk d op num str key args ao c w hg h3 h4 (by omega) (by omega) k hh
   ·exact Fl d op num str key args ao c w hg h3 h4 (by omega) (by omega) k hh
   ·exact Fm d op num str key args ao c w hg h3 h4 (by omega) (by omega) k hh
   ·exact Fo d op num str key args ao c w hg h3 h4 (by omega) (by omega) k hh
   ·exact Fp d op num str key args ao c w hg h3 h4 (by omega) (by omega) k hh
   ·exact Db d op num str key args ao c w hg h3 h4 (by omega) (by omega) k hh
   ·exact Dc d op num str key args ao c w hg h3 h4 (by omega) (by omega) k hh
   ·exact Fq d op num str key args ao c w hg h3 h4 (by omega) (by omega) k hh
  |true=>
   have e0:ea (d+1) (.mk op num str key args)=args.all (ea d):=by simp[ea,hh,Xp.args]
   rw[e0];obtain⟨f1,f2,f3,f4,f5,f6⟩:=KA hh;clear e0 hh;rcases OC with rfl|rfl|rfl|rfl|rfl|rfl|rfl|k
   ·obtain rfl:=len0 f2
    obtain rfl:=f4 rfl;obtain rfl:=f5 (by decide);rw[if_pos rfl]at f3;exact De d num ao c w hg (by omega) f3
   ·obtain rfl:=len0 f2
    obtain rfl:=f5 (by decide);rw[if_neg (by decide)]at f3;subst f3;exact Df d str ao c w hg (by omega) h3 (f6 rfl)
   ·obtain rfl:=len0 f2
    rw[if_neg (by decide)]at f3;subst f3;exact Dg d str key ao c w hg (by omega) h3 (f6 rfl) h4 (f1 rfl)
   ·obtain rfl:=len0 f2
    obtain rfl:=f5 (by decide);rw[if_neg (by decide)]at f3;subst f3;exact Dh d str ao c w hg (by omega) h3 (f6 rfl)
   ·obtain⟨a,rfl⟩:=len1 f2
    obtain rfl:=f4 rfl;obtain rfl:=f5 (by decide);rw[if_neg (by decide)]at f3;subst f3;simp only[List.all_cons,List.all_nil,Bool.and_true];exact Di d a ao c w hg (by omega) hs ih
   ·obtain⟨a,rfl⟩:=len1 f2
    obtain rfl:=f4 rfl;obtain rfl:=f5 (by decide);rw[if_neg (by decide)]at f3;subst f3;simp only[List.all_cons,List.all_nil,Bool.and_true];exact BJ d a ao c w hg (by omega) hs ih
   ·obtain⟨a,b,x,rfl⟩:=aff f2
    obtain rfl:=f4 rfl;obtain rfl:=f5 (by decide);rw[if_neg (by decide)]at f3;subst f3;simp only[List.all_cons,List.all_nil,Bool.and_true];exact BK d a b x ao c w hg (by omega) hs ih
   ·obtain⟨k0,k1,k2,k3,k4,k5,k6,k7⟩:=k
    have a2:argN op=2:=by unfold argN;rw[if_neg (by omega),if_neg (by omega),if_neg (by omega)]
    have n3:named3 op=false:=by simp[named3,k2,k3,k4]
    rw[a2]at f2;obtain⟨a,b,rfl⟩:=len2 f2;obtain rfl:=f4 n3;obtain rfl:=f5 k3;rw[if_neg k1]at f3;subst f3;simp only[List.all_cons,List.all_nil,Bool.and_true];exact Dj d op a b ao c w hg (by omega) ⟨k0,k1,k2,k3,k4,k5,k6,k7⟩ hs ih
theorem IC(e:Xp)(cs:zv)(w:World)(hg:Gl w)(h:iP w cs e):Calls prog 146 #[.agg cs.toArray,.int .i64 12] w fun r w'=>r=.returned (.bool (ea 12 e))/\af w w':=IB 12 (by decide) e cs w hg h
theorem pG(e:Xp)(cs:zv)(w:World)(hg:Gl w)(h:iP w cs e):Calls prog 54 #[.agg cs.toArray] w (cX (.bool (ea 12 e)) w):=by
 obtain⟨ao,c,rfl,hv⟩:=h.opened;have H:=aa h;have HG:=aa hg;clear h hv hg;go_enter func54,ntmps54;go_wp2_with ((with_reducible refine(IC e _ _ (HG.zo.exts ae) (iP.exts H.zo ae)).mono ?_);rintro e w' ⟨rfl,x9,rfl⟩)
 go_ret;exact⟨rfl,ae⟩
abbrev rcs(oz:Option Addr)(cz:Nat)(oe:Option Addr)(ce:Nat)(oa:Option Addr)(ca:Nat)(name:ByteArray)(zones exc:List ByteArray)(start stop bM:Int)(vary:Bool)(kind:Int)(test:Xp)(ah:Dv)(uses other n:Int):zv:= [.string name,.slice oz zones.length cz,.slice oe exc.length ce,.int .i64 start,.int .i64 stop,.int .i64 bM,.bool vary,.int .i64 kind,.int .i64 test.op,.int .i64 test.num,.string test.str,.string test.key,.slice oa test.args.length ca,.int .i64 ah.side,.int .i64 ah.base,.int .i64 ah.num,.int .i64 ah.den,.int .i64 uses,.int .i64 other,.int .i64 n]
theorem ZQ(k:Int):k=0∨k=1∨k=2∨k=3∨(k≠0/\k≠1/\k≠2/\k≠3):=by omega
theorem BL(name:ByteArray)(zones exc:List ByteArray)(start stop bM:Int)(vary:Bool)(kind:Int)(test:Xp)(ah:Dv)(uses other n:Int)(cs:zv)(w:World)(hg:Gl w)(h:(aw).R w cs ⟨name,zones,exc,start,stop,bM,vary,kind,test,ah,uses,other,n⟩)(hp:Kz ⟨name,zones,exc,start,stop,bM,vary,kind,test,ah,uses,other,n⟩=true):Calls prog 59 #[.agg cs.toArray] w (cX (.bool (jq ⟨name,zones,exc,start,stop,bM,vary,kind,test,ah,uses,other,n⟩)) w):=by
 obtain⟨cN,cO,dY,dZ,ej,ek,rfl,q0,q1,q2,q3,q4,q5,q6,q7,q8,q9,q10,q11,q12,q13,pV⟩:=h;have HG:=aa hg;have fj:=aa (show Sl fC w cN zones.length cO zones from q1);have qY:=aa (show Sl fC w dY exc.length dZ exc from q2);have HT:=aa (show yv w ej ek test from q7);have SN:=aa (show gS name from q0);have iB:=aa (show I64 start from q3);have jS:=aa (show I64 stop from q4);have iC:=aa (show I64 bM from q5);have xW:=aa (show I64 kind from q6);have Fs:=aa (show I64 ah.side from q8);have Fu:=aa (show I64 ah.base from q9);have Mg:=aa (show I64 ah.num from q10);have Mh:=aa (show I64 ah.den from q11);have qZ:=aa (show I64 uses from q12);have wN:=aa (show I64 other from q13);have I_n:=aa (show I64 n from pV);clear hg q0 q1 q2 q3 q4 q5 q6 q7 q8 q9 q10 q11 q12 q13 pV;have HRR:=aa (show(aw).R w (rcs cN cO dY dZ ej ek name zones exc start stop bM vary kind test ah uses other n) ⟨name,zones,exc,start,stop,bM,vary,kind,test,ah,uses,other,n⟩from⟨cN,cO,dY,dZ,ej,ek,rfl,SN.zo,fj.zo,qY.zo,iB.zo,jS.zo,iC.zo,xW.zo,HT.zo,Fs.zo,Fu.zo,Mg.zo,Mh.zo,qZ.zo,wN.zo,I_n.zo⟩);show Calls prog 59 #[.agg #[.string name,.slice cN zones.length cO,.slice dY exc.length dZ,.int .i64 start,.int .i64 stop,.int .i64 bM,.bool vary,.int .i64 kind,.int .i64 test.op,.int .i64 test.num,.string test.str,.string test.key,.slice ej test.args.length ek,.int .i64 ah.side,.int .i64 ah.base,.int .i64 ah.num,.int .i64 ah.den,.int .i64 uses,.int .i64 other,.int .i64 n]] w _;obtain⟨p1,p2,p3,p4⟩:mH false zones=true/\mH false exc=true/\ [start,bM,stop].all (inB 0 1073741824)=true/\(stop=0∨decide (stop<=start)=false):=by
  have hq:=hp;simp only[Kz,Bool.and_eq_true]at hq;obtain⟨p1,p2,p3,p4⟩:=hq;refine⟨p1,p2,p3,?_⟩;simpa using p4
 have HPR:=aa hp;obtain⟨ra,hra⟩:∃x:Rule,(⟨name,zones,exc,start,stop,bM,vary,kind,test,ah,uses,other,n⟩:Rule)=x:=⟨_,rfl⟩;rw[hra]at HRR;obtain⟨res,hres⟩:∃x,jq (⟨name,zones,exc,start,stop,bM,vary,kind,test,ah,uses,other,n⟩:Rule)=x:=⟨_,rfl⟩;rw[hres];have Q0:=aa p1;have Q1:=aa p2;obtain⟨SG,hSG⟩:∃l,[start,bM,stop]=l:=⟨_,rfl⟩;rw[hSG]at p3;have za:=aa hSG;have Q2:=aa p3;clear hp p1 p2 p3 hSG;have hst:stop=0∨((stop==0)=false/\ ¬stop=0/\decide (stop<=start)=false):=by
  by_cases s0:stop=0
  ·exact .inl s0
  ·exact .inr ⟨by simp[s0],s0,p4.resolve_left s0⟩
 clear p4;rcases ZQ kind with rfl|rfl|rfl|rfl|hk
 ·have HX:=aa (show(aw).R w (rcs cN cO dY dZ ej ek name zones exc start stop bM vary 0 test Dd 0 0 0) ⟨name,zones,exc,start,stop,bM,vary,0,test,Dd,0,0,0⟩from⟨cN,cO,dY,dZ,ej,ek,rfl,SN.zo,fj.zo,qY.zo,iB.zo,jS.zo,iC.zo,xW.zo,HT.zo,kH,kH,kH,kH,kH,kH,kH⟩)
  obtain⟨rb,hrb⟩:∃x:Rule,(⟨name,zones,exc,start,stop,bM,vary,0,test,Dd,0,0,0⟩:Rule)=x:=⟨_,rfl⟩;rw[hrb]at HX;have aD:=aa (show res=((ea 12 test)&&jI ra rb)by rw[<-hres,<-hra,<-hrb];simp[jq,HPR.zo,okR,Eb]);clear hrb hra hres;rcases hst with rfl|⟨s1,s0,s2⟩;all_goals cases r0:ea 12 test
  all_goals
   have R0:=aa r0;clear r0;go_enter func59,ntmps59;go_wp2_with (first|((with_reducible refine(dR false _ _ _ zones _ (HG.zo.exts ae) (fj.zo.exts ae)).mono ?_);rintro e w' ⟨rfl,x1,rfl⟩;rw[Q0.zo])|((with_reducible refine(dR false _ _ _ exc _ (HG.zo.exts ae) (qY.zo.exts ae)).mono ?_);rintro e w' ⟨rfl,x2,rfl⟩;rw[Q1.zo])|((with_reducible refine ag (eG 0 1073741824 _ 3 3 SG _ ?_) ?_);exact za.zo▸jJ iB.zo iC.zo jS.zo (by simp[go_sem]) (by simp[go_sem]) (by simp[go_sem]);rintro e w' ⟨rfl,x7,rfl⟩;rw[Q2.zo])|((with_reducible refine ag (pG test _ _ ?_ ?_) ?_);exact HG.zo.exts ae;exact(HT.zo.exts ae).shut;rintro e w' ⟨rfl,x5,rfl⟩;rw[R0.zo])|((with_reducible refine ag (iy ra rb _ _ _ ?_ ?_) ?_);exact(aw).exts HRR.zo ae;exact(aw).exts HX.zo ae;rintro e w' ⟨rfl,x6,rfl⟩))
   all_goals(go_region_with (first|((with_reducible refine(dR false _ _ _ zones _ (HG.zo.exts ae) (fj.zo.exts ae)).mono ?_);rintro e w' ⟨rfl,x1,rfl⟩;rw[Q0.zo])|((with_reducible refine(dR false _ _ _ exc _ (HG.zo.exts ae) (qY.zo.exts ae)).mono ?_);rintro e w' ⟨rfl,x2,rfl⟩;rw[Q1.zo])|((with_reducible refine ag (eG 0 1073741824 _ 3 3 SG _ ?_) ?_);exact za.zo▸jJ iB.zo iC.zo jS.zo (by simp[go_sem]) (by simp[go_sem]) (by simp[go_sem]);rintro e w' ⟨rfl,x7,rfl⟩;rw[Q2.zo])|((with_reducible refine ag (pG test _ _ ?_ ?_) ?_);exact HG.zo.exts ae;exact(HT.zo.exts ae).shut;rintro e w' ⟨rfl,x5,rfl⟩;rw[R0.zo])|((with_reducible refine ag (iy ra rb _ _ _ ?_ ?_) ?_);exact(aw).exts HRR.zo ae;exact(aw).exts HX.zo ae;rintro e w' ⟨rfl,x6,rfl⟩)))
   all_goals go_wp2_with (first|((with_reducible refine(dR false _ _ _ zones _ (HG.zo.exts ae) (fj.zo.exts ae)).mono ?_);rintro e w' ⟨rfl,x1,rfl⟩;rw[Q0.zo])|((with_reducible refine(dR false _ _ _ exc _ (HG.zo.exts ae) (qY.zo.exts ae)).mono ?_);rintro e w' ⟨rfl,x2,rfl⟩;rw[Q1.zo])|((with_reducible refine ag (eG 0 1073741824 _ 3 3 SG _ ?_) ?_);exact za.zo▸jJ iB.zo iC.zo jS.zo (by simp[go_sem]) (by simp[go_sem]) (by simp[go_sem]);rintro e w' ⟨rfl,x7,rfl⟩;rw[Q2.zo])|((with_reducible refine ag (pG test _ _ ?_ ?_) ?_);exact HG.zo.exts ae;exact(HT.zo.exts ae).shut;rintro e w' ⟨rfl,x5,rfl⟩;rw[R0.zo])|((with_reducible refine ag (iy ra rb _ _ _ ?_ ?_) ?_);exact(aw).exts HRR.zo ae;exact(aw).exts HX.zo ae;rintro e w' ⟨rfl,x6,rfl⟩))
   all_goals go_ret
   all_goals exact⟨by rw[aD.zo,R0.zo];rfl,ae⟩
 ·have HX:=aa (show(aw).R w (rcs cN cO dY dZ none 0 name zones exc start stop bM vary 1 PE ah 0 0 0) ⟨name,zones,exc,start,stop,bM,vary,1,PE,ah,0,0,0⟩from⟨cN,cO,dY,dZ,none,0,rfl,SN.zo,fj.zo,qY.zo,iB.zo,jS.zo,iC.zo,xW.zo,Wa _,Fs.zo,Fu.zo,Mg.zo,Mh.zo,kH,kH,kH⟩)
  obtain⟨rb,hrb⟩:∃x:Rule,(⟨name,zones,exc,start,stop,bM,vary,1,PE,ah,0,0,0⟩:Rule)=x:=⟨_,rfl⟩;rw[hrb]at HX;have aD:=aa (show res=((([ah.side].all (inB 0 3))&&(([ah.base,ah.num].all (inB 0 4096))&&([ah.den].all (inB 1 4096))))&&jI ra rb)by rw[<-hres,<-hra,<-hrb];simp[jq,HPR.zo,okR,Eb]);clear hrb hra hres;rcases hst with rfl|⟨s1,s0,s2⟩;all_goals cases r0: [ah.side].all (inB 0 3)<;>cases r1: [ah.base,ah.num].all (inB 0 4096)<;>cases r2: [ah.den].all (inB 1 4096)
  all_goals
   have R0:=aa r0;have R1:=aa r1;have R2:=aa r2;clear r0 r1 r2;go_enter func59,ntmps59;go_wp2_with (first|((with_reducible refine(dR false _ _ _ zones _ (HG.zo.exts ae) (fj.zo.exts ae)).mono ?_);rintro e w' ⟨rfl,x1,rfl⟩;rw[Q0.zo])|((with_reducible refine(dR false _ _ _ exc _ (HG.zo.exts ae) (qY.zo.exts ae)).mono ?_);rintro e w' ⟨rfl,x2,rfl⟩;rw[Q1.zo])|((with_reducible refine ag (eG 0 1073741824 _ 3 3 SG _ ?_) ?_);exact za.zo▸jJ iB.zo iC.zo jS.zo (by simp[go_sem]) (by simp[go_sem]) (by simp[go_sem]);rintro e w' ⟨rfl,x7,rfl⟩;rw[Q2.zo])|((with_reducible refine ag (eG 0 3 _ 1 1 [ah.side] _ ?_) ?_);exact sN Fs.zo (by simp[go_sem]);rintro e w' ⟨rfl,x7,rfl⟩;rw[R0.zo])|((with_reducible refine ag (eG 0 4096 _ 2 2 [ah.base,ah.num] _ ?_) ?_);exact Ad Fu.zo Mg.zo (by simp[go_sem]) (by simp[go_sem]);rintro e w' ⟨rfl,x7,rfl⟩;rw[R1.zo])|((with_reducible refine ag (eG 1 4096 _ 1 1 [ah.den] _ ?_) ?_);exact sN Mh.zo (by simp[go_sem]);rintro e w' ⟨rfl,x7,rfl⟩;rw[R2.zo])|((with_reducible refine ag (iy ra rb _ _ _ ?_ ?_) ?_);exact(aw).exts HRR.zo ae;exact(aw).exts HX.zo ae;rintro e w' ⟨rfl,x6,rfl⟩))
   all_goals go_ret
   all_goals exact⟨by rw[aD.zo,R0.zo,R1.zo,R2.zo];rfl,ae⟩
 ·have HX:=aa (show(aw).R w (rcs cN cO dY dZ none 0 name zones exc start stop bM vary 2 PE Dd uses 0 0) ⟨name,zones,exc,start,stop,bM,vary,2,PE,Dd,uses,0,0⟩from⟨cN,cO,dY,dZ,none,0,rfl,SN.zo,fj.zo,qY.zo,iB.zo,jS.zo,iC.zo,xW.zo,Wa _,kH,kH,kH,kH,qZ.zo,kH,kH⟩)
  obtain⟨rb,hrb⟩:∃x:Rule,(⟨name,zones,exc,start,stop,bM,vary,2,PE,Dd,uses,0,0⟩:Rule)=x:=⟨_,rfl⟩;rw[hrb]at HX;have aD:=aa (show res=(([uses].all (inB 1 63))&&jI ra rb)by rw[<-hres,<-hra,<-hrb];simp[jq,HPR.zo,okR,Eb]);clear hrb hra hres;rcases hst with rfl|⟨s1,s0,s2⟩;all_goals cases r0: [uses].all (inB 1 63)
  all_goals
   have R0:=aa r0;clear r0;go_enter func59,ntmps59;go_wp2_with (first|((with_reducible refine(dR false _ _ _ zones _ (HG.zo.exts ae) (fj.zo.exts ae)).mono ?_);rintro e w' ⟨rfl,x1,rfl⟩;rw[Q0.zo])|((with_reducible refine(dR false _ _ _ exc _ (HG.zo.exts ae) (qY.zo.exts ae)).mono ?_);rintro e w' ⟨rfl,x2,rfl⟩;rw[Q1.zo])|((with_reducible refine ag (eG 0 1073741824 _ 3 3 SG _ ?_) ?_);exact za.zo▸jJ iB.zo iC.zo jS.zo (by simp[go_sem]) (by simp[go_sem]) (by simp[go_sem]);rintro e w' ⟨rfl,x7,rfl⟩;rw[Q2.zo])|((with_reducible refine ag (eG 1 63 _ 1 1 [uses] _ ?_) ?_);exact sN qZ.zo (by simp[go_sem]);rintro e w' ⟨rfl,x7,rfl⟩;rw[R0.zo])|((with_reducible refine ag (iy ra rb _ _ _ ?_ ?_) ?_);exact(aw).exts HRR.zo ae;exact(aw).exts HX.zo ae;rintro e w' ⟨rfl,x6,rfl⟩))
   all_goals(go_region_with (first|((with_reducible refine(dR false _ _ _ zones _ (HG.zo.exts ae) (fj.zo.exts ae)).mono ?_);rintro e w' ⟨rfl,x1,rfl⟩;rw[Q0.zo])|((with_reducible refine(dR false _ _ _ exc _ (HG.zo.exts ae) (qY.zo.exts ae)).mono ?_);rintro e w' ⟨rfl,x2,rfl⟩;rw[Q1.zo])|((with_reducible refine ag (eG 0 1073741824 _ 3 3 SG _ ?_) ?_);exact za.zo▸jJ iB.zo iC.zo jS.zo (by simp[go_sem]) (by simp[go_sem]) (by simp[go_sem]);rintro e w' ⟨rfl,x7,rfl⟩;rw[Q2.zo])|((with_reducible refine ag (eG 1 63 _ 1 1 [uses] _ ?_) ?_);exact sN qZ.zo (by simp[go_sem]);rintro e w' ⟨rfl,x7,rfl⟩;rw[R0.zo])|((with_reducible refine ag (iy ra rb _ _ _ ?_ ?_) ?_);exact(aw).exts HRR.zo ae;exact(aw).exts HX.zo ae;rintro e w' ⟨rfl,x6,rfl⟩)))
   all_goals go_wp2_with (first|((with_reducible refine(dR false _ _ _ zones _ (HG.zo.exts ae) (fj.zo.exts ae)).mono ?_);rintro e w' ⟨rfl,x1,rfl⟩;rw[Q0.zo])|((with_reducible refine(dR false _ _ _ exc _ (HG.zo.exts ae) (qY.zo.exts ae)).mono ?_);rintro e w' ⟨rfl,x2,rfl⟩;rw[Q1.zo])|((with_reducible refine ag (eG 0 1073741824 _ 3 3 SG _ ?_) ?_);exact za.zo▸jJ iB.zo iC.zo jS.zo (by simp[go_sem]) (by simp[go_sem]) (by simp[go_sem]);rintro e w' ⟨rfl,x7,rfl⟩;rw[Q2.zo])|((with_reducible refine ag (eG 1 63 _ 1 1 [uses] _ ?_) ?_);exact sN qZ.zo (by simp[go_sem]);rintro e w' ⟨rfl,x7,rfl⟩;rw[R0.zo])|((with_reducible refine ag (iy ra rb _ _ _ ?_ ?_) ?_);exact(aw).exts HRR.zo ae;exact(aw).exts HX.zo ae;rintro e w' ⟨rfl,x6,rfl⟩))
   all_goals go_ret
   all_goals exact⟨by rw[aD.zo,R0.zo];rfl,ae⟩
 ·have HX:=aa (show(aw).R w (rcs cN cO dY dZ none 0 name zones exc start stop bM vary 3 PE Dd uses other n) ⟨name,zones,exc,start,stop,bM,vary,3,PE,Dd,uses,other,n⟩from⟨cN,cO,dY,dZ,none,0,rfl,SN.zo,fj.zo,qY.zo,iB.zo,jS.zo,iC.zo,xW.zo,Wa _,kH,kH,kH,kH,qZ.zo,wN.zo,I_n.zo⟩)
  obtain⟨rb,hrb⟩:∃x:Rule,(⟨name,zones,exc,start,stop,bM,vary,3,PE,Dd,uses,other,n⟩:Rule)=x:=⟨_,rfl⟩;rw[hrb]at HX;have aD:=aa (show res=((([uses,other].all (inB 0 5))&&([n].all (inB 0 1048576)))&&jI ra rb)by rw[<-hres,<-hra,<-hrb];simp[jq,HPR.zo,okR,Eb]);clear hrb hra hres;rcases hst with rfl|⟨s1,s0,s2⟩;all_goals cases r0: [uses,other].all (inB 0 5)<;>cases r1: [n].all (inB 0 1048576)
  all_goals
   have R0:=aa r0;have R1:=aa r1;clear r0 r1;go_enter func59,ntmps59;go_wp2_with (first|((with_reducible refine(dR false _ _ _ zones _ (HG.zo.exts ae) (fj.zo.exts ae)).mono ?_);rintro e w' ⟨rfl,x1,rfl⟩;rw[Q0.zo])|((with_reducible refine(dR false _ _ _ exc _ (HG.zo.exts ae) (qY.zo.exts ae)).mono ?_);rintro e w' ⟨rfl,x2,rfl⟩;rw[Q1.zo])|((with_reducible refine ag (eG 0 1073741824 _ 3 3 SG _ ?_) ?_);exact za.zo▸jJ iB.zo iC.zo jS.zo (by simp[go_sem]) (by simp[go_sem]) (by simp[go_sem]);rintro e w' ⟨rfl,x7,rfl⟩;rw[Q2.zo])|((with_reducible refine ag (eG 0 5 _ 2 2 [uses,other] _ ?_) ?_);exact Ad qZ.zo wN.zo (by simp[go_sem]) (by simp[go_sem]);rintro e w' ⟨rfl,x7,rfl⟩;rw[R0.zo])|((with_reducible refine ag (eG 0 1048576 _ 1 1 [n] _ ?_) ?_);exact sN I_n.zo (by simp[go_sem]);rintro e w' ⟨rfl,x7,rfl⟩;rw[R1.zo])|((with_reducible refine ag (iy ra rb _ _ _ ?_ ?_) ?_);exact(aw).exts HRR.zo ae;exact(aw).exts HX.zo ae;rintro e w' ⟨rfl,x6,rfl⟩))
   go_region;all_goals go_wp2_with (first|((with_reducible refine(dR false _ _ _ zones _ (HG.zo.exts ae) (fj.zo.exts ae)).mono ?_);rintro e w' ⟨rfl,x1,rfl⟩;rw[Q0.zo])|((with_reducible refine(dR false _ _ _ exc _ (HG.zo.exts ae) (qY.zo.exts ae)).mono ?_);rintro e w' ⟨rfl,x2,rfl⟩;rw[Q1.zo])|((with_reducible refine ag (eG 0 1073741824 _ 3 3 SG _ ?_) ?_);exact za.zo▸jJ iB.zo iC.zo jS.zo (by simp[go_sem]) (by simp[go_sem]) (by simp[go_sem]);rintro e w' ⟨rfl,x7,rfl⟩;rw[Q2.zo])|((with_reducible refine ag (eG 0 5 _ 2 2 [uses,other] _ ?_) ?_);exact Ad qZ.zo wN.zo (by simp[go_sem]) (by simp[go_sem]);rintro e w' ⟨rfl,x7,rfl⟩;rw[R0.zo])|((with_reducible refine ag (eG 0 1048576 _ 1 1 [n] _ ?_) ?_);exact sN I_n.zo (by simp[go_sem]);rintro e w' ⟨rfl,x7,rfl⟩;rw[R1.zo])|((with_reducible refine ag (iy ra rb _ _ _ ?_ ?_) ?_);exact(aw).exts HRR.zo ae;exact(aw).exts HX.zo ae;rintro e w' ⟨rfl,x6,rfl⟩))
   all_goals go_ret
   all_goals exact⟨by rw[aD.zo,R0.zo,R1.zo];rfl,ae⟩
 ·have hf:res=false:=by rw[<-hres];simp[jq,okR,hk]
  rw[hf];have k0:(kind==0)=false:=by simp[hk]
  have k1:(kind==1)=false:=by simp[hk]
  have k2:(kind==2)=false:=by simp[hk]
  have k3:(kind==3)=false:=by simp[hk]
  clear hk hf hra hres;rcases hst with rfl|⟨s1,s0,s2⟩;all_goals go_enter func59,ntmps59
  all_goals go_wp2_with (first|((with_reducible refine(dR false _ _ _ zones _ (HG.zo.exts ae) (fj.zo.exts ae)).mono ?_);rintro e w' ⟨rfl,x1,rfl⟩;rw[Q0.zo])|((with_reducible refine(dR false _ _ _ exc _ (HG.zo.exts ae) (qY.zo.exts ae)).mono ?_);rintro e w' ⟨rfl,x2,rfl⟩;rw[Q1.zo])|((with_reducible refine ag (eG 0 1073741824 _ 3 3 SG _ ?_) ?_);exact za.zo▸jJ iB.zo iC.zo jS.zo (by simp[go_sem]) (by simp[go_sem]) (by simp[go_sem]);rintro e w' ⟨rfl,x7,rfl⟩;rw[Q2.zo])|((with_reducible refine ag (iy ra rb _ _ _ ?_ ?_) ?_);exact(aw).exts HRR.zo ae;exact(aw).exts HX.zo ae;rintro e w' ⟨rfl,x6,rfl⟩))
  all_goals go_ret
  all_goals exact⟨rfl,ae⟩
theorem ID(r:Rule)(cs:zv)(w:World)(hg:Gl w)(h:(aw).R w cs r):Calls prog 59 #[.agg cs.toArray] w (cX (.bool (jq r)) w):=by
 cases hp:Kz r with
 |false=>
  have e0:jq r=false:=by simp[jq,hp]
  rw[e0];exact zO r cs w hg h hp
 |true=>exact BL _ _ _ _ _ _ _ _ _ _ _ _ _ cs w hg h hp
def uH(lo hi x y:Int):Bool:=inB lo hi x&&inB lo hi y
def rowOk(x:Entry):Bool:=inB (-1099511627776) 1099511627776 x.n
def kr(m:Int)(l:List ByteArray):Bool:=decide ((l.length:Int)<=m)&&mH true l
def sO(t:xz):Bool:=kr 60 (t.rows.map (·.name))&&(inB (-1099511627776) 1099511627776 t.els&&t.rows.all rowOk)
def sP(c:Cap):Bool:=inB 0 2 c.load&&(inB 0 1099511627776 c.limit&&jt c.corners)
def BM(x:P3):Bool:=uH 0 1048576 x.x x.y&&inB 0 4096 x.z
def oO(v:View):Bool:=inB 0 20 v.least&&(inB 1 20 v.targets.length&&(v.eye::v.targets).all BM)
def wP(x:P3):Bool:=uH (-4096) 4096 x.x x.y&&inB 1 4096 x.z
def mW(p:Plan):Bool:=kr 60 (p.defs.map (·.name))&&(kr 60 (p.tables.map (·.name))&&(kr 60 (p.zones.map (·.name))&&(kr 200 (p.rules.map (·.name))&&(kr 30 (p.caps.map (·.name))&&kr 60 (p.views.map (·.name))))))
def Mk(d:Def):Bool:=ea 12 d.body
def Fv(z:Zone):Bool:=jt z.corners
def dP(p:Plan):Bool:=mW p&&(p.defs.all Mk&&(p.tables.all sO&&(p.zones.all Fv&&(p.rules.all jq&&(p.caps.all sP&&(p.views.all oO&&(p.eA.all wP&&uH 0 24 p.hours p.eA.length)))))))
theorem fJ{w:World}(lo hi:Int){b:Nat}{x:Int}(hx:I64 x)(c0:w.cell? ⟨b,0,none⟩=some (.int .i64 x)):Calls prog 57 #[.int .i64 lo,.int .i64 hi,.slice (some ⟨b,0,none⟩) 1 1] w (cX (.bool (inB lo hi x)) w):=by
 refine(eG lo hi _ 1 1 [x] w (sN hx c0)).mono ?_;rintro e w' ⟨rfl,hx⟩;exact⟨by simp,hx⟩
theorem kV{w:World}(lo hi:Int){b:Nat}{x y:Int}(hx:I64 x)(hy:I64 y)(c0:w.cell? ⟨b,0,none⟩=some (.int .i64 x))(c1:w.cell? ⟨b,1,none⟩=some (.int .i64 y)):Calls prog 57 #[.int .i64 lo,.int .i64 hi,.slice (some ⟨b,0,none⟩) 2 2] w (cX (.bool (uH lo hi x y)) w):=by
 refine(eG lo hi _ 2 2 [x,y] w (Ad hx hy c0 c1)).mono ?_;rintro e w' ⟨rfl,hx⟩;exact⟨by simp[uH],hx⟩
theorem Ae{c:Cap}(h:inB 0 2 c.load=false):sP c=false:=by unfold sP;rw[h];rfl
theorem Af{c:Cap}(h:inB 0 1099511627776 c.limit=false):sP c=false:=by unfold sP;rw[h];simp
theorem Ag{c:Cap}(h:jt c.corners=false):sP c=false:=by unfold sP;rw[h];simp
theorem Wd{x:P3}(h:uH (-4096) 4096 x.x x.y=false):wP x=false:=by unfold wP;rw[h];rfl
theorem We{x:P3}(h:inB 1 4096 x.z=false):wP x=false:=by unfold wP;rw[h];simp
theorem ZT{x:P3}(h:uH 0 1048576 x.x x.y=false):BM x=false:=by unfold BM;rw[h];rfl
theorem ZU{x:P3}(h:inB 0 4096 x.z=false):BM x=false:=by unfold BM;rw[h];simp
theorem Wh{t:xz}(h:kr 60 (t.rows.map (·.name))=false):sO t=false:=by unfold sO;rw[h];rfl
theorem Wj{t:xz}(h:inB (-1099511627776) 1099511627776 t.els=false):sO t=false:=by unfold sO;rw[h];simp
theorem Wl{t:xz}(h:t.rows.all rowOk=false):sO t=false:=by unfold sO;rw[h];simp
theorem Sc{v:View}(h:inB 0 20 v.least=false):oO v=false:=by unfold oO;rw[h];rfl
theorem Sd{v:View}(h:inB 1 20 v.targets.length=false):oO v=false:=by unfold oO;rw[h];simp
theorem IG{v:View}(h:(v.eye::v.targets).all BM=false):oO v=false:=by unfold oO;rw[h];simp
theorem eH{T:Type}{p:T->Bool}{l:List T}{i:Nat}{d:T}(hd:l[i]?=some d)(h:p d=false):l.all p=false:=List.all_eq_false.2 ⟨d,gH hd,by rw[h];simp⟩
theorem nO{T:Type}{p:T->Bool}{l:List T}(h:∀i d,i<l.length->l[i]?=some d->p d=true):l.all p=true:=List.all_eq_true.2 fun d hd=>by
 obtain⟨i,hi⟩:=List.getElem?_of_mem hd;exact h i d (bw hi).1 hi
theorem mm{T:Type}{p:T->Bool}{l:List T}{k:Nat}{d:T}(h:∀i x,i<k->l[i]?=some x->p x=true)(hd:l[k]?=some d)(hp:p d=true):∀i x,i<k+1->l[i]?=some x->p x=true:=fun i x hi hx=>by
 rcases Nat.lt_or_ge i k with h1|h1
 ·exact h i x h1 hx
 ·obtain rfl:i=k:=by omega
  rw[hd]at hx;cases hx;exact hp
theorem Ec{r:Bool}(h:(!r)=true):r=false:=by simpa using h
theorem xX{r:Bool}(h:(!r)=false):r=true:=by simpa using h
theorem Ed{r:Bool}(h: ¬r=true):r=false:=by simpa using h
theorem eu{res:Bool}{w w':World}(h:res=false)(hx:af w w'):Ending.returned (Value.bool false)=.returned (.bool res)/\af w w':=⟨by rw[h],hx⟩
structure II(p:Plan):Prop where
 defs:p.defs.length<=1000
 tables:p.tables.length<=1000
 zones:p.zones.length<=1000
 rules:p.rules.length<=1000
 caps:p.caps.length<=1000
 views:p.views.length<=1000
 eA:p.eA.length<=1000
 rows:∀(i:Nat)(t:xz),p.tables[i]?=some t->t.rows.length<=1000
theorem afj(d:Def)(cs:zv)(w:World)(h:(mC).R w cs d):gS d.name/\Calls prog 43 (#[.agg cs.toArray]++ #[]) w (cX (.string d.name) w):=by
 obtain⟨eO,eP,rfl,q0,q1⟩:=h;refine⟨q0,?_⟩;clear q0 q1;show Calls prog 43 #[.agg #[.string d.name,.int .i64 d.body.op,.int .i64 d.body.num,.string d.body.str,.string d.body.key,.slice eO d.body.args.length eP]] w _;go_enter func43,ntmps43;go_wp2;go_ret;exact⟨rfl,ae⟩
theorem Sg:Enters 43:=fun a w=>by rfl
theorem kW{r:Bool}(ao:Option Addr)(n c:Nat)(l:List Def)(w:World)(hg:Gl w)(hn:n<=1000)(h:Sl mC w ao n c l)(hr:kr 60 (l.map (·.name))=r):Calls prog 42 #[.slice ao n c,.int .i64 60,.func (.func 43) #[] #[]] w (cX (.bool r) w):=by
 have hl:=h.1;refine(RU 43 #[] (·.name) 60 ao n c l w Sg hg hn h fun w' i d cs _ _ hR=>afj d cs w' hR).mono ?_;rintro e w' ⟨rfl,hx⟩;refine⟨?_,hx⟩;rw[<-hr];unfold kr;rw[List.length_map,hl]
theorem afk(d:xz)(cs:zv)(w:World)(h:(nB).R w cs d):gS d.name/\Calls prog 45 (#[.agg cs.toArray]++ #[]) w (cX (.string d.name) w):=by
 obtain⟨iF,iG,rfl,q0,q1,q2⟩:=h;refine⟨q0,?_⟩;clear q0 q1 q2;show Calls prog 45 #[.agg #[.string d.name,.slice iF d.rows.length iG,.int .i64 d.els]] w _;go_enter func45,ntmps45;go_wp2;go_ret;exact⟨rfl,ae⟩
theorem Sh:Enters 45:=fun a w=>by rfl
theorem kX{r:Bool}(ao:Option Addr)(n c:Nat)(l:List xz)(w:World)(hg:Gl w)(hn:n<=1000)(h:Sl nB w ao n c l)(hr:kr 60 (l.map (·.name))=r):Calls prog 44 #[.slice ao n c,.int .i64 60,.func (.func 45) #[] #[]] w (cX (.bool r) w):=by
 have hl:=h.1;refine(RV 45 #[] (·.name) 60 ao n c l w Sh hg hn h fun w' i d cs _ _ hR=>afk d cs w' hR).mono ?_;rintro e w' ⟨rfl,hx⟩;refine⟨?_,hx⟩;rw[<-hr];unfold kr;rw[List.length_map,hl]
theorem afl(d:Zone)(cs:zv)(w:World)(h:(jV).R w cs d):gS d.name/\Calls prog 47 (#[.agg cs.toArray]++ #[]) w (cX (.string d.name) w):=by
 obtain⟨aV,aW,rfl,q0,q1⟩:=h;refine⟨q0,?_⟩;clear q0 q1;show Calls prog 47 #[.agg #[.string d.name,.bool d.over,.slice aV d.corners.length aW]] w _;go_enter func47,ntmps47;go_wp2;go_ret;exact⟨rfl,ae⟩
theorem Si:Enters 47:=fun a w=>by rfl
theorem kY{r:Bool}(ao:Option Addr)(n c:Nat)(l:List Zone)(w:World)(hg:Gl w)(hn:n<=1000)(h:Sl jV w ao n c l)(hr:kr 60 (l.map (·.name))=r):Calls prog 46 #[.slice ao n c,.int .i64 60,.func (.func 47) #[] #[]] w (cX (.bool r) w):=by
 have hl:=h.1;refine(RX 47 #[] (·.name) 60 ao n c l w Si hg hn h fun w' i d cs _ _ hR=>afl d cs w' hR).mono ?_;rintro e w' ⟨rfl,hx⟩;refine⟨?_,hx⟩;rw[<-hr];unfold kr;rw[List.length_map,hl]
theorem afm(d:Rule)(cs:zv)(w:World)(h:(aw).R w cs d):gS d.name/\Calls prog 49 (#[.agg cs.toArray]++ #[]) w (cX (.string d.name) w):=by
 obtain⟨cu,cy,fW,fX,fq,fu,rfl,q0,q1,q2,q3,q4,q5,q6,q7,q8,q9,q10,q11,q12,q13,pV⟩:=h;refine⟨q0,?_⟩;clear q0 q1 q2 q3 q4 q5 q6 q7 q8 q9 q10 q11 q12 q13 pV;show Calls prog 49 #[.agg #[.string d.name,.slice cu d.zones.length cy,.slice fW d.exc.length fX,.int .i64 d.start,.int .i64 d.stop,.int .i64 d.bM,.bool d.vary,.int .i64 d.kind,.int .i64 d.test.op,.int .i64 d.test.num,.string d.test.str,.string d.test.key,.slice fq d.test.args.length fu,.int .i64 d.ah.side,.int .i64 d.ah.base,.int .i64 d.ah.num,.int .i64 d.ah.den,.int .i64 d.uses,.int .i64 d.other,.int .i64 d.n]] w _;go_enter func49,ntmps49;go_wp2;go_ret;exact⟨rfl,ae⟩
theorem Sj:Enters 49:=fun a w=>by rfl
theorem kZ{r:Bool}(ao:Option Addr)(n c:Nat)(l:List Rule)(w:World)(hg:Gl w)(hn:n<=1000)(h:Sl aw w ao n c l)(hr:kr 200 (l.map (·.name))=r):Calls prog 48 #[.slice ao n c,.int .i64 200,.func (.func 49) #[] #[]] w (cX (.bool r) w):=by
 have hl:=h.1;refine(RY 49 #[] (·.name) 200 ao n c l w Sj hg hn h fun w' i d cs _ _ hR=>afm d cs w' hR).mono ?_;rintro e w' ⟨rfl,hx⟩;refine⟨?_,hx⟩;rw[<-hr];unfold kr;rw[List.length_map,hl]
theorem afn(d:Cap)(cs:zv)(w:World)(h:(iR).R w cs d):gS d.name/\Calls prog 51 (#[.agg cs.toArray]++ #[]) w (cX (.string d.name) w):=by
 obtain⟨aV,aW,rfl,q0,q1,q2,q3⟩:=h;refine⟨q0,?_⟩;clear q0 q1 q2 q3;show Calls prog 51 #[.agg #[.string d.name,.int .i64 d.load,.int .i64 d.limit,.slice aV d.corners.length aW]] w _;go_enter func51,ntmps51;go_wp2;go_ret;exact⟨rfl,ae⟩
theorem Sk:Enters 51:=fun a w=>by rfl
theorem lf{r:Bool}(ao:Option Addr)(n c:Nat)(l:List Cap)(w:World)(hg:Gl w)(hn:n<=1000)(h:Sl iR w ao n c l)(hr:kr 30 (l.map (·.name))=r):Calls prog 50 #[.slice ao n c,.int .i64 30,.func (.func 51) #[] #[]] w (cX (.bool r) w):=by
 have hl:=h.1;refine(RZ 51 #[] (·.name) 30 ao n c l w Sk hg hn h fun w' i d cs _ _ hR=>afn d cs w' hR).mono ?_;rintro e w' ⟨rfl,hx⟩;refine⟨?_,hx⟩;rw[<-hr];unfold kr;rw[List.length_map,hl]
theorem afo(d:View)(cs:zv)(w:World)(h:(kM).R w cs d):gS d.name/\Calls prog 53 (#[.agg cs.toArray]++ #[]) w (cX (.string d.name) w):=by
 obtain⟨fl,fo,rfl,q0,q1,q2,q3,q4,q5⟩:=h;refine⟨q0,?_⟩;clear q0 q1 q2 q3 q4 q5;show Calls prog 53 #[.agg #[.string d.name,.int .i64 d.eye.x,.int .i64 d.eye.y,.int .i64 d.eye.z,.int .i64 d.least,.slice fl d.targets.length fo]] w _;go_enter func53,ntmps53;go_wp2;go_ret;exact⟨rfl,ae⟩
theorem Sm:Enters 53:=fun a w=>by rfl
theorem lh{r:Bool}(ao:Option Addr)(n c:Nat)(l:List View)(w:World)(hg:Gl w)(hn:n<=1000)(h:Sl kM w ao n c l)(hr:kr 60 (l.map (·.name))=r):Calls prog 52 #[.slice ao n c,.int .i64 60,.func (.func 53) #[] #[]] w (cX (.bool r) w):=by
 have hl:=h.1;refine(R7 53 #[] (·.name) 60 ao n c l w Sm hg hn h fun w' i d cs _ _ hR=>afo d cs w' hR).mono ?_;rintro e w' ⟨rfl,hx⟩;refine⟨?_,hx⟩;rw[<-hr];unfold kr;rw[List.length_map,hl]
theorem afp(d:Entry)(cs:zv)(w:World)(h:(eY).R w cs d):gS d.name/\Calls prog 56 (#[.agg cs.toArray]++ #[]) w (cX (.string d.name) w):=by
 obtain⟨rfl,q0,q1⟩:=h;refine⟨q0,?_⟩;clear q0 q1;show Calls prog 56 #[.agg #[.string d.name,.int .i64 d.n]] w _;go_enter func56,ntmps56;go_wp2;go_ret;exact⟨rfl,ae⟩
theorem Sn:Enters 56:=fun a w=>by rfl
theorem vh{r:Bool}(ao:Option Addr)(n c:Nat)(l:List Entry)(w:World)(hg:Gl w)(hn:n<=1000)(h:Sl eY w ao n c l)(hr:kr 60 (l.map (·.name))=r):Calls prog 55 #[.slice ao n c,.int .i64 60,.func (.func 56) #[] #[]] w (cX (.bool r) w):=by
 have hl:=h.1;refine(R9 56 #[] (·.name) 60 ao n c l w Sn hg hn h fun w' i d cs _ _ hR=>afp d cs w' hR).mono ?_;rintro e w' ⟨rfl,hx⟩;refine⟨?_,hx⟩;rw[<-hr];unfold kr;rw[List.length_map,hl]
theorem Wm{P:Prop}(h:P/\True):P:=h.1
theorem ZW{U:World}{H:Nat}{d:P3}(hH:U.heap.size=H)(h:I64 d.x/\I64 d.y/\I64 d.z):aq yw H 134 (U.alloc (.cells #[.int .i64 d.x,.int .i64 d.y,.int .i64 d.z] 134)) (.slice (some ⟨H,0,none⟩) 1 1) [d]:=by
 subst hH;exact⟨[.int .i64 d.x,.int .i64 d.y,.int .i64 d.z],World.ownsRow_lit U #[.int .i64 d.x,.int .i64 d.y,.int .i64 d.z] 1 (Nat.le_refl _) (by unfold maxLen;omega) rfl,fun i e he=>by
  match i,he with
  |0,he=>(cases he;exact⟨rfl,h⟩)⟩
theorem ZX{w:World}{o:Option Addr}{n c:Nat}{l:List P3}(h:Sl yw w o n c l)(hn:0<n):∃(b off:Nat)(xs:zv),o=some ⟨b,off,none⟩/\xs.length=n*3/\(∀u∈xs,u.oneCell'=true)/\∀w',af w w'->(∀i d,l[i]?=some d->(yw).R w' ((xs.drop (i*(yw).k)).take (yw).k) d)/\∀j u,xs[j]?=some u->w'.cell? ((⟨b,off,none⟩:Addr).add j)=some u:=by
 obtain⟨xs,hr,h1,h2⟩:=h.ones;obtain⟨hl,zx,cap2,hv,_,_,_,h5⟩:=hr;simp only[Value.slice.injEq,true_and]at hv;obtain⟨rfl,rfl⟩:=hv;obtain⟨b,off,rfl,_,hb,hc⟩:=h5 hn;refine⟨b,off,xs,rfl,hl,h2,fun w' he=>⟨fun i d hd=>(yw).exts (h1 i d hd) he,fun j u hj=> ?_⟩⟩;rw[Addr.add_lit];exact he.cell (hc j u hj)
theorem qw{p:Plan}(h:mW p=false):dP p=false:=by
 unfold dP;rw[h];simp
theorem wS{p:Plan}(h:p.defs.all Mk=false):dP p=false:=by
 unfold dP;rw[h];simp
theorem BQ{p:Plan}(h:p.tables.all sO=false):dP p=false:=by
 unfold dP;rw[h];simp
theorem wT{p:Plan}(h:p.zones.all Fv=false):dP p=false:=by
 unfold dP;rw[h];simp
theorem wU{p:Plan}(h:p.rules.all jq=false):dP p=false:=by
 unfold dP;rw[h];simp
theorem jK{p:Plan}(h:p.caps.all sP=false):dP p=false:=by
 unfold dP;rw[h];simp
theorem wV{p:Plan}(h:p.views.all oO=false):dP p=false:=by
 unfold dP;rw[h];simp
theorem IZ{p:Plan}(h:p.eA.all wP=false):dP p=false:=by
 unfold dP;rw[h];simp
theorem Wn{p:Plan}(h:kr 60 (p.defs.map (·.name))=false):dP p=false:=by
 refine qw ?_;unfold mW;rw[h];simp
theorem Wo{p:Plan}(h:kr 60 (p.tables.map (·.name))=false):dP p=false:=by
 refine qw ?_;unfold mW;rw[h];simp
theorem Wp{p:Plan}(h:kr 60 (p.zones.map (·.name))=false):dP p=false:=by
 refine qw ?_;unfold mW;rw[h];simp
theorem Wq{p:Plan}(h:kr 200 (p.rules.map (·.name))=false):dP p=false:=by
 refine qw ?_;unfold mW;rw[h];simp
theorem Ws{p:Plan}(h:kr 30 (p.caps.map (·.name))=false):dP p=false:=by
 refine qw ?_;unfold mW;rw[h];simp
theorem Wu{p:Plan}(h:kr 60 (p.views.map (·.name))=false):dP p=false:=by
 refine qw ?_;unfold mW;rw[h];simp
theorem pI(p:Plan)(cs:zv)(w:World)(hg:Gl w)(h:(bq).R w cs p)(hb:II p):Calls prog 20 #[.agg cs.toArray] w (cX (.bool (dP p)) w):=by
 obtain⟨bF,bG,aN,aK,aX,aY,bH,bE,bN,bO,bj,aZ,cj,ck,rfl,q0,q1,q2,q3,q4,q5,q6,q7⟩:=h;have HG:=aa hg;have rS:=aa q0;have BR:=hb.defs;have kS:=aa q1;have rj:=hb.tables;have fj:=aa q2;have vn:=hb.zones;have np:=aa q3;have vp:=hb.rules;have rT:=aa q4;have BS:=hb.caps;have nr:=aa q5;have vq:=hb.views;have ZR:=aa q6;have ahK:=hb.eA;have ads:=aa hb.rows;have IH:=aa q7;have IS:=aa (show I64 (p.eA.length:Int)from⟨by omega,by omega⟩);clear hg hb q0 q1 q2 q3 q4 q5 q6 q7;obtain⟨res,hres⟩:∃r,dP p=r:=⟨_,rfl⟩;rw[hres];have aD:=aa hres;clear hres;obtain⟨h0,e0⟩:∃r,kr 60 (p.defs.map (·.name))=r:=⟨_,rfl⟩;have E0:=aa e0;obtain⟨h1,e1⟩:∃r,kr 60 (p.tables.map (·.name))=r:=⟨_,rfl⟩;have E1:=aa e1;obtain⟨h2,e2⟩:∃r,kr 60 (p.zones.map (·.name))=r:=⟨_,rfl⟩;have E2:=aa e2;obtain⟨h3,e3⟩:∃r,kr 200 (p.rules.map (·.name))=r:=⟨_,rfl⟩;have E3:=aa e3;obtain⟨h4,e4⟩:∃r,kr 30 (p.caps.map (·.name))=r:=⟨_,rfl⟩;have E4:=aa e4;obtain⟨h5,e5⟩:∃r,kr 60 (p.views.map (·.name))=r:=⟨_,rfl⟩;have E5:=aa e5;clear e0 e1 e2 e3 e4 e5;cases h0 with
 |false=>
  have HF:=aa (aD.zo.symm.trans (Wn E0.zo));go_enter func20,ntmps20;go_wp2_with (first|((with_reducible refine ag (kW _ _ _ p.defs _ ?_ BR ?_ E0.zo) ?_);exact HG.zo.exts ae;exact rS.zo.exts ae;rintro e w' ⟨rfl,x0,rfl⟩)|((with_reducible refine ag (kX _ _ _ p.tables _ ?_ rj ?_ E1.zo) ?_);exact HG.zo.exts ae;exact kS.zo.exts ae;rintro e w' ⟨rfl,x1,rfl⟩)|((with_reducible refine ag (kY _ _ _ p.zones _ ?_ vn ?_ E2.zo) ?_);exact HG.zo.exts ae;exact fj.zo.exts ae;rintro e w' ⟨rfl,x2,rfl⟩)|((with_reducible refine ag (kZ _ _ _ p.rules _ ?_ vp ?_ E3.zo) ?_);exact HG.zo.exts ae;exact np.zo.exts ae;rintro e w' ⟨rfl,x3,rfl⟩)|((with_reducible refine ag (lf _ _ _ p.caps _ ?_ BS ?_ E4.zo) ?_);exact HG.zo.exts ae;exact rT.zo.exts ae;rintro e w' ⟨rfl,x4,rfl⟩)|((with_reducible refine ag (lh _ _ _ p.views _ ?_ vq ?_ E5.zo) ?_);exact HG.zo.exts ae;exact nr.zo.exts ae;rintro e w' ⟨rfl,x5,rfl⟩))
  go_ret;exact eu HF.zo ae
 |true=>
  cases h1 with
  |false=>
   have HF:=aa (aD.zo.symm.trans (Wo E1.zo));go_enter func20,ntmps20;go_wp2_with (first|((with_reducible refine ag (kW _ _ _ p.defs _ ?_ BR ?_ E0.zo) ?_);exact HG.zo.exts ae;exact rS.zo.exts ae;rintro e w' ⟨rfl,x0,rfl⟩)|((with_reducible refine ag (kX _ _ _ p.tables _ ?_ rj ?_ E1.zo) ?_);exact HG.zo.exts ae;exact kS.zo.exts ae;rintro e w' ⟨rfl,x1,rfl⟩)|((with_reducible refine ag (kY _ _ _ p.zones _ ?_ vn ?_ E2.zo) ?_);exact HG.zo.exts ae;exact fj.zo.exts ae;rintro e w' ⟨rfl,x2,rfl⟩)|((with_reducible refine ag (kZ _ _ _ p.rules _ ?_ vp ?_ E3.zo) ?_);exact HG.zo.exts ae;exact np.zo.exts ae;rintro e w' ⟨rfl,x3,rfl⟩)|((with_reducible refine ag (lf _ _ _ p.caps _ ?_ BS ?_ E4.zo) ?_);exact HG.zo.exts ae;exact rT.zo.exts ae;rintro e w' ⟨rfl,x4,rfl⟩)|((with_reducible refine ag (lh _ _ _ p.views _ ?_ vq ?_ E5.zo) ?_);exact HG.zo.exts ae;exact nr.zo.exts ae;rintro e w' ⟨rfl,x5,rfl⟩))
   go_ret;exact eu HF.zo ae
  |true=>
   cases h2 with
   |false=>
    have HF:=aa (aD.zo.symm.trans (Wp E2.zo));go_enter func20,ntmps20;go_wp2_with (first|((with_reducible refine ag (kW _ _ _ p.defs _ ?_ BR ?_ E0.zo) ?_);exact HG.zo.exts ae;exact rS.zo.exts ae;rintro e w' ⟨rfl,x0,rfl⟩)|((with_reducible refine ag (kX _ _ _ p.tables _ ?_ rj ?_ E1.zo) ?_);exact HG.zo.exts ae;exact kS.zo.exts ae;rintro e w' ⟨rfl,x1,rfl⟩)|((with_reducible refine ag (kY _ _ _ p.zones _ ?_ vn ?_ E2.zo) ?_);exact HG.zo.exts ae;exact fj.zo.exts ae;rintro e w' ⟨rfl,x2,rfl⟩)|((with_reducible refine ag (kZ _ _ _ p.rules _ ?_ vp ?_ E3.zo) ?_);exact HG.zo.exts ae;exact np.zo.exts ae;rintro e w' ⟨rfl,x3,rfl⟩)|((with_reducible refine ag (lf _ _ _ p.caps _ ?_ BS ?_ E4.zo) ?_);exact HG.zo.exts ae;exact rT.zo.exts ae;rintro e w' ⟨rfl,x4,rfl⟩)|((with_reducible refine ag (lh _ _ _ p.views _ ?_ vq ?_ E5.zo) ?_);exact HG.zo.exts ae;exact nr.zo.exts ae;rintro e w' ⟨rfl,x5,rfl⟩))
    go_ret;exact eu HF.zo ae
   |true=>
    cases h3 with
    |false=>
     have HF:=aa (aD.zo.symm.trans (Wq E3.zo));go_enter func20,ntmps20;go_wp2_with (first|((with_reducible refine ag (kW _ _ _ p.defs _ ?_ BR ?_ E0.zo) ?_);exact HG.zo.exts ae;exact rS.zo.exts ae;rintro e w' ⟨rfl,x0,rfl⟩)|((with_reducible refine ag (kX _ _ _ p.tables _ ?_ rj ?_ E1.zo) ?_);exact HG.zo.exts ae;exact kS.zo.exts ae;rintro e w' ⟨rfl,x1,rfl⟩)|((with_reducible refine ag (kY _ _ _ p.zones _ ?_ vn ?_ E2.zo) ?_);exact HG.zo.exts ae;exact fj.zo.exts ae;rintro e w' ⟨rfl,x2,rfl⟩)|((with_reducible refine ag (kZ _ _ _ p.rules _ ?_ vp ?_ E3.zo) ?_);exact HG.zo.exts ae;exact np.zo.exts ae;rintro e w' ⟨rfl,x3,rfl⟩)|((with_reducible refine ag (lf _ _ _ p.caps _ ?_ BS ?_ E4.zo) ?_);exact HG.zo.exts ae;exact rT.zo.exts ae;rintro e w' ⟨rfl,x4,rfl⟩)|((with_reducible refine ag (lh _ _ _ p.views _ ?_ vq ?_ E5.zo) ?_);exact HG.zo.exts ae;exact nr.zo.exts ae;rintro e w' ⟨rfl,x5,rfl⟩))
     go_ret;exact eu HF.zo ae
    |true=>
     cases h4 with
     |false=>
      have HF:=aa (aD.zo.symm.trans (Ws E4.zo));go_enter func20,ntmps20;go_wp2_with (first|((with_reducible refine ag (kW _ _ _ p.defs _ ?_ BR ?_ E0.zo) ?_);exact HG.zo.exts ae;exact rS.zo.exts ae;rintro e w' ⟨rfl,x0,rfl⟩)|((with_reducible refine ag (kX _ _ _ p.tables _ ?_ rj ?_ E1.zo) ?_);exact HG.zo.exts ae;exact kS.zo.exts ae;rintro e w' ⟨rfl,x1,rfl⟩)|((with_reducible refine ag (kY _ _ _ p.zones _ ?_ vn ?_ E2.zo) ?_);exact HG.zo.exts ae;exact fj.zo.exts ae;rintro e w' ⟨rfl,x2,rfl⟩)|((with_reducible refine ag (kZ _ _ _ p.rules _ ?_ vp ?_ E3.zo) ?_);exact HG.zo.exts ae;exact np.zo.exts ae;rintro e w' ⟨rfl,x3,rfl⟩)|((with_reducible refine ag (lf _ _ _ p.caps _ ?_ BS ?_ E4.zo) ?_);exact HG.zo.exts ae;exact rT.zo.exts ae;rintro e w' ⟨rfl,x4,rfl⟩)|((with_reducible refine ag (lh _ _ _ p.views _ ?_ vq ?_ E5.zo) ?_);exact HG.zo.exts ae;exact nr.zo.exts ae;rintro e w' ⟨rfl,x5,rfl⟩))
      go_ret;exact eu HF.zo ae
     |true=>
      cases h5 with
      |false=>
       have HF:=aa (aD.zo.symm.trans (Wu E5.zo));go_enter func20,ntmps20;go_wp2_with (first|((with_reducible refine ag (kW _ _ _ p.defs _ ?_ BR ?_ E0.zo) ?_);exact HG.zo.exts ae;exact rS.zo.exts ae;rintro e w' ⟨rfl,x0,rfl⟩)|((with_reducible refine ag (kX _ _ _ p.tables _ ?_ rj ?_ E1.zo) ?_);exact HG.zo.exts ae;exact kS.zo.exts ae;rintro e w' ⟨rfl,x1,rfl⟩)|((with_reducible refine ag (kY _ _ _ p.zones _ ?_ vn ?_ E2.zo) ?_);exact HG.zo.exts ae;exact fj.zo.exts ae;rintro e w' ⟨rfl,x2,rfl⟩)|((with_reducible refine ag (kZ _ _ _ p.rules _ ?_ vp ?_ E3.zo) ?_);exact HG.zo.exts ae;exact np.zo.exts ae;rintro e w' ⟨rfl,x3,rfl⟩)|((with_reducible refine ag (lf _ _ _ p.caps _ ?_ BS ?_ E4.zo) ?_);exact HG.zo.exts ae;exact rT.zo.exts ae;rintro e w' ⟨rfl,x4,rfl⟩)|((with_reducible refine ag (lh _ _ _ p.views _ ?_ vq ?_ E5.zo) ?_);exact HG.zo.exts ae;exact nr.zo.exts ae;rintro e w' ⟨rfl,x5,rfl⟩))
       go_ret;exact eu HF.zo ae
      |true=>
       have E6:=aa (show mW p=true by unfold mW;rw[E0.zo,E1.zo,E2.zo,E3.zo,E4.zo,E5.zo];rfl);go_enter func20,ntmps20;go_wp2_with (first|((with_reducible refine ag (kW _ _ _ p.defs _ ?_ BR ?_ E0.zo) ?_);exact HG.zo.exts ae;exact rS.zo.exts ae;rintro e w' ⟨rfl,x0,rfl⟩)|((with_reducible refine ag (kX _ _ _ p.tables _ ?_ rj ?_ E1.zo) ?_);exact HG.zo.exts ae;exact kS.zo.exts ae;rintro e w' ⟨rfl,x1,rfl⟩)|((with_reducible refine ag (kY _ _ _ p.zones _ ?_ vn ?_ E2.zo) ?_);exact HG.zo.exts ae;exact fj.zo.exts ae;rintro e w' ⟨rfl,x2,rfl⟩)|((with_reducible refine ag (kZ _ _ _ p.rules _ ?_ vp ?_ E3.zo) ?_);exact HG.zo.exts ae;exact np.zo.exts ae;rintro e w' ⟨rfl,x3,rfl⟩)|((with_reducible refine ag (lf _ _ _ p.caps _ ?_ BS ?_ E4.zo) ?_);exact HG.zo.exts ae;exact rT.zo.exts ae;rintro e w' ⟨rfl,x4,rfl⟩)|((with_reducible refine ag (lh _ _ _ p.views _ ?_ vq ?_ E5.zo) ?_);exact HG.zo.exts ae;exact nr.zo.exts ae;rintro e w' ⟨rfl,x5,rfl⟩))
       go_loopw [58] (fun i wr=> ∃(k:Nat),k<=p.defs.length/\i=.int .i64 k/\af (w.alloc (.cells #[.slice bF p.defs.length bG,.slice aN p.tables.length aK,.slice aX p.zones.length aY,.slice bH p.rules.length bE,.slice bN p.caps.length bO,.slice bj p.views.length aZ,.slice cj p.eA.length ck,.int .i64 p.hours] 30)) wr/\∀(j:Nat)(d:Def),j<k->p.defs[j]?=some d->Mk d=true) (fun i _=>p.defs.length - (intOf i).toNat)
       case atStart=>exact⟨0,by omega,rfl,ae,fun j d hj=>by omega⟩
       case round=>
        obtain⟨k,hk,rfl,⟨y0,rfl⟩,hall⟩:=hrel;have ey:=aa hall;clear hall;by_cases hlt:k<p.defs.length
        ·obtain⟨d,hd⟩:=rS.zo.ex hlt
         have HD:=aa hd;obtain⟨b,off,cs,rfl,lb,hR,hld⟩:=rS.zo.ld hd;obtain⟨eO,eP,rfl,r0,r1⟩:=hR;have R0:=aa r0;have R1:=aa r1;clear hd r0 r1;go_wp2_with ((with_reducible refine ag (pG d.body _ _ ?_ ?_) ?_);exact HG.zo.exts ae;exact(R1.zo.exts ae).shut;rintro e w' ⟨rfl,x9,rfl⟩;obtain⟨r,hr⟩:∃r,ea 12 d.body=r:=⟨_,rfl⟩;rw[hr];(have HQ:=aa hr);clear hr)
         all_goals first
          |(go_ret;exact eu (aD.zo.symm.trans (wS (eH HD.zo (HQ.zo)))) ae)
          |(go_ret;exact eu (aD.zo.symm.trans (wS (eH HD.zo ((HQ.zo.trans (Ec (by assumption))))))) ae)
          |(go_ret;exact eu (aD.zo.symm.trans (wS (eH HD.zo ((HQ.zo.trans (Ed (by assumption))))))) ae)
          |(go_ret;exact eu (aD.zo.symm.trans (wS (eH HD.zo ((HQ.zo.trans (by assumption)))))) ae)
          |skip
         replace HQ:=aa (show _=true from by first|exact HQ.zo|exact HQ.zo.trans (xX (by assumption))|exact HQ.zo.trans (by assumption))
         refine⟨⟨k+1,by omega,by go_num,ae,mm ey.zo HD.zo (HQ.zo)⟩,?_⟩;simp[intOf];omega
        ·obtain rfl:k=p.defs.length:=by omega
         have Oe:=aa (show p.defs.all Mk=true from nO ey.zo);go_wp2_with fail
         go_loopw [70] (fun i wr=> ∃(k:Nat),k<=p.tables.length/\i=.int .i64 k/\af (w.alloc (.cells #[.slice bF p.defs.length bG,.slice aN p.tables.length aK,.slice aX p.zones.length aY,.slice bH p.rules.length bE,.slice bN p.caps.length bO,.slice bj p.views.length aZ,.slice cj p.eA.length ck,.int .i64 p.hours] 30)) wr/\∀(j:Nat)(d:xz),j<k->p.tables[j]?=some d->sO d=true) (fun i _=>p.tables.length - (intOf i).toNat)
         case atStart=>exact⟨0,by omega,rfl,ae,fun j d hj=>by omega⟩
         case round=>
          obtain⟨k,hk,rfl,⟨y1,rfl⟩,hall⟩:=hrel;have ey:=aa hall;clear hall;by_cases hlt:k<p.tables.length
          ·obtain⟨d,hd⟩:=kS.zo.ex hlt
           have HD:=aa hd;obtain⟨b,off,cs,rfl,lb,hR,hld⟩:=kS.zo.ld hd;obtain⟨iF,iG,rfl,r0,r1,r2⟩:=hR;have R0:=aa r0;have R1:=aa r1;have m1:=r1.nle;unfold maxLen at m1;have R2:=aa r2;have bR:=ads.zo k d hd;clear hd r0 r1 r2;cases hq1:kr 60 (d.rows.map (·.name))with
           |false=>
            have sQ:=aa hq1;clear hq1;go_wp2_with ((with_reducible refine ag (vh _ _ _ d.rows _ ?_ bR ?_ sQ.zo) ?_);exact HG.zo.exts ae;exact R1.zo.exts ae;rintro e w' ⟨rfl,x9,rfl⟩)
            go_ret;exact eu (aD.zo.symm.trans (BQ (eH HD.zo (Wh sQ.zo)))) (ae)
           |true=>
            have sQ:=aa hq1;clear hq1;cases hq2:inB (-1099511627776) 1099511627776 d.els with
            |false=>
             have ze:=aa hq2;clear hq2;go_wp2_with (first|((with_reducible refine ag (vh _ _ _ d.rows _ ?_ bR ?_ sQ.zo) ?_);exact HG.zo.exts ae;exact R1.zo.exts ae;rintro e w' ⟨rfl,x9,rfl⟩)|(go_at_call 57;show Calls prog 57 #[.int .i64 (-1099511627776),.int .i64 1099511627776,_] _ _;((refine ag (fJ (-1099511627776) 1099511627776 (x:=d.els) R2.zo ?_) ?_);exact(by simp[go_sem]);rintro e w' ⟨rfl,x8,rfl⟩;rw[ze.zo])))
             go_ret;exact eu (aD.zo.symm.trans (BQ (eH HD.zo (Wj ze.zo)))) (ae)
            |true=>
             have ze:=aa hq2;clear hq2;go_wp2_with (first|((with_reducible refine ag (vh _ _ _ d.rows _ ?_ bR ?_ sQ.zo) ?_);exact HG.zo.exts ae;exact R1.zo.exts ae;rintro e w' ⟨rfl,x9,rfl⟩)|(go_at_call 57;show Calls prog 57 #[.int .i64 (-1099511627776),.int .i64 1099511627776,_] _ _;((refine ag (fJ (-1099511627776) 1099511627776 (x:=d.els) R2.zo ?_) ?_);exact(by simp[go_sem]);rintro e w' ⟨rfl,x8,rfl⟩;rw[ze.zo])))
             go_loopw [88] (fun i wr=> ∃(q:Nat),q<=d.rows.length/\i=.int .i64 q/\af (w.alloc (.cells #[.slice bF p.defs.length bG,.slice (some ⟨b,off,none⟩) p.tables.length aK,.slice aX p.zones.length aY,.slice bH p.rules.length bE,.slice bN p.caps.length bO,.slice bj p.views.length aZ,.slice cj p.eA.length ck,.int .i64 p.hours] 30)) wr/\∀(j:Nat)(x:Entry),j<q->d.rows[j]?=some x->rowOk x=true) (fun i _=>d.rows.length - (intOf i).toNat)
             case atStart=>exact⟨0,by omega,rfl,ae,fun j d hj=>by omega⟩
             case round=>
              obtain⟨q,hq,rfl,⟨z1,rfl⟩,hin⟩:=hrel;have HI:=aa hin;clear hin;by_cases hlq:q<d.rows.length
              ·obtain⟨x,hx⟩:=R1.zo.ex hlq
               have ER:=aa hx;obtain⟨bx,ofx,csx,rfl,lbx,hRx,afq⟩:=R1.zo.ld hx;obtain⟨rfl,t0,t1⟩:=hRx;have T0:=aa t0;have T1:=aa t1;clear hx t0 t1;cases hq:inB (-1099511627776) 1099511627776 x.n with
               |false=>
                have HQ:=aa hq;clear hq;go_wp2_with (go_at_call 57;show Calls prog 57 #[.int .i64 (-1099511627776),.int .i64 1099511627776,_] _ _;((refine ag (fJ (-1099511627776) 1099511627776 (x:=x.n) T1.zo ?_) ?_);exact(by simp[go_sem]);rintro e w' ⟨rfl,x8,rfl⟩;rw[HQ.zo]))
                go_ret;exact eu (aD.zo.symm.trans (BQ (eH HD.zo (Wl (eH (p:=rowOk) ER.zo (HQ.zo)))))) (ae)
               |true=>
                have HQ:=aa hq;clear hq;go_wp2_with (go_at_call 57;show Calls prog 57 #[.int .i64 (-1099511627776),.int .i64 1099511627776,_] _ _;((refine ag (fJ (-1099511627776) 1099511627776 (x:=x.n) T1.zo ?_) ?_);exact(by simp[go_sem]);rintro e w' ⟨rfl,x8,rfl⟩;rw[HQ.zo]))
                exact⟨⟨q+1,by omega,by go_num,ae,mm HI.zo ER.zo (HQ.zo)⟩,by simp[intOf];omega⟩
              ·obtain rfl:q=d.rows.length:=by omega
               have rG:=aa (show d.rows.all rowOk=true from nO HI.zo);go_wp2_with fail
               refine⟨⟨k+1,by omega,by go_num,ae,mm ey.zo HD.zo (by unfold sO;rw[sQ.zo,ze.zo,rG.zo];rfl)⟩,?_⟩;simp[intOf];omega
          ·obtain rfl:k=p.tables.length:=by omega
           have HA1:=aa (show p.tables.all sO=true from nO ey.zo);go_wp2_with fail
           go_loopw [102] (fun i wr=> ∃(k:Nat),k<=p.zones.length/\i=.int .i64 k/\af (w.alloc (.cells #[.slice bF p.defs.length bG,.slice aN p.tables.length aK,.slice aX p.zones.length aY,.slice bH p.rules.length bE,.slice bN p.caps.length bO,.slice bj p.views.length aZ,.slice cj p.eA.length ck,.int .i64 p.hours] 30)) wr/\∀(j:Nat)(d:Zone),j<k->p.zones[j]?=some d->Fv d=true) (fun i _=>p.zones.length - (intOf i).toNat)
           case atStart=>exact⟨0,by omega,rfl,ae,fun j d hj=>by omega⟩
           case round=>
            obtain⟨k,hk,rfl,⟨y2,rfl⟩,hall⟩:=hrel;have ey:=aa hall;clear hall;by_cases hlt:k<p.zones.length
            ·obtain⟨d,hd⟩:=fj.zo.ex hlt
             have HD:=aa hd;obtain⟨b,off,cs,rfl,lb,hR,hld⟩:=fj.zo.ld hd;obtain⟨aV,aW,rfl,r0,r1⟩:=hR;have R0:=aa r0;have R1:=aa r1;have m1:=r1.nle;unfold maxLen at m1;clear hd r0 r1;go_wp2_with ((with_reducible refine ag (Hz _ _ _ d.corners _ ?_) ?_);exact R1.zo.exts ae;rintro e w' ⟨rfl,x9,rfl⟩;obtain⟨r,hr⟩:∃r,jt d.corners=r:=⟨_,rfl⟩;rw[hr];(have HQ:=aa hr);clear hr)
             all_goals first
              |(go_ret;exact eu (aD.zo.symm.trans (wT (eH HD.zo (HQ.zo)))) ae)
              |(go_ret;exact eu (aD.zo.symm.trans (wT (eH HD.zo ((HQ.zo.trans (Ec (by assumption))))))) ae)
              |(go_ret;exact eu (aD.zo.symm.trans (wT (eH HD.zo ((HQ.zo.trans (Ed (by assumption))))))) ae)
              |(go_ret;exact eu (aD.zo.symm.trans (wT (eH HD.zo ((HQ.zo.trans (by assumption)))))) ae)
              |skip
             replace HQ:=aa (show _=true from by first|exact HQ.zo|exact HQ.zo.trans (xX (by assumption))|exact HQ.zo.trans (by assumption))
             refine⟨⟨k+1,by omega,by go_num,ae,mm ey.zo HD.zo (HQ.zo)⟩,?_⟩;simp[intOf];omega
            ·obtain rfl:k=p.zones.length:=by omega
             have HA2:=aa (show p.zones.all Fv=true from nO ey.zo);go_wp2_with fail
             go_loopw [114] (fun i wr=> ∃(k:Nat),k<=p.rules.length/\i=.int .i64 k/\af (w.alloc (.cells #[.slice bF p.defs.length bG,.slice aN p.tables.length aK,.slice aX p.zones.length aY,.slice bH p.rules.length bE,.slice bN p.caps.length bO,.slice bj p.views.length aZ,.slice cj p.eA.length ck,.int .i64 p.hours] 30)) wr/\∀(j:Nat)(d:Rule),j<k->p.rules[j]?=some d->jq d=true) (fun i _=>p.rules.length - (intOf i).toNat)
             case atStart=>exact⟨0,by omega,rfl,ae,fun j d hj=>by omega⟩
             case round=>
              obtain⟨k,hk,rfl,⟨y3,rfl⟩,hall⟩:=hrel;have ey:=aa hall;clear hall;by_cases hlt:k<p.rules.length
              ·obtain⟨d,hd⟩:=np.zo.ex hlt
               have HD:=aa hd;obtain⟨b,off,cs,rfl,lb,hR,hld⟩:=np.zo.ld hd;have one1:=List.all_eq_true.2 ((aw).one hR);have len1:=(aw).len hR
               (try simp only[aw]at len1)
               have HR:=aa hR;clear hd hR;go_wp2_with ((with_reducible refine ag (ID d _ _ ?_ ?_) ?_);exact HG.zo.exts ae;exact(aw).exts HR.zo ae;rintro e w' ⟨rfl,x9,rfl⟩;obtain⟨r,hr⟩:∃r,jq d=r:=⟨_,rfl⟩;rw[hr];(have HQ:=aa hr);clear hr)
               all_goals first
                |(go_ret;exact eu (aD.zo.symm.trans (wU (eH HD.zo (HQ.zo)))) ae)
                |(go_ret;exact eu (aD.zo.symm.trans (wU (eH HD.zo ((HQ.zo.trans (Ec (by assumption))))))) ae)
                |(go_ret;exact eu (aD.zo.symm.trans (wU (eH HD.zo ((HQ.zo.trans (Ed (by assumption))))))) ae)
                |(go_ret;exact eu (aD.zo.symm.trans (wU (eH HD.zo ((HQ.zo.trans (by assumption)))))) ae)
                |skip
               replace HQ:=aa (show _=true from by first|exact HQ.zo|exact HQ.zo.trans (xX (by assumption))|exact HQ.zo.trans (by assumption))
               refine⟨⟨k+1,by omega,by go_num,ae,mm ey.zo HD.zo (HQ.zo)⟩,?_⟩;simp[intOf];omega
              ·obtain rfl:k=p.rules.length:=by omega
               have HA3:=aa (show p.rules.all jq=true from nO ey.zo);go_wp2_with fail
               go_loopw [125] (fun i wr=> ∃(k:Nat),k<=p.caps.length/\i=.int .i64 k/\af (w.alloc (.cells #[.slice bF p.defs.length bG,.slice aN p.tables.length aK,.slice aX p.zones.length aY,.slice bH p.rules.length bE,.slice bN p.caps.length bO,.slice bj p.views.length aZ,.slice cj p.eA.length ck,.int .i64 p.hours] 30)) wr/\∀(j:Nat)(d:Cap),j<k->p.caps[j]?=some d->sP d=true) (fun i _=>p.caps.length - (intOf i).toNat)
               case atStart=>exact⟨0,by omega,rfl,ae,fun j d hj=>by omega⟩
               case round=>
                obtain⟨k,hk,rfl,⟨y4,rfl⟩,hall⟩:=hrel;have ey:=aa hall;clear hall;by_cases hlt:k<p.caps.length
                ·obtain⟨d,hd⟩:=rT.zo.ex hlt
                 have HD:=aa hd;obtain⟨b,off,cs,rfl,lb,hR,hld⟩:=rT.zo.ld hd;obtain⟨aV,aW,rfl,r0,r1,r2,r3⟩:=hR;have R0:=aa r0;have R1:=aa r1;have R2:=aa r2;have R3:=aa r3;have m3:=r3.nle;unfold maxLen at m3;clear hd r0 r1 r2 r3;go_wp2_with (first|(go_at_call 57;((with_reducible refine ag (fJ (0) 2 (x:=d.load) R1.zo ?_) ?_);exact(by simp[go_sem]);rintro e w' ⟨rfl,x8,rfl⟩;obtain⟨r,hr⟩:∃r,inB (0) 2 d.load=r:=⟨_,rfl⟩;rw[hr];(have sQ:=aa hr);clear hr))|(go_at_call 57;((with_reducible refine ag (fJ (0) 1099511627776 (x:=d.limit) R2.zo ?_) ?_);exact(by simp[go_sem]);rintro e w' ⟨rfl,x8,rfl⟩;obtain⟨r,hr⟩:∃r,inB (0) 1099511627776 d.limit=r:=⟨_,rfl⟩;rw[hr];(have ze:=aa hr);clear hr))|((with_reducible refine ag (Hz _ _ _ d.corners _ ?_) ?_);exact R3.zo.exts ae;rintro e w' ⟨rfl,x9,rfl⟩;obtain⟨r,hr⟩:∃r,jt d.corners=r:=⟨_,rfl⟩;rw[hr];(have Oi:=aa hr);clear hr))
                 all_goals first
                  |(go_ret;exact eu (aD.zo.symm.trans (jK (eH HD.zo (Ag Oi.zo)))) ae)
                  |(go_ret;exact eu (aD.zo.symm.trans (jK (eH HD.zo (Ag (Oi.zo.trans (Ec (by assumption))))))) ae)
                  |(go_ret;exact eu (aD.zo.symm.trans (jK (eH HD.zo (Ag (Oi.zo.trans (Ed (by assumption))))))) ae)
                  |(go_ret;exact eu (aD.zo.symm.trans (jK (eH HD.zo (Ag (Oi.zo.trans (by assumption)))))) ae)
                  |(go_ret;exact eu (aD.zo.symm.trans (jK (eH HD.zo (Af ze.zo)))) ae)
                  |(go_ret;exact eu (aD.zo.symm.trans (jK (eH HD.zo (Af (ze.zo.trans (Ec (by assumption))))))) ae)
                  |(go_ret;exact eu (aD.zo.symm.trans (jK (eH HD.zo (Af (ze.zo.trans (Ed (by assumption))))))) ae)
                  |(go_ret;exact eu (aD.zo.symm.trans (jK (eH HD.zo (Af (ze.zo.trans (by assumption)))))) ae)
                  |(go_ret;exact eu (aD.zo.symm.trans (jK (eH HD.zo (Ae sQ.zo)))) ae)
                  |(go_ret;exact eu (aD.zo.symm.trans (jK (eH HD.zo (Ae (sQ.zo.trans (Ec (by assumption))))))) ae)
                  |(go_ret;exact eu (aD.zo.symm.trans (jK (eH HD.zo (Ae (sQ.zo.trans (Ed (by assumption))))))) ae)
                  |(go_ret;exact eu (aD.zo.symm.trans (jK (eH HD.zo (Ae (sQ.zo.trans (by assumption)))))) ae)
                  |skip
                 replace sQ:=aa (show _=true from by first|exact sQ.zo|exact sQ.zo.trans (xX (by assumption))|exact sQ.zo.trans (by assumption))
                 replace ze:=aa (show _=true from by first|exact ze.zo|exact ze.zo.trans (xX (by assumption))|exact ze.zo.trans (by assumption))
                 replace Oi:=aa (show _=true from by first|exact Oi.zo|exact Oi.zo.trans (xX (by assumption))|exact Oi.zo.trans (by assumption))
                 refine⟨⟨k+1,by omega,by go_num,ae,mm ey.zo HD.zo (by unfold sP;rw[sQ.zo,ze.zo,Oi.zo];rfl)⟩,?_⟩;simp[intOf];omega
                ·obtain rfl:k=p.caps.length:=by omega
                 have HA4:=aa (show p.caps.all sP=true from nO ey.zo);go_wp2_with fail
                 go_loopw [151] (fun i wr=> ∃(k:Nat),k<=p.views.length/\i=.int .i64 k/\af (w.alloc (.cells #[.slice bF p.defs.length bG,.slice aN p.tables.length aK,.slice aX p.zones.length aY,.slice bH p.rules.length bE,.slice bN p.caps.length bO,.slice bj p.views.length aZ,.slice cj p.eA.length ck,.int .i64 p.hours] 30)) wr/\∀(j:Nat)(d:View),j<k->p.views[j]?=some d->oO d=true) (fun i _=>p.views.length - (intOf i).toNat)
                 case atStart=>exact⟨0,by omega,rfl,ae,fun j d hj=>by omega⟩
                 case round=>
                  obtain⟨k,hk,rfl,⟨y5,rfl⟩,hall⟩:=hrel;have ey:=aa hall;clear hall;by_cases hlt:k<p.views.length
                  ·obtain⟨d,hd⟩:=nr.zo.ex hlt
                   have HD:=aa hd;obtain⟨b,off,cs,rfl,lb,hR,hld⟩:=nr.zo.ld hd;obtain⟨fl,fo,rfl,r0,r1,r2,r3,r4,r5⟩:=hR;have R0:=aa r0;have R1:=aa r1;have R2:=aa r2;have R3:=aa r3;have R4:=aa r4;have R5:=aa r5;have m5:=r5.nle;unfold maxLen at m5;clear hd r0 r1 r2 r3 r4 r5;have IT:I64 (d.targets.length:Int):=⟨by omega,by omega⟩;cases hq1:inB 0 20 d.least with
                   |false=>
                    have sQ:=aa hq1;clear hq1;go_wp2_with (go_at_call 57;((with_reducible refine ag (fJ (0) 20 (x:=d.least) R4.zo ?_) ?_);exact(by simp[go_sem]);rintro e w' ⟨rfl,x8,rfl⟩;rw[sQ.zo]))
                    go_ret;exact eu (aD.zo.symm.trans (wV (eH HD.zo (Sc sQ.zo)))) (ae)
                   |true=>
                    have sQ:=aa hq1;clear hq1;cases hv:inB 1 20 d.targets.length with
                    |false=>
                     have HV:=aa hv;clear hv;go_wp2_with (first|(go_at_call 57;((with_reducible refine ag (fJ (0) 20 (x:=d.least) R4.zo ?_) ?_);exact(by simp[go_sem]);rintro e w' ⟨rfl,x8,rfl⟩;rw[sQ.zo]))|((with_reducible refine ag (fJ 1 20 (x:=d.targets.length) IT ?_) ?_);exact(by simp[go_sem]);rintro e w' ⟨rfl,x8,rfl⟩;rw[HV.zo]))
                     go_ret;exact eu (aD.zo.symm.trans (wV (eH HD.zo (Sd HV.zo)))) (ae)
                    |true=>
                     have HV:=aa hv;clear hv;have hv2:1<=d.targets.length/\d.targets.length<=20:=by
                      have hv:=HV.zo;simp[inB]at hv;omega
                     obtain⟨i0,hi,hz0,hz1,hz2⟩:=info_parts LL;obtain⟨tb,ahL,xs,rfl,hxl,hx1,hxs⟩:=ZX R5.zo (show 0<d.targets.length by omega);have Pv:=aa hxs;have jZ:=aa hx1;have Yh:=aa (show xs.length=d.targets.length*(yw).k from hxl);have HE:=aa (show I64 d.eye.x/\I64 d.eye.y/\I64 d.eye.z from⟨R1.zo,R2.zo,R3.zo⟩);clear hxs hx1 hxl;obtain⟨L,hL⟩:∃L,d.eye::d.targets=L:=⟨_,rfl⟩;have rY:=aa (show 1+d.targets.length=L.length by rw[<-hL];simp;omega);have HL:=aa hL;have hll:L.length<=21:=by have:=rY.zo;omega
                     clear hL;go_wp2_with (first|(go_at_call 57;((with_reducible refine ag (fJ (0) 20 (x:=d.least) R4.zo ?_) ?_);exact(by simp[go_sem]);rintro e w' ⟨rfl,x8,rfl⟩;rw[sQ.zo]))|((with_reducible refine ag (fJ 1 20 (x:=d.targets.length) IT ?_) ?_);exact(by simp[go_sem]);rintro e w' ⟨rfl,x8,rfl⟩;rw[HV.zo])|(at_builtin;refine Wm ?_))
                     refine⟨?_,trivial⟩;refine nH rfl (.tmp 170) (.tmp 172) 28 rfl yw _ 134 (Flat.turn IY) i0 _ 24 underlying28 hi hz0 hz1 hz2 rfl (by decide) [d.eye] d.targets xs 1 _ _ _ rfl rfl (ZW (by simp<;>omega) HE.zo) (af.refl _) _ _ rfl rfl Yh.zo (Pv.zo _ ae).1 (Pv.zo _ ae).2 jZ.zo (by unfold maxLen;omega) (by omega) (by simp<;>omega) ?_;intro ao' c' w1 hown hgrow;have HX:=aa (show af (w.alloc (.cells #[.slice bF p.defs.length bG,.slice aN p.tables.length aK,.slice aX p.zones.length aY,.slice bH p.rules.length bE,.slice bN p.caps.length bO,.slice (some ⟨b,off,none⟩) p.views.length aZ,.slice cj p.eA.length ck,.int .i64 p.hours] 30)) w1 from hgrow _ ae (by simp<;>omega));rw[show [d.eye]++d.targets=L from HL.zo]at hown;rw[rY.zo]at hown ⊢;have HW:=aa (aq.sl hown rfl);clear hown hgrow;go_wp2;go_loopw [175] (fun i wr=> ∃(q:Nat),q<=L.length/\i=.int .i64 q/\af w1 wr/\∀(j:Nat)(x:P3),j<q->L[j]?=some x->BM x=true) (fun i _=>L.length - (intOf i).toNat)
                     case atStart=>exact⟨0,by omega,rfl,ae,fun j d hj=>by omega⟩
                     case round=>
                      obtain⟨q,hq,rfl,⟨z5,rfl⟩,hin⟩:=hrel;have HI:=aa hin;clear hin;by_cases hlq:q<L.length
                      ·obtain⟨x,hx⟩:=HW.zo.ex hlq
                       have ER:=aa hx;obtain⟨bx,ofx,csx,rfl,lbx,hRx,afq⟩:=HW.zo.ld hx;obtain⟨rfl,t0,t1,t2⟩:=hRx;have T0:=aa t0;have T1:=aa t1;have T2:=aa t2;clear hx t0 t1 t2;cases hu1:uH 0 1048576 x.x x.y with
                       |false=>
                        have HU1:=aa hu1;clear hu1;go_wp2_with (go_at_call 57;((with_reducible refine ag (kV (0) 1048576 (x:=x.x) (y:=x.y) T0.zo T1.zo ?_ ?_) ?_);exact(by simp[go_sem]);exact(by simp[go_sem]);rintro e w' ⟨rfl,x8,rfl⟩;rw[HU1.zo]))
                        go_ret;exact eu (aD.zo.symm.trans (wV (eH HD.zo (IG (by rw[HL.zo];exact(eH (p:=BM) ER.zo (ZT HU1.zo))))))) ((show af w (w.alloc _)from(af.refl w).alloc _).trans (HX.zo.trans ae))
                       |true=>
                        have HU1:=aa hu1;clear hu1;cases hu2:inB 0 4096 x.z with
                        |false=>
                         have HU2:=aa hu2;clear hu2;go_wp2_with (first|(go_at_call 57;((with_reducible refine ag (kV (0) 1048576 (x:=x.x) (y:=x.y) T0.zo T1.zo ?_ ?_) ?_);exact(by simp[go_sem]);exact(by simp[go_sem]);rintro e w' ⟨rfl,x8,rfl⟩;rw[HU1.zo]))|(go_at_call 57;((with_reducible refine ag (fJ (0) 4096 (x:=x.z) T2.zo ?_) ?_);exact(by simp[go_sem]);rintro e w' ⟨rfl,x8,rfl⟩;rw[HU2.zo])))
                         go_ret;exact eu (aD.zo.symm.trans (wV (eH HD.zo (IG (by rw[HL.zo];exact(eH (p:=BM) ER.zo (ZU HU2.zo))))))) ((show af w (w.alloc _)from(af.refl w).alloc _).trans (HX.zo.trans ae))
                        |true=>
                         have HU2:=aa hu2;clear hu2;go_wp2_with (first|(go_at_call 57;((with_reducible refine ag (kV (0) 1048576 (x:=x.x) (y:=x.y) T0.zo T1.zo ?_ ?_) ?_);exact(by simp[go_sem]);exact(by simp[go_sem]);rintro e w' ⟨rfl,x8,rfl⟩;rw[HU1.zo]))|(go_at_call 57;((with_reducible refine ag (fJ (0) 4096 (x:=x.z) T2.zo ?_) ?_);exact(by simp[go_sem]);rintro e w' ⟨rfl,x8,rfl⟩;rw[HU2.zo])))
                         exact⟨⟨q+1,by omega,by go_num,ae,mm HI.zo ER.zo (by unfold BM;rw[HU1.zo,HU2.zo];rfl)⟩,by simp[intOf];omega⟩
                      ·obtain rfl:q=L.length:=by omega
                       have rG:=aa (show L.all BM=true from nO HI.zo);go_wp2_with fail
                       refine⟨⟨k+1,by omega,by go_num,HX.zo.trans ae,mm ey.zo HD.zo (by unfold oO;rw[sQ.zo,HV.zo,HL.zo,rG.zo];rfl)⟩,?_⟩;simp[intOf];omega
                  ·obtain rfl:k=p.views.length:=by omega
                   have HA5:=aa (show p.views.all oO=true from nO ey.zo);go_wp2_with fail
                   go_loopw [198] (fun i wr=> ∃(k:Nat),k<=p.eA.length/\i=.int .i64 k/\af (w.alloc (.cells #[.slice bF p.defs.length bG,.slice aN p.tables.length aK,.slice aX p.zones.length aY,.slice bH p.rules.length bE,.slice bN p.caps.length bO,.slice bj p.views.length aZ,.slice cj p.eA.length ck,.int .i64 p.hours] 30)) wr/\∀(j:Nat)(d:P3),j<k->p.eA[j]?=some d->wP d=true) (fun i _=>p.eA.length - (intOf i).toNat)
                   case atStart=>exact⟨0,by omega,rfl,ae,fun j d hj=>by omega⟩
                   case round=>
                    obtain⟨k,hk,rfl,⟨y6,rfl⟩,hall⟩:=hrel;have ey:=aa hall;clear hall;by_cases hlt:k<p.eA.length
                    ·obtain⟨d,hd⟩:=ZR.zo.ex hlt
                     have HD:=aa hd;obtain⟨b,off,cs,rfl,lb,hR,hld⟩:=ZR.zo.ld hd;obtain⟨rfl,r0,r1,r2⟩:=hR;have R0:=aa r0;have R1:=aa r1;have R2:=aa r2;clear hd r0 r1 r2;cases hq1:uH (-4096) 4096 d.x d.y with
                     |false=>
                      have sQ:=aa hq1;clear hq1;go_wp2_with (go_at_call 57;show Calls prog 57 #[.int .i64 (-4096),.int .i64 4096,_] _ _;((refine ag (kV (-4096) 4096 (x:=d.x) (y:=d.y) R0.zo R1.zo ?_ ?_) ?_);exact(by simp[go_sem]);exact(by simp[go_sem]);rintro e w' ⟨rfl,x8,rfl⟩;rw[sQ.zo]))
                      go_ret;exact eu (aD.zo.symm.trans (IZ (eH HD.zo (Wd sQ.zo)))) (ae)
                     |true=>
                      have sQ:=aa hq1;clear hq1;cases hq2:inB 1 4096 d.z with
                      |false=>
                       have ze:=aa hq2;clear hq2;go_wp2_with (first|(go_at_call 57;((with_reducible refine ag (fJ (1) 4096 (x:=d.z) R2.zo ?_) ?_);exact(by simp[go_sem]);rintro e w' ⟨rfl,x8,rfl⟩;rw[ze.zo]))|(go_at_call 57;show Calls prog 57 #[.int .i64 (-4096),.int .i64 4096,_] _ _;((refine ag (kV (-4096) 4096 (x:=d.x) (y:=d.y) R0.zo R1.zo ?_ ?_) ?_);exact(by simp[go_sem]);exact(by simp[go_sem]);rintro e w' ⟨rfl,x8,rfl⟩;rw[sQ.zo])))
                       go_ret;exact eu (aD.zo.symm.trans (IZ (eH HD.zo (We ze.zo)))) (ae)
                      |true=>
                       have ze:=aa hq2;clear hq2;go_wp2_with (first|(go_at_call 57;((with_reducible refine ag (fJ (1) 4096 (x:=d.z) R2.zo ?_) ?_);exact(by simp[go_sem]);rintro e w' ⟨rfl,x8,rfl⟩;rw[ze.zo]))|(go_at_call 57;show Calls prog 57 #[.int .i64 (-4096),.int .i64 4096,_] _ _;((refine ag (kV (-4096) 4096 (x:=d.x) (y:=d.y) R0.zo R1.zo ?_ ?_) ?_);exact(by simp[go_sem]);exact(by simp[go_sem]);rintro e w' ⟨rfl,x8,rfl⟩;rw[sQ.zo])))
                       refine⟨⟨k+1,by omega,by go_num,ae,mm ey.zo HD.zo (by unfold wP;rw[sQ.zo,ze.zo];rfl)⟩,?_⟩;simp[intOf];omega
                    ·obtain rfl:k=p.eA.length:=by omega
                     have HA6:=aa (show p.eA.all wP=true from nO ey.zo);go_wp2_with fail
                     go_wp2_with (go_at_call 57;((with_reducible refine ag (kV (0) 24 (x:=p.hours) (y:=p.eA.length) IH.zo IS.zo ?_ ?_) ?_);exact(by simp[go_sem]);exact(by simp[go_sem]);rintro e w' ⟨rfl,x8,rfl⟩;obtain⟨r,hr⟩:∃r,uH (0) 24 p.hours p.eA.length=r:=⟨_,rfl⟩;rw[hr];(have HQ:=aa hr);clear hr))
                     go_ret;refine⟨?_,ae⟩;rw[<-aD.zo];unfold dP;rw[E6.zo,Oe.zo,HA1.zo,HA2.zo,HA3.zo,HA4.zo,HA5.zo,HA6.zo,HQ.zo];rfl
end Go.Proofs.YtomgpelfmgkknaaGreatDoor
