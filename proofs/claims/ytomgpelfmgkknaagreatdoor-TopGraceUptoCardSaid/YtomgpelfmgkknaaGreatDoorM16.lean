/- Lemmas for the law. No conditions. -/
import Derived.Test.YtomgpelfmgkknaaGreatDoorM12
import Derived.Test.YtomgpelfmgkknaaGreatDoorM9
namespace Go.Proofs.YtomgpelfmgkknaaGreatDoor
open Go.RowKit Go.Maps
open Go.Proofs.Tryz
set_option maxRecDepth 100000
set_option maxHeartbeats 40000000
set_option linter.unusedVariables false
set_option linter.unusedSimpArgs false
theorem kH:I64 0:=⟨by decide,by decide⟩
def Dd:Dv:=⟨0,0,0,0⟩
def PE:Xp:=.mk 0 0 ⟨#[]⟩ ⟨#[]⟩ []
theorem Wa(w:World):yv w none 0 PE:=⟨⟨by decide,by decide⟩,⟨by decide,by decide⟩,Nat.zero_le _,Nat.zero_le _,Sl.nil _ _⟩
def Eb(r:Rule):Rule:=⟨r.name,r.zones,r.exc,r.start,r.stop,r.bM,r.vary,r.kind,if r.kind=0 then r.test else PE,if r.kind=1 then r.ah else Dd,if r.kind=2∨r.kind=3 then r.uses else 0,if r.kind=3 then r.other else 0,if r.kind=3 then r.n else 0⟩
def okR(r:Rule):Bool:=if r.kind=0 then ea 12 r.test else if r.kind=1 then [r.ah.side].all (inB 0 3)&&([r.ah.base,r.ah.num].all (inB 0 4096)&& [r.ah.den].all (inB 1 4096))else if r.kind=2 then [r.uses].all (inB 1 63)else if r.kind=3 then [r.uses,r.other].all (inB 0 5)&& [r.n].all (inB 0 1048576)else false
def Kz(r:Rule):Bool:=mH false r.zones&&(mH false r.exc&&([r.start,r.bM,r.stop].all (inB 0 1073741824)&&(r.stop==0|| !decide (r.stop<=r.start))))
def jq(r:Rule):Bool:=Kz r&&(okR r&&jI r (Eb r))
theorem sN{W:World}{b:Nat}{x:Int}(hx:I64 x)(c0:W.cell? ⟨b,0,none⟩=some (.int .i64 x)):Sl dv W (some ⟨b,0,none⟩) 1 1 [x]:=by
 refine ints_at (bP c0) rfl (by decide) (by intro z hz;simp at hz;rcases hz with rfl;exact hx) (fun j z hj=> ?_)
 match j,hj with
 |0,hj=>(simp at hj;subst hj;exact c0)
theorem Ad{W:World}{b:Nat}{x y:Int}(hx:I64 x)(hy:I64 y)(c0:W.cell? ⟨b,0,none⟩=some (.int .i64 x))(c1:W.cell? ⟨b,1,none⟩=some (.int .i64 y)):Sl dv W (some ⟨b,0,none⟩) 2 2 [x,y]:=by
 refine ints_at (bP c0) rfl (by decide) (by intro z hz;simp at hz;rcases hz with rfl|rfl;exact hx;exact hy) (fun j z hj=> ?_)
 match j,hj with
 |0,hj=>(simp at hj;subst hj;exact c0)
 |1,hj=>(simp at hj;subst hj;exact c1)
theorem jJ{W:World}{b:Nat}{x y z:Int}(hx:I64 x)(hy:I64 y)(hz:I64 z)(c0:W.cell? ⟨b,0,none⟩=some (.int .i64 x))(c1:W.cell? ⟨b,1,none⟩=some (.int .i64 y))(c2:W.cell? ⟨b,2,none⟩=some (.int .i64 z)):Sl dv W (some ⟨b,0,none⟩) 3 3 [x,y,z]:=by
 refine ints_at (bP c0) rfl (by decide) (by intro t ht;simp at ht;rcases ht with rfl|rfl|rfl;exact hx;exact hy;exact hz) (fun j t hj=> ?_)
 match j,hj with
 |0,hj=>(simp at hj;subst hj;exact c0)
 |1,hj=>(simp at hj;subst hj;exact c1)
 |2,hj=>(simp at hj;subst hj;exact c2)
theorem zO(r:Rule)(cs:zv)(w:World)(hg:Gl w)(h:(aw).R w cs r)(hp:Kz r=false):Calls prog 59 #[.agg cs.toArray] w (cX (.bool false) w):=by
 obtain⟨cN,cO,dY,dZ,ej,ek,rfl,q0,q1,q2,q3,q4,q5,q6,q7,q8,q9,q10,q11,q12,q13,pV⟩:=h;have HG:=aa hg;have fj:=aa q1;have qY:=aa q2;have HT:=aa q7;have SN:=aa q0;have iB:=aa q3;have jS:=aa q4;have iC:=aa q5;have xW:=aa q6;have Fs:=aa q8;have Fu:=aa q9;have Mg:=aa q10;have Mh:=aa q11;have qZ:=aa q12;have wN:=aa q13;have I_n:=aa pV;clear hg q0 q1 q2 q3 q4 q5 q6 q7 q8 q9 q10 q11 q12 q13 pV;cases q0:mH false r.zones with
 |false=>
  have Q0:=aa q0;clear q0 hp;go_enter func59,ntmps59;go_wp2_with ((with_reducible refine(dR false _ _ _ r.zones _ (HG.zo.exts ae) (fj.zo.exts ae)).mono ?_);rintro e w' ⟨rfl,x1,rfl⟩;rw[Q0.zo])
  go_ret;exact⟨rfl,ae⟩
 |true=>
  have Q0:=aa q0;have hp0:=hp;cases q1:mH false r.exc with
  |false=>
   have Q1:=aa q1;clear q1 hp;go_enter func59,ntmps59;go_wp2_with (first|((with_reducible refine(dR false _ _ _ r.zones _ (HG.zo.exts ae) (fj.zo.exts ae)).mono ?_);rintro e w' ⟨rfl,x1,rfl⟩;rw[Q0.zo])|((with_reducible refine(dR false _ _ _ r.exc _ (HG.zo.exts ae) (qY.zo.exts ae)).mono ?_);rintro e w' ⟨rfl,x2,rfl⟩;rw[Q1.zo]))
   go_ret;exact⟨rfl,ae⟩
  |true=>
   have Q1:=aa q1;have hp1:=hp;cases q2: [r.start,r.bM,r.stop].all (inB 0 1073741824)with
   |false=>
    have Q2:=aa q2;clear q2 hp;go_enter func59,ntmps59;go_wp2_with (first|((with_reducible refine(dR false _ _ _ r.zones _ (HG.zo.exts ae) (fj.zo.exts ae)).mono ?_);rintro e w' ⟨rfl,x1,rfl⟩;rw[Q0.zo])|((with_reducible refine(dR false _ _ _ r.exc _ (HG.zo.exts ae) (qY.zo.exts ae)).mono ?_);rintro e w' ⟨rfl,x2,rfl⟩;rw[Q1.zo])|((with_reducible refine ag (eG 0 1073741824 _ 3 3 [r.start,r.bM,r.stop] _ ?_) ?_);exact jJ iB.zo iC.zo jS.zo (by simp[go_sem]) (by simp[go_sem]) (by simp[go_sem]);rintro e w' ⟨rfl,x7,rfl⟩;rw[Q2.zo]))
    go_ret;exact⟨rfl,ae⟩
   |true=>
    have Q2:=aa q2;have hp2:=hp;have hs:(r.stop==0)=false/\decide (r.stop<=r.start)=true:=by
     simp only[Kz,q0,q1,q2,Bool.true_and,Bool.or_eq_false_iff,Bool.not_eq_false']at hp;exact hp
    obtain⟨s1,s2⟩:=hs;clear hp hp0 hp1 hp2 q0 q1 q2;go_enter func59,ntmps59;go_wp2_with (first|((with_reducible refine(dR false _ _ _ r.zones _ (HG.zo.exts ae) (fj.zo.exts ae)).mono ?_);rintro e w' ⟨rfl,x1,rfl⟩;rw[Q0.zo])|((with_reducible refine(dR false _ _ _ r.exc _ (HG.zo.exts ae) (qY.zo.exts ae)).mono ?_);rintro e w' ⟨rfl,x2,rfl⟩;rw[Q1.zo])|((with_reducible refine ag (eG 0 1073741824 _ 3 3 [r.start,r.bM,r.stop] _ ?_) ?_);exact jJ iB.zo iC.zo jS.zo (by simp[go_sem]) (by simp[go_sem]) (by simp[go_sem]);rintro e w' ⟨rfl,x7,rfl⟩;rw[Q2.zo]))
    go_ret;exact⟨rfl,ae⟩
@[go_sem] theorem adh(w:World)(o1 o2 o3 o4:Obj)(x y:Ex):af w (av ((av (((w.alloc o1).alloc o2).alloc o3) x).alloc o4) y)=True:=eq_true (((((((af.refl w).alloc o1).alloc o2).alloc o3).av x).alloc o4).av y)
theorem BK(d:Nat)(xa xb xc:Xp)(ao:Option Addr)(c:Nat)(w:World)(hg:Gl w)(hd:d<100)(hs:Sl j7 w ao 3 c [xa,xb,xc])(ih:∀(e:Xp)(cs:zv)(w:World),Gl w->iP w cs e->Calls prog 146 #[.agg cs.toArray,.int .i64 (d:Int)] w (cX (.bool (ea d e)) w)):Calls prog 146 #[.agg #[.int .i64 16,.int .i64 0,.string ⟨#[]⟩,.string ⟨#[]⟩,.slice ao 3 c],.int .i64 ((d+1:Nat):Int)] w (cX (.bool (ea d xa&&(ea d xb&&(ea d xc)))) w):=by
 have q:((d:Int)+1==0)=false:=by simp;omega
 have WD:((d+1:Nat):Int) - 1=(d:Int):=by omega
 have WE:(d:Int)+1 - 1=(d:Int):=by omega
 have HG:=aa hg;clear hg;have IH:=aa ih;have HSL:=aa hs;clear ih hs;obtain⟨b0,ZO,cs0,rfl,JJ,hR0,cZ⟩:=HSL.zo.ld (i:=0) rfl;simp only[Nat.zero_mul,Nat.one_mul,Nat.add_zero,Nat.reduceMul]at cZ;have HR0:=aa (show iP _ cs0 _ from hR0);have ZP:=List.all_eq_true.2 ((j7).one hR0);have len0:=(j7).len hR0
 (try simp only[j7]at len0)
 clear hR0;obtain⟨b1,off1,cs1,he1,lb1,hR1,Wb⟩:=HSL.zo.ld (i:=1) rfl;simp only[Option.some.injEq,Addr.mk.injEq,and_true]at he1;obtain⟨rfl,rfl⟩:=he1;simp only[Nat.zero_mul,Nat.one_mul,Nat.add_zero,Nat.reduceMul]at Wb;have HR1:=aa (show iP _ cs1 _ from hR1);have one1:=List.all_eq_true.2 ((j7).one hR1);have len1:=(j7).len hR1
 (try simp only[j7]at len1)
 clear hR1;obtain⟨b2,off2,cs2,he2,Uz,hR2,Ez⟩:=HSL.zo.ld (i:=2) rfl;simp only[Option.some.injEq,Addr.mk.injEq,and_true]at he2;obtain⟨rfl,rfl⟩:=he2;simp only[Nat.zero_mul,Nat.one_mul,Nat.add_zero,Nat.reduceMul]at Ez;have HR2:=aa (show iP _ cs2 _ from hR2);have aeS:=List.all_eq_true.2 ((j7).one hR2);have len2:=(j7).len hR2
 (try simp only[j7]at len2)
 clear hR2;obtain⟨r0,hr0⟩:∃r,ea d xa=r:=⟨_,rfl⟩;have wO:=aa hr0;rw[hr0];clear hr0;obtain⟨r1,hr1⟩:∃r,ea d xb=r:=⟨_,rfl⟩;have IA:=aa hr1;rw[hr1];clear hr1;obtain⟨r2,hr2⟩:∃r,ea d xc=r:=⟨_,rfl⟩;have Wc:=aa hr2;rw[hr2];clear hr2;cases r0 with
 |false=>
  go_enter func146,ntmps146;go_wp2_with (first|(refine wp_loop_rounds 6 ?_;rw[rounds_succ])|(rw[rounds_succ])|((with_reducible refine(IH.zo xa _ _ (HG.zo.exts ae) (iP.exts HR0.zo ae)).mono ?_);rintro e w' ⟨rfl,x20,rfl⟩;rw[wO.zo])|((with_reducible refine(IH.zo xb _ _ (HG.zo.exts ae) (iP.exts HR1.zo ae)).mono ?_);rintro e w' ⟨rfl,x21,rfl⟩;rw[IA.zo])|((with_reducible refine(IH.zo xc _ _ (HG.zo.exts ae) (iP.exts HR2.zo ae)).mono ?_);rintro e w' ⟨rfl,x22,rfl⟩;rw[Wc.zo]))
  go_ret;exact⟨by rfl,ae⟩
 |true=>
  cases r1 with
  |false=>
   go_enter func146,ntmps146;go_wp2_with (first|(refine wp_loop_rounds 6 ?_;rw[rounds_succ])|(rw[rounds_succ])|((with_reducible refine(IH.zo xa _ _ (HG.zo.exts ae) (iP.exts HR0.zo ae)).mono ?_);rintro e w' ⟨rfl,x20,rfl⟩;rw[wO.zo])|((with_reducible refine(IH.zo xb _ _ (HG.zo.exts ae) (iP.exts HR1.zo ae)).mono ?_);rintro e w' ⟨rfl,x21,rfl⟩;rw[IA.zo])|((with_reducible refine(IH.zo xc _ _ (HG.zo.exts ae) (iP.exts HR2.zo ae)).mono ?_);rintro e w' ⟨rfl,x22,rfl⟩;rw[Wc.zo]))
   go_ret;exact⟨by rfl,ae⟩
  |true=>
   cases r2 with
   |false=>
    go_enter func146,ntmps146;go_wp2_with (first|(refine wp_loop_rounds 6 ?_;rw[rounds_succ])|(rw[rounds_succ])|((with_reducible refine(IH.zo xa _ _ (HG.zo.exts ae) (iP.exts HR0.zo ae)).mono ?_);rintro e w' ⟨rfl,x20,rfl⟩;rw[wO.zo])|((with_reducible refine(IH.zo xb _ _ (HG.zo.exts ae) (iP.exts HR1.zo ae)).mono ?_);rintro e w' ⟨rfl,x21,rfl⟩;rw[IA.zo])|((with_reducible refine(IH.zo xc _ _ (HG.zo.exts ae) (iP.exts HR2.zo ae)).mono ?_);rintro e w' ⟨rfl,x22,rfl⟩;rw[Wc.zo]))
    go_ret;exact⟨by rfl,ae⟩
   |true=>
    go_enter func146,ntmps146;go_wp2_with (first|(refine wp_loop_rounds 6 ?_;rw[rounds_succ])|(rw[rounds_succ])|((with_reducible refine(IH.zo xa _ _ (HG.zo.exts ae) (iP.exts HR0.zo ae)).mono ?_);rintro e w' ⟨rfl,x20,rfl⟩;rw[wO.zo])|((with_reducible refine(IH.zo xb _ _ (HG.zo.exts ae) (iP.exts HR1.zo ae)).mono ?_);rintro e w' ⟨rfl,x21,rfl⟩;rw[IA.zo])|((with_reducible refine(IH.zo xc _ _ (HG.zo.exts ae) (iP.exts HR2.zo ae)).mono ?_);rintro e w' ⟨rfl,x22,rfl⟩;rw[Wc.zo]))
    go_ret;exact⟨by rfl,ae⟩
theorem empty_of{s:ByteArray}(h:s.toList.isEmpty=true):s=⟨#[]⟩:=by
 have h1:s.toList= []:=by simpa using h
 have h2:s.data.toList= []:=by rw[<-ByteArray.toList_eq];exact h1
 obtain⟨⟨l⟩⟩:=s;simp at h2;subst h2;rfl
theorem len0{T:Type}{l:List T}(h:l.length=0):l= []:=List.length_eq_zero_iff.1 h
theorem len1{T:Type}{l:List T}(h:l.length=1):∃a,l= [a]:=List.length_eq_one_iff.1 h
theorem len2{T:Type}{l:List T}(h:l.length=2):∃a b,l= [a,b]:=by
 match l,h with
 | [a,b],_=>exact⟨a,b,rfl⟩
theorem aff{T:Type}{l:List T}(h:l.length=3):∃a b c,l= [a,b,c]:=by
 match l,h with
 | [a,b,c],_=>exact⟨a,b,c,rfl⟩
theorem KA{op num:Int}{str key:ByteArray}{args:List Xp}(h:iz (.mk op num str key args)=true):(op=2->nameB key=true)/\args.length=argN op/\(if op=0 then ou (jF num 0) 1099511627776 else 0)=num/\(named3 op=false->str=⟨#[]⟩)/\(op≠2->key=⟨#[]⟩)/\(named3 op=true->nameB str=true):=by
 simp only[iz,Xp.op,Xp.num,Xp.str,Xp.key,Xp.args,Bool.and_eq_true,Bool.or_eq_true,Bool.not_eq_true',beq_iff_eq,beq_eq_false_iff_ne,ne_eq]at h;obtain⟨_,⟨h1,h2⟩,h3,h4,h5,h6⟩:=h;refine⟨fun e=>h1.resolve_left (fun x=>x e),h2,h3,fun e=>empty_of (h4.resolve_left (by rw[e];simp)),fun e=>empty_of (h5.resolve_left e),fun e=>h6.resolve_left (by rw[e];simp)⟩
theorem IB:∀(d:Nat)(hd:d<100)(e:Xp)(cs:zv)(w:World),Gl w->iP w cs e->Calls prog 146 #[.agg cs.toArray,.int .i64 (d:Int)] w (cX (.bool (ea d e)) w)
 |0,_,e,cs,w,_,h=>Ky e cs w h
 |d+1,hd,e,cs,w,hg,h=>by
  have ih:=IB d (by omega);by_cases ho:e.op<0∨17<=e.op
  ·exact Fj d e cs w h (by omega) ho
  obtain⟨ao,c,rfl,hv⟩:=h.opened;obtain⟨op,num,str,key,args⟩:=e;simp only[Xp.op]at ho;obtain⟨_,_,h3,h4,hs⟩:=hv;simp only[Xp.str,Xp.key,Xp.args,Xp.op,Xp.num]at h3 h4 hs ⊢;have hl:=hs.nle;unfold maxLen at hl;have oc:(0<=op/\op<17):=by omega
  have OC:op=0∨op=1∨op=2∨op=3∨op=9∨op=15∨op=16∨((0<=op/\op<17)/\op≠0/\op≠1/\op≠2/\op≠3/\op≠9/\op≠15/\op≠16):=by omega
  cases hh:iz (.mk op num str key args)with
  |false=>
   have e0:ea (d+1) (.mk op num str key args)=false:=by simp[ea,hh]
   rw[e0];rcases OC with k|k|k|k|k|k|k|k
   ·exact Fk d op num str key args ao c w hg h3 h4 (by omega) (by omega) k hh
   ·exact Fl d op num str key args ao c w hg h3 h4 (by omega) (by omega) k hh
   ·exact Fm d op num str key args ao c w hg h3 h4 (by omega) (by omega) k hh
   ·exact Fo d op num str key args ao c w hg h3 h4 (by omega) (by omega) k hh
   ·exact Fp d op num str key args ao c w hg h3 h4 (by omega) (by omega) k hh
   ·exact Db d op num str key args ao c w hg h3 h4 (by omega) (by omega) k hh
   ·exact Dc d op num str key args ao c w hg h3 h4 (by omega) (by omega) k hh
   ·exact Fq d op num str key args ao c w hg h3 h4 (by omega) (by omega) k hh
  |true=>
   have e0:ea (d+1) (.mk op num str key args)=args.all (ea d):=by simp[ea,hh,Xp.args]
   rw[e0];obtain⟨f1,f2,f3,f4,f5,f6⟩:=KA hh;clear e0 hh;rcases OC with rfl|rfl|rfl|rfl|rfl|rfl|rfl|k
   ·obtain rfl:=len0 f2
    obtain rfl:=f4 rfl;obtain rfl:=f5 (by decide);rw[if_pos rfl]at f3;exact De d num ao c w hg (by omega) f3
   ·obtain rfl:=len0 f2
    obtain rfl:=f5 (by decide);rw[if_neg (by decide)]at f3;subst f3;exact Df d str ao c w hg (by omega) h3 (f6 rfl)
   ·obtain rfl:=len0 f2
    rw[if_neg (by decide)]at f3;subst f3;exact Dg d str key ao c w hg (by omega) h3 (f6 rfl) h4 (f1 rfl)
   ·obtain rfl:=len0 f2
    obtain rfl:=f5 (by decide);rw[if_neg (by decide)]at f3;subst f3;exact Dh d str ao c w hg (by omega) h3 (f6 rfl)
   ·obtain⟨a,rfl⟩:=len1 f2
    obtain rfl:=f4 rfl;obtain rfl:=f5 (by decide);rw[if_neg (by decide)]at f3;subst f3;simp only[List.all_cons,List.all_nil,Bool.and_true];exact Di d a ao c w hg (by omega) hs ih
   ·obtain⟨a,rfl⟩:=len1 f2
    obtain rfl:=f4 rfl;obtain rfl:=f5 (by decide);rw[if_neg (by decide)]at f3;subst f3;simp only[List.all_cons,List.all_nil,Bool.and_true];exact BJ d a ao c w hg (by omega) hs ih
   ·obtain⟨a,b,x,rfl⟩:=aff f2
    obtain rfl:=f4 rfl;obtain rfl:=f5 (by decide);rw[if_neg (by decide)]at f3;subst f3;simp only[List.all_cons,List.all_nil,Bool.and_true];exact BK d a b x ao c w hg (by omega) hs ih
   ·obtain⟨k0,k1,k2,k3,k4,k5,k6,k7⟩:=k
    have a2:argN op=2:=by unfold argN;rw[if_neg (by omega),if_neg (by omega),if_neg (by omega)]
    have n3:named3 op=false:=by simp[named3,k2,k3,k4]
    rw[a2]at f2;obtain⟨a,b,rfl⟩:=len2 f2;obtain rfl:=f4 n3;obtain rfl:=f5 k3;rw[if_neg k1]at f3;subst f3;simp only[List.all_cons,List.all_nil,Bool.and_true];exact Dj d op a b ao c w hg (by omega) ⟨k0,k1,k2,k3,k4,k5,k6,k7⟩ hs ih
theorem IC(e:Xp)(cs:zv)(w:World)(hg:Gl w)(h:iP w cs e):Calls prog 146 #[.agg cs.toArray,.int .i64 12] w fun r w'=>r=.returned (.bool (ea 12 e))/\af w w':=IB 12 (by decide) e cs w hg h
theorem pG(e:Xp)(cs:zv)(w:World)(hg:Gl w)(h:iP w cs e):Calls prog 54 #[.agg cs.toArray] w (cX (.bool (ea 12 e)) w):=by
 obtain⟨ao,c,rfl,hv⟩:=h.opened;have H:=aa h;have HG:=aa hg;clear h hv hg;go_enter func54,ntmps54;go_wp2_with ((with_reducible refine(IC e _ _ (HG.zo.exts ae) (iP.exts H.zo ae)).mono ?_);rintro e w' ⟨rfl,x9,rfl⟩)
 go_ret;exact⟨rfl,ae⟩
abbrev rcs(oz:Option Addr)(cz:Nat)(oe:Option Addr)(ce:Nat)(oa:Option Addr)(ca:Nat)(name:ByteArray)(zones exc:List ByteArray)(start stop bM:Int)(vary:Bool)(kind:Int)(test:Xp)(ah:Dv)(uses other n:Int):zv:= [.string name,.slice oz zones.length cz,.slice oe exc.length ce,.int .i64 start,.int .i64 stop,.int .i64 bM,.bool vary,.int .i64 kind,.int .i64 test.op,.int .i64 test.num,.string test.str,.string test.key,.slice oa test.args.length ca,.int .i64 ah.side,.int .i64 ah.base,.int .i64 ah.num,.int .i64 ah.den,.int .i64 uses,.int .i64 other,.int .i64 n]
theorem ZQ(k:Int):k=0∨k=1∨k=2∨k=3∨(k≠0/\k≠1/\k≠2/\k≠3):=by omega
theorem cu2(a b:Bool):a=false∨(a=true/\b=false)∨(a=true/\b=true):=by cases a<;>cases b<;>decide
theorem cu3(a b c:Bool):a=false∨(a=true/\b=false)∨(a=true/\b=true/\c=false)∨(a=true/\b=true/\c=true):=by cases a<;>cases b<;>cases c<;>decide
theorem BL(name:ByteArray)(zones exc:List ByteArray)(start stop bM:Int)(vary:Bool)(kind:Int)(test:Xp)(ah:Dv)(uses other n:Int)(cs:zv)(w:World)(hg:Gl w)(h:(aw).R w cs ⟨name,zones,exc,start,stop,bM,vary,kind,test,ah,uses,other,n⟩)(hp:Kz ⟨name,zones,exc,start,stop,bM,vary,kind,test,ah,uses,other,n⟩=true):Calls prog 59 #[.agg cs.toArray] w (cX (.bool (jq ⟨name,zones,exc,start,stop,bM,vary,kind,test,ah,uses,other,n⟩)) w):=by
 obtain⟨cN,cO,dY,dZ,ej,ek,rfl,q0,q1,q2,q3,q4,q5,q6,q7,q8,q9,q10,q11,q12,q13,pV⟩:=h;have HG:=aa hg;have fj:=aa (show Sl fC w cN zones.length cO zones from q1);have qY:=aa (show Sl fC w dY exc.length dZ exc from q2);have HT:=aa (show yv w ej ek test from q7);have SN:=aa (show gS name from q0);have iB:=aa (show I64 start from q3);have jS:=aa (show I64 stop from q4);have iC:=aa (show I64 bM from q5);have xW:=aa (show I64 kind from q6);have Fs:=aa (show I64 ah.side from q8);have Fu:=aa (show I64 ah.base from q9);have Mg:=aa (show I64 ah.num from q10);have Mh:=aa (show I64 ah.den from q11);have qZ:=aa (show I64 uses from q12);have wN:=aa (show I64 other from q13);have I_n:=aa (show I64 n from pV);clear hg q0 q1 q2 q3 q4 q5 q6 q7 q8 q9 q10 q11 q12 q13 pV;have HRR:=aa (show(aw).R w (rcs cN cO dY dZ ej ek name zones exc start stop bM vary kind test ah uses other n) ⟨name,zones,exc,start,stop,bM,vary,kind,test,ah,uses,other,n⟩from⟨cN,cO,dY,dZ,ej,ek,rfl,SN.zo,fj.zo,qY.zo,iB.zo,jS.zo,iC.zo,xW.zo,HT.zo,Fs.zo,Fu.zo,Mg.zo,Mh.zo,qZ.zo,wN.zo,I_n.zo⟩);show Calls prog 59 #[.agg #[.string name,.slice cN zones.length cO,.slice dY exc.length dZ,.int .i64 start,.int .i64 stop,.int .i64 bM,.bool vary,.int .i64 kind,.int .i64 test.op,.int .i64 test.num,.string test.str,.string test.key,.slice ej test.args.length ek,.int .i64 ah.side,.int .i64 ah.base,.int .i64 ah.num,.int .i64 ah.den,.int .i64 uses,.int .i64 other,.int .i64 n]] w _;obtain⟨p1,p2,p3,p4⟩:mH false zones=true/\mH false exc=true/\ [start,bM,stop].all (inB 0 1073741824)=true/\(stop=0∨decide (stop<=start)=false):=by
  have hq:=hp;simp only[Kz,Bool.and_eq_true]at hq;obtain⟨p1,p2,p3,p4⟩:=hq;refine⟨p1,p2,p3,?_⟩;simpa using p4
 have HPR:=aa hp;obtain⟨ra,hra⟩:∃x:Rule,(⟨name,zones,exc,start,stop,bM,vary,kind,test,ah,uses,other,n⟩:Rule)=x:=⟨_,rfl⟩;rw[hra]at HRR;obtain⟨res,hres⟩:∃x,jq (⟨name,zones,exc,start,stop,bM,vary,kind,test,ah,uses,other,n⟩:Rule)=x:=⟨_,rfl⟩;rw[hres];have Q0:=aa p1;have Q1:=aa p2;obtain⟨SG,hSG⟩:∃l,[start,bM,stop]=l:=⟨_,rfl⟩;rw[hSG]at p3;have za:=aa hSG;have Q2:=aa p3;clear hp p1 p2 p3 hSG;have hst:stop=0∨((stop==0)=false/\ ¬stop=0/\decide (stop<=start)=false):=by
  by_cases s0:stop=0
  ·exact .inl s0
  ·exact .inr ⟨by simp[s0],s0,p4.resolve_left s0⟩
 clear p4;rcases ZQ kind with rfl|rfl|rfl|rfl|hk
 ·have HX:=aa (show(aw).R w (rcs cN cO dY dZ ej ek name zones exc start stop bM vary 0 test Dd 0 0 0) ⟨name,zones,exc,start,stop,bM,vary,0,test,Dd,0,0,0⟩from⟨cN,cO,dY,dZ,ej,ek,rfl,SN.zo,fj.zo,qY.zo,iB.zo,jS.zo,iC.zo,xW.zo,HT.zo,kH,kH,kH,kH,kH,kH,kH⟩)
  obtain⟨rb,hrb⟩:∃x:Rule,(⟨name,zones,exc,start,stop,bM,vary,0,test,Dd,0,0,0⟩:Rule)=x:=⟨_,rfl⟩;rw[hrb]at HX;have aD:=aa (show res=((ea 12 test)&&jI ra rb)by rw[<-hres,<-hra,<-hrb];simp[jq,HPR.zo,okR,Eb]);clear hrb hra hres;rcases hst with rfl|⟨s1,s0,s2⟩;all_goals cases r0:ea 12 test
  all_goals
   have R0:=aa r0;clear r0;go_enter func59,ntmps59;go_wp2_with (first|((with_reducible refine(dR false _ _ _ zones _ (HG.zo.exts ae) (fj.zo.exts ae)).mono ?_);rintro e w' ⟨rfl,x1,rfl⟩;rw[Q0.zo])|((with_reducible refine(dR false _ _ _ exc _ (HG.zo.exts ae) (qY.zo.exts ae)).mono ?_);rintro e w' ⟨rfl,x2,rfl⟩;rw[Q1.zo])|((with_reducible refine ag (eG 0 1073741824 _ 3 3 SG _ ?_) ?_);exact za.zo▸jJ iB.zo iC.zo jS.zo (by simp[go_sem]) (by simp[go_sem]) (by simp[go_sem]);rintro e w' ⟨rfl,x7,rfl⟩;rw[Q2.zo])|((with_reducible refine ag (pG test _ _ ?_ ?_) ?_);exact HG.zo.exts ae;exact(HT.zo.exts ae).shut;rintro e w' ⟨rfl,x5,rfl⟩;rw[R0.zo])|((with_reducible refine ag (iy ra rb _ _ _ ?_ ?_) ?_);exact(aw).exts HRR.zo ae;exact(aw).exts HX.zo ae;rintro e w' ⟨rfl,x6,rfl⟩))
   all_goals(go_region_with (first|((with_reducible refine(dR false _ _ _ zones _ (HG.zo.exts ae) (fj.zo.exts ae)).mono ?_);rintro e w' ⟨rfl,x1,rfl⟩;rw[Q0.zo])|((with_reducible refine(dR false _ _ _ exc _ (HG.zo.exts ae) (qY.zo.exts ae)).mono ?_);rintro e w' ⟨rfl,x2,rfl⟩;rw[Q1.zo])|((with_reducible refine ag (eG 0 1073741824 _ 3 3 SG _ ?_) ?_);exact za.zo▸jJ iB.zo iC.zo jS.zo (by simp[go_sem]) (by simp[go_sem]) (by simp[go_sem]);rintro e w' ⟨rfl,x7,rfl⟩;rw[Q2.zo])|((with_reducible refine ag (pG test _ _ ?_ ?_) ?_);exact HG.zo.exts ae;exact(HT.zo.exts ae).shut;rintro e w' ⟨rfl,x5,rfl⟩;rw[R0.zo])|((with_reducible refine ag (iy ra rb _ _ _ ?_ ?_) ?_);exact(aw).exts HRR.zo ae;exact(aw).exts HX.zo ae;rintro e w' ⟨rfl,x6,rfl⟩)))
   all_goals go_wp2_with (first|((with_reducible refine(dR false _ _ _ zones _ (HG.zo.exts ae) (fj.zo.exts ae)).mono ?_);rintro e w' ⟨rfl,x1,rfl⟩;rw[Q0.zo])|((with_reducible refine(dR false _ _ _ exc _ (HG.zo.exts ae) (qY.zo.exts ae)).mono ?_);rintro e w' ⟨rfl,x2,rfl⟩;rw[Q1.zo])|((with_reducible refine ag (eG 0 1073741824 _ 3 3 SG _ ?_) ?_);exact za.zo▸jJ iB.zo iC.zo jS.zo (by simp[go_sem]) (by simp[go_sem]) (by simp[go_sem]);rintro e w' ⟨rfl,x7,rfl⟩;rw[Q2.zo])|((with_reducible refine ag (pG test _ _ ?_ ?_) ?_);exact HG.zo.exts ae;exact(HT.zo.exts ae).shut;rintro e w' ⟨rfl,x5,rfl⟩;rw[R0.zo])|((with_reducible refine ag (iy ra rb _ _ _ ?_ ?_) ?_);exact(aw).exts HRR.zo ae;exact(aw).exts HX.zo ae;rintro e w' ⟨rfl,x6,rfl⟩))
   all_goals go_ret
   all_goals exact⟨by rw[aD.zo,R0.zo];rfl,ae⟩
 ·have HX:=aa (show(aw).R w (rcs cN cO dY dZ none 0 name zones exc start stop bM vary 1 PE ah 0 0 0) ⟨name,zones,exc,start,stop,bM,vary,1,PE,ah,0,0,0⟩from⟨cN,cO,dY,dZ,none,0,rfl,SN.zo,fj.zo,qY.zo,iB.zo,jS.zo,iC.zo,xW.zo,Wa _,Fs.zo,Fu.zo,Mg.zo,Mh.zo,kH,kH,kH⟩)
  obtain⟨rb,hrb⟩:∃x:Rule,(⟨name,zones,exc,start,stop,bM,vary,1,PE,ah,0,0,0⟩:Rule)=x:=⟨_,rfl⟩;rw[hrb]at HX;have aD:=aa (show res=((([ah.side].all (inB 0 3))&&(([ah.base,ah.num].all (inB 0 4096))&&([ah.den].all (inB 1 4096))))&&jI ra rb)by rw[<-hres,<-hra,<-hrb];simp[jq,HPR.zo,okR,Eb]);clear hrb hra hres;rcases hst with rfl|⟨s1,s0,s2⟩;all_goals rcases cu3 ([ah.side].all (inB 0 3)) ([ah.base,ah.num].all (inB 0 4096)) ([ah.den].all (inB 1 4096))with r0|⟨r0,r1⟩|⟨r0,r1,r2⟩|⟨r0,r1,r2⟩
  all_goals
   have R0:=aa r0;try have R1:=aa r1
   try have R2:=aa r2
   clear r0;try clear r1
   try clear r2
   go_enter func59,ntmps59;go_wp2_with (first|((with_reducible refine(dR false _ _ _ zones _ (HG.zo.exts ae) (fj.zo.exts ae)).mono ?_);rintro e w' ⟨rfl,x1,rfl⟩;rw[Q0.zo])|((with_reducible refine(dR false _ _ _ exc _ (HG.zo.exts ae) (qY.zo.exts ae)).mono ?_);rintro e w' ⟨rfl,x2,rfl⟩;rw[Q1.zo])|((with_reducible refine ag (eG 0 1073741824 _ 3 3 SG _ ?_) ?_);exact za.zo▸jJ iB.zo iC.zo jS.zo (by simp[go_sem]) (by simp[go_sem]) (by simp[go_sem]);rintro e w' ⟨rfl,x7,rfl⟩;rw[Q2.zo])|((with_reducible refine ag (eG 0 3 _ 1 1 [ah.side] _ ?_) ?_);exact sN Fs.zo (by simp[go_sem]);rintro e w' ⟨rfl,x7,rfl⟩;rw[R0.zo])|((with_reducible refine ag (eG 0 4096 _ 2 2 [ah.base,ah.num] _ ?_) ?_);exact Ad Fu.zo Mg.zo (by simp[go_sem]) (by simp[go_sem]);rintro e w' ⟨rfl,x7,rfl⟩;rw[R1.zo])|((with_reducible refine ag (eG 1 4096 _ 1 1 [ah.den] _ ?_) ?_);exact sN Mh.zo (by simp[go_sem]);rintro e w' ⟨rfl,x7,rfl⟩;rw[R2.zo])|((with_reducible refine ag (iy ra rb _ _ _ ?_ ?_) ?_);exact(aw).exts HRR.zo ae;exact(aw).exts HX.zo ae;rintro e w' ⟨rfl,x6,rfl⟩))
   all_goals go_ret
   all_goals exact⟨by rw[aD.zo,R0.zo];first|rfl|(rw[R1.zo];first|rfl|(rw[R2.zo];rfl)),ae⟩
 ·have HX:=aa (show(aw).R w (rcs cN cO dY dZ none 0 name zones exc start stop bM vary 2 PE Dd uses 0 0) ⟨name,zones,exc,start,stop,bM,vary,2,PE,Dd,uses,0,0⟩from⟨cN,cO,dY,dZ,none,0,rfl,SN.zo,fj.zo,qY.zo,iB.zo,jS.zo,iC.zo,xW.zo,Wa _,kH,kH,kH,kH,qZ.zo,kH,kH⟩)
  obtain⟨rb,hrb⟩:∃x:Rule,(⟨name,zones,exc,start,stop,bM,vary,2,PE,Dd,uses,0,0⟩:Rule)=x:=⟨_,rfl⟩;rw[hrb]at HX;have aD:=aa (show res=(([uses].all (inB 1 63))&&jI ra rb)by rw[<-hres,<-hra,<-hrb];simp[jq,HPR.zo,okR,Eb]);clear hrb hra hres;rcases hst with rfl|⟨s1,s0,s2⟩;all_goals cases r0: [uses].all (inB 1 63)
  all_goals
   have R0:=aa r0;clear r0;go_enter func59,ntmps59;go_wp2_with (first|((with_reducible refine(dR false _ _ _ zones _ (HG.zo.exts ae) (fj.zo.exts ae)).mono ?_);rintro e w' ⟨rfl,x1,rfl⟩;rw[Q0.zo])|((with_reducible refine(dR false _ _ _ exc _ (HG.zo.exts ae) (qY.zo.exts ae)).mono ?_);rintro e w' ⟨rfl,x2,rfl⟩;rw[Q1.zo])|((with_reducible refine ag (eG 0 1073741824 _ 3 3 SG _ ?_) ?_);exact za.zo▸jJ iB.zo iC.zo jS.zo (by simp[go_sem]) (by simp[go_sem]) (by simp[go_sem]);rintro e w' ⟨rfl,x7,rfl⟩;rw[Q2.zo])|((with_reducible refine ag (eG 1 63 _ 1 1 [uses] _ ?_) ?_);exact sN qZ.zo (by simp[go_sem]);rintro e w' ⟨rfl,x7,rfl⟩;rw[R0.zo])|((with_reducible refine ag (iy ra rb _ _ _ ?_ ?_) ?_);exact(aw).exts HRR.zo ae;exact(aw).exts HX.zo ae;rintro e w' ⟨rfl,x6,rfl⟩))
   all_goals(go_region_with (first|((with_reducible refine(dR false _ _ _ zones _ (HG.zo.exts ae) (fj.zo.exts ae)).mono ?_);rintro e w' ⟨rfl,x1,rfl⟩;rw[Q0.zo])|((with_reducible refine(dR false _ _ _ exc _ (HG.zo.exts ae) (qY.zo.exts ae)).mono ?_);rintro e w' ⟨rfl,x2,rfl⟩;rw[Q1.zo])|((with_reducible refine ag (eG 0 1073741824 _ 3 3 SG _ ?_) ?_);exact za.zo▸jJ iB.zo iC.zo jS.zo (by simp[go_sem]) (by simp[go_sem]) (by simp[go_sem]);rintro e w' ⟨rfl,x7,rfl⟩;rw[Q2.zo])|((with_reducible refine ag (eG 1 63 _ 1 1 [uses] _ ?_) ?_);exact sN qZ.zo (by simp[go_sem]);rintro e w' ⟨rfl,x7,rfl⟩;rw[R0.zo])|((with_reducible refine ag (iy ra rb _ _ _ ?_ ?_) ?_);exact(aw).exts HRR.zo ae;exact(aw).exts HX.zo ae;rintro e w' ⟨rfl,x6,rfl⟩)))
   all_goals go_wp2_with (first|((with_reducible refine(dR false _ _ _ zones _ (HG.zo.exts ae) (fj.zo.exts ae)).mono ?_);rintro e w' ⟨rfl,x1,rfl⟩;rw[Q0.zo])|((with_reducible refine(dR false _ _ _ exc _ (HG.zo.exts ae) (qY.zo.exts ae)).mono ?_);rintro e w' ⟨rfl,x2,rfl⟩;rw[Q1.zo])|((with_reducible refine ag (eG 0 1073741824 _ 3 3 SG _ ?_) ?_);exact za.zo▸jJ iB.zo iC.zo jS.zo (by simp[go_sem]) (by simp[go_sem]) (by simp[go_sem]);rintro e w' ⟨rfl,x7,rfl⟩;rw[Q2.zo])|((with_reducible refine ag (eG 1 63 _ 1 1 [uses] _ ?_) ?_);exact sN qZ.zo (by simp[go_sem]);rintro e w' ⟨rfl,x7,rfl⟩;rw[R0.zo])|((with_reducible refine ag (iy ra rb _ _ _ ?_ ?_) ?_);exact(aw).exts HRR.zo ae;exact(aw).exts HX.zo ae;rintro e w' ⟨rfl,x6,rfl⟩))
   all_goals go_ret
   all_goals exact⟨by rw[aD.zo,R0.zo];rfl,ae⟩
 ·have HX:=aa (show(aw).R w (rcs cN cO dY dZ none 0 name zones exc start stop bM vary 3 PE Dd uses other n) ⟨name,zones,exc,start,stop,bM,vary,3,PE,Dd,uses,other,n⟩from⟨cN,cO,dY,dZ,none,0,rfl,SN.zo,fj.zo,qY.zo,iB.zo,jS.zo,iC.zo,xW.zo,Wa _,kH,kH,kH,kH,qZ.zo,wN.zo,I_n.zo⟩)
  obtain⟨rb,hrb⟩:∃x:Rule,(⟨name,zones,exc,start,stop,bM,vary,3,PE,Dd,uses,other,n⟩:Rule)=x:=⟨_,rfl⟩;rw[hrb]at HX;have aD:=aa (show res=((([uses,other].all (inB 0 5))&&([n].all (inB 0 1048576)))&&jI ra rb)by rw[<-hres,<-hra,<-hrb];simp[jq,HPR.zo,okR,Eb]);clear hrb hra hres;rcases hst with rfl|⟨s1,s0,s2⟩;all_goals rcases cu2 ([uses,other].all (inB 0 5)) ([n].all (inB 0 1048576))with r0|⟨r0,r1⟩|⟨r0,r1⟩
  all_goals
   have R0:=aa r0;try have R1:=aa r1
   clear r0;try clear r1
   go_enter func59,ntmps59;go_wp2_with (first|((with_reducible refine(dR false _ _ _ zones _ (HG.zo.exts ae) (fj.zo.exts ae)).mono ?_);rintro e w' ⟨rfl,x1,rfl⟩;rw[Q0.zo])|((with_reducible refine(dR false _ _ _ exc _ (HG.zo.exts ae) (qY.zo.exts ae)).mono ?_);rintro e w' ⟨rfl,x2,rfl⟩;rw[Q1.zo])|((with_reducible refine ag (eG 0 1073741824 _ 3 3 SG _ ?_) ?_);exact za.zo▸jJ iB.zo iC.zo jS.zo (by simp[go_sem]) (by simp[go_sem]) (by simp[go_sem]);rintro e w' ⟨rfl,x7,rfl⟩;rw[Q2.zo])|((with_reducible refine ag (eG 0 5 _ 2 2 [uses,other] _ ?_) ?_);exact Ad qZ.zo wN.zo (by simp[go_sem]) (by simp[go_sem]);rintro e w' ⟨rfl,x7,rfl⟩;rw[R0.zo])|((with_reducible refine ag (eG 0 1048576 _ 1 1 [n] _ ?_) ?_);exact sN I_n.zo (by simp[go_sem]);rintro e w' ⟨rfl,x7,rfl⟩;rw[R1.zo])|((with_reducible refine ag (iy ra rb _ _ _ ?_ ?_) ?_);exact(aw).exts HRR.zo ae;exact(aw).exts HX.zo ae;rintro e w' ⟨rfl,x6,rfl⟩))
   go_region;all_goals go_wp2_with (first|((with_reducible refine(dR false _ _ _ zones _ (HG.zo.exts ae) (fj.zo.exts ae)).mono ?_);rintro e w' ⟨rfl,x1,rfl⟩;rw[Q0.zo])|((with_reducible refine(dR false _ _ _ exc _ (HG.zo.exts ae) (qY.zo.exts ae)).mono ?_);rintro e w' ⟨rfl,x2,rfl⟩;rw[Q1.zo])|((with_reducible refine ag (eG 0 1073741824 _ 3 3 SG _ ?_) ?_);exact za.zo▸jJ iB.zo iC.zo jS.zo (by simp[go_sem]) (by simp[go_sem]) (by simp[go_sem]);rintro e w' ⟨rfl,x7,rfl⟩;rw[Q2.zo])|((with_reducible refine ag (eG 0 5 _ 2 2 [uses,other] _ ?_) ?_);exact Ad qZ.zo wN.zo (by simp[go_sem]) (by simp[go_sem]);rintro e w' ⟨rfl,x7,rfl⟩;rw[R0.zo])|((with_reducible refine ag (eG 0 1048576 _ 1 1 [n] _ ?_) ?_);exact sN I_n.zo (by simp[go_sem]);rintro e w' ⟨rfl,x7,rfl⟩;rw[R1.zo])|((with_reducible refine ag (iy ra rb _ _ _ ?_ ?_) ?_);exact(aw).exts HRR.zo ae;exact(aw).exts HX.zo ae;rintro e w' ⟨rfl,x6,rfl⟩))
   all_goals go_ret
   all_goals exact⟨by rw[aD.zo,R0.zo];first|rfl|(rw[R1.zo];rfl),ae⟩
 ·have hf:res=false:=by rw[<-hres];simp[jq,okR,hk]
  rw[hf];have k0:(kind==0)=false:=by simp[hk]
  have k1:(kind==1)=false:=by simp[hk]
  have k2:(kind==2)=false:=by simp[hk]
  have k3:(kind==3)=false:=by simp[hk]
  clear hk hf hra hres;rcases hst with rfl|⟨s1,s0,s2⟩;all_goals go_enter func59,ntmps59
  all_goals go_wp2_with (first|((with_reducible refine(dR false _ _ _ zones _ (HG.zo.exts ae) (fj.zo.exts ae)).mono ?_);rintro e w' ⟨rfl,x1,rfl⟩;rw[Q0.zo])|((with_reducible refine(dR false _ _ _ exc _ (HG.zo.exts ae) (qY.zo.exts ae)).mono ?_);rintro e w' ⟨rfl,x2,rfl⟩;rw[Q1.zo])|((with_reducible refine ag (eG 0 1073741824 _ 3 3 SG _ ?_) ?_);exact za.zo▸jJ iB.zo iC.zo jS.zo (by simp[go_sem]) (by simp[go_sem]) (by simp[go_sem]);rintro e w' ⟨rfl,x7,rfl⟩;rw[Q2.zo])|((with_reducible refine ag (iy ra rb _ _ _ ?_ ?_) ?_);exact(aw).exts HRR.zo ae;exact(aw).exts HX.zo ae;rintro e w' ⟨rfl,x6,rfl⟩))
  all_goals go_ret
  all_goals exact⟨rfl,ae⟩
theorem ID(r:Rule)(cs:zv)(w:World)(hg:Gl w)(h:(aw).R w cs r):Calls prog 59 #[.agg cs.toArray] w (cX (.bool (jq r)) w):=by
 cases hp:Kz r with
 |false=>
  have e0:jq r=false:=by simp[jq,hp]
  rw[e0];exact zO r cs w hg h hp
 |true=>exact BL _ _ _ _ _ _ _ _ _ _ _ _ _ cs w hg h hp
end Go.Proofs.YtomgpelfmgkknaaGreatDoor
