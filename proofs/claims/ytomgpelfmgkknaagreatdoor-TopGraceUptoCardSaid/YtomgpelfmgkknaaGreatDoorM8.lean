/- Lemmas for the law. No conditions. -/
import Derived.Test.YtomgpelfmgkknaaGreatDoorM7
import Derived.Laws.ResultCell
import Derived.BigRegion
namespace Go.Proofs.YtomgpelfmgkknaaGreatDoor
open Go.RowKit Go.Maps
open Go.Proofs.Tryz
set_option maxRecDepth 100000
set_option maxHeartbeats 40000000
set_option linter.unusedVariables false
set_option linter.unusedSimpArgs false
theorem XN(w:World):(zeroValue 3).run prog w=.ok (.int .i64 0) w:=by kernel_rfl
theorem XO{a:Int}(h:I64 a):(Lit.int .i64 a).wf=true:=by
 unfold I64 at h;show(decide _&&decide _)=true;rw[Bool.and_eq_true];exact⟨zdt h.1,zdt h.2⟩
def si(w:World)(k:TypeId)(b n:Nat)(f:Lit->Int):Prop:= ∃D:DataW Unit,w.ownsMap prog k (plainElem prog 3) b n D/\∀l,D.atKey l (.lit (.int .i64 0))=.lit (.int .i64 (f l))
open Classical in
noncomputable def MR(f:Lit->Int)(kl:Lit)(x:Int):Lit->Int:=fun l=>if l=kl then x else f l
theorem Dw(f:Lit->Int)(kl:Lit)(x:Int):MR f kl x kl=x:=by simp[MR]
theorem Aw(f:Lit->Int){kl l:Lit}(x:Int)(h:l≠kl):MR f kl x l=f l:=by simp[MR,h]
theorem si.made(w:World)(k:TypeId):si (w.alloc (.map #[] 0)) k w.heap.size 0 fun _=>0:=⟨_,World.ownsMap_made _ _ _ _,fun l=>rfl⟩
theorem si.kept{w w':World}{k:TypeId}{b n:Nat}{f:Lit->Int}{row:Option Nat}(h:si w k b n f)(hg:w.grownBy w' row)(hne:some b≠row):si w' k b n f:=by
 obtain⟨D,h1,h2⟩:=h;exact⟨D,h1.kept hg hne,h2⟩
theorem si.exts{w w':World}{k:TypeId}{b n:Nat}{f:Lit->Int}(h:si w k b n f)(he:af w w'):si w' k b n f:=h.kept (er he none) (by simp)
theorem si.look{w:World}{k t b n:Nat}{f:Lit->Int}{key:Value}{kl:Lit}(h:si w k b n f)(K:Keyed prog k)(ht:prog.underlying t=some (.map k 3))(hkey:keyOf prog k key=some kl):(Instr.lookup t (.map (some b)) key false).run prog w=.ok (.int .i64 (f kl)) w:=by
 obtain⟨D,h1,h2⟩:=h;obtain⟨v,ps,hrun,hv⟩:=h1.lookup K ht (XN w) (plainElem_int underlying3 (by decide)) hkey;obtain⟨x,rfl,hx,_⟩:=plainElem_int_inv underlying3 hv;rw[hrun];have:=h2 kl;simp only[Prod.mk.injEq]at hx;rw[hx.1]at this;cases this;rfl
theorem si.put{w:World}{k t b n:Nat}{f:Lit->Int}{key:Value}{kl:Lit}(h:si w k b n f)(K:Keyed prog k)(ht:prog.underlying t=some (.map k 3))(hn:n<maxLen)(hkey:keyOf prog k key=some kl)(hk:WideAt.IsKeyLit kl)(x:Int)(hx:I64 x):∃w',(Instr.mapUpdate t (.map (some b)) key (.int .i64 x)).run prog w=.ok () w'/\si w' k b (n+1) (MR f kl x)/\w.grownBy w' (some b):=by
 obtain⟨D,h1,h2⟩:=h;obtain⟨w',r1,r2,r3⟩:=h1.update K ht hn hkey (plainElem_int underlying3 (XO hx));refine⟨w',r1,⟨_,r2,fun l=> ?_⟩,r3⟩;by_cases hl:l=kl
 ·subst hl
  rw[Dw];exact atKey_put_same h1.isMap hk _ _
 ·rw[Aw f x hl,atKey_put_other hl]
  exact h2 l
structure Ctx where
 p:Plan
 k:ByteArray->Int
 zones:List ByteArray
def GU(w:World)(cs:zv)(c:Ctx):Prop:= ∃(pc:zv)(b n:Nat)(f:Lit->Int)(zo:Option Addr)(zc:Nat),cs=pc++ [.map (some b),.slice zo c.zones.length zc]/\LB w pc c.p/\si w 9 b n f/\(∀s:ByteArray,gS s->f (.string s.data.toList)=c.k s)/\Sl fC w zo c.zones.length zc c.zones
theorem GU.exts{w w':World}{cs:zv}{c:Ctx}(h:GU w cs c)(he:af w w'):GU w' cs c:=by
 obtain⟨pc,b,n,f,zo,zc,rfl,h1,h2,h3,h4⟩:=h;exact⟨pc,b,n,f,zo,zc,rfl,(bq).exts h1 he,h2.exts he,h3,h4.exts he⟩
instance aeu:iq 267 10:=⟨⟨_,underlying267,rfl⟩,by kernel_rfl⟩
abbrev Y7{w:World}{b o:Nat}{cs:zv}:= @xA 267 10 _ w b o cs
theorem oq{T:Type}(p:T->Bool)(l:List T):(nZ p l= -1/\l.find? p=none)∨∃(k:Nat)(d:T),nZ p l=k/\l[k]?=some d/\l.find? p=some d:=by
 unfold nZ;cases h:l.findIdx? p with
 |none=>exact .inl ⟨rfl,by rw[List.find?_eq_none];rw[List.findIdx?_eq_none_iff]at h;intro x hx;simp[h x hx]⟩
 |some k=>
  refine .inr ⟨k,?_⟩;obtain⟨hk,hp,hn⟩:=List.findIdx?_eq_some_iff_getElem.1 h;refine⟨l[k],rfl,fZ hk,?_⟩;rw[List.find?_eq_some_iff_getElem];exact⟨hp,k,hk,rfl,fun j hj=>by simpa using hn j hj⟩
def Ay(p:Plan)(e:Xp):Int:=
 match p.tables.find? (fun t=>t.name.toList==e.str.toList)with
 |none=>0
 |some t=>
  match t.rows.find? (fun r=>r.name.toList==e.key.toList)with
  |some r=>r.n
  |none=>t.els
theorem Qd(d:xz)(s:ByteArray)(bp:Nat)(cs:zv)(w:World)(h:(nB).R w cs d)(c0:w.cell? ⟨bp,2,none⟩=some (.string s)):Calls prog 306 (#[.agg cs.toArray]++ #[.pointer (some ⟨bp,0,none⟩)]) w (cX (.bool (d.name.toList==s.toList)) w):=by
 obtain⟨o1,c1,rfl,_⟩:=h;have lb:=bP c0;show Calls prog 306 #[.agg #[.string d.name,.slice o1 d.rows.length c1,.int .i64 d.els],.pointer (some ⟨bp,0,none⟩)] w _;go_enter func306,ntmps306;go_wp2;go_ret;exact⟨rfl,ae⟩
theorem xE:Enters 306:=fun a w=>by rfl
theorem XP(d:Entry)(s:ByteArray)(bp:Nat)(cs:zv)(w:World)(h:(eY).R w cs d)(c0:w.cell? ⟨bp,3,none⟩=some (.string s)):Calls prog 307 (#[.agg cs.toArray]++ #[.pointer (some ⟨bp,0,none⟩)]) w (cX (.bool (d.name.toList==s.toList)) w):=by
 obtain⟨rfl,_⟩:=h;have lb:=bP c0;show Calls prog 307 #[.agg #[.string d.name,.int .i64 d.n],.pointer (some ⟨bp,0,none⟩)] w _;go_enter func307,ntmps307;go_wp2;go_ret;exact⟨rfl,ae⟩
theorem Dx:Enters 307:=fun a w=>by rfl
theorem Y8(c:Ctx)(e:Xp)(cs es:zv)(w:World)(h:GU w cs c)(he:(j7).R w es e):Calls prog 244 #[.agg cs.toArray,.agg es.toArray] w (cX (.int .i64 (Ay c.p e)) w):=by
 obtain⟨p,kf,zs⟩:=c;obtain⟨pc,b,n,f,zo,zc,rfl,hp,hm,hf,hz⟩:=h;obtain⟨eo,ec,rfl,hv⟩:=he.opened;obtain⟨o1,c1,o2,c2,o3,c3,o4,c4,o5,c5,o6,c6,o7,c7,rfl,q1,q2,q3⟩:=hp;have HT:=aa q2;have hnt:=q2.nle;unfold maxLen at hnt;clear q1 q2 q3 hm hf hz he hv;dsimp only at*
 show Calls prog 244 #[.agg #[.slice o1 p.defs.length c1,.slice o2 p.tables.length c2,.slice o3 p.zones.length c3,.slice o4 p.rules.length c4,.slice o5 p.caps.length c5,.slice o6 p.views.length c6,.slice o7 p.eA.length c7,.int .i64 p.hours,.map (some b),.slice zo zs.length zc],.agg #[.int .i64 e.op,.int .i64 e.num,.string e.str,.string e.key,.slice eo e.args.length ec]] w _;obtain⟨res,hres⟩:∃r,Ay p e=r:=⟨_,rfl⟩;rw[hres];have aD:=aa hres;clear hres;rcases oq (fun t:xz=>t.name.toList==e.str.toList) p.tables with⟨i1,f1⟩|⟨k,t,i1,ht,f1⟩
 ·have HF:=aa (show res=0 by rw[<-aD.zo];unfold Ay;rw[f1])
  have I1:=aa i1;clear f1 i1;go_enter func244,ntmps244;go_wp2_with ((with_reducible refine ag (Ax 306 #[.pointer (some ⟨w.heap.size+1,0,none⟩)] (fun t:xz=>t.name.toList==e.str.toList) _ _ _ p.tables _ xE ?_ ?_) ?_);exact HT.zo.exts ae;exact(fun w' i d cs' hx _ hR=>Qd d e.str (w.heap.size+1) cs' w' hR (af.cell hx (by simp[go_sem])));rw[I1.zo];rintro z w' ⟨rfl,x9,rfl⟩)
  go_ret;rw[HF.zo];exact⟨rfl,ae⟩
 ·obtain⟨bt,off,cst,rfl,acp,hR,hld⟩:=HT.zo.ld ht
  obtain⟨ro,rc,rfl,qs,qr,qe⟩:=hR;have HRW:=aa qr;have hnr:=qr.nle;unfold maxLen at hnr;have kb:k<p.tables.length:=(bw ht).1;have I1:=aa i1;have hb2:decide ((k:Int)<0)=false:=by simp
  have hb3: ¬((k:Int)<0):=by omega
  rcases oq (fun r:Entry=>r.name.toList==e.key.toList) t.rows with⟨i2,f2⟩|⟨k2,r,i2,hr,f2⟩
  ·have HF:=aa (show res=t.els by rw[<-aD.zo];unfold Ay;rw[f1];simp only;rw[f2])
   have I2:=aa i2;clear f1 i1 f2 i2 ht qr qs qe;go_enter func244,ntmps244;go_wp2_with (first|((with_reducible refine ag (Ax 306 #[.pointer (some ⟨w.heap.size+1,0,none⟩)] (fun t:xz=>t.name.toList==e.str.toList) _ _ _ p.tables _ xE ?_ ?_) ?_);exact HT.zo.exts ae;exact(fun w' i d cs' hx _ hR=>Qd d e.str (w.heap.size+1) cs' w' hR (af.cell hx (by simp[go_sem])));rw[I1.zo];rintro z w' ⟨rfl,x9,rfl⟩)|((with_reducible refine ag (vZ 307 #[.pointer (some ⟨w.heap.size+1,0,none⟩)] (fun r:Entry=>r.name.toList==e.key.toList) _ _ _ t.rows _ Dx ?_ ?_) ?_);exact HRW.zo.exts ae;exact(fun w' i d cs' hx _ hR=>XP d e.key (w.heap.size+1) cs' w' hR (af.cell hx (by simp[go_sem])));rw[I2.zo];rintro z w' ⟨rfl,x8,rfl⟩))
   go_ret;rw[HF.zo];exact⟨rfl,ae⟩
  ·have HF:=aa (show res=r.n by rw[<-aD.zo];unfold Ay;rw[f1];simp only;rw[f2])
   obtain⟨br,Vg,rfl,Y9,c0r,c1r,_,_⟩:=xy HRW.zo hr;have kb2:k2<t.rows.length:=(bw hr).1;have I2:=aa i2;clear f1 i1 f2 i2 ht qr qs qe hr;go_enter func244,ntmps244;go_wp2_with (first|((with_reducible refine ag (Ax 306 #[.pointer (some ⟨w.heap.size+1,0,none⟩)] (fun t:xz=>t.name.toList==e.str.toList) _ _ _ p.tables _ xE ?_ ?_) ?_);exact HT.zo.exts ae;exact(fun w' i d cs' hx _ hR=>Qd d e.str (w.heap.size+1) cs' w' hR (af.cell hx (by simp[go_sem])));rw[I1.zo];rintro z w' ⟨rfl,x9,rfl⟩)|((with_reducible refine ag (vZ 307 #[.pointer (some ⟨w.heap.size+1,0,none⟩)] (fun r:Entry=>r.name.toList==e.key.toList) _ _ _ t.rows _ Dx ?_ ?_) ?_);exact HRW.zo.exts ae;exact(fun w' i d cs' hx _ hR=>XP d e.key (w.heap.size+1) cs' w' hR (af.cell hx (by simp[go_sem])));rw[I2.zo];rintro z w' ⟨rfl,x8,rfl⟩))
   go_ret;rw[HF.zo];exact⟨rfl,ae⟩
def Ps{T:Type}(L:Lay T):Lay (List T):=⟨1,fun w cs d=> ∃ao c,cs= [.slice ao d.length c]/\Sl L w ao d.length c d,fun h=>by obtain⟨ao,c,rfl,_⟩:=h;rfl,fun h he=>by obtain⟨ao,c,rfl,h⟩:=h;exact⟨ao,c,rfl,h.exts he⟩,fun h=>by obtain⟨ao,c,rfl,_⟩:=h;simp[Value.oneCell']⟩
theorem xJ{T:Type}{L:Lay T}{w:World}{ao:Option Addr}{n c:Nat}{l:List (List T)}(h:Sl (Ps L) w ao n c l){i:Nat}{d:List T}(hd:l[i]?=some d):∃b off o' c',ao=some ⟨b,off,none⟩/\b<w.heap.size/\w.cell? ⟨b,off+i,none⟩=some (.slice o' d.length c')/\Sl L w o' d.length c' d:=by
 obtain⟨b,off,cs,rfl,hb,⟨o',c',rfl,hs⟩,hc⟩:=h.at hd;have c0:=hc 0 _ rfl;exact⟨b,off,o',c',rfl,hb,by simpa[Ps]using c0,hs⟩
theorem wy{T:Type}{l:List (List T)}{k:Nat}{d:List T}(h:l[k]?=some d):(l.take (k+1)).flatten=(l.take k).flatten++d:=by
 rw[List.take_add_one,h,List.flatten_append];simp
theorem pz{T:Type}{l:List (List T)}{k:Nat}:(l.take k).flatten.length<=l.flatten.length:=by
 have:l.flatten=(l.take k).flatten++(l.drop k).flatten:=by rw[<-List.flatten_append,List.take_append_drop]
 rw[this,dG];omega
theorem Vu(N:Nat)(w:World)(hN:N<=1000000):Calls prog 341 #[.slice none 0 0,.int .i64 N] w fun e w'=> ∃ao c,e=.returned (.slice ao 0 c)/\af w w'/\w'.ownsRow w.heap.size 74 4 (.slice ao 0 c) 0 []:=by
 obtain⟨i0,hi,hz0,hz1,hz2⟩:=info_parts wk;by_cases h0:N=0
 ·subst h0
  go_enter func341,ntmps341;go_wp2;go_ret;exact⟨_,_,rfl,ae,World.ownsRow_nil _ _ _ _⟩
 ·have h1:decide ((N:Int)<0)=false:=jE (by omega)
  have h2:decide ((0:Int)<N)=true:=zdt (by omega);have hle:=grownCap_le_maxLen w N 0 74 (by unfold maxLen;omega);have hb:Tryz.t74.bytes=32:=by kernel_rfl
  have hc:Builtin.nextslicecap N 0=N:=by unfold Builtin.nextslicecap;simp;omega
  have p1: ¬((281474976710656:Int)<(N:Int)*32):=by omega
  have p2: ¬(281474976710656<N*32):=by omega
  have p3: ¬(N*4=0):=by omega
  go_enter func341,ntmps341;go_wp2;clear hb hc p1 p2 p3;refine bodyPost_ret (v:=.slice (some ⟨w.heap.size,0,none⟩) 0 (grownCap w N 0 74)) (by simp[results,go_sem];rfl) rfl ⟨_,_,rfl,ae,?_⟩;refine eX (World.ownsRow_made w _ _ (Nat.le_refl _) hle ?_) ae;have hge:=grownCap_ge w N 0 74;change N<=(Question.appendCap N 0 74).cut _ at hge;simp[Builtin.zeroCells];unfold grownCap;omega
theorem Nd(ao:Option Addr)(n c:Nat)(ls:List (List Rc))(w:World)(h:Sl (Ps je) w ao n c ls)(hb:ls.flatten.length<=100000):Calls prog 317 #[.slice ao n c] w fun e w'=> ∃ao' c',e=.returned (.slice ao' ls.flatten.length c')/\af w w'/\aq je w.heap.size 74 w' (.slice ao' ls.flatten.length c') ls.flatten:=by
 obtain⟨i0,hi,hz0,hz1,hz2⟩:=info_parts wk;have H:=aa h;have HL:=aa h.1;have hm:=h.nle;unfold maxLen at hm;have hpre:∀k,(ls.take k).flatten.length<=100000:=fun k=>Nat.le_trans pz hb
 have Qr:=aa hpre;clear h hpre;go_enter func317,ntmps317;go_wp2;go_loopw [3,11] (fun s i wr=> ∃(k:Nat),k<=n/\i=.int .i64 k/\s=.int .i64 ((ls.take k).flatten.length:Nat)/\wr=w) (fun _ i _=>n - (intOf i).toNat)
 case atStart=>exact⟨0,by omega,rfl,rfl,rfl⟩
 case round=>
  obtain⟨k,hk,rfl,rfl,hwr⟩:=hrel;obtain rfl:w=wr:=hwr.symm;have hp:=Qr.zo k;by_cases hlt:k<n
  ·obtain⟨d,hd⟩:=H.zo.ex hlt
   obtain⟨b,off,o',c',rfl,lb,c0,hs⟩:=xJ H.zo hd;have e1:=wy hd;have hp2:=Qr.zo (k+1);rw[e1,dG]at hp2;have HE:=aa e1;obtain⟨m,hm2⟩:∃m,(ls.take k).flatten.length=m:=⟨_,rfl⟩;have HM:=aa hm2;rw[hm2]at hp hp2 ⊢;have q1: ¬((m:Int)+(d.length:Int)<0):=by omega
   have q2:decide ((m:Int)+(d.length:Int)<0)=false:=jE q1;clear hd hs e1 hm2;go_wp2;refine⟨⟨k+1,by omega,by go_num,?_,trivial⟩,?_⟩
   ·rw[HE.zo,dG,HM.zo]
    go_num
   ·simp[intOf];omega
  ·obtain rfl:n=k:=by omega
   have e1:ls.take n=ls:=dQ (by rw[HL.zo];exact Nat.le_refl _);rw[e1]at hp ⊢;obtain⟨m,hm2⟩:∃m,ls.flatten.length=m:=⟨_,rfl⟩;have HM:=aa hm2;rw[hm2]at hp ⊢;clear e1 hm2;go_wp2_with ((with_reducible refine ag (Vu m _ (by omega)) ?_);rintro e w' ⟨go,gc,rfl,hx,ho⟩;(have HO:=aa ho);(have HX:=aa hx);clear ho hx)
   have HM0:=aa (show∀k,(ls.take k).flatten.length<=m from fun k=>by rw[<-HM.zo];exact pz);go_loopw [6,27] (fun s i wr=> ∃(k:Nat)(oo:Option Addr)(oc:Nat),k<=n/\i=.int .i64 k/\s=.slice oo (ls.take k).flatten.length oc/\af w wr/\aq je w.heap.size 74 wr (.slice oo (ls.take k).flatten.length oc) (ls.take k).flatten) (fun _ i _=>n - (intOf i).toNat)
   case atStart=>exact⟨0,go,gc,by omega,rfl,rfl,HX.zo,⟨[],HO.zo,fun i d hd=>by simp at hd⟩⟩
   case round=>
    obtain⟨k,oo,oc,hk,rfl,rfl,hx,ho⟩:=hrel;have HX:=aa hx;by_cases hlt:k<n
    ·obtain⟨d,hd⟩:=H.zo.ex hlt
     obtain⟨b,off,o',c',rfl,JJ,c00,hs⟩:=xJ H.zo hd;have c0:=af.cell HX.zo c00;have lb:=bP c0;have e1:=wy hd;have hp2:=HM0.zo (k+1);rw[e1,dG]at hp2;have HE:=aa e1;obtain⟨ys,y1,y2,y3⟩:=hs.ones;obtain⟨xs,ho1,ho2⟩:=ho;have lv:=aa ho1;have jY:=aa ho2;have Zc:=aa y1;have Zd:=aa y2;have Ze:=aa y3;have hsz:w.heap.size<=wr.heap.size:=HX.zo.below.size;obtain⟨A,hA⟩:∃A,(ls.take k).flatten=A:=⟨_,rfl⟩;rw[hA]at lv jY HE hp2 ⊢;clear hd hs e1 ho1 ho2 y1 y2 y3 hx hA JJ c00;go_wp2_with (at_builtin;refine jU rfl _ _ 75 rfl w.heap.size 74 i0 _ 4 32 underlying75 hi hz0 hz1 hz2 rfl (by decide) _ A.length xs rfl (eX lv.zo ae) o' d.length c' ys rfl (Zc.zo.exts (HX.zo.trans ae)) Ze.zo (by unfold maxLen;omega) (by omega) (by(try simp)<;>omega) ?_;intro ao' c' w1 hown hgrow)
     have e2:A.length+d.length=(A++d).length:=dG.symm;have gm:=aF (W:=w) (HX.zo.trans ae) hgrow (fun b hb=>by have:=cm lv.zo b hb;simpa using this);refine⟨⟨k+1,ao',c',by omega,by go_num,by rw[HE.zo,e2],gm,?_⟩,?_⟩
     ·rw[HE.zo,<-e2]
      exact aq.app hown lv.zo.1 (fun i z hz=>jY.zo i z hz) (fun i z hz=>(je).exts (Zd.zo i z hz) gm)
     ·simp[intOf];omega
    ·obtain rfl:n=k:=by omega
     have e1:ls.take n=ls:=dQ (by rw[HL.zo];exact Nat.le_refl _);rw[e1]at ho ⊢;have HO:=aa ho;clear hx ho e1;go_wp2;go_ret;exact⟨_,_,rfl,HX.zo.trans ae,HO.zo.exts ae⟩
theorem Vv(N:Nat)(w:World)(hN:N<=1000000):Calls prog 349 #[.slice none 0 0,.int .i64 N] w fun e w'=> ∃ao c,e=.returned (.slice ao 0 c)/\af w w'/\w'.ownsRow w.heap.size 406 2 (.slice ao 0 c) 0 []:=by
 obtain⟨i0,hi,hz0,hz1,hz2⟩:=info_parts tI;by_cases h0:N=0
 ·subst h0
  go_enter func349,ntmps349;go_wp2;go_ret;exact⟨_,_,rfl,ae,World.ownsRow_nil _ _ _ _⟩
 ·have h1:decide ((N:Int)<0)=false:=jE (by omega)
  have h2:decide ((0:Int)<N)=true:=zdt (by omega);have hle:=grownCap_le_maxLen w N 0 406 (by unfold maxLen;omega);have hb:Tryz.t406.bytes=16:=by kernel_rfl
  have hc:Builtin.nextslicecap N 0=N:=by unfold Builtin.nextslicecap;simp;omega
  have p1: ¬((281474976710656:Int)<(N:Int)*16):=by omega
  have p2: ¬(281474976710656<N*16):=by omega
  have p3: ¬(N*2=0):=by omega
  go_enter func349,ntmps349;go_wp2;clear hb hc p1 p2 p3;refine bodyPost_ret (v:=.slice (some ⟨w.heap.size,0,none⟩) 0 (grownCap w N 0 406)) (by simp[results,go_sem];rfl) rfl ⟨_,_,rfl,ae,?_⟩;refine eX (World.ownsRow_made w _ _ (Nat.le_refl _) hle ?_) ae;have hge:=grownCap_ge w N 0 406;change N<=(Question.appendCap N 0 406).cut _ at hge;simp[Builtin.zeroCells];unfold grownCap;omega
theorem Nf(ao:Option Addr)(n c:Nat)(ls:List (List Span))(w:World)(h:Sl (Ps eQ) w ao n c ls)(hb:ls.flatten.length<=100000):Calls prog 323 #[.slice ao n c] w fun e w'=> ∃ao' c',e=.returned (.slice ao' ls.flatten.length c')/\af w w'/\aq eQ w.heap.size 406 w' (.slice ao' ls.flatten.length c') ls.flatten:=by
 obtain⟨i0,hi,hz0,hz1,hz2⟩:=info_parts tI;have H:=aa h;have HL:=aa h.1;have hm:=h.nle;unfold maxLen at hm;have hpre:∀k,(ls.take k).flatten.length<=100000:=fun k=>Nat.le_trans pz hb
 have Qr:=aa hpre;clear h hpre;go_enter func323,ntmps323;go_wp2;go_loopw [3,11] (fun s i wr=> ∃(k:Nat),k<=n/\i=.int .i64 k/\s=.int .i64 ((ls.take k).flatten.length:Nat)/\wr=w) (fun _ i _=>n - (intOf i).toNat)
 case atStart=>exact⟨0,by omega,rfl,rfl,rfl⟩
 case round=>
  obtain⟨k,hk,rfl,rfl,hwr⟩:=hrel;obtain rfl:w=wr:=hwr.symm;have hp:=Qr.zo k;by_cases hlt:k<n
  ·obtain⟨d,hd⟩:=H.zo.ex hlt
   obtain⟨b,off,o',c',rfl,lb,c0,hs⟩:=xJ H.zo hd;have e1:=wy hd;have hp2:=Qr.zo (k+1);rw[e1,dG]at hp2;have HE:=aa e1;obtain⟨m,hm2⟩:∃m,(ls.take k).flatten.length=m:=⟨_,rfl⟩;have HM:=aa hm2;rw[hm2]at hp hp2 ⊢;have q1: ¬((m:Int)+(d.length:Int)<0):=by omega
   have q2:decide ((m:Int)+(d.length:Int)<0)=false:=jE q1;clear hd hs e1 hm2;go_wp2;refine⟨⟨k+1,by omega,by go_num,?_,trivial⟩,?_⟩
   ·rw[HE.zo,dG,HM.zo]
    go_num
   ·simp[intOf];omega
  ·obtain rfl:n=k:=by omega
   have e1:ls.take n=ls:=dQ (by rw[HL.zo];exact Nat.le_refl _);rw[e1]at hp ⊢;obtain⟨m,hm2⟩:∃m,ls.flatten.length=m:=⟨_,rfl⟩;have HM:=aa hm2;rw[hm2]at hp ⊢;clear e1 hm2;go_wp2_with ((with_reducible refine ag (Vv m _ (by omega)) ?_);rintro e w' ⟨go,gc,rfl,hx,ho⟩;(have HO:=aa ho);(have HX:=aa hx);clear ho hx)
   have HM0:=aa (show∀k,(ls.take k).flatten.length<=m from fun k=>by rw[<-HM.zo];exact pz);go_loopw [6,27] (fun s i wr=> ∃(k:Nat)(oo:Option Addr)(oc:Nat),k<=n/\i=.int .i64 k/\s=.slice oo (ls.take k).flatten.length oc/\af w wr/\aq eQ w.heap.size 406 wr (.slice oo (ls.take k).flatten.length oc) (ls.take k).flatten) (fun _ i _=>n - (intOf i).toNat)
   case atStart=>exact⟨0,go,gc,by omega,rfl,rfl,HX.zo,⟨[],HO.zo,fun i d hd=>by simp at hd⟩⟩
   case round=>
    obtain⟨k,oo,oc,hk,rfl,rfl,hx,ho⟩:=hrel;have HX:=aa hx;by_cases hlt:k<n
    ·obtain⟨d,hd⟩:=H.zo.ex hlt
     obtain⟨b,off,o',c',rfl,JJ,c00,hs⟩:=xJ H.zo hd;have c0:=af.cell HX.zo c00;have lb:=bP c0;have e1:=wy hd;have hp2:=HM0.zo (k+1);rw[e1,dG]at hp2;have HE:=aa e1;obtain⟨ys,y1,y2,y3⟩:=hs.ones;obtain⟨xs,ho1,ho2⟩:=ho;have lv:=aa ho1;have jY:=aa ho2;have Zc:=aa y1;have Zd:=aa y2;have Ze:=aa y3;have hsz:w.heap.size<=wr.heap.size:=HX.zo.below.size;obtain⟨A,hA⟩:∃A,(ls.take k).flatten=A:=⟨_,rfl⟩;rw[hA]at lv jY HE hp2 ⊢;clear hd hs e1 ho1 ho2 y1 y2 y3 hx hA JJ c00;go_wp2_with (at_builtin;refine jU rfl _ _ 387 rfl w.heap.size 406 i0 _ 2 16 underlying387 hi hz0 hz1 hz2 rfl (by decide) _ A.length xs rfl (eX lv.zo ae) o' d.length c' ys rfl (Zc.zo.exts (HX.zo.trans ae)) Ze.zo (by unfold maxLen;omega) (by omega) (by(try simp)<;>omega) ?_;intro ao' c' w1 hown hgrow)
     have e2:A.length+d.length=(A++d).length:=dG.symm;have gm:=aF (W:=w) (HX.zo.trans ae) hgrow (fun b hb=>by have:=cm lv.zo b hb;simpa using this);refine⟨⟨k+1,ao',c',by omega,by go_num,by rw[HE.zo,e2],gm,?_⟩,?_⟩
     ·rw[HE.zo,<-e2]
      exact aq.app hown lv.zo.1 (fun i z hz=>jY.zo i z hz) (fun i z hz=>(eQ).exts (Zd.zo i z hz) gm)
     ·simp[intOf];omega
    ·obtain rfl:n=k:=by omega
     have e1:ls.take n=ls:=dQ (by rw[HL.zo];exact Nat.le_refl _);rw[e1]at ho ⊢;have HO:=aa ho;clear hx ho e1;go_wp2;go_ret;exact⟨_,_,rfl,HX.zo.trans ae,HO.zo.exts ae⟩
def nM(zs:List ByteArray)(d:ByteArray):Bool:=zs.any (pN d)
theorem ZB(zs:List ByteArray)(d:ByteArray)(bb:Nat)(zo:Option Addr)(m zc:Nat)(w:World)(h:Sl fC w zo m zc zs)(c0:w.cell? ⟨bb,0,none⟩=some (.slice zo m zc)):Calls prog 158 (#[.string d]++ #[.pointer (some ⟨bb,0,none⟩)]) w (cX (.bool (nM zs d)) w):=by
 have lb:=bP c0;have H:=aa h;clear h;show Calls prog 158 #[.string d,.pointer (some ⟨bb,0,none⟩)] w _;go_enter func158,ntmps158;go_wp2_with ((with_reducible refine ag (pE d _ _ _ zs _ ?_) ?_);exact H.zo.exts ae;rintro e w' ⟨rfl,x9,rfl⟩)
 go_ret;exact⟨rfl,ae⟩
theorem fT:Enters 158:=fun a w=>by rfl
def jD(r:Rule)(zs:List ByteArray):Bool:=(decide (r.zones.length=0)||r.zones.any (nM zs))&& !(r.exc.any (nM zs))
theorem oH(r:Rule)(cs:zv)(zs:List ByteArray)(zo:Option Addr)(m zc:Nat)(w:World)(h:(aw).R w cs r)(hz:Sl fC w zo m zc zs):Calls prog 76 #[.agg cs.toArray,.slice zo m zc] w (cX (.bool (jD r zs)) w):=by
 obtain⟨o1,c1,o2,c2,o3,c3,rfl,q0,q1,q2,q3,q4,q5,q6,q7,q8,q9,q10,q11,q12,q13,pV⟩:=h;have H1:=aa q1;have H2:=aa q2;have HZ:=aa hz;have n1:=q1.nle;unfold maxLen at n1;clear q0 q1 q2 q3 q4 q5 q6 q7 q8 q9 q10 q11 q12 q13 pV hz;obtain⟨res,hres⟩:∃x,jD r zs=x:=⟨_,rfl⟩;rw[hres];have aD:=aa hres;clear hres;have HF:=aa (show∀(W:World)(bb:Nat),Sl fC W zo m zc zs->W.cell? ⟨bb,0,none⟩=some (.slice zo m zc)->∀(l:List ByteArray)(w':World)(i:Nat)(d:ByteArray)(cs:zv),af W w'->l[i]?=some d->(fC).R w' cs d->Calls prog 158 (#[.string d]++ #[.pointer (some ⟨bb,0,none⟩)]) w' fun e w''=>e=.returned (.bool (nM zs d))/\af w' w'' from fun W bb hs hc l w' i d cs he _ _=>ZB zs d bb zo m zc w' (hs.exts he) (af.cell he hc));by_cases a0:r.zones.length=0
 ·cases a1:r.zones.any (nM zs)<;>cases a2:r.exc.any (nM zs)
  ·have HQ:=aa (show res=true by rw[<-aD.zo];unfold jD;rw[a1,a2,zdt a0];rfl)
   have A1:=aa a1;have A2:=aa a2;have b1:((r.zones.length:Int)==0)=true:=by rw[a0];rfl
   clear a1 a2;have b2:r.zones= []:=List.length_eq_zero_iff.1 a0;clear b2;go_enter func76,ntmps76;go_wp2_with (first|((with_reducible refine ag (eB 158 #[.pointer (some ⟨w.heap.size+1,0,none⟩)] (nM zs) _ _ _ r.zones _ fT ?_ ?_) ?_);exact H1.zo.exts ae;exact HF.zo _ _ (HZ.zo.exts ae) (by simp[go_sem]) _;rintro e w' ⟨rfl,x9,rfl⟩;rw[A1.zo])|((with_reducible refine ag (eB 158 #[.pointer (some ⟨w.heap.size+1,0,none⟩)] (nM zs) _ _ _ r.exc _ fT ?_ ?_) ?_);exact H2.zo.exts ae;exact HF.zo _ _ (HZ.zo.exts ae) (by simp[go_sem]) _;rintro e w' ⟨rfl,x8,rfl⟩;rw[A2.zo]))
   go_ret;exact⟨by rw[HQ.zo];rfl,ae⟩
  ·have HQ:=aa (show res=false by rw[<-aD.zo];unfold jD;rw[a1,a2,zdt a0];rfl)
   have A1:=aa a1;have A2:=aa a2;have b1:((r.zones.length:Int)==0)=true:=by rw[a0];rfl
   clear a1 a2;have b2:r.zones= []:=List.length_eq_zero_iff.1 a0;clear b2;go_enter func76,ntmps76;go_wp2_with (first|((with_reducible refine ag (eB 158 #[.pointer (some ⟨w.heap.size+1,0,none⟩)] (nM zs) _ _ _ r.zones _ fT ?_ ?_) ?_);exact H1.zo.exts ae;exact HF.zo _ _ (HZ.zo.exts ae) (by simp[go_sem]) _;rintro e w' ⟨rfl,x9,rfl⟩;rw[A1.zo])|((with_reducible refine ag (eB 158 #[.pointer (some ⟨w.heap.size+1,0,none⟩)] (nM zs) _ _ _ r.exc _ fT ?_ ?_) ?_);exact H2.zo.exts ae;exact HF.zo _ _ (HZ.zo.exts ae) (by simp[go_sem]) _;rintro e w' ⟨rfl,x8,rfl⟩;rw[A2.zo]))
   go_ret;exact⟨by rw[HQ.zo];rfl,ae⟩
  ·have HQ:=aa (show res=true by rw[<-aD.zo];unfold jD;rw[a1,a2,zdt a0];rfl)
   have A1:=aa a1;have A2:=aa a2;have b1:((r.zones.length:Int)==0)=true:=by rw[a0];rfl
   clear a1 a2;have b2:r.zones= []:=List.length_eq_zero_iff.1 a0;clear b2;go_enter func76,ntmps76;go_wp2_with (first|((with_reducible refine ag (eB 158 #[.pointer (some ⟨w.heap.size+1,0,none⟩)] (nM zs) _ _ _ r.zones _ fT ?_ ?_) ?_);exact H1.zo.exts ae;exact HF.zo _ _ (HZ.zo.exts ae) (by simp[go_sem]) _;rintro e w' ⟨rfl,x9,rfl⟩;rw[A1.zo])|((with_reducible refine ag (eB 158 #[.pointer (some ⟨w.heap.size+1,0,none⟩)] (nM zs) _ _ _ r.exc _ fT ?_ ?_) ?_);exact H2.zo.exts ae;exact HF.zo _ _ (HZ.zo.exts ae) (by simp[go_sem]) _;rintro e w' ⟨rfl,x8,rfl⟩;rw[A2.zo]))
   go_ret;exact⟨by rw[HQ.zo];rfl,ae⟩
  ·have HQ:=aa (show res=false by rw[<-aD.zo];unfold jD;rw[a1,a2,zdt a0];rfl)
   have A1:=aa a1;have A2:=aa a2;have b1:((r.zones.length:Int)==0)=true:=by rw[a0];rfl
   clear a1 a2;have b2:r.zones= []:=List.length_eq_zero_iff.1 a0;clear b2;go_enter func76,ntmps76;go_wp2_with (first|((with_reducible refine ag (eB 158 #[.pointer (some ⟨w.heap.size+1,0,none⟩)] (nM zs) _ _ _ r.zones _ fT ?_ ?_) ?_);exact H1.zo.exts ae;exact HF.zo _ _ (HZ.zo.exts ae) (by simp[go_sem]) _;rintro e w' ⟨rfl,x9,rfl⟩;rw[A1.zo])|((with_reducible refine ag (eB 158 #[.pointer (some ⟨w.heap.size+1,0,none⟩)] (nM zs) _ _ _ r.exc _ fT ?_ ?_) ?_);exact H2.zo.exts ae;exact HF.zo _ _ (HZ.zo.exts ae) (by simp[go_sem]) _;rintro e w' ⟨rfl,x8,rfl⟩;rw[A2.zo]))
   go_ret;exact⟨by rw[HQ.zo];rfl,ae⟩
 ·cases a1:r.zones.any (nM zs)<;>cases a2:r.exc.any (nM zs)
  ·have HQ:=aa (show res=false by rw[<-aD.zo];unfold jD;rw[a1,a2,jE a0];rfl)
   have A1:=aa a1;have A2:=aa a2;have b1:((r.zones.length:Int)==0)=false:=by rw[beq_eq_false_iff_ne];omega
   clear a1 a2;go_enter func76,ntmps76;go_wp2_with (first|((with_reducible refine ag (eB 158 #[.pointer (some ⟨w.heap.size+1,0,none⟩)] (nM zs) _ _ _ r.zones _ fT ?_ ?_) ?_);exact H1.zo.exts ae;exact HF.zo _ _ (HZ.zo.exts ae) (by simp[go_sem]) _;rintro e w' ⟨rfl,x9,rfl⟩;rw[A1.zo])|((with_reducible refine ag (eB 158 #[.pointer (some ⟨w.heap.size+1,0,none⟩)] (nM zs) _ _ _ r.exc _ fT ?_ ?_) ?_);exact H2.zo.exts ae;exact HF.zo _ _ (HZ.zo.exts ae) (by simp[go_sem]) _;rintro e w' ⟨rfl,x8,rfl⟩;rw[A2.zo]))
   go_ret;exact⟨by rw[HQ.zo];rfl,ae⟩
  ·have HQ:=aa (show res=false by rw[<-aD.zo];unfold jD;rw[a1,a2,jE a0];rfl)
   have A1:=aa a1;have A2:=aa a2;have b1:((r.zones.length:Int)==0)=false:=by rw[beq_eq_false_iff_ne];omega
   clear a1 a2;go_enter func76,ntmps76;go_wp2_with (first|((with_reducible refine ag (eB 158 #[.pointer (some ⟨w.heap.size+1,0,none⟩)] (nM zs) _ _ _ r.zones _ fT ?_ ?_) ?_);exact H1.zo.exts ae;exact HF.zo _ _ (HZ.zo.exts ae) (by simp[go_sem]) _;rintro e w' ⟨rfl,x9,rfl⟩;rw[A1.zo])|((with_reducible refine ag (eB 158 #[.pointer (some ⟨w.heap.size+1,0,none⟩)] (nM zs) _ _ _ r.exc _ fT ?_ ?_) ?_);exact H2.zo.exts ae;exact HF.zo _ _ (HZ.zo.exts ae) (by simp[go_sem]) _;rintro e w' ⟨rfl,x8,rfl⟩;rw[A2.zo]))
   go_ret;exact⟨by rw[HQ.zo];rfl,ae⟩
  ·have HQ:=aa (show res=true by rw[<-aD.zo];unfold jD;rw[a1,a2,jE a0];rfl)
   have A1:=aa a1;have A2:=aa a2;have b1:((r.zones.length:Int)==0)=false:=by rw[beq_eq_false_iff_ne];omega
   clear a1 a2;go_enter func76,ntmps76;go_wp2_with (first|((with_reducible refine ag (eB 158 #[.pointer (some ⟨w.heap.size+1,0,none⟩)] (nM zs) _ _ _ r.zones _ fT ?_ ?_) ?_);exact H1.zo.exts ae;exact HF.zo _ _ (HZ.zo.exts ae) (by simp[go_sem]) _;rintro e w' ⟨rfl,x9,rfl⟩;rw[A1.zo])|((with_reducible refine ag (eB 158 #[.pointer (some ⟨w.heap.size+1,0,none⟩)] (nM zs) _ _ _ r.exc _ fT ?_ ?_) ?_);exact H2.zo.exts ae;exact HF.zo _ _ (HZ.zo.exts ae) (by simp[go_sem]) _;rintro e w' ⟨rfl,x8,rfl⟩;rw[A2.zo]))
   go_ret;exact⟨by rw[HQ.zo];rfl,ae⟩
  ·have HQ:=aa (show res=false by rw[<-aD.zo];unfold jD;rw[a1,a2,jE a0];rfl)
   have A1:=aa a1;have A2:=aa a2;have b1:((r.zones.length:Int)==0)=false:=by rw[beq_eq_false_iff_ne];omega
   clear a1 a2;go_enter func76,ntmps76;go_wp2_with (first|((with_reducible refine ag (eB 158 #[.pointer (some ⟨w.heap.size+1,0,none⟩)] (nM zs) _ _ _ r.zones _ fT ?_ ?_) ?_);exact H1.zo.exts ae;exact HF.zo _ _ (HZ.zo.exts ae) (by simp[go_sem]) _;rintro e w' ⟨rfl,x9,rfl⟩;rw[A1.zo])|((with_reducible refine ag (eB 158 #[.pointer (some ⟨w.heap.size+1,0,none⟩)] (nM zs) _ _ _ r.exc _ fT ?_ ?_) ?_);exact H2.zo.exts ae;exact HF.zo _ _ (HZ.zo.exts ae) (by simp[go_sem]) _;rintro e w' ⟨rfl,x8,rfl⟩;rw[A2.zo]))
   go_ret;exact⟨by rw[HQ.zo];rfl,ae⟩
section
def Bt{T:Type}(L:Lay T)(B:Nat)(w:World)(ao:Option Addr)(n c:Nat)(l:List T):Prop:=
 l.length=n/\∃xs,fB (fun b=>B<=b) L.k w (.slice ao n c) n xs/\∀i d,l[i]?=some d->L.R w ((xs.drop (i*L.k)).take L.k) d
section
variable {T:Type}{L:Lay T}{B B':Nat}{e:TypeId}{w w':World}{ao:Option Addr}{n c:Nat}{l:List T}
theorem Bt.sl(h:Bt L B w ao n c l):Sl L w ao n c l:=by
 obtain⟨h1,xs,h2,h3⟩:=h;exact⟨h1,xs,h2.mono fun _ _=>trivial,h3⟩
theorem Bt.exts(h:Bt L B w ao n c l)(he:af w w'):Bt L B w' ao n c l:=by
 obtain⟨h1,xs,h2,h3⟩:=h;exact⟨h1,xs,h2.exts he,fun i d hd=>L.exts (h3 i d hd) he⟩
theorem Bt.up(h:Bt L B w ao n c l)(hb:B'<=B):Bt L B' w ao n c l:=by
 obtain⟨h1,xs,h2,h3⟩:=h;exact⟨h1,xs,h2.up hb,h3⟩
theorem Bt.kept(hf:∀(w w':World)(c:zv)(d:T),L.R w c d->L.R w' c d)(h:Bt L B w ao n c l)(hk:Keeps B w w'):Bt L B w' ao n c l:=by
 obtain⟨h1,xs,h2,h3⟩:=h;exact⟨h1,xs,h2.keeps hk,fun i d hd=>hf _ _ _ _ (h3 i d hd)⟩
theorem Bt.kept'(h:Bt L B w ao n c l)(hf:∀(w w':World)(c:zv)(d:T),L.R w c d->L.R w' c d)(hk:Keeps B w w'):Bt L B w' ao n c l:=Bt.kept hf h hk
theorem aq.toB(h:aq L B e w (.slice ao n c) l)(hn:l.length=n):Bt L B w ao n c l:=by
 obtain⟨xs,h1,h2⟩:=h;subst hn;exact⟨rfl,xs,fB.ku h1,h2⟩
end
theorem Mc:∀(w w':World)(c:zv)(d:Rc),(je).R w c d->(je).R w' c d:=fun _ _ _ _ h=>h
theorem Ip:∀(w w':World)(c:zv)(d:Int),(dv).R w c d->(dv).R w' c d:=fun _ _ _ _ h=>h
theorem Ry(t:Lot)(cs:zv)(w:World)(h:(pM).R w cs t)(ha:t.area.length<=1000)(hn:t.old.length<=1048576):Calls prog 149 #[.agg cs.toArray] w fun e w'=> ∃(E7:Option Addr)(c1:Nat)(zx:Option Addr)(c2:Nat),e=.returned (.agg #[.int .i64 t.id,.int .i64 t.owner,.slice E7 t.area.length c1,.slice zx t.old.length c2])/\af w w'/\Bt je w.heap.size w' E7 t.area.length c1 t.area/\Bt dv w.heap.size w' zx t.old.length c2 t.old:=by
 obtain⟨ao,ac,oo,oc,rfl,q0,q1,q2,q3⟩:=h;have HA:=aa q2;have HO:=aa q3;have I0:=aa q0;have I1:=aa q1;clear q0 q1 q2 q3;go_enter func149,ntmps149;go_wp2_with (go_at_call 231;fail)
 go_region_with (first|((with_reducible refine ag (Rw _ _ _ t.area _ ?_ ?_) ?_);exact HA.zo.exts ae;omega;rintro e w' ⟨E7,c1,rfl,⟨y1,rfl⟩,hs1,ho1⟩;(have lv:=aa ho1);clear hs1 ho1)|((with_reducible refine ag (Rx _ _ _ t.old _ ?_ ?_) ?_);exact HO.zo.exts ae;omega;rintro e w' ⟨zx,c2,rfl,⟨y2,rfl⟩,hs2,ho2⟩;(have jY:=aa ho2);clear hs2 ho2))
 all_goals(
  have S1:=aa (((lv.zo).toB rfl).kept' (w':=av ((w.alloc (.cells #[.int .i64 t.id,.int .i64 t.owner,.slice E7 t.area.length c1,.slice zx t.old.length c2] 77)).alloc (.cells #[.int .i64 t.id,.int .i64 t.owner,.slice E7 t.area.length c1,.slice zx t.old.length c2] 77)) y1) Mc (Keeps.base rfl (by simp)));have S2:=aa (((jY.zo).toB rfl).kept' (w':=av (av ((w.alloc (.cells #[.int .i64 t.id,.int .i64 t.owner,.slice E7 t.area.length c1,.slice zx t.old.length c2] 77)).alloc (.cells #[.int .i64 t.id,.int .i64 t.owner,.slice E7 t.area.length c1,.slice zx t.old.length c2] 77)) y1) y2) Ip (Keeps.base rfl (by simp)));go_wp2;refine bodyPost_ret (v:=.agg #[.int .i64 t.id,.int .i64 t.owner,.slice E7 t.area.length c1,.slice zx t.old.length c2]) (by simp[results,go_sem]) rfl ⟨E7,c1,zx,c2,rfl,ae,(S1.zo.up (by simp<;>omega)).exts ae,?_⟩;have h2:=S2.zo;simp only[bf]at h2;exact(h2.up (by simp<;>omega)).exts ae)
end
section
structure On(D:Nat->Prop)(w w2:World):Prop where
 os:w2.os=w.os
 tape:w2.tape=w.tape
 output:w2.output=w.output
 size:w.heap.size<=w2.heap.size
 block:∀b,D b->b<w.heap.size->w2.heap[b]?=w.heap[b]?
section
variable {D D':Nat->Prop}{w w1 w2:World}{T:Type}{L:Lay T}{cs:zv}{d:T}
theorem On.refl(D:Nat->Prop)(w:World):On D w w:=⟨rfl,rfl,rfl,Nat.le_refl _,fun _ _ _=>rfl⟩
theorem On.trans(h:On D w w1)(h2:On D w1 w2):On D w w2:=⟨h2.os.trans h.os,h2.tape.trans h.tape,h2.output.trans h.output,Nat.le_trans h.size h2.size,fun b hb hl=>(h2.block b hb (Nat.lt_of_lt_of_le hl h.size)).trans (h.block b hb hl)⟩
theorem On.exts(h:af w w1):On D w w1:=⟨h.below.os,h.below.tape,h.below.output,h.below.size,fun b _ hl=>h.below.block b hl⟩
theorem On.grown{row:Option Nat}(h:w.grownBy w1 row)(hr:∀b,row=some b-> ¬D b):On D w w1:=⟨h.os,h.tape,h.output,h.size,fun b hb hl=>h.block b hl fun e=>hr b e.symm hb⟩
theorem On.mono(h:On D w w1)(hd:∀b,D' b->D b):On D' w w1:=⟨h.os,h.tape,h.output,h.size,fun b hb hl=>h.block b (hd b hb) hl⟩
theorem On.below{n:Nat}(h:On D w w1)(hd:∀b,b<n->D b)(hn:n<=w.heap.size):Below n w w1:=⟨h.os,h.tape,h.output,h.size,fun b hb=>h.block b (hd b hb) (by omega)⟩
theorem On.adg{W W1:World}{x:Ex}(h1:W1.os=W.os)(h2:W1.tape=W.tape)(h3:W1.output=W.output)(h4:W1.heap.size=W.heap.size)(hd:∀b,D b->W.heap.size<=b):On D (av W x) (av W1 x):=⟨h1,h2,h3,by simp[h4],fun b hb _=>by
 unfold av;simp only;rw[Array.getElem?_append_right (hd b hb),Array.getElem?_append_right (by rw[h4];exact hd b hb),h4]⟩
def jg(D:Nat->Prop)(w:World)(L:Lay T)(cs:zv)(d:T):Prop:= ∀w2,On D w w2->L.R w2 cs d
theorem jg.at(h:jg D w L cs d)(ho:On D w w1):jg D w1 L cs d:=fun w2 h2=>h w2 (ho.trans h2)
theorem jg.r(h:jg D w L cs d):L.R w cs d:=h w (On.refl D w)
theorem jg.mono(h:jg D' w L cs d)(hd:∀b,D' b->D b):jg D w L cs d:=fun w2 h2=>h w2 (h2.mono hd)
theorem jg.of{w0:World}(h:L.R w0 cs d)(he:af w0 w)(hd:∀b,b<w0.heap.size->D b):jg D w L cs d:=fun w2 h2=>L.exts h (af.of_below ((he.below).trans (h2.below hd he.below.size)))
theorem V8{w:World}{b o:Nat}{u v s t r:Value}(h:w.cell? ⟨b,o,none⟩=some u)(h1:w.cell? ⟨b,o+1,none⟩=some v)(h2:w.cell? ⟨b,o+2,none⟩=some s)(h3:w.cell? ⟨b,o+3,none⟩=some t)(h4:w.cell? ⟨b,o+4,none⟩=some r):∀(j:Nat)(x:Value),[u,v,s,t,r][j]?=some x->w.cell? ((⟨b,o,none⟩:Addr).add j)=some x:=by
 intro j x hj;rw[Addr.add_lit]
 match j,hj with
 |0,hj=>cases hj;exact h
 |1,hj=>cases hj;exact h1
 |2,hj=>cases hj;exact h2
 |3,hj=>cases hj;exact h3
 |4,hj=>cases hj;exact h4
def NB(D:Nat->Prop)(v:Value)(b:Nat):Prop:=D b/\v.ownBlock≠some b
def bL(D:Nat->Prop)(L:Lay T)(base:Nat)(e:TypeId)(w:World)(v:Value)(l:List T):Prop:= ∃xs,w.ownsRow base e L.k v l.length xs/\∀i d,l[i]?=some d->jg (NB D v) w L ((xs.drop (i*L.k)).take L.k) d
variable {base:Nat}{e:TypeId}{v:Value}{l:List T}{g n c:Nat}{ao:Option Addr}
theorem bL.nil(D:Nat->Prop)(L:Lay T)(base:Nat)(e:TypeId)(w:World):bL D L base e w (.slice none 0 0) []:=⟨[],World.ownsRow_nil _ _ _ _,fun i d hd=>by simp at hd⟩
theorem bL.own(h:bL D L base e w v l):aq L base e w v l:=by
 obtain⟨xs,h1,h2⟩:=h;exact⟨xs,h1,fun i d hd=>(h2 i d hd).r⟩
theorem bL.sl(h:bL D L base e w (.slice ao n c) l)(hn:l.length=n):Sl L w ao n c l:=h.own.sl hn
theorem bL.lt(h:bL D L base e w v l){b:Nat}(hb:v.ownBlock=some b):base<=b/\b<w.heap.size:=by
 obtain⟨xs,h1,_⟩:=h;exact⟨cm h1 b hb,(h1.lt b hb).2⟩
theorem bL.at(h:bL D L base e w v l)(ho:On (fun b=>D b∨v.ownBlock=some b) w w1):bL D L base e w1 v l:=by
 obtain⟨xs,h1,h2⟩:=h;refine⟨xs,⟨h1.1,?_⟩,fun i d hd=>(h2 i d hd).at (ho.mono fun b hb=> .inl hb.1)⟩;rcases h1.2 with h0|⟨g,cap,cur,rfl,hb,hg,hr⟩
 ·exact .inl h0
 ·exact .inr ⟨g,cap,cur,rfl,hb,(ho.block g (.inr rfl) (Array.getElem?_eq_some_iff.1 hg).1).trans hg,hr⟩
theorem bL.exts(h:bL D L base e w v l)(he:af w w1):bL D L base e w1 v l:=h.at (On.exts he)
theorem bL.of{w0:World}{xs:zv}(h:w.ownsRow base e L.k v l.length xs)(hR:∀i d,l[i]?=some d->L.R w0 ((xs.drop (i*L.k)).take L.k) d)(he:af w0 w)(hd:∀b,b<w0.heap.size->D b)(hb:w0.heap.size<=base):bL D L base e w v l:=⟨xs,h,fun i d hi=>jg.of (hR i d hi) he fun b h1=>⟨hd b h1,fun h2=>by have:=cm h b h2;omega⟩⟩
theorem jg.turn{v2:Value}(h:jg (NB D v) w L cs d)(hg:w.grownBy w1 v.ownBlock)(h2:v2.ownBlock=some g)(hv:v.ownBlock=some g∨g=w.heap.size):jg (NB D v2) w1 L cs d:=fun w2 ho=>h w2 ⟨ho.os.trans hg.os,ho.tape.trans hg.tape,ho.output.trans hg.output,Nat.le_trans hg.size ho.size,fun b hb hl=>by
 refine(ho.block b ⟨hb.1,fun e=> ?_⟩ (Nat.lt_of_lt_of_le hl hg.size)).trans (hg.block b hl fun e=>hb.2 e.symm);rw[h2]at e;cases e;rcases hv with hv|hv
 ·exact hb.2 hv
 ·omega⟩
theorem bL.snoc{xs cs:zv}(hR:∀i d,l[i]?=some d->jg (NB D v) w L ((xs.drop (i*L.k)).take L.k) d)(hl:xs.length=l.length*L.k)(hx:jg (NB D v) w L cs d)(h:w1.ownsRow base e L.k (.slice (some ⟨g,0,none⟩) n c) (l.length+1) (xs++cs))(hg:w.grownBy w1 v.ownBlock)(hv:v.ownBlock=some g∨g=w.heap.size):bL D L base e w1 (.slice (some ⟨g,0,none⟩) n c) (l++ [d]):=by
 refine⟨xs++cs,by rw[dG];exact h,fun i d' hd=> ?_⟩;have hc:=L.len hx.r;rcases Nat.lt_or_ge i l.length with hi|hi
 ·rw[List.getElem?_append_left hi]at hd
  have hle:(i+1)*L.k<=xs.length:=by rw[hl];exact Nat.mul_le_mul_right _ hi
  rw[Nat.add_mul,Nat.one_mul]at hle;rw[List.drop_append_of_le_length (by omega),List.take_append_of_le_length (by rw[List.length_drop];omega)];exact(hR i d' hd).turn hg rfl hv
 ·have hi2:i=l.length:=by
   have:=(bw hd).1;simp at this;omega
  subst hi2;simp at hd;subst hd;rw[<-hl,List.drop_left,dQ (by omega)];exact hx.turn hg rfl hv
def oY(xs:zv)(o:Nat)(vs:zv):zv:=xs.take o++vs++xs.drop (o+vs.length)
theorem oL{xs vs:zv}{o:Nat}(h:o+vs.length<=xs.length)(q:Nat):(oY xs o vs)[q]?=if q<o then xs[q]? else if q<o+vs.length then vs[q - o]? else xs[q]?:=by
 have e1:(xs.take o).length=o:=by rw[List.length_take];omega
 unfold oY;rw[List.append_assoc,List.getElem?_append,e1];split
 ·rw[List.getElem?_take,if_pos (by assumption)]
 ·rw[List.getElem?_append]
  split
  ·rw[if_pos (by omega)]
  ·rw[if_neg (by omega),List.getElem?_drop]
   congr 1;omega
theorem Iz{xs vs:zv}{o:Nat}(h:o+vs.length<=xs.length):(oY xs o vs).length=xs.length:=by
 unfold oY;rw[dG,dG,List.length_take,List.length_drop];omega
theorem bL.ZN{d':T}{vs:zv}{i j:Nat}(h:bL D L base e w (.slice (some ⟨g,0,none⟩) n c) l)(hn:l.length=n)(hgr:w.grownBy w1 (some g))
 (hb:∀cur:Array Value,w.heap[g]?=some (.cells cur e (0,0))->i*L.k+j+vs.length<=cur.size->w1.heap[g]?=some (.cells (oY cur.toList (i*L.k+j) vs).toArray e (0,0)))
 (hj:j+vs.length<=L.k) (hd:l[i]?=some d) (hR:∀cs,jg (NB D (.slice (some ⟨g,0,none⟩) n c)) w L cs d->jg (NB D (.slice (some ⟨g,0,none⟩) n c)) w L (oY cs j vs) d'):bL D L base e w1 (.slice (some ⟨g,0,none⟩) n c) (l.set i d'):=by
 obtain⟨xs,⟨hlen,h1⟩,h2⟩:=h;have hil:i<n:=by
  have:=(bw hd).1;omega
 have hmul:i*L.k+L.k<=n*L.k:=by
  calc i*L.k+L.k=(i+1)*L.k:=by rw[Nat.add_mul,Nat.one_mul]
   _<=n*L.k:=Nat.mul_le_mul_right _ hil
 rw[hn]at hlen h1;rcases h1 with⟨h0,_⟩|⟨g',cap,cur,hv,hbase,hg,hnc,hcm,hcs,htake⟩
 ·simp at h0
 simp only[Value.slice.injEq,Option.some.injEq,Addr.mk.injEq,and_true,true_and]at hv;obtain⟨rfl,rfl⟩:=hv;have hcap:n*L.k<=c*L.k:=Nat.mul_le_mul_right _ hnc;have hfit:i*L.k+j+vs.length<=xs.length:=by rw[hlen];omega
 have hcl:cur.toList.length=c*L.k:=by rw[<-hcs];exact Array.length_toList
 have Yg:i*L.k+j+vs.length<=cur.toList.length:=by rw[hcl];omega
 refine⟨oY xs (i*L.k+j) vs,⟨by rw[Iz hfit,hlen,List.length_set,hn],.inr ⟨g,c,_,by rw[List.length_set,hn],hbase,hb cur hg (by rw[hcs];omega),by rw[List.length_set,hn];exact hnc,hcm,?_,?_⟩⟩,fun t x hx=> ?_⟩
 ·rw[List.size_toArray,Iz Yg,hcl]
 ·rw[List.length_set,hn]
  apply List.ext_getElem?;intro q;rw[List.getElem?_take,oL hfit,oL Yg,<-htake,List.getElem?_take];by_cases hq:q<n*L.k
  ·simp only[hq,if_true]
  ·simp only[hq,if_false]
   rw[if_neg (by omega),if_neg (by omega)]
 ·by_cases hti:t=i
  ·subst hti
   rw[List.getElem?_set_self (bw hd).1]at hx;cases hx;have e1:((oY xs (t*L.k+j) vs).drop (t*L.k)).take L.k=oY ((xs.drop (t*L.k)).take L.k) j vs:=by
    have hl2:((xs.drop (t*L.k)).take L.k).length=L.k:=by rw[List.length_take,List.length_drop];omega
    apply List.ext_getElem?;intro q;rw[List.getElem?_take,List.getElem?_drop,oL hfit,oL (by rw[hl2];exact hj),List.getElem?_take,List.getElem?_drop];by_cases hq:q<L.k
    ·simp only[hq,if_true]
     by_cases h1:q<j
     ·rw[if_pos (by omega),if_pos h1]
     ·rw[if_neg (by omega),if_neg h1]
      by_cases h3:q<j+vs.length
      ·rw[if_pos (by omega),if_pos h3]
       congr 1;omega
      ·rw[if_neg (by omega),if_neg h3]
    ·simp only[hq,if_false]
     rw[if_neg (by omega),if_neg (by omega)]
   rw[e1];exact(hR _ (h2 t d hd)).at (On.grown hgr fun b hb h0=>h0.2 hb)
  ·rw[List.getElem?_set_ne (Ne.symm hti)]at hx
   have e1:((oY xs (i*L.k+j) vs).drop (t*L.k)).take L.k=(xs.drop (t*L.k)).take L.k:=by
    apply List.ext_getElem?;intro q;rw[List.getElem?_take,List.getElem?_take,List.getElem?_drop,List.getElem?_drop,oL hfit];by_cases hq:q<L.k
    ·simp only[hq,if_true]
     rcases Nat.lt_or_gt_of_ne hti with h7|h7
     ·have h8:(t+1)*L.k<=i*L.k:=Nat.mul_le_mul_right L.k h7
      rw[Nat.add_mul,Nat.one_mul]at h8;rw[if_pos (by omega)]
     ·have h8:(i+1)*L.k<=t*L.k:=Nat.mul_le_mul_right L.k h7
      rw[Nat.add_mul,Nat.one_mul]at h8;rw[if_neg (by omega),if_neg (by omega)]
    ·simp only[hq,if_false]
   rw[e1];exact(h2 t x hx).at (On.grown hgr fun b hb h0=>h0.2 hb)
theorem bL.put{vs:zv}{i j:Nat}(h:bL D L base e w (.slice (some ⟨g,0,none⟩) n c) l)(hn:l.length=n)(hgr:w.grownBy w1 (some g))
 (hb:∀cur:Array Value,w.heap[g]?=some (.cells cur e (0,0))->i*L.k+j+vs.length<=cur.size->w1.heap[g]?=some (.cells (oY cur.toList (i*L.k+j) vs).toArray e (0,0)))
 (hj:j+vs.length<=L.k) (hd:l[i]?=some d) (hR:∀cs,jg (NB D (.slice (some ⟨g,0,none⟩) n c)) w L cs d->jg (NB D (.slice (some ⟨g,0,none⟩) n c)) w L (oY cs j vs) d):bL D L base e w1 (.slice (some ⟨g,0,none⟩) n c) l:=by
 have h1:=bL.ZN h hn hgr hb hj hd hR;have e1:l.set i d=l:=by
  obtain⟨hi,rfl⟩:=bw hd;exact List.set_getElem_self hi
 rwa [e1]at h1
theorem fA{P:Program}{ops:Array Oper}{rest:List Oper}{o:Oper}{a:Act}{Q:Exit->Act->World->Prop}(hgd:o.guard=none)(s x:Operand)(t:TypeId)(ho:o.op=.call {callee:=.builtin .append,args:=#[s,x],argTypes:=#[t,t]})
 (i:TypeInfo) (z:Value) (bytes:Nat) (ht:P.underlying t=some (.slice e)) (hi:P.info? e=some i) (hz:i.zero=some z)
 (hsize:i.size=L.k) (hby:i.bytes=bytes) (hzs:z.cells.size=L.k) (hsz:0<L.k) {oo:Option Addr} {oc:Nat} (hs:a.eval s=.slice oo n oc) (hn:l.length=n) (hown:bL D L base e w (.slice oo n oc) l)
 (ad:Addr) (c:Nat) (hx:a.eval x=.slice (some ad) 1 c) (hR:jg (NB D (.slice oo n oc)) w L cs d) (hnews:∀j u,cs[j]?=some u->w.cell? (ad.add j)=some u)
 (hb:n<1000000) (hbytes:bytes<=100000) (hbase:base<=w.heap.size)
 (h:∀g c' w',bL D L base e w' (.slice (some ⟨g,0,none⟩) (n+1) c') (l++ [d])->w.grownBy w' (Value.slice oo n oc).ownBlock->wpList P ops Q rest (a.put o.dst (.slice (some ⟨g,0,none⟩) (n+1) c')) w'):wpList P ops Q (o::rest) a w:=by
 obtain⟨xs,h1,h2⟩:=hown;subst hn;refine wpList_append_lies w hgd s x t ho base e i z L.k bytes ht hi hz hsize hby hzs hsz _ l.length xs hs h1 ad 1 c cs hx (by rw[L.len hR.r,Nat.one_mul]) hnews (L.one hR.r) (by decide) (by unfold maxLen;omega) (Nat.le_trans (Nat.mul_le_mul (show l.length+1<=1000000 by omega) hbytes) (by decide)) hbase _ rfl fun g cap w' hw1 hw2 hw3 _=>h g cap w' (bL.snoc h2 h1.1 hR hw1 hw2 hw3) hw2
end
theorem On.cell{D:Nat->Prop}{w w1:World}{b i:Nat}{v:Value}(ho:On D w w1)(hd:D b)(h:w.cell? ⟨b,i,none⟩=some v):w1.cell? ⟨b,i,none⟩=some v:=by
 rw[<-h];have lt:=bP h;unfold World.cell?;rw[ho.block b hd lt]
theorem On.row{D:Nat->Prop}{w w1:World}{b n:Nat}(ho:On D w w1)(hd:D b)(h:isRow w b n):isRow w1 b n/\rowOf w1 b=rowOf w b:=by
 obtain⟨c,t,hb,hc⟩:=h;have h1:=(ho.block b hd (Array.getElem?_eq_some_iff.1 hb).1).trans hb;exact⟨⟨c,t,h1,hc⟩,by rw[gI h1,gI hb]⟩
def Bx(w:World)(b:Nat)(cs:zv)(t:TypeId):Prop:=w.heap[b]?=some (.cells cs.toArray t (0,0))
section
variable {w w1:World}{b:Nat}{cs:zv}{t:TypeId}{D:Nat->Prop}
theorem Bx.lt(h:Bx w b cs t):b<w.heap.size:=(Array.getElem?_eq_some_iff.1 h).1
theorem Bx.cell(h:Bx w b cs t)(i:Nat):w.cell? ⟨b,i,none⟩=cs[i]?:=by
 unfold Bx at h;simp[World.cell?,h]
theorem Bx.fz(h:Bx w b cs t)(i:Nat):w.frozen? ⟨b,i,none⟩=false:=by
 unfold Bx at h;simp[World.frozen?,h]
theorem Bx.set(h:Bx w b cs t)(i:Nat)(v:Value):Bx (w.setCell ⟨b,i,none⟩ v) b (cs.set i v) t:=by
 unfold Bx at*;rw[heap_setCell_same w b i _ t _ h];simp
theorem Bx.at(h:Bx w b cs t)(ho:On D w w1)(hd:D b):Bx w1 b cs t:=(ho.block b hd h.lt).trans h
theorem Bx.exts(h:Bx w b cs t)(he:af w w1):Bx w1 b cs t:=h.at (On.exts (D:=fun _=>True) he) trivial
theorem Bx.row(h:Bx w b cs t):isRow w b cs.length/\rowOf w b=cs.toArray:=⟨⟨_,_,h,by simp⟩,gI h⟩
theorem Bx.new(w:World)(cs:zv)(t:TypeId):Bx (w.alloc (.cells cs.toArray t)) w.heap.size cs t:=by
 unfold Bx World.alloc;simp
theorem Bx.new'{A:World}{x:Ex}(h:w1=av (A.alloc (.cells cs.toArray t)) x)(hb:b=A.heap.size):Bx w1 b cs t:=by
 subst h hb;exact(Bx.new A cs t).exts ((af.refl _).av x)
theorem Bx.mv{A:World}(h:w1=A.alloc (.cells cs.toArray t))(hb:b=A.heap.size):Bx w1 b cs t:=by
 subst h hb;exact Bx.new A cs t
theorem Bx.news(h:Bx w b cs t):∀j u,cs[j]?=some u->w.cell? ((⟨b,0,none⟩:Addr).add j)=some u:=fun j u hu=>by
 rw[Addr.add_lit];rw[Nat.zero_add,h.cell];exact hu
theorem aq.atF{T:Type}{L:Lay T}(hf:Flat L){base:Nat}{e:TypeId}{v:Value}{l:List T}(h:aq L base e w v l)(ho:On (fun b=>v.ownBlock=some b) w w1):aq L base e w1 v l:=by
 obtain⟨xs,h1,h2⟩:=h;refine⟨xs,⟨h1.1,?_⟩,fun i d hd=>hf _ _ _ _ (h2 i d hd)⟩;rcases h1.2 with h0|⟨g,cap,cur,rfl,hb,hg,hr⟩
 ·exact .inl h0
 ·exact .inr ⟨g,cap,cur,rfl,hb,(ho.block g rfl (Array.getElem?_eq_some_iff.1 hg).1).trans hg,hr⟩
end
theorem Bt.base{T:Type}{L:Lay T}{B n c:Nat}{a:World}{x:Ex}{ao:Option Addr}{l:List T}(h:Bt L B (av a x) ao n c l)(b:World)(hf:Flat L)(hb:b.heap.size=a.heap.size)(hB:a.heap.size<=B):Bt L B (av b x) ao n c l:=h.kept' hf ⟨by simp[hb],fun k h1 _=>by
 unfold av;simp only;rw[Array.getElem?_append_right (by omega),Array.getElem?_append_right (by omega),hb]⟩
end
def okA:Nat->Xp->Bool
 |0,_=>false
 |d+1,e=>decide (e.args.length<=1000)&&e.args.all (okA d)
def adi(e:Xp)(w:World)(r:Ending)(w':World):Prop:= ∃ao c,r=.returned (.agg #[.int .i64 e.op,.int .i64 e.num,.string e.str,.string e.key,.slice ao e.args.length c])/\af w w'/\jg (fun b=>w.heap.size<=b) w' j7 [.int .i64 e.op,.int .i64 e.num,.string e.str,.string e.key,.slice ao e.args.length c] e
theorem bL.xp{base:Nat}{w:World}{ao:Option Addr}{c:Nat}{e:Xp}(h1:I64 e.op)(h2:I64 e.num)(h3:gS e.str)(h4:gS e.key)(h:bL (fun b=>base<=b) j7 base 48 w (.slice ao e.args.length c) e.args):jg (fun b=>base<=b) w j7 [.int .i64 e.op,.int .i64 e.num,.string e.str,.string e.key,.slice ao e.args.length c] e:=fun w2 ho=>
 yv.shut ⟨h1,h2,h3,h4,(h.at ⟨ho.os,ho.tape,ho.output,ho.size,fun b hb hl=>ho.block b (hb.elim id fun hb=>(h.lt hb).1) hl⟩).sl rfl⟩
theorem Sp:∀(d:Nat)(e:Xp)(cs:zv)(w:World),okA d e=true->iP w cs e->Calls prog 67 #[.agg cs.toArray] w (adi e w)
 |0,_,_,_,h,_=>by cases h
 |d+1,e,cs,w,h,hx=>by
  have IH:=aa (Sp d);obtain⟨i0,hi,hz0,hz1,hz2⟩:=info_parts Vp;unfold okA at h;simp only[Bool.and_eq_true,decide_eq_true_eq,List.all_eq_true]at h;obtain⟨hlen,hall⟩:=h;obtain⟨ao,c,rfl,hv1,hv2,hv3,hv4,hv5⟩:=hx.opened;have HS:=aa hv5;have ey:=aa hall;have HV:=aa (show I64 e.op/\I64 e.num/\gS e.str/\gS e.key from⟨hv1,hv2,hv3,hv4⟩);have hsz:w.heap.size+1+1<=((w.alloc (.cells #[.int .i64 e.op,.int .i64 e.num,.string e.str,.string e.key,.slice ao e.args.length c] 48)).alloc (.cells #[.int .i64 0,.int .i64 0,.string ByteArray.empty,.string ByteArray.empty,.slice none 0 0] 48)).heap.size:=by simp
  clear hx hv1 hv2 hv3 hv4 hv5 hall;go_enter func67,ntmps67;go_wp2;go_loopw [3,9] (fun o1 i wr=> ∃(k:Nat)(oo:Option Addr)(oc:Nat),k<=e.args.length/\i=.int .i64 k/\o1=.slice oo k oc/\af ((w.alloc (.cells #[.int .i64 e.op,.int .i64 e.num,.string e.str,.string e.key,.slice ao e.args.length c] 48)).alloc (.cells #[.int .i64 0,.int .i64 0,.string ByteArray.empty,.string ByteArray.empty,.slice none 0 0] 48)) wr/\bL (fun b=>w.heap.size+1+1<=b) j7 (w.heap.size+1+1) 48 wr (.slice oo k oc) (e.args.take k)) (fun _ i _=>e.args.length - (intOf i).toNat)
  case atStart=>exact⟨0,none,0,by omega,rfl,rfl,af.refl _,bL.nil _ _ _ _ _⟩
  case round=>
   obtain⟨k,oo,oc,hk,rfl,rfl,hX,hO⟩:=hrel;have HX:=aa hX;have HO:=aa hO;have hws:w.heap.size+1+1<=wr.heap.size:=by have:=hX.below.size;simpa using this
   have hlO:=fun b hb=>(hO.lt (b:=b) hb).2
   have UE:=aa hlO;clear hX hO hlO;by_cases hlt:k<e.args.length
   ·obtain⟨x,hd⟩:=HS.zo.ex hlt
    obtain⟨b,off,cs,rfl,lb,hR,cZ⟩:=HS.zo.ld hd;have hld:∀w',af wr w'->_:=fun w' he=>cZ w' ((show af w _ from ae).trans (HX.zo.trans he))
    obtain⟨xo,xc,rfl,hv⟩:=hR.opened;have HR:=aa hR;have HD:=aa hd;have GH:=aa (ey.zo x (gH hd));have HLT:=aa (show(e.args.take k).length=k by rw[List.length_take];omega);clear cZ hR hv hd;go_wp2_with (first|((with_reducible refine ag (IH.zo x _ _ GH.zo ?_) ?_);exact iP.exts HR.zo ((show af w _ from ae).trans (HX.zo.trans ae));rintro r w' ⟨zx,c2,rfl,⟨x4,rfl⟩,adk⟩;(have HDP:=aa adk);clear adk)|(at_builtin;refine fA rfl _ _ 46 rfl i0 _ 72 underlying46 hi hz0 hz1 hz2 rfl (by decide) rfl HLT.zo (HO.zo.exts ae) _ 1 rfl ((HDP.zo.mono ?_).at (On.exts ae)) (V8 (by simp[go_sem]) (by simp[go_sem]) (by simp[go_sem]) (by simp[go_sem]) (by simp[go_sem])) (by omega) (by omega) (by simp;omega) ?_;(intro b hb;simp at hb;exact⟨by omega,fun h0=>by have:=UE.zo b h0;omega⟩);intro g c' w1 hown hgrow))
    have gm:=aF (W:=(w.alloc (.cells #[.int .i64 e.op,.int .i64 e.num,.string e.str,.string e.key,.slice (some ⟨b,off,none⟩) e.args.length c] 48)).alloc (.cells #[.int .i64 0,.int .i64 0,.string ByteArray.empty,.string ByteArray.empty,.slice none 0 0] 48)) (HX.zo.trans ae) hgrow (fun b hb=>by have:=(HO.zo.lt hb).1;simp;omega);have e1:e.args.take (k+1)=e.args.take k++ [x]:=by rw[List.take_add_one,HD.zo];rfl
    rw[<-e1]at hown;exact⟨⟨k+1,some ⟨g,0,none⟩,c',by omega,by go_num,rfl,gm,hown⟩,by simp[intOf];omega⟩
   ·obtain rfl:k=e.args.length:=by omega
    obtain⟨y,rfl⟩:=HX.zo;go_wp2;refine bodyPost_ret (v:=.agg #[.int .i64 e.op,.int .i64 e.num,.string e.str,.string e.key,.slice oo e.args.length oc]) (by simp[results,go_sem]) rfl ?_;refine⟨oo,oc,rfl,ae,?_⟩;have h2:=HO.zo;rw[List.take_length]at h2;have hb2:=fun b hb=>(h2.lt (b:=b) hb).1
    refine jg.mono (bL.xp HV.zo.1 HV.zo.2.1 HV.zo.2.2.1 HV.zo.2.2.2 (h2.at (On.adg rfl rfl rfl (by simp) fun b hb=> ?_))) fun b hb=> ?_
    ·simp
     exact hb.elim id (hb2 b)
    ·omega
theorem mulN{n:Nat}(hn:n<=4)(w:World):Calls prog 383 #[.int .u64 1,.int .u64 (n:Int)] w fun e w'=>e=.returned (.tuple #[.int .u64 0,.int .u64 (n:Int)])/\w'=w:=by
 refine(Go.Proofs.Tryz.bits_Mul 1 n (by omega) (by omega) w).mono ?_;rintro e w' ⟨rfl,rfl⟩;refine⟨?_,rfl⟩;rw[Nat.one_mul,Nat.div_eq_of_lt (by omega),Nat.mod_eq_of_lt (by omega)];rfl
theorem BN:(prog.info? 3).map (fun i=>(i.zero,i.size,i.bytes))=some (some (.int .i64 0),1,8):=by kernel_rfl
theorem Sq(w:World)(n:Nat)(hn:n<=1000):(Instr.makeSlice 66 (.int .i64 n) (.int .i64 n)).run prog w=.ok (.slice (some ⟨w.heap.size,0,none⟩) n n) (w.alloc (.cells (madeCells #[.int .i64 0] n) 3)):=by
 obtain⟨i0,hi,q⟩:=Option.map_eq_some_iff.1 BN;simp only[Prod.mk.injEq]at q;obtain⟨hz0,hz1,hz2⟩:=q;have h:=run_make (P:=prog) w 66 3 i0 _ underlying66 hi hz0 .i64 .i64 n n (by omega) (by omega) (by rw[hz2];omega) (by omega);rw[hz1,Int.toNat_natCast,Nat.mul_one]at h;exact h
theorem ZV:(prog.info? 3).map (·.size)=some 1:=by kernel_rfl
theorem Fw(w:World)(ty:TypeId){g o dLen dCap sLen sCap:Nat}{a:Addr}{cur:Array Value}(cs:zv){n:Nat}(hg:w.heap[g]?=some (.cells cur 3 (0,0)))(hn:cs.length=Nat.min sLen dLen)
 (hsrc:∀j v,cs[j]?=some v->w.cell? (a.add j)=some v) (hfit:o+cs.length<=cur.size) (h1:∀v∈cs,v.oneCell'=true):
 (Builtin.copy_ #[66,66] ty #[.slice (some ⟨g,o,none⟩) dLen dCap,.slice (some a) sLen sCap]).run prog w=.ok (.int .i64 cs.length) (w.setRow g (cur.toList.take o++cs++cur.toList.drop (o+cs.length)).toArray):=
 run_copy_row prog w 66 66 ty 3 g o dLen dCap a sLen sCap cur 3 cs underlying66 ZV hg hn hsrc hfit h1
theorem IJ(b:Nat)(w:World)(c0:w.cell? ⟨b,0,none⟩=some (.int .i64 (-1))):Calls prog 370 #[.slice (some ⟨b,0,none⟩) 1 1,.int .i64 1] w fun e w'=>e=.returned (.slice (some ⟨w.heap.size,0,none⟩) 1 1)/\af (w.alloc (.cells #[.int .i64 (-1)] 3)) w':=by
 have lb:=bP c0;have hm:(Instr.makeSlice 66 (.int .i64 1) (.int .i64 1)).run prog w=_:=Sq w 1 (by decide);rw[show madeCells #[.int .i64 0] 1=#[.int .i64 0]by first|rfl|(simp[madeCells];done)|kernel_rfl]at hm;have h1:∀ty,(Builtin.copy_ #[66,66] ty #[.slice (some ⟨w.heap.size,0,none⟩) 1 1,.slice (some ⟨b,0,none⟩) 1 1]).run prog (w.alloc (.cells #[.int .i64 0] 3))=.ok (.int .i64 1) ((w.alloc (.cells #[.int .i64 (-1)] 3))):=fun ty=>by
  have h:=Fw ((w.alloc (.cells #[.int .i64 0] 3))) ty (g:=w.heap.size) (o:=0) (dLen:=1) (dCap:=1) (sLen:=1) (sCap:=1) (a:=⟨b,0,none⟩) (cur:=#[.int .i64 0]) (n:=0) [.int .i64 (-1)] (show(w.heap.push _)[w.heap.size]?=some (.cells _ 3 (0,0))by simp) rfl (by intro j v hj;rw[Addr.add_lit];match j,hj with|0,hj=>(cases hj;exact af.cell ae c0)) (by decide) (by simp[Value.oneCell']);rw[h];simp[go_sem]
 go_enter func370,ntmps370;go_wp2_with (first|(refine wp_loop_rounds 4 ?_;rw[rounds_succ])|(rw[rounds_succ])|(go_at_call 383;((refine ag (mulN (n:=1) (by decide) _) ?_);rintro e w' ⟨rfl,rfl⟩)))
 go_ret;exact⟨rfl,ae⟩
theorem IK(b:Nat)(w:World)(c0:w.cell? ⟨b,0,none⟩=some (.int .i64 (-1))):Calls prog 370 #[.slice (some ⟨b,0,none⟩) 1 1,.int .i64 2] w fun e w'=>e=.returned (.slice (some ⟨w.heap.size,0,none⟩) 2 2)/\af (w.alloc (.cells #[.int .i64 (-1),.int .i64 (-1)] 3)) w':=by
 have lb:=bP c0;have hm:(Instr.makeSlice 66 (.int .i64 2) (.int .i64 2)).run prog w=_:=Sq w 2 (by decide);rw[show madeCells #[.int .i64 0] 2=#[.int .i64 0,.int .i64 0]by first|rfl|(simp[madeCells];done)|kernel_rfl]at hm;have h1:∀ty,(Builtin.copy_ #[66,66] ty #[.slice (some ⟨w.heap.size,0,none⟩) 2 2,.slice (some ⟨b,0,none⟩) 1 1]).run prog (w.alloc (.cells #[.int .i64 0,.int .i64 0] 3))=.ok (.int .i64 1) ((w.alloc (.cells #[.int .i64 (-1),.int .i64 0] 3))):=fun ty=>by
  have h:=Fw ((w.alloc (.cells #[.int .i64 0,.int .i64 0] 3))) ty (g:=w.heap.size) (o:=0) (dLen:=2) (dCap:=2) (sLen:=1) (sCap:=1) (a:=⟨b,0,none⟩) (cur:=#[.int .i64 0,.int .i64 0]) (n:=0) [.int .i64 (-1)] (show(w.heap.push _)[w.heap.size]?=some (.cells _ 3 (0,0))by simp) rfl (by intro j v hj;rw[Addr.add_lit];match j,hj with|0,hj=>(cases hj;exact af.cell ae c0)) (by decide) (by simp[Value.oneCell']);rw[h];simp[go_sem]
 have h2:∀ty,(Builtin.copy_ #[66,66] ty #[.slice (some ⟨w.heap.size,1,none⟩) 1 1,.slice (some ⟨w.heap.size,0,none⟩) 1 2]).run prog (w.alloc (.cells #[.int .i64 (-1),.int .i64 0] 3)).drew=.ok (.int .i64 1) ((w.alloc (.cells #[.int .i64 (-1),.int .i64 (-1)] 3)).drew):=fun ty=>by
  have h:=Fw ((w.alloc (.cells #[.int .i64 (-1),.int .i64 0] 3)).drew) ty (g:=w.heap.size) (o:=1) (dLen:=1) (dCap:=1) (sLen:=1) (sCap:=2) (a:=⟨w.heap.size,0,none⟩) (cur:=#[.int .i64 (-1),.int .i64 0]) (n:=0) [.int .i64 (-1)] (show(w.heap.push _)[w.heap.size]?=some (.cells _ 3 (0,0))by simp) rfl (by intro j v hj;rw[Addr.add_lit];match j,hj with|0,hj=>(cases hj;exact World.cell?_alloc_new w _ _ 0)) (by decide) (by simp[Value.oneCell']);rw[h];simp[go_sem]
 go_enter func370,ntmps370;go_wp2_with (first|(refine wp_loop_rounds 4 ?_;rw[rounds_succ])|(rw[rounds_succ])|(go_at_call 383;((refine ag (mulN (n:=2) (by decide) _) ?_);rintro e w' ⟨rfl,rfl⟩)))
 go_region;go_wp2_with (rw[rounds_succ])
 go_ret;exact⟨rfl,ae⟩
theorem IL(b:Nat)(w:World)(c0:w.cell? ⟨b,0,none⟩=some (.int .i64 (-1))):Calls prog 370 #[.slice (some ⟨b,0,none⟩) 1 1,.int .i64 3] w fun e w'=>e=.returned (.slice (some ⟨w.heap.size,0,none⟩) 3 3)/\af (w.alloc (.cells #[.int .i64 (-1),.int .i64 (-1),.int .i64 (-1)] 3)) w':=by
 have lb:=bP c0;have hm:(Instr.makeSlice 66 (.int .i64 3) (.int .i64 3)).run prog w=_:=Sq w 3 (by decide);rw[show madeCells #[.int .i64 0] 3=#[.int .i64 0,.int .i64 0,.int .i64 0]by first|rfl|(simp[madeCells];done)|kernel_rfl]at hm;have h1:∀ty,(Builtin.copy_ #[66,66] ty #[.slice (some ⟨w.heap.size,0,none⟩) 3 3,.slice (some ⟨b,0,none⟩) 1 1]).run prog (w.alloc (.cells #[.int .i64 0,.int .i64 0,.int .i64 0] 3))=.ok (.int .i64 1) ((w.alloc (.cells #[.int .i64 (-1),.int .i64 0,.int .i64 0] 3))):=fun ty=>by
  have h:=Fw ((w.alloc (.cells #[.int .i64 0,.int .i64 0,.int .i64 0] 3))) ty (g:=w.heap.size) (o:=0) (dLen:=3) (dCap:=3) (sLen:=1) (sCap:=1) (a:=⟨b,0,none⟩) (cur:=#[.int .i64 0,.int .i64 0,.int .i64 0]) (n:=0) [.int .i64 (-1)] (show(w.heap.push _)[w.heap.size]?=some (.cells _ 3 (0,0))by simp) rfl (by intro j v hj;rw[Addr.add_lit];match j,hj with|0,hj=>(cases hj;exact af.cell ae c0)) (by decide) (by simp[Value.oneCell']);rw[h];simp[go_sem]
 have h2:∀ty,(Builtin.copy_ #[66,66] ty #[.slice (some ⟨w.heap.size,1,none⟩) 2 2,.slice (some ⟨w.heap.size,0,none⟩) 1 3]).run prog (w.alloc (.cells #[.int .i64 (-1),.int .i64 0,.int .i64 0] 3)).drew=.ok (.int .i64 1) ((w.alloc (.cells #[.int .i64 (-1),.int .i64 (-1),.int .i64 0] 3)).drew):=fun ty=>by
  have h:=Fw ((w.alloc (.cells #[.int .i64 (-1),.int .i64 0,.int .i64 0] 3)).drew) ty (g:=w.heap.size) (o:=1) (dLen:=2) (dCap:=2) (sLen:=1) (sCap:=3) (a:=⟨w.heap.size,0,none⟩) (cur:=#[.int .i64 (-1),.int .i64 0,.int .i64 0]) (n:=0) [.int .i64 (-1)] (show(w.heap.push _)[w.heap.size]?=some (.cells _ 3 (0,0))by simp) rfl (by intro j v hj;rw[Addr.add_lit];match j,hj with|0,hj=>(cases hj;exact World.cell?_alloc_new w _ _ 0)) (by decide) (by simp[Value.oneCell']);rw[h];simp[go_sem]
 have h3:∀ty,(Builtin.copy_ #[66,66] ty #[.slice (some ⟨w.heap.size,2,none⟩) 1 1,.slice (some ⟨w.heap.size,0,none⟩) 2 3]).run prog (w.alloc (.cells #[.int .i64 (-1),.int .i64 (-1),.int .i64 0] 3)).drew.drew=.ok (.int .i64 1) ((w.alloc (.cells #[.int .i64 (-1),.int .i64 (-1),.int .i64 (-1)] 3)).drew.drew):=fun ty=>by
  have h:=Fw ((w.alloc (.cells #[.int .i64 (-1),.int .i64 (-1),.int .i64 0] 3)).drew.drew) ty (g:=w.heap.size) (o:=2) (dLen:=1) (dCap:=1) (sLen:=2) (sCap:=3) (a:=⟨w.heap.size,0,none⟩) (cur:=#[.int .i64 (-1),.int .i64 (-1),.int .i64 0]) (n:=0) [.int .i64 (-1)] (show(w.heap.push _)[w.heap.size]?=some (.cells _ 3 (0,0))by simp) rfl (by intro j v hj;rw[Addr.add_lit];match j,hj with|0,hj=>(cases hj;exact World.cell?_alloc_new w _ _ 0)) (by decide) (by simp[Value.oneCell']);rw[h];simp[go_sem]
 go_enter func370,ntmps370;go_wp2_with (first|(refine wp_loop_rounds 4 ?_;rw[rounds_succ])|(rw[rounds_succ])|(go_at_call 383;((refine ag (mulN (n:=3) (by decide) _) ?_);rintro e w' ⟨rfl,rfl⟩)))
 go_region;go_wp2_with (rw[rounds_succ])
 go_region;go_wp2_with (rw[rounds_succ])
 go_ret;exact⟨rfl,ae⟩
theorem IM(b:Nat)(w:World)(c0:w.cell? ⟨b,0,none⟩=some (.int .i64 (-1))):Calls prog 370 #[.slice (some ⟨b,0,none⟩) 1 1,.int .i64 4] w fun e w'=>e=.returned (.slice (some ⟨w.heap.size,0,none⟩) 4 4)/\af (w.alloc (.cells #[.int .i64 (-1),.int .i64 (-1),.int .i64 (-1),.int .i64 (-1)] 3)) w':=by
 have lb:=bP c0;have hm:(Instr.makeSlice 66 (.int .i64 4) (.int .i64 4)).run prog w=_:=Sq w 4 (by decide);rw[show madeCells #[.int .i64 0] 4=#[.int .i64 0,.int .i64 0,.int .i64 0,.int .i64 0]by first|rfl|(simp[madeCells];done)|kernel_rfl]at hm;have h1:∀ty,(Builtin.copy_ #[66,66] ty #[.slice (some ⟨w.heap.size,0,none⟩) 4 4,.slice (some ⟨b,0,none⟩) 1 1]).run prog (w.alloc (.cells #[.int .i64 0,.int .i64 0,.int .i64 0,.int .i64 0] 3))=.ok (.int .i64 1) ((w.alloc (.cells #[.int .i64 (-1),.int .i64 0,.int .i64 0,.int .i64 0] 3))):=fun ty=>by
  have h:=Fw ((w.alloc (.cells #[.int .i64 0,.int .i64 0,.int .i64 0,.int .i64 0] 3))) ty (g:=w.heap.size) (o:=0) (dLen:=4) (dCap:=4) (sLen:=1) (sCap:=1) (a:=⟨b,0,none⟩) (cur:=#[.int .i64 0,.int .i64 0,.int .i64 0,.int .i64 0]) (n:=0) [.int .i64 (-1)] (show(w.heap.push _)[w.heap.size]?=some (.cells _ 3 (0,0))by simp) rfl (by intro j v hj;rw[Addr.add_lit];match j,hj with|0,hj=>(cases hj;exact af.cell ae c0)) (by decide) (by simp[Value.oneCell']);rw[h];simp[go_sem]
 have h2:∀ty,(Builtin.copy_ #[66,66] ty #[.slice (some ⟨w.heap.size,1,none⟩) 3 3,.slice (some ⟨w.heap.size,0,none⟩) 1 4]).run prog (w.alloc (.cells #[.int .i64 (-1),.int .i64 0,.int .i64 0,.int .i64 0] 3)).drew=.ok (.int .i64 1) ((w.alloc (.cells #[.int .i64 (-1),.int .i64 (-1),.int .i64 0,.int .i64 0] 3)).drew):=fun ty=>by
  have h:=Fw ((w.alloc (.cells #[.int .i64 (-1),.int .i64 0,.int .i64 0,.int .i64 0] 3)).drew) ty (g:=w.heap.size) (o:=1) (dLen:=3) (dCap:=3) (sLen:=1) (sCap:=4) (a:=⟨w.heap.size,0,none⟩) (cur:=#[.int .i64 (-1),.int .i64 0,.int .i64 0,.int .i64 0]) (n:=0) [.int .i64 (-1)] (show(w.heap.push _)[w.heap.size]?=some (.cells _ 3 (0,0))by simp) rfl (by intro j v hj;rw[Addr.add_lit];match j,hj with|0,hj=>(cases hj;exact World.cell?_alloc_new w _ _ 0)) (by decide) (by simp[Value.oneCell']);rw[h];simp[go_sem]
 have h3:∀ty,(Builtin.copy_ #[66,66] ty #[.slice (some ⟨w.heap.size,2,none⟩) 2 2,.slice (some ⟨w.heap.size,0,none⟩) 2 4]).run prog (w.alloc (.cells #[.int .i64 (-1),.int .i64 (-1),.int .i64 0,.int .i64 0] 3)).drew.drew=.ok (.int .i64 2) ((w.alloc (.cells #[.int .i64 (-1),.int .i64 (-1),.int .i64 (-1),.int .i64 (-1)] 3)).drew.drew):=fun ty=>by
  have h:=Fw ((w.alloc (.cells #[.int .i64 (-1),.int .i64 (-1),.int .i64 0,.int .i64 0] 3)).drew.drew) ty (g:=w.heap.size) (o:=2) (dLen:=2) (dCap:=2) (sLen:=2) (sCap:=4) (a:=⟨w.heap.size,0,none⟩) (cur:=#[.int .i64 (-1),.int .i64 (-1),.int .i64 0,.int .i64 0]) (n:=0) [.int .i64 (-1),.int .i64 (-1)] (show(w.heap.push _)[w.heap.size]?=some (.cells _ 3 (0,0))by simp) rfl (by intro j v hj;rw[Addr.add_lit];match j,hj with|0,hj=>(cases hj;exact World.cell?_alloc_new w _ _ 0)|1,hj=>(cases hj;exact World.cell?_alloc_new w _ _ 1)) (by decide) (by simp[Value.oneCell']);rw[h];simp[go_sem]
 go_enter func370,ntmps370;go_wp2_with (first|(refine wp_loop_rounds 4 ?_;rw[rounds_succ])|(rw[rounds_succ])|(go_at_call 383;((refine ag (mulN (n:=4) (by decide) _) ?_);rintro e w' ⟨rfl,rfl⟩)))
 go_region;go_wp2_with (rw[rounds_succ])
 go_region;go_wp2_with (rw[rounds_succ])
 go_ret;exact⟨rfl,ae⟩
theorem Og{n:Nat}(h1:1<=n)(hn:n<=4)(b:Nat)(w:World)(c0:w.cell? ⟨b,0,none⟩=some (.int .i64 (-1))):Calls prog 370 #[.slice (some ⟨b,0,none⟩) 1 1,.int .i64 (n:Int)] w fun e w'=>e=.returned (.slice (some ⟨w.heap.size,0,none⟩) n n)/\af (w.alloc (.cells (Array.replicate n (.int .i64 (-1))) 3)) w':=by
 obtain rfl|rfl|rfl|rfl:n=1∨n=2∨n=3∨n=4:=by omega
 ·exact IJ b w c0
 ·exact IK b w c0
 ·exact IL b w c0
 ·exact IM b w c0
def nj(base:Nat)(w:World)(v:Value)(q:List Nat):Prop:= ∃g o c cur,v=.slice (some ⟨g,o,none⟩) q.length c/\base<=g/\w.heap[g]?=some (.cells cur 3 (0,0))/\o+c<=cur.size/\q.length<=c/\c<=maxLen/\∀(j k:Nat),q[j]?=some k->cur[o+j]?=some (.int .i64 k)
theorem nj.kept{base:Nat}{w w':World}{v:Value}{q:List Nat}{row:Option Nat}(h:nj base w v q)(hg:w.grownBy w' row)(hne:∀g,v.ownBlock=some g->row≠some g):nj base w' v q:=by
 obtain⟨g,o,c,cur,rfl,h1,h2,h3⟩:=h;exact⟨g,o,c,cur,rfl,h1,(hg.block g (Array.getElem?_eq_some_iff.1 h2).1 fun e=>hne g rfl e.symm).trans h2,h3⟩
theorem nj.exts{base:Nat}{w w':World}{v:Value}{q:List Nat}(h:nj base w v q)(he:af w w'):nj base w' v q:=h.kept (er he none) fun _ _ h=>by cases h
theorem nj.cell{base:Nat}{w:World}{g o n c:Nat}{q:List Nat}(h:nj base w (.slice (some ⟨g,o,none⟩) n c) q){j k:Nat}(hj:q[j]?=some k):w.cell? ⟨g,o+j,none⟩=some (.int .i64 k):=by
 obtain⟨g',o',c',cur,hv,h1,h2,h3,h4,h5,h6⟩:=h;cases hv;simp only[World.cell?,h2];have:=h6 j k hj;simpa using this
theorem nj.lt{base:Nat}{w:World}{v:Value}{q:List Nat}(h:nj base w v q):∃g o c,v=.slice (some ⟨g,o,none⟩) q.length c/\base<=g/\g<w.heap.size:=by
 obtain⟨g,o,c,cur,rfl,h1,h2,_⟩:=h;exact⟨g,o,c,rfl,h1,(Array.getElem?_eq_some_iff.1 h2).1⟩
theorem vk{base:Nat}{w:World}{v:Value}{q:List Nat}(h:nj base w v q):∀b,v.ownBlock=some b->base<=b:=by
 obtain⟨g,o,c,cur,rfl,h1,_⟩:=h;intro b hb;cases hb;exact h1
theorem nj.tail{base:Nat}{w:World}{g o n c k:Nat}{q:List Nat}(h:nj base w (.slice (some ⟨g,o,none⟩) n c) (k::q)):n=q.length+1/\1<=c/\(c=1->nj base w (.slice (some ⟨g,o,none⟩) q.length 0) q)/\(¬c=1->nj base w (.slice (some ⟨g,o+1,none⟩) q.length (c - 1)) q):=by
 obtain⟨g',o',c',cur,hv,h1,h2,h3,h4,h5,h6⟩:=h;cases hv;simp only[List.length_cons]at h4;refine⟨rfl,by omega,fun hc=> ?_,fun hc=> ?_⟩
 ·subst hc
  have:q= []:=List.eq_nil_of_length_eq_zero (by omega);subst this;exact⟨g,o,0,cur,rfl,h1,h2,by omega,by simp,by omega,fun j x hj=>by simp at hj⟩
 ·refine⟨g,o+1,c - 1,cur,rfl,h1,h2,by omega,by omega,by omega,fun j x hj=> ?_⟩
  have:=h6 (j+1) x (by simpa using hj);rw[<-this];congr 1;omega
theorem nj.one{w:World}{base:Nat}{k:Nat}{x:Ex}(hb:base<=w.heap.size):nj base (av (w.alloc (.cells #[.int .i64 (k:Int)] 3)) x) (.slice (some ⟨w.heap.size,0,none⟩) 1 1) [k]:=by
 refine⟨w.heap.size,0,1,#[.int .i64 k],rfl,hb,?_,by simp,by simp,by unfold maxLen;omega,fun j y hj=> ?_⟩
 ·rw[iQ _ _ _ (by simp)]
  show(w.heap.push _)[w.heap.size]?=_;simp
 ·match j,hj with
  |0,hj=>(cases hj;rfl)
theorem nj.new{w:World}{base:Nat}{k:Nat}(hb:base<=w.heap.size):nj base (w.alloc (.cells #[.int .i64 (k:Int)] 3)) (.slice (some ⟨w.heap.size,0,none⟩) 1 1) [k]:=by
 refine⟨w.heap.size,0,1,#[.int .i64 k],rfl,hb,?_,by simp,by simp,by unfold maxLen;omega,fun j y hj=> ?_⟩
 ·show(w.heap.push _)[w.heap.size]?=_
  simp
 ·match j,hj with
  |0,hj=>(cases hj;rfl)
theorem IU{w:World}{base:Nat}{v:Value}{q:List Nat}(h:nj base w v q)(ty:TypeId)(a:Addr)(c:Nat)(x:Nat)(hx:w.cell? a=some (.int .i64 x))(hn:q.length<=1000000)(hb:base<=w.heap.size):
 ∃v' w',(Builtin.append_ #[66,66] ty #[v,.slice (some a) 1 c]).run prog w=.ok v' w'/\nj base w' v' (q++ [x])/\w.grownBy w' v.ownBlock:=by
 obtain⟨i0,hi,q0⟩:=Option.map_eq_some_iff.1 BN;simp only[Prod.mk.injEq]at q0;obtain⟨hz0,hz1,hz2⟩:=q0;obtain⟨g,o,cap,cur,rfl,h1,h2,h3,h4,h5,h6⟩:=h;have hnews:∀j u,[Value.int .i64 (x:Int)][j]?=some u->w.cell? (a.add j)=some u:=fun j u hj=>by
  match j,hj with
  |0,hj=>
   cases hj;obtain⟨b,off,p⟩:=a;simpa[Addr.add]using hx
 by_cases hroom:q.length+1<=cap
 ·have hf:=run_firstCells_some (P:=prog) w 1 1 a 1 c [.int .i64 (x:Int)] rfl hnews
  have hst:=run_storeCells_at prog g (o+q.length) 3 [.int .i64 (x:Int)] 0 cur w h2 (by simp;omega) (by simp[Value.oneCell']);simp only[Nat.add_zero]at hst;obtain⟨N,hN⟩:∃N:Array Value,N=(cur.toList.take (o+q.length)++ [Value.int .i64 (x:Int)]++cur.toList.drop (o+q.length+1)).toArray:=⟨_,rfl⟩;have hst2:(storeCells ⟨g,o+q.length,none⟩ [.int .i64 (x:Int)]).run prog w=.ok () (w.setRow g N):=by rw[hst,hN];rfl
  refine⟨.slice (some ⟨g,o,none⟩) (q.length+1) cap,w.setRow g N,?_,⟨g,o,cap,N,by simp,h1,setRow_heap w g cur N 3 (0,0) h2,?_,by simp;omega,h5,fun j k hj=> ?_⟩,⟨rfl,rfl,rfl,by simp,fun k _ hk=>setRow_other w g k N (fun e=>hk (by simp[Value.ownBlock,e]))⟩⟩
  ·simp[Builtin.append_,run_underlying underlying66,sizeOf,typeInfo,hi,hz1,Builtin.lenOf,hroom,hf,Addr.add_lit,hst2]
  ·rw[hN]
   simp;omega
  ·rw[List.getElem?_append]at hj
   rw[hN];simp only[List.getElem?_toArray,List.append_assoc];split at hj
   ·rename_i hjl
    rw[List.getElem?_append_left (by simp;omega),List.getElem?_take,if_pos (by omega)];simpa using h6 j k hj
   ·have hj0:j=q.length:=by
     have:=(bw hj).1;simp at this;omega
    subst hj0;simp at hj;subst hj;have hl:(cur.toList.take (o+q.length)).length=o+q.length:=by simp;omega
    rw[List.getElem?_append_right (by omega),hl,Nat.sub_self];rfl
 ·have holds:∀j u,(q.map fun k:Nat=>Value.int .i64 (k:Int))[j]?=some u->w.cell? ((⟨g,o,none⟩:Addr).add j)=some u:=fun j u hj=>by
   rw[List.getElem?_map]at hj;cases hq:q[j]? with
   |none=>rw[hq]at hj;cases hj
   |some k=>
    rw[hq]at hj;cases hj;rw[Addr.add_lit];simp only[World.cell?,h2];simpa using h6 j k hq
  have hr:=run_append_grow (P:=prog) w 66 ty 3 i0 _ underlying66 hi hz0 ⟨g,o,none⟩ q.length cap (q.map fun k:Nat=>Value.int .i64 (k:Int)) (by simp[hz1]) holds a 1 c [.int .i64 (x:Int)] (by simp[hz1]) hnews (by omega) (by omega) (growslice_fits (by omega) (by rw[hz2];omega));refine⟨_,_,hr,⟨w.heap.size,0,_,_,by simp,hb,heap_alloc_new w.drew _,?_,?_,grownCap_le_maxLen w (q.length+1) cap 3 (by unfold maxLen;omega),fun j k hj=> ?_⟩,⟨rfl,rfl,rfl,by simp,fun k hk _=>heap_alloc_old w.drew _ hk⟩⟩
  ·have:=grownCap_ge w (q.length+1) cap 3
   simp[size_zeroCells,Value.cells];omega
  ·have:=grownCap_ge w (q.length+1) cap 3
   simp;omega
  ·have hj':j<q.length+1:=by
    have:=(bw hj).1;simpa using this
   rw[Nat.zero_add,Array.getElem?_append_left (by simp;omega),show((q.map fun k:Nat=>Value.int .i64 (k:Int)).toArray++ [Value.int .i64 (x:Int)].toArray)=((q++ [x]).map fun k:Nat=>Value.int .i64 (k:Int)).toArray by simp];rw[List.getElem?_toArray,List.getElem?_map,hj];rfl
theorem BO{w:World}{ops:Array Oper}{rest:List Oper}{o:Oper}{a:Act}{Q:Exit->Act->World->Prop}(hgd:o.guard=none)(s x:Operand)
 (ho:o.op=.call {callee:=.builtin .append,args:=#[s,x],argTypes:=#[66,66]}) {base:Nat} {v:Value} {q:List Nat} (hs:a.eval s=v) (hq:nj base w v q) (ad:Addr) (c:Nat) (y:Nat) (hx:a.eval x=.slice (some ad) 1 c) (hy:w.cell? ad=some (.int .i64 y)) (hn:q.length<=1000000) (hb:base<=w.heap.size)
 (h:∀v' w',nj base w' v' (q++ [y])->w.grownBy w' v.ownBlock->wpList prog ops Q rest (a.put o.dst v') w'):wpList prog ops Q (o::rest) a w:=by
 refine wpList_plain hgd fun K hK=> ?_
 obtain⟨v',w',h1,h2,h3⟩:=IU hq o.type ad c y hy hn hb;unfold Oper.wp;simp[execOp,ho,resolve,invoke,builtin,hs,hx,h1,Result.andThen];exact hK _ _ (h v' w' h2 h3)
def uI(w:World)(g:Nat)(o:List Int):Prop:=w.heap[g]?=some (.cells (o.map (Value.int .i64)).toArray 3 (0,0))
theorem uI.lt{w:World}{g:Nat}{o:List Int}(h:uI w g o):g<w.heap.size:=(Array.getElem?_eq_some_iff.1 h).1
theorem uI.cell{w:World}{g:Nat}{o:List Int}(h:uI w g o){i:Nat}{x:Int}(hi:o[i]?=some x):w.cell? ⟨g,i,none⟩=some (.int .i64 x):=by
 rw[cell_of_row _ _ _ _ _ _ h];simp[hi]
theorem uI.kept{w w':World}{g:Nat}{o:List Int}{row:Option Nat}(h:uI w g o)(hg:w.grownBy w' row)(hne:row≠some g):uI w' g o:=
 (hg.block g h.lt fun e=>hne e.symm).trans h
theorem uI.exts{w w':World}{g:Nat}{o:List Int}(h:uI w g o)(he:af w w'):uI w' g o:=h.kept (er he none) (by simp)
theorem uI.set{w:World}{g:Nat}{o:List Int}(h:uI w g o)(i:Nat)(x:Int):uI (w.setCell ⟨g,i,none⟩ (.int .i64 x)) g (o.set i x):=by
 unfold uI at*;rw[heap_setCell_same w g i _ 3 _ h];simp[List.map_set]
theorem uI.fz{w:World}{g:Nat}{o:List Int}(h:uI w g o)(i:Nat):w.frozen? ⟨g,i,none⟩=false:=frozen_of_row w g i _ 3 h
theorem uI.sl{w:World}{g:Nat}{o:List Int}(h:uI w g o)(hi:∀x∈o,I64 x)(hl:o.length<=maxLen):Sl dv w (some ⟨g,0,none⟩) o.length o.length o:=by
 have hown:w.ownsRow 0 3 1 (.slice (some ⟨g,0,none⟩) o.length o.length) o.length (o.map (Value.int .i64)):=⟨by simp,.inr ⟨g,o.length,_,rfl,Nat.zero_le _,h,Nat.le_refl _,hl,by simp,dQ (by simp)⟩⟩;refine aq.sl (e:=3) (base:=0) ⟨_,hown,fun i d hd=> ?_⟩ rfl;rw[show dv.k=1 from rfl,Nat.mul_one];have hx:(o.map (Value.int .i64))[i]?=some (.int .i64 d):=by rw[List.getElem?_map,hd];rfl
 refine⟨?_,hi d (gH hd)⟩;obtain⟨h1,h2⟩:=bw hx;rw[List.drop_eq_getElem_cons h1,h2];rfl
theorem bW(w:World)(g i:Nat)(v:Value):w.grownBy (w.setCell ⟨g,i,none⟩ v) (some g):=
 ⟨rfl,rfl,rfl,by simp[World.setCell],fun b hb hne=>by simp[World.setCell,Array.getElem?_modify,Ne.symm (fun e=>hne (congrArg some e))]⟩
abbrev sV:Array Value:=#[.string ⟨#[60,61]⟩,.string ⟨#[61,61]⟩,.string ⟨#[59]⟩,.string ⟨#[44]⟩,.string ⟨#[58]⟩,.string ⟨#[61]⟩,.string ⟨#[60]⟩,.string ⟨#[43]⟩,.string ⟨#[45]⟩,.string ⟨#[42]⟩,.string ⟨#[47]⟩,.string ⟨#[37]⟩,.string ⟨#[40]⟩,.string ⟨#[41]⟩]
def qA(w:World):Prop:= ∃t fr,w.heap[0]?=some (.cells sV t fr)
theorem qA.exts{w w':World}(h:qA w)(he:af w w'):qA w':=by
 obtain⟨t,fr,h⟩:=h;exact⟨t,fr,(he.below.block 0 (Array.getElem?_eq_some_iff.1 h).1).trans h⟩
def KO(l:List UInt8):Option Int:=if l= [57]then some 9 else if l= [50]then some 2 else if l= [53]then some 5 else if l= [49,50]then some 12 else none
def Ek(l:List UInt8):Option (List UInt8):=if l.take 1= [59]then some [59]else if l.take 1= [58]then some [58]else if l.take 2= [60,61]then some [60,61]else none
def SJ(l:List UInt8):Option Tok:=
 if fY (uE l)=true then(if nw (l.take (fV gP l))=true then some ⟨0,⟨(l.take (fV gP l)).toArray⟩,0,0⟩else none)
 else if eD (uE l)=true then(KO (l.take (fV eD l))).map fun n=>⟨1,⟨(l.take (fV eD l)).toArray⟩,n,0⟩
 else(Ek l).map fun x=>⟨2,⟨x.toArray⟩,0,0⟩
def KP:Nat->List UInt8->Nat->Option (List Tok)
 |0,_,_=>none
 |f+1,l,k=>if l.drop (fV kj l)= []then some [⟨3,⟨#[]⟩,0,((k+fV kj l:Nat):Int)⟩]else
  match SJ (l.drop (fV kj l))with
  |none=>none
  |some t=>(KP f ((l.drop (fV kj l)).drop t.text.size) (k+fV kj l+t.text.size)).map fun r=>{t with pos:=((k+fV kj l:Nat):Int)}::r
theorem adA(s:ByteArray)(n:Nat):s.extract 0 n=⟨(s.data.toList.take n).toArray⟩:=by
 have:=Lib.extract_data s 0 n;rw[List.drop_zero,Nat.sub_zero]at this;have h2:(s.extract 0 n).data=(s.data.toList.take n).toArray:=by rw[<-this]
 rw[<-h2]
theorem adB(s:ByteArray)(k:Nat):(s.extract k s.size).data.toList=s.data.toList.drop k:=by
 rw[Lib.extract_data,dQ (by simp)]
theorem OE{l:List UInt8}{n:Int}(h:KO l=some n)(w:World):Calls prog 211 #[.string ⟨l.toArray⟩] w fun e w'=>e=.returned (.tuple #[.int .i64 n,.bool true])/\w=w':=by
 unfold KO at h;split at h
 ·rename_i e
  subst e;cases h;show Calls prog 211 #[.string ⟨#[57]⟩] w _;go_enter func211,ntmps211;go_wp2_with (first|(go_at_call 123;((with_reducible refine ag (ma ⟨#[57]⟩ _ (by decide)) ?_);rintro e w' ⟨rfl,rfl⟩;rw[show fV eD (ByteArray.data ⟨#[57]⟩).toList=1 from rfl]))|(refine wp_loop_rounds 6 ?_;rw[rounds_succ])|(rw[rounds_succ]))
  go_ret2;exact⟨rfl,rfl⟩
 split at h
 ·rename_i e
  subst e;cases h;show Calls prog 211 #[.string ⟨#[50]⟩] w _;go_enter func211,ntmps211;go_wp2_with (first|(go_at_call 123;((with_reducible refine ag (ma ⟨#[50]⟩ _ (by decide)) ?_);rintro e w' ⟨rfl,rfl⟩;rw[show fV eD (ByteArray.data ⟨#[50]⟩).toList=1 from rfl]))|(refine wp_loop_rounds 6 ?_;rw[rounds_succ])|(rw[rounds_succ]))
  go_ret2;exact⟨rfl,rfl⟩
 split at h
 ·rename_i e
  subst e;cases h;show Calls prog 211 #[.string ⟨#[53]⟩] w _;go_enter func211,ntmps211;go_wp2_with (first|(go_at_call 123;((with_reducible refine ag (ma ⟨#[53]⟩ _ (by decide)) ?_);rintro e w' ⟨rfl,rfl⟩;rw[show fV eD (ByteArray.data ⟨#[53]⟩).toList=1 from rfl]))|(refine wp_loop_rounds 6 ?_;rw[rounds_succ])|(rw[rounds_succ]))
  go_ret2;exact⟨rfl,rfl⟩
 split at h
 ·rename_i e
  subst e;cases h;show Calls prog 211 #[.string ⟨#[49,50]⟩] w _;go_enter func211,ntmps211;go_wp2_with (first|(go_at_call 123;((with_reducible refine ag (ma ⟨#[49,50]⟩ _ (by decide)) ?_);rintro e w' ⟨rfl,rfl⟩;rw[show fV eD (ByteArray.data ⟨#[49,50]⟩).toList=2 from rfl]))|(refine wp_loop_rounds 6 ?_;rw[rounds_succ])|(rw[rounds_succ]))
  go_ret2;exact⟨rfl,rfl⟩
 ·cases h
theorem take_one{l:List UInt8}{c:UInt8}(h:l.take 1= [c]):∃r,l=c::r:=by
 cases l with
 |nil=>simp at h
 |cons a l=>simp at h;exact⟨l,by rw[h]⟩
theorem I9{l:List UInt8}{c d:UInt8}(h:l.take 2= [c,d]):∃r,l=c::d::r:=by
 match l,h with
 | [],h=>simp at h
 | [a],h=>simp at h
 |a::b::l,h=>simp at h;exact⟨l,by rw[h.1,h.2]⟩
theorem rq(s:ByteArray)(x:List UInt8)(b:Bool)(h:x.isPrefixOf s.data.toList=b)(w:World):Calls prog 212 #[.string s,.string ⟨x.toArray⟩] w fun e w'=>e=.returned (.bool b)/\w=w':=
 (Go.Proofs.Tryz.strings_HasPrefix s ⟨x.toArray⟩ w).mono fun e w'⟨he,hw⟩=>⟨by rw[he,<-h];rfl,hw.symm⟩
theorem FM(s:ByteArray)(w:World)(hs:s.size<=8000)(h0:0<s.size)(hl:fY (uE s.data.toList)=true)(hw:nw (s.data.toList.take (fV gP s.data.toList))=true):
 Calls prog 125 #[.string s] w (cX (.tuple #[.agg #[.int .i64 0,.string ⟨(s.data.toList.take (fV gP s.data.toList)).toArray⟩,.int .i64 0,.int .i64 0],.int .i64 0]) w):=by
 have HL:=aa (tT h0▸hl:fY (s[0].toNat:Int)=true);have hle:fV gP s.data.toList<=s.size:=by rw[<-oD s];exact Bj _ _
 have e0:=adA s (fV gP s.data.toList);have HW:=aa (show nw (s.extract 0 (fV gP s.data.toList)).data.toList=true by rw[e0];exact hw);have HE:=aa e0;clear hl hw e0;go_enter func125,ntmps125;go_wp2_with (first|((with_reducible refine ag (eW _ _ _ HL.zo) ?_);rintro e w' ⟨rfl,rfl⟩)|((with_reducible refine ag (CU _ _ ?_) ?_);omega;rintro e w' ⟨rfl,rfl⟩)|((with_reducible refine ag (Kk _ _ ?_) ?_);(simp;omega);rintro e w' ⟨rfl,rfl⟩;rw[HW.zo]))
 refine bodyPost_ret (v:=.tuple #[.agg #[.int .i64 0,.string (s.extract 0 (fV gP s.data.toList)),.int .i64 0,.int .i64 0],.int .i64 0]) (by simp[results,go_sem]) rfl ⟨by rw[HE.zo],ae⟩
theorem Ja(s:ByteArray)(w:World)(n:Int)(hs:s.size<=8000)(h0:0<s.size)(hl:fY (uE s.data.toList)=false)(hd:eD (uE s.data.toList)=true)(hn:KO (s.data.toList.take (fV eD s.data.toList))=some n):
 Calls prog 125 #[.string s] w (cX (.tuple #[.agg #[.int .i64 1,.string ⟨(s.data.toList.take (fV eD s.data.toList)).toArray⟩,.int .i64 n,.int .i64 0],.int .i64 0]) w):=by
 have HL:=aa (tT h0▸hl:fY (s[0].toNat:Int)=false);have HD:=aa (tT h0▸hd:eD (s[0].toNat:Int)=true);have hle:fV eD s.data.toList<=s.size:=by rw[<-oD s];exact Bj _ _
 have HE:=aa (adA s (fV eD s.data.toList));have HN:=aa (OE hn);clear hl hd hn;go_enter func125,ntmps125;go_wp2_with (first|((with_reducible refine ag (eW _ _ _ HL.zo) ?_);rintro e w' ⟨rfl,rfl⟩)|((with_reducible refine ag (jb _ _ _ HD.zo) ?_);rintro e w' ⟨rfl,rfl⟩)|((with_reducible refine ag (ma _ _ ?_) ?_);omega;rintro e w' ⟨rfl,rfl⟩)|(go_at_call 211;rw[HE.zo];((with_reducible refine ag (HN.zo _) ?_);rintro e w' ⟨rfl,rfl⟩)))
 refine bodyPost_ret (v:=.tuple #[.agg #[.int .i64 1,.string ⟨(s.data.toList.take (fV eD s.data.toList)).toArray⟩,.int .i64 n,.int .i64 0],.int .i64 0]) (by simp[results,go_sem]) rfl ⟨rfl,ae⟩
theorem FN(s:ByteArray)(w:World)(x:List UInt8)(hs:s.size<=8000)(h0:0<s.size)(hsg:qA w)(hl:fY (uE s.data.toList)=false)(hd:eD (uE s.data.toList)=false)(hx:Ek s.data.toList=some x):
 Calls prog 125 #[.string s] w (cX (.tuple #[.agg #[.int .i64 2,.string ⟨x.toArray⟩,.int .i64 0,.int .i64 0],.int .i64 0]) w):=by
 have HL:=aa (tT h0▸hl:fY (s[0].toNat:Int)=false);have HD:=aa (tT h0▸hd:eD (s[0].toNat:Int)=false);obtain⟨t,fr,hg⟩:=hsg.exts ((af.refl w).alloc (.cells #[.int .i64 0,.string ⟨#[]⟩,.int .i64 0,.int .i64 0] 121));have HG:=aa hg;clear hl hd hsg hg;have i0:∀w,(Instr.index 311 (.agg sV) (.int .i64 0)).run prog w=.ok (.string ⟨#[60,61]⟩) w:=fun _=>by kernel_rfl
 have i1:∀w,(Instr.index 311 (.agg sV) (.int .i64 1)).run prog w=.ok (.string ⟨#[61,61]⟩) w:=fun _=>by kernel_rfl
 have i2:∀w,(Instr.index 311 (.agg sV) (.int .i64 2)).run prog w=.ok (.string ⟨#[59]⟩) w:=fun _=>by kernel_rfl
 have i3:∀w,(Instr.index 311 (.agg sV) (.int .i64 3)).run prog w=.ok (.string ⟨#[44]⟩) w:=fun _=>by kernel_rfl
 have i4:∀w,(Instr.index 311 (.agg sV) (.int .i64 4)).run prog w=.ok (.string ⟨#[58]⟩) w:=fun _=>by kernel_rfl
 unfold Ek at hx;split at hx
 ·rename_i hc
  cases hx;obtain⟨r,hr⟩:=take_one hc;have P0:=aa (show([60,61]:List UInt8).isPrefixOf s.data.toList=false by rw[hr];rfl);have P1:=aa (show([61,61]:List UInt8).isPrefixOf s.data.toList=false by rw[hr];rfl);have P2:=aa (show([59]:List UInt8).isPrefixOf s.data.toList=true by rw[hr];rfl);clear hc hr;go_enter func125,ntmps125;go_wp2_with (first|((with_reducible refine ag (eW _ _ _ HL.zo) ?_);rintro e w' ⟨rfl,rfl⟩)|((with_reducible refine ag (jb _ _ _ HD.zo) ?_);rintro e w' ⟨rfl,rfl⟩)|(refine wpList_load_row rfl 311 _ rfl 0 rfl t _ fr _ HG.zo underlying311 rfl (by kernel_rfl) ?_)|(refine wp_loop_rounds 6 ?_;rw[rounds_succ])|(rw[rounds_succ])|((with_reducible refine ag (rq s [60,61] false P0.zo _) ?_);rintro e w' ⟨rfl,rfl⟩)|((with_reducible refine ag (rq s [61,61] false P1.zo _) ?_);rintro e w' ⟨rfl,rfl⟩)|((with_reducible refine ag (rq s [59] true P2.zo _) ?_);rintro e w' ⟨rfl,rfl⟩))
  refine bodyPost_ret (v:=.tuple #[.agg #[.int .i64 2,.string ⟨#[59]⟩,.int .i64 0,.int .i64 0],.int .i64 0]) (by simp[results,go_sem]) rfl ⟨rfl,ae⟩
 split at hx
 ·rename_i hc
  cases hx;obtain⟨r,hr⟩:=take_one hc;have P0:=aa (show([60,61]:List UInt8).isPrefixOf s.data.toList=false by rw[hr];rfl);have P1:=aa (show([61,61]:List UInt8).isPrefixOf s.data.toList=false by rw[hr];rfl);have P2:=aa (show([59]:List UInt8).isPrefixOf s.data.toList=false by rw[hr];rfl);have P3:=aa (show([44]:List UInt8).isPrefixOf s.data.toList=false by rw[hr];rfl);have P4:=aa (show([58]:List UInt8).isPrefixOf s.data.toList=true by rw[hr];rfl);clear hc hr;go_enter func125,ntmps125;go_wp2_with (first|((with_reducible refine ag (eW _ _ _ HL.zo) ?_);rintro e w' ⟨rfl,rfl⟩)|((with_reducible refine ag (jb _ _ _ HD.zo) ?_);rintro e w' ⟨rfl,rfl⟩)|(refine wpList_load_row rfl 311 _ rfl 0 rfl t _ fr _ HG.zo underlying311 rfl (by kernel_rfl) ?_)|(refine wp_loop_rounds 6 ?_;rw[rounds_succ])|(rw[rounds_succ])|((with_reducible refine ag (rq s [60,61] false P0.zo _) ?_);rintro e w' ⟨rfl,rfl⟩)|((with_reducible refine ag (rq s [61,61] false P1.zo _) ?_);rintro e w' ⟨rfl,rfl⟩)|((with_reducible refine ag (rq s [59] false P2.zo _) ?_);rintro e w' ⟨rfl,rfl⟩)|((with_reducible refine ag (rq s [44] false P3.zo _) ?_);rintro e w' ⟨rfl,rfl⟩)|((with_reducible refine ag (rq s [58] true P4.zo _) ?_);rintro e w' ⟨rfl,rfl⟩))
  refine bodyPost_ret (v:=.tuple #[.agg #[.int .i64 2,.string ⟨#[58]⟩,.int .i64 0,.int .i64 0],.int .i64 0]) (by simp[results,go_sem]) rfl ⟨rfl,ae⟩
 split at hx
 ·rename_i hc
  cases hx;obtain⟨r,hr⟩:=I9 hc;have P0:=aa (show([60,61]:List UInt8).isPrefixOf s.data.toList=true by rw[hr];rfl);clear hc hr;go_enter func125,ntmps125;go_wp2_with (first|((with_reducible refine ag (eW _ _ _ HL.zo) ?_);rintro e w' ⟨rfl,rfl⟩)|((with_reducible refine ag (jb _ _ _ HD.zo) ?_);rintro e w' ⟨rfl,rfl⟩)|(refine wpList_load_row rfl 311 _ rfl 0 rfl t _ fr _ HG.zo underlying311 rfl (by kernel_rfl) ?_)|(refine wp_loop_rounds 6 ?_;rw[rounds_succ])|(rw[rounds_succ])|((with_reducible refine ag (rq s [60,61] true P0.zo _) ?_);rintro e w' ⟨rfl,rfl⟩))
  refine bodyPost_ret (v:=.tuple #[.agg #[.int .i64 2,.string ⟨#[60,61]⟩,.int .i64 0,.int .i64 0],.int .i64 0]) (by simp[results,go_sem]) rfl ⟨rfl,ae⟩
 ·cases hx
theorem WJ(s:ByteArray)(l:List UInt8)(t:Tok)(w:World)(hl:s.data.toList=l)(hs:s.size<=8000)(h0:0<s.size)(hsg:qA w)(h:SJ l=some t):
 Calls prog 125 #[.string s] w (cX (.tuple #[.agg #[.int .i64 t.kind,.string t.text,.int .i64 t.n,.int .i64 0],.int .i64 0]) w):=by
 subst hl;unfold SJ at h;split at h
 ·rename_i h1
  split at h
  ·rename_i h2
   cases h;exact FM s w hs h0 h1 h2
  ·cases h
 ·rename_i h1
  have h1:=Bool.eq_false_iff.2 h1;split at h
  ·rename_i h2
   cases hn:KO (s.data.toList.take (fV eD s.data.toList))with
   |none=>rw[hn]at h;cases h
   |some n=>
    rw[hn]at h;cases h;exact Ja s w n hs h0 h1 h2 hn
  ·rename_i h2
   have h2:=Bool.eq_false_iff.2 h2;cases hn:Ek s.data.toList with
   |none=>rw[hn]at h;cases h
   |some x=>
    rw[hn]at h;cases h;exact FN s w x hs h0 hsg h1 h2 hn
theorem Aj(ao bo:Option Addr)(n c cc:Nat)(l:List ByteArray)(w:World)(h:Sl fC w ao n c l)(h2:Sl fC w bo n cc l):Calls prog 10 #[.slice ao n c,.slice bo n cc] w (cX (.bool true) w):=by
 have H:=aa h;have H2:=aa h2;have hm:=h.nle;unfold maxLen at hm;clear h h2;go_enter func10,ntmps10;go_wp2;go_loopw [5] (fun i wr=> ∃(k:Nat),k<=n/\i=.int .i64 k/\af w wr) (fun i _=>n - (intOf i).toNat)
 case atStart=>exact⟨0,by omega,rfl,ae⟩
 case round=>
  obtain⟨k,hk,rfl,hx⟩:=hrel;have HX:=aa hx;by_cases hlt:k<n
  ·obtain⟨d,hd⟩:=H.zo.ex hlt
   obtain⟨b,off,rfl,JJ,c00,hsz⟩:=lH H.zo hd;obtain⟨b2,off2,rfl,agA,c20,_⟩:=lH H2.zo hd;have c0:=af.cell HX.zo c00;have c2:=af.cell HX.zo c20;have lb:=bP c0;have Uz:=bP c2;have q:(d.toList==d.toList)=true:=by simp
   clear hx hd c00 c20 JJ agA;go_wp2;first|refine eK ?_|refine eJ ?_
   repeat (go_big_quiet_step (fail))
   refine eM fun xq=> ?_
   go_wp2;refine⟨⟨k+1,by omega,by go_num,HX.zo.trans ae⟩,?_⟩;simp[intOf];omega
  ·obtain rfl:k=n:=by omega
   clear hx;go_wp2;go_ret;exact⟨rfl,HX.zo.trans ae⟩
end Go.Proofs.YtomgpelfmgkknaaGreatDoor
