/- Lemmas for the law. No conditions. -/
import Derived.Test.YtomgpelfmgkknaaGreatDoorM20
namespace Go.Proofs.YtomgpelfmgkknaaGreatDoor
open Go.RowKit Go.Maps
open Go.Proofs.Tryz
set_option maxRecDepth 100000
set_option maxHeartbeats 40000000
set_option linter.unusedVariables false
set_option linter.unusedSimpArgs false
def iL(s:ByteArray)(r:Rule):Bool:=r.name.toList==s.toList
def CZ(s:ByteArray)(c:Cap):Bool:=c.name.toList==s.toList
def fx{T:Type}(p:T->Bool)(f:T->T):List T->List T
 | []=> []
 |x::l=>if p x=true then f x::l else x::fx p f l
def mJ(p:Plan)(e:fN):Int:=
 if e.kind=0 then(if p.rules.any (iL e.rule.name)=true then 5 else if 200<=p.rules.length then 6 else 0)
 else if e.kind=1 then
  match p.rules.find? (iL e.name)with
  |none=>4
  |some r=>if e.n<=r.start then 20 else 0
 else if p.caps.any (CZ e.name)=true then 0 else 4
def jR(p:Plan)(e:fN):Plan:=
 if e.kind=0 then{p with rules:=p.rules++ [e.rule]}
 else if e.kind=1 then{p with rules:=fx (iL e.name) (fun r=>{r with stop:=e.n}) p.rules}
 else{p with caps:=fx (CZ e.name) (fun c=>{c with limit:=e.n}) p.caps}
theorem iM{T:Type}(p:T->Bool)(f:T->T):∀l:List T,(fx p f l).length=l.length
 | []=>rfl
 |x::l=>by
  unfold fx;split
  ·rfl
  ·rw[List.length_cons,List.length_cons,iM p f l]
theorem lF{T:Type}(p:T->Bool)(f:T->T):∀(l:List T)(i:Nat)(y:T),l[i]?=some y->∃x,(fx p f l)[i]?=some x/\(x=y∨(p y=true/\x=f y))
 | [],i,y,h=>by simp at h
 |x::l,0,y,h=>by
  simp at h;subst h;unfold fx;split
  ·rename_i hp
   exact⟨_,rfl,.inr ⟨hp,rfl⟩⟩
  ·exact⟨_,rfl,.inl rfl⟩
 |x::l,i+1,y,h=>by
  have h:l[i]?=some y:=by simpa using h
  unfold fx;split
  ·exact⟨y,by simpa using h,.inl rfl⟩
  ·obtain⟨z,h1,h2⟩:=lF p f l i y h
   exact⟨z,by simpa using h1,h2⟩
theorem wM{T:Type}(p:T->Bool)(f:T->T)(g:T->Bool)(hg:∀x,g (f x)=g x):∀l:List T,(fx p f l).any g=l.any g
 | []=>rfl
 |x::l=>by
  unfold fx;split
  ·rw[List.any_cons,List.any_cons,hg]
  ·rw[List.any_cons,List.any_cons,wM p f g hg l]
def xU(day:Int)(l:List Rule)(e:fN):Prop:=e.kind=5∨(e.kind=0/\day<e.rule.start)∨(e.kind=1/\day<e.n/\∀r∈l,iL e.name r=true->r.stop=0∨day<r.stop)
theorem kq.refl(day:Int)(p:Plan):kq day p p:=⟨⟨rfl,rfl,rfl,fun _=>rfl⟩,Nat.le_refl _,fun i r h=>⟨r.stop,h,.inl rfl⟩,fun i r hi h=>by
 have:=(bw h).1;omega⟩
theorem BC{day:Int}{p0 p:Plan}{e:fN}(h:kq day p0 p)(he:xU day p0.rules e):kq day p0 (jR p e):=by
 rcases he with hk|⟨hk,hd⟩|⟨hk,hd,hr⟩
 ·have e1:jR p e={p with caps:=fx (CZ e.name) (fun c=>{c with limit:=e.n}) p.caps}:=by
   unfold jR;rw[if_neg (by omega),if_neg (by omega)]
  rw[e1];refine⟨⟨h.same.defs,h.same.tables,h.same.zones,fun x=> ?_⟩,h.len,h.old,h.new⟩;rw[<-h.same.caps x];exact wM (CZ e.name) (fun c=>{c with limit:=e.n}) (fun c=>c.name.toList==x.name.toList) (fun _=>rfl) p.caps
 ·have e1:jR p e={p with rules:=p.rules++ [e.rule]}:=by
   unfold jR;rw[if_pos hk]
  rw[e1];refine⟨⟨h.same.defs,h.same.tables,h.same.zones,h.same.caps⟩,?_,fun i r hi=> ?_,fun i r hi hx=> ?_⟩
  ·show _<=(p.rules++ [e.rule]).length
   have:=h.len;simp;omega
  ·obtain⟨s,h1,h2⟩:=h.old i r hi
   exact⟨s,by show(p.rules++ [e.rule])[i]?=_;rw[List.getElem?_append_left (bw h1).1];exact h1,h2⟩
  ·have hx:(p.rules++ [e.rule])[i]?=some r:=hx
   rw[List.getElem?_append]at hx;split at hx
   ·exact h.new i r hi hx
   ·have:r=e.rule:=by
     have h1:=gH hx;simpa using h1
    subst this;exact hd
 ·have e1:jR p e={p with rules:=fx (iL e.name) (fun r=>{r with stop:=e.n}) p.rules}:=by
   unfold jR;rw[if_neg (by omega),if_pos hk]
  rw[e1];refine⟨⟨h.same.defs,h.same.tables,h.same.zones,h.same.caps⟩,?_,fun i r hi=> ?_,fun i r hi hx=> ?_⟩
  ·show _<=(fx _ _ p.rules).length
   rw[iM];exact h.len
  ·obtain⟨s,h1,h2⟩:=h.old i r hi
   obtain⟨x,h3,h4⟩:=lF (iL e.name) (fun r=>{r with stop:=e.n}) p.rules i _ h1;rcases h4 with rfl|⟨h4,rfl⟩
   ·exact⟨s,h3,h2⟩
   ·exact⟨e.n,h3,.inr ⟨hd,hr r (gH hi) h4⟩⟩
  ·have hx:(fx (iL e.name) (fun r=>{r with stop:=e.n}) p.rules)[i]?=some r:=hx
   cases hy:p.rules[i]? with
   |none=>
    have h1:=(bw hx).1;rw[iM]at h1;have h2:=List.getElem?_eq_none_iff.1 hy;omega
   |some y=>
    obtain⟨x,h3,h4⟩:=lF (iL e.name) (fun r=>{r with stop:=e.n}) p.rules i _ hy;rw[hx]at h3;cases h3;have:=h.new i y hi hy;rcases h4 with rfl|⟨_,rfl⟩
    ·exact this
    ·exact this
theorem Ym(p:Plan)(cs:zv)(w:World)(h:(bq).R w cs p)(hb:Sr p):Calls prog 21 #[.agg cs.toArray] w fun e w'=> ∃cs':zv,e=.returned (.agg cs'.toArray)/\af w w'/\(bq).R w' cs' p:=by
 obtain⟨bF,bG,aN,aK,aX,aY,bH,bE,bN,bO,bj,aZ,cj,ck,rfl,q0,q1,q2,q3,q4,q5,q6,q7⟩:=h;have HB:=aa hb;obtain⟨xs0,t0,hr0,h10⟩:=q0.ones;have T0:=aa t0;have R0:=aa hr0;have N0:=aa h10;have B0:=aa (show p.defs.length*88<=140737488355328 from by have:=hb.defs;omega);obtain⟨xs1,t1,hr1,h11⟩:=q1.ones;have T1:=aa t1;have R1:=aa hr1;have N1:=aa h11;have B1:=aa (show p.tables.length*48<=140737488355328 from by have:=hb.tables;omega);obtain⟨xs2,t2,hr2,h12⟩:=q2.ones;have T2:=aa t2;have R2:=aa hr2;have N2:=aa h12;have B2:=aa (show p.zones.length*48<=140737488355328 from by have:=hb.zones;omega);obtain⟨xs3,t3,hr3,h13⟩:=q3.ones;have T3:=aa t3;have R3:=aa hr3;have N3:=aa h13;have B3:=aa (show p.rules.length*232<=140737488355328 from by have:=hb.rules;omega);obtain⟨Wx,t4,hr4,h14⟩:=q4.ones;have T4:=aa t4;have R4:=aa hr4;have N4:=aa h14;have B4:=aa (show p.caps.length*56<=140737488355328 from by have:=hb.caps;omega);obtain⟨xs5,t5,hr5,h15⟩:=q5.ones;have T5:=aa t5;have R5:=aa hr5;have N5:=aa h15;have B5:=aa (show p.views.length*72<=140737488355328 from by have:=hb.views;omega);obtain⟨xs6,t6,hr6,h16⟩:=q6.ones;have T6:=aa t6;have R6:=aa hr6;have N6:=aa h16;have B6:=aa (show p.eA.length*24<=140737488355328 from by have:=hb.eA;omega);have H7:=aa q7;clear hb q0 q1 q2 q3 q4 q5 q6 q7 t0 t1 t2 t3 t4 t5 t6 hr0 hr1 hr2 hr3 hr4 hr5 hr6 h10 h11 h12 h13 h14 h15 h16;go_enter func21,ntmps21;go_wp2;refine b9 (S:=fun w'=> ∃x,w'=av _ x) [0,3,6,9] [([1,4,7,10],2),([12],5),([],8),([],11)] [] [13,14,15,16,17,18,19] (by kernel_rfl) (by kernel_rfl) ⟨_,by first|exact dx _|exact ai _ _⟩ ?_;try simp only[bX,pick,eh]
 try change wpQuiet _ _ _ _ (_::_) _
 repeat (go_big_quiet_step (fail))
 refine wpQuiet_nil ?_;try change wpQuiet _ _ _ _ (_::_) _
 repeat (go_big_quiet_step (fail))
 refine wpQuiet_nil ?_;try change wpList _ _ _ (_::_) _ _
 go_wp2_with ((with_reducible refine ag (Ih (S:=fun _=>True) _ _ xs0 _ ?_ N0.zo B0.zo) ?_);exact T0.zo.exts ae;rintro r w' ⟨v0,rfl,⟨y0,rfl⟩,ho0⟩;(obtain⟨a0,c0,rfl⟩:=eC ho0);(try simp only[bf,au,ai]at ho0);(have O0:=aa ho0);clear ho0)
 refine dn (by first|exact⟨_,(cF _).symm⟩|exact⟨_,rfl⟩|exact ae) ?_;try simp only[bX,pick,eh]
 try change wpQuiet _ _ _ _ (_::_) _
 repeat (go_big_quiet_step (fail))
 refine wpQuiet_nil ?_;try change wpList _ _ _ (_::_) _ _
 go_wp2_with ((with_reducible refine ag (Ii (S:=fun _=>True) _ _ xs1 _ ?_ N1.zo B1.zo) ?_);exact T1.zo.exts ae;rintro r w' ⟨v1,rfl,⟨y1,rfl⟩,ho1⟩;(obtain⟨a1,c1,rfl⟩:=eC ho1);(try simp only[bf,au,ai]at ho1);(have O1:=aa ho1);clear ho1)
 refine dn (by first|exact⟨_,(cF _).symm⟩|exact⟨_,rfl⟩|exact ae) ?_;try simp only[bX,pick,eh]
 try change wpQuiet _ _ _ _ (_::_) _
 repeat (go_big_quiet_step (fail))
 refine wpQuiet_nil ?_;try change wpList _ _ _ (_::_) _ _
 go_wp2_with ((with_reducible refine ag (Ij (S:=fun _=>True) _ _ xs2 _ ?_ N2.zo B2.zo) ?_);exact T2.zo.exts ae;rintro r w' ⟨v2,rfl,⟨y2,rfl⟩,ho2⟩;(obtain⟨a2,c2,rfl⟩:=eC ho2);(try simp only[bf,au,ai]at ho2);(have O2:=aa ho2);clear ho2)
 refine dn (by first|exact⟨_,(cF _).symm⟩|exact⟨_,rfl⟩|exact ae) ?_;try simp only[bX,pick,eh]
 try change wpQuiet _ _ _ _ (_::_) _
 repeat (go_big_quiet_step (fail))
 refine wpQuiet_nil ?_;try change wpList _ _ _ (_::_) _ _
 go_wp2_with ((with_reducible refine ag (yP (S:=fun _=>True) _ _ xs3 _ ?_ N3.zo B3.zo) ?_);exact T3.zo.exts ae;rintro r w' ⟨v3,rfl,⟨y3,rfl⟩,ho3⟩;(obtain⟨a3,c3,rfl⟩:=eC ho3);(try simp only[bf,au,ai]at ho3);(have O3:=aa ho3);clear ho3)
 refine dn (by first|exact⟨_,(cF _).symm⟩|exact⟨_,rfl⟩|exact ae) ?_;try simp only[bX,pick,eh]
 try change wpQuiet _ _ _ _ (_::_) _
 repeat (go_big_quiet_step (fail))
 refine wpQuiet_nil ?_;try change wpList _ _ _ (_::_) _ _
 go_wp2;refine cV ?_;go_wp2;refine b9 (S:=fun w'=> ∃x,w'=av _ x) [0,3,6] [([1,4,7],2),([9],5),([],8)] [] [10,11,12,13,14] (by kernel_rfl) (by kernel_rfl) ⟨_,by first|exact dx _|exact ai _ _⟩ ?_;try simp only[bX,pick,eh]
 try change wpQuiet _ _ _ _ (_::_) _
 repeat (go_big_quiet_step (fail))
 refine wpQuiet_nil ?_;try change wpQuiet _ _ _ _ (_::_) _
 repeat (go_big_quiet_step (fail))
 refine wpQuiet_nil ?_;try change wpList _ _ _ (_::_) _ _
 go_wp2_with ((with_reducible refine ag (yQ (S:=fun _=>True) _ _ Wx _ ?_ N4.zo B4.zo) ?_);exact T4.zo.exts ae;rintro r w' ⟨v4,rfl,⟨y4,rfl⟩,Ca⟩;(obtain⟨a4,c4,rfl⟩:=eC Ca);(try simp only[bf,au,ai]at Ca);(have O4:=aa Ca);clear Ca)
 refine dn (by first|exact⟨_,(cF _).symm⟩|exact⟨_,rfl⟩|exact ae) ?_;try simp only[bX,pick,eh]
 try change wpQuiet _ _ _ _ (_::_) _
 repeat (go_big_quiet_step (fail))
 refine wpQuiet_nil ?_;try change wpList _ _ _ (_::_) _ _
 go_wp2_with ((with_reducible refine ag (Ik (S:=fun _=>True) _ _ xs5 _ ?_ N5.zo B5.zo) ?_);exact T5.zo.exts ae;rintro r w' ⟨v5,rfl,⟨y5,rfl⟩,Oo⟩;(obtain⟨a5,c5,rfl⟩:=eC Oo);(try simp only[bf,au,ai]at Oo);(have O5:=aa Oo);clear Oo)
 refine dn (by first|exact⟨_,(cF _).symm⟩|exact⟨_,rfl⟩|exact ae) ?_;try simp only[bX,pick,eh]
 try change wpQuiet _ _ _ _ (_::_) _
 repeat (go_big_quiet_step (fail))
 refine wpQuiet_nil ?_;try change wpList _ _ _ (_::_) _ _
 go_wp2_with ((with_reducible refine ag (yR (S:=fun _=>True) _ _ xs6 _ ?_ N6.zo B6.zo) ?_);exact T6.zo.exts ae;rintro r w' ⟨v6,rfl,⟨y6,rfl⟩,xw⟩;(obtain⟨a6,c6,rfl⟩:=eC xw);(try simp only[bf,au,ai]at xw);(have O6:=aa xw);clear xw)
 refine dn (by first|exact⟨_,(cF _).symm⟩|exact⟨_,rfl⟩|exact ae) ?_;try simp only[bX,pick,eh]
 try change wpQuiet _ _ _ _ (_::_) _
 repeat (go_big_quiet_step (fail))
 refine wpQuiet_nil ?_;try change wpList _ _ _ (_::_) _ _
 go_wp2;refine cV ?_;go_wp2;refine bI ?_;intro W2 hW2;have P0:bL (OD w.heap.size W2.heap.size) mC (w.heap.size+1+1) 126 W2 (.slice a0 p.defs.length c0) p.defs:=by
  rw[hW2];refine((((bL.of (L:=mC) (l:=p.defs) (D:=fun b=>b<w.heap.size) O0.zo R0.zo ae (fun _ h=>h) (by simp<;>omega)).at ((On.two ?_).mono fun b hb=>hb.elim .inl fun h=> .inr (by have:=cm O0.zo b h;simp at this;omega))).lower (by simp<;>omega)).mono fun b hb=> .inl hb);simp only[Ex.and,Array.append_assoc];exact⟨_,rfl⟩
 have P1:bL (OD w.heap.size W2.heap.size) nB (w.heap.size+1+1) 132 W2 (.slice a1 p.tables.length c1) p.tables:=by
  rw[hW2];refine((((bL.of (L:=nB) (l:=p.tables) (D:=fun b=>b<w.heap.size) O1.zo R1.zo ae (fun _ h=>h) (by simp<;>omega)).at ((On.two ?_).mono fun b hb=>hb.elim .inl fun h=> .inr (by have:=cm O1.zo b h;simp at this;omega))).lower (by simp<;>omega)).mono fun b hb=> .inl hb);simp only[Ex.and,Array.append_assoc];exact⟨_,rfl⟩
 have P2:bL (OD w.heap.size W2.heap.size) jV (w.heap.size+1+1) 128 W2 (.slice a2 p.zones.length c2) p.zones:=by
  rw[hW2];refine((((bL.of (L:=jV) (l:=p.zones) (D:=fun b=>b<w.heap.size) O2.zo R2.zo ae (fun _ h=>h) (by simp<;>omega)).at ((On.two ?_).mono fun b hb=>hb.elim .inl fun h=> .inr (by have:=cm O2.zo b h;simp at this;omega))).lower (by simp<;>omega)).mono fun b hb=> .inl hb);simp only[Ex.and,Array.append_assoc];exact⟨_,rfl⟩
 have P3:bL (OD w.heap.size W2.heap.size) aw (w.heap.size+1+1) 52 W2 (.slice a3 p.rules.length c3) p.rules:=by
  rw[hW2];refine((((bL.of (L:=aw) (l:=p.rules) (D:=fun b=>b<w.heap.size) O3.zo R3.zo ae (fun _ h=>h) (by simp<;>omega)).at ((On.two ?_).mono fun b hb=>hb.elim .inl fun h=> .inr (by have:=cm O3.zo b h;simp at this;omega))).lower (by simp<;>omega)).mono fun b hb=> .inl hb);simp only[Ex.and,Array.append_assoc];exact⟨_,rfl⟩
 have P4:bL (OD w.heap.size W2.heap.size) iR (w.heap.size+1+1) 130 W2 (.slice a4 p.caps.length c4) p.caps:=by
  rw[hW2];refine((((bL.of (L:=iR) (l:=p.caps) (D:=fun b=>b<w.heap.size) O4.zo R4.zo ae (fun _ h=>h) (by simp<;>omega)).at ((On.two ?_).mono fun b hb=>hb.elim .inl fun h=> .inr (by have:=cm O4.zo b h;simp at this;omega))).lower (by simp<;>omega)).mono fun b hb=> .inl hb);simp only[Ex.and,Array.append_assoc];exact⟨_,rfl⟩
 have P5:bL (OD w.heap.size W2.heap.size) kM (w.heap.size+1+1) 136 W2 (.slice a5 p.views.length c5) p.views:=by
  rw[hW2];refine((((bL.of (L:=kM) (l:=p.views) (D:=fun b=>b<w.heap.size) O5.zo R5.zo ae (fun _ h=>h) (by simp<;>omega)).at ((On.two ?_).mono fun b hb=>hb.elim .inl fun h=> .inr (by have:=cm O5.zo b h;simp at this;omega))).lower (by simp<;>omega)).mono fun b hb=> .inl hb);simp only[Ex.and,Array.append_assoc];exact⟨_,rfl⟩
 have P6:bL (OD w.heap.size W2.heap.size) yw (w.heap.size+1+1) 134 W2 (.slice a6 p.eA.length c6) p.eA:=by
  rw[hW2];refine((((bL.of (L:=yw) (l:=p.eA) (D:=fun b=>b<w.heap.size) O6.zo R6.zo ae (fun _ h=>h) (by simp<;>omega)).at ((On.two ?_).mono fun b hb=>hb.elim .inl fun h=> .inr (by have:=cm O6.zo b h;simp at this;omega))).lower (by simp<;>omega)).mono fun b hb=> .inl hb);exact⟨#[],Array.append_empty.symm⟩
 have hM:w.heap.size+1+1<=W2.heap.size:=by rw[hW2];simp<;>omega
 have PA:gQ w W2 W2.heap.size p (.slice a0 p.defs.length c0) (.slice a1 p.tables.length c1) (.slice a2 p.zones.length c2) (.slice a3 p.rules.length c3) (.slice a4 p.caps.length c4) (.slice a5 p.views.length c5) (.slice a6 p.eA.length c6):=⟨by rw[hW2];exact ae,Nat.le_refl _,⟨by rw[hW2];simp[go_sem],by rw[hW2];simp[go_sem]⟩,by rw[hW2];simp[go_sem],by rw[hW2];simp[go_sem],by rw[hW2];simp[go_sem],by rw[hW2];simp[go_sem],by rw[hW2];simp[go_sem],by rw[hW2];simp[go_sem],by rw[hW2];simp[go_sem],by rw[hW2];simp[go_sem],fun b hb=>P0.lt hb,fun b hb=>P1.lt hb,fun b hb=>P2.lt hb,fun b hb=>P3.lt hb,fun b hb=>P4.lt hb,fun b hb=>P5.lt hb,fun b hb=>P6.lt hb,P0,P1,P2,P3,P4,P5,P6⟩;obtain⟨M,hMM⟩:∃M,W2.heap.size=M:=⟨_,rfl⟩;rw[hMM]at PA hM;have mr:=aa PA;clear hW2 PA hMM P0 P1 P2 P3 P4 P5 P6 O0 T0 R0 N0 B0 O1 T1 R1 N1 B1 O2 T2 R2 N2 B2 O3 T3 R3 N3 B3 O4 T4 R4 N4 B4 O5 T5 R5 N5 B5 O6 T6 R6 N6 B6;go_loopw [41] (fun i wr=> ∃(k:Nat),k<=p.defs.length/\i=.int .i64 k/\gQ w wr M p (.slice a0 p.defs.length c0) (.slice a1 p.tables.length c1) (.slice a2 p.zones.length c2) (.slice a3 p.rules.length c3) (.slice a4 p.caps.length c4) (.slice a5 p.views.length c5) (.slice a6 p.eA.length c6)) (fun i _=>p.defs.length - (intOf i).toNat)
 case atStart=>exact⟨0,by omega,rfl,mr.zo⟩
 case round=>
  obtain⟨k,hk,rfl,hA⟩:=hrel;clear mr;have mr:=aa hA;have C0:=hA.c0;have hsz:=hA.sz;have hlen:=HB.zo.defs;by_cases hlt:k<p.defs.length
  ·obtain⟨d,hd⟩:=(hA.o0.sl rfl).ex hlt
   obtain⟨g,cur,rfl,hgb,hgl,hgc,hcs⟩:=hA.o0.form rfl (by omega);obtain⟨b,off,cs,e0,lb,hR,hc⟩:=(hA.o0.sl rfl).at hd;simp only[Option.some.injEq,Addr.mk.injEq,and_true]at e0;obtain⟨rfl,rfl⟩:=e0;have hc2:∀j u,cs[j]?=some u->wr.cell? ⟨g,k*6+j,none⟩=some u:=fun j u h=>by
    have:=hc j u h;rw[Nat.zero_add]at this;exact this
   obtain⟨eO,eP,rfl,t0,t1⟩:=hR;have hfit:=uJ (K:=6) hd rfl;have hok:=HB.zo.body k d hd;have LD:∀w',af wr w'->(jf 48 ⟨g,k*6+1,none⟩).run prog w'=.ok (.agg #[.int .i64 d.body.op,.int .i64 d.body.num,.string d.body.str,.string d.body.key,.slice eO d.body.args.length eP]) w':=fun w' he=>uy (cs:= [.int .i64 d.body.op,.int .i64 d.body.num,.string d.body.str,.string d.body.key,.slice eO d.body.args.length eP]) rfl fun j u hu=>af.cell he (by rw[Nat.add_assoc];exact hc2 (1+j) u (by rw[Nat.add_comm];exact hu))
   have IR:isRow wr g (rowOf wr g).size:=⟨cur,_,hgc,by rw[gI hgc]⟩;have hcs2:p.defs.length*6<=cur.size:=hcs;have SZ:k*6+1+5<=(rowOf wr g).size:=by rw[gI hgc];omega
   have GH:=aa hok;have QI:=aa t1;have HD:=aa hd;clear hA hd hok hgc hcs hc hc2 t0 t1;go_wp2;refine b9 (S:=fun w'=> ∃x,w'=av _ x) [0,2,3,5] [([1,4,6,7,8],9)] [] [10,11,12] (by kernel_rfl) (by kernel_rfl) ⟨_,by first|exact dx _|exact ai _ _⟩ ?_;try simp only[bX,pick,eh]
   try change wpQuiet _ _ _ _ (_::_) _
   repeat (go_big_quiet_step (fail))
   refine wpQuiet_nil ?_;try change wpQuiet _ _ _ _ (_::_) _
   repeat (go_big_quiet_step (fail))
   refine wpQuiet_nil ?_;try change wpList _ _ _ (_::_) _ _
   go_wp2_with ((with_reducible refine ag (Sp 13 d.body _ _ GH.zo ?_) ?_);exact(QI.zo.exts ae).shut;rintro r w' ⟨ao',c',rfl,⟨x5,rfl⟩,hs⟩;(try simp only[bf,au,ai]at hs);(have HS:=aa hs);clear hs)
   refine dn (by first|exact⟨_,(cF _).symm⟩|exact⟨_,rfl⟩|exact ae) ?_;try simp only[bX,pick,eh]
   try change wpQuiet _ _ _ _ (_::_) _
   repeat (go_big_quiet_step (fail))
   refine wpQuiet_nil ?_;try change wpList _ _ _ (_::_) _ _
   go_wp2;refine cV ?_;go_wp2;refine⟨⟨k+1,by omega,by go_num,mr.zo.adl (?_:On _ _ _) (Oh mr.zo.o0 rfl HD.zo (Nat.le_refl 6) (by exact HS.zo.mono fun b hb=>by simpa using hb) mr.zo.sz ?_)⟩,by simp[intOf];omega⟩
   ·exact(On.Ah fun h0=>h0 rfl).trans (On.exts ae)
   ·rintro w2 cs ⟨oz,cz,rfl,z0,z1⟩ hx
    obtain⟨_,_,e1,hv⟩:=hx.opened;cases e1;exact⟨_,_,rfl,z0,hv⟩
  ·obtain rfl:k=p.defs.length:=by omega
   have CN:=hA.c1;clear hA;go_wp2;go_loopw [60] (fun i wr=> ∃(k:Nat),k<=p.tables.length/\i=.int .i64 k/\gQ w wr M p (.slice a0 p.defs.length c0) (.slice a1 p.tables.length c1) (.slice a2 p.zones.length c2) (.slice a3 p.rules.length c3) (.slice a4 p.caps.length c4) (.slice a5 p.views.length c5) (.slice a6 p.eA.length c6)) (fun i _=>p.tables.length - (intOf i).toNat)
   case atStart=>exact⟨0,by omega,rfl,mr.zo⟩
   case round=>
    obtain⟨k,hk,rfl,hA⟩:=hrel;clear mr;have mr:=aa hA;have C0:=hA.c1;have hsz:=hA.sz;have hlen:=HB.zo.tables;by_cases hlt:k<p.tables.length
    ·obtain⟨d,hd⟩:=(hA.o1.sl rfl).ex hlt
     obtain⟨g,cur,rfl,hgb,hgl,hgc,hcs⟩:=hA.o1.form rfl (by omega);obtain⟨b,off,cs,e0,lb,hR,hc⟩:=(hA.o1.sl rfl).at hd;simp only[Option.some.injEq,Addr.mk.injEq,and_true]at e0;obtain⟨rfl,rfl⟩:=e0;have hc2:∀j u,cs[j]?=some u->wr.cell? ⟨g,k*3+j,none⟩=some u:=fun j u h=>by
      have:=hc j u h;rw[Nat.zero_add]at this;exact this
     obtain⟨iF,iG,rfl,t0,t1,t2⟩:=hR;have hfit:=uJ (K:=3) hd rfl;have hn:=HB.zo.rows k d hd;have CI:=hc2 1 _ rfl;have FZ:=fun i=>frozen_of_row wr g i _ 132 hgc
     have QI:=aa t1;have HD:=aa hd;clear hA hd hgc hcs hc hc2 t0 t1 t2;go_wp2;refine b9 (S:=fun w'=> ∃x,w'=av _ x) [0,2,3,5] [([1,4,6,7,8],9)] [] [10,11,12] (by kernel_rfl) (by kernel_rfl) ⟨_,by first|exact dx _|exact ai _ _⟩ ?_;try simp only[bX,pick,eh]
     try change wpQuiet _ _ _ _ (_::_) _
     repeat (go_big_quiet_step (fail))
     refine wpQuiet_nil ?_;try change wpQuiet _ _ _ _ (_::_) _
     repeat (go_big_quiet_step (fail))
     refine wpQuiet_nil ?_;try change wpList _ _ _ (_::_) _ _
     go_wp2_with ((with_reducible refine ag (VX _ _ _ d.rows _ ?_ ?_) ?_);exact QI.zo.exts ae;omega;rintro e w' ⟨ao',c',rfl,⟨x5,rfl⟩,_,hs⟩;(try simp only[bf,au,ai]at hs);(have HS:=aa hs);clear hs)
     refine dn (by first|exact⟨_,(cF _).symm⟩|exact⟨_,rfl⟩|exact ae) ?_;try simp only[bX,pick,eh]
     try change wpQuiet _ _ _ _ (_::_) _
     repeat (go_big_quiet_step (fail))
     refine wpQuiet_nil ?_;try change wpList _ _ _ (_::_) _ _
     go_wp2;refine cV ?_;go_wp2;refine⟨⟨k+1,by omega,by go_num,mr.zo.adn ((On.grown (bW _ _ _ _) fun b hb h0=>h0 hb).trans (On.exts ae)) (ua mr.zo.o1 rfl HD.zo (by decide) IW (by exact HS.zo) rfl mr.zo.sz ?_)⟩,by simp[intOf];omega⟩;exact fun w2 cs h hs=>by
      obtain⟨abI,abJ,rfl,z0,z1,z2⟩:=h;exact⟨_,_,rfl,z0,hs,z2⟩
    ·obtain rfl:k=p.tables.length:=by omega
     have CN:=hA.c2;clear hA;go_wp2;go_loopw [79] (fun i wr=> ∃(k:Nat),k<=p.zones.length/\i=.int .i64 k/\gQ w wr M p (.slice a0 p.defs.length c0) (.slice a1 p.tables.length c1) (.slice a2 p.zones.length c2) (.slice a3 p.rules.length c3) (.slice a4 p.caps.length c4) (.slice a5 p.views.length c5) (.slice a6 p.eA.length c6)) (fun i _=>p.zones.length - (intOf i).toNat)
     case atStart=>exact⟨0,by omega,rfl,mr.zo⟩
     case round=>
      obtain⟨k,hk,rfl,hA⟩:=hrel;clear mr;have mr:=aa hA;have C0:=hA.c2;have hsz:=hA.sz;have hlen:=HB.zo.zones;by_cases hlt:k<p.zones.length
      ·obtain⟨d,hd⟩:=(hA.o2.sl rfl).ex hlt
       obtain⟨g,cur,rfl,hgb,hgl,hgc,hcs⟩:=hA.o2.form rfl (by omega);obtain⟨b,off,cs,e0,lb,hR,hc⟩:=(hA.o2.sl rfl).at hd;simp only[Option.some.injEq,Addr.mk.injEq,and_true]at e0;obtain⟨rfl,rfl⟩:=e0;have hc2:∀j u,cs[j]?=some u->wr.cell? ⟨g,k*3+j,none⟩=some u:=fun j u h=>by
        have:=hc j u h;rw[Nat.zero_add]at this;exact this
       obtain⟨aV,aW,rfl,t0,t1⟩:=hR;have hfit:=uJ (K:=3) hd rfl;have hn:=HB.zo.zone k d hd;have CI:=hc2 2 _ rfl;have FZ:=fun i=>frozen_of_row wr g i _ 128 hgc
       have QI:=aa t1;have HD:=aa hd;clear hA hd hgc hcs hc hc2 t0 t1;go_wp2;refine b9 (S:=fun w'=> ∃x,w'=av _ x) [0,2,3,5] [([1,4,6,7,8],9)] [] [10,11,12] (by kernel_rfl) (by kernel_rfl) ⟨_,by first|exact dx _|exact ai _ _⟩ ?_;try simp only[bX,pick,eh]
       try change wpQuiet _ _ _ _ (_::_) _
       repeat (go_big_quiet_step (fail))
       refine wpQuiet_nil ?_;try change wpQuiet _ _ _ _ (_::_) _
       repeat (go_big_quiet_step (fail))
       refine wpQuiet_nil ?_;try change wpList _ _ _ (_::_) _ _
       go_wp2_with ((with_reducible refine ag (Ma _ _ _ d.corners _ ?_ ?_) ?_);exact QI.zo.exts ae;omega;rintro e w' ⟨ao',c',rfl,⟨x5,rfl⟩,_,hs⟩;(try simp only[bf,au,ai]at hs);(have HS:=aa hs);clear hs)
       refine dn (by first|exact⟨_,(cF _).symm⟩|exact⟨_,rfl⟩|exact ae) ?_;try simp only[bX,pick,eh]
       try change wpQuiet _ _ _ _ (_::_) _
       repeat (go_big_quiet_step (fail))
       refine wpQuiet_nil ?_;try change wpList _ _ _ (_::_) _ _
       go_wp2;refine cV ?_;go_wp2;refine⟨⟨k+1,by omega,by go_num,mr.zo.ado ((On.grown (bW _ _ _ _) fun b hb h0=>h0 hb).trans (On.exts ae)) (ua mr.zo.o2 rfl HD.zo (by decide) IX (by exact HS.zo) rfl mr.zo.sz ?_)⟩,by simp[intOf];omega⟩;exact fun w2 cs h hs=>by
        obtain⟨FI,FK,rfl,z0,z1⟩:=h;exact⟨_,_,rfl,z0,hs⟩
      ·obtain rfl:k=p.zones.length:=by omega
       have CN:=hA.c3;clear hA;go_wp2;go_loopw [98] (fun i wr=> ∃(k:Nat),k<=p.rules.length/\i=.int .i64 k/\gQ w wr M p (.slice a0 p.defs.length c0) (.slice a1 p.tables.length c1) (.slice a2 p.zones.length c2) (.slice a3 p.rules.length c3) (.slice a4 p.caps.length c4) (.slice a5 p.views.length c5) (.slice a6 p.eA.length c6)) (fun i _=>p.rules.length - (intOf i).toNat)
       case atStart=>exact⟨0,by omega,rfl,mr.zo⟩
       case round=>
        obtain⟨k,hk,rfl,hA⟩:=hrel;clear mr;have mr:=aa hA;have C0:=hA.c3;have hsz:=hA.sz;have hlen:=HB.zo.rules;by_cases hlt:k<p.rules.length
        ·obtain⟨d,hd⟩:=(hA.o3.sl rfl).ex hlt
         obtain⟨g,cur,rfl,hgb,hgl,hgc,hcs⟩:=hA.o3.form rfl (by omega);obtain⟨b,off,cs,e0,lb,hR,hc⟩:=(hA.o3.sl rfl).at hd;simp only[Option.some.injEq,Addr.mk.injEq,and_true]at e0;obtain⟨rfl,rfl⟩:=e0;have hc2:∀j u,cs[j]?=some u->wr.cell? ⟨g,k*20+j,none⟩=some u:=fun j u h=>by
          have:=hc j u h;rw[Nat.zero_add]at this;exact this
         obtain⟨cu,cy,fW,fX,fq,fu,rfl,t0,t1,t2,t3,t4,t5,t6,t7,t8,t9,t10,t11,t12,t13,t14⟩:=hR;have hfit:=uJ (K:=20) hd rfl;obtain⟨hn1,hn2,hok⟩:=HB.zo.rule k d hd;have CI1:=hc2 1 _ rfl;have FZ:=fun i=>frozen_of_row wr g i _ 52 hgc
         have hcs2:p.rules.length*20<=cur.size:=hcs;have hgw:w.heap.size+1<g:=by omega
         have hrs:=gI hgc;have F3:∀cc,(wr.setRow g cc).cell? ⟨w.heap.size,3,none⟩=some (.slice (some ⟨g,0,none⟩) p.rules.length c3):=fun cc=>(On.Ah (D:=fun b=>b≠g) (fun h0=>h0 rfl)).cell (by omega) C0
         have CI2:∀v,(wr.setCell ⟨g,k*20+1,none⟩ v).cell? ⟨g,k*20+2,none⟩=some (.slice fW d.exc.length fX):=fun v=>(World.cell?_setCell_other _ _ _ _ (by simp)).trans (hc2 2 _ rfl)
         have FZ2:∀v i,(wr.setCell ⟨g,k*20+1,none⟩ v).frozen? ⟨g,i,none⟩=false:=fun v i=>frozen_of_row _ g i _ 52 (heap_setCell_same wr g _ cur 52 v hgc)
         have hg3:∀v u,∃c4,((wr.setCell ⟨g,k*20+1,none⟩ v).setCell ⟨g,k*20+2,none⟩ u).heap[g]?=some (.cells c4 52 (0,0))/\c4.size=cur.size:=fun v u=>⟨_,heap_setCell_same _ g _ _ 52 u (heap_setCell_same wr g _ cur 52 v hgc),by simp⟩
         have IR3:∀v u,isRow ((wr.setCell ⟨g,k*20+1,none⟩ v).setCell ⟨g,k*20+2,none⟩ u) g (rowOf ((wr.setCell ⟨g,k*20+1,none⟩ v).setCell ⟨g,k*20+2,none⟩ u) g).size:=fun v u=>by obtain⟨c4,h4,_⟩:=hg3 v u;exact⟨c4,_,h4,by rw[gI h4]⟩
         have SZ3:∀v u,k*20+8+5<=(rowOf ((wr.setCell ⟨g,k*20+1,none⟩ v).setCell ⟨g,k*20+2,none⟩ u) g).size:=fun v u=>by obtain⟨c4,h4,h5⟩:=hg3 v u;rw[gI h4,h5];omega
         have LD:∀w',af wr w'->(jf 52 ⟨g,k*20,none⟩).run prog w'=.ok (.agg #[.string d.name,.slice cu d.zones.length cy,.slice fW d.exc.length fX,.int .i64 d.start,.int .i64 d.stop,.int .i64 d.bM,.bool d.vary,.int .i64 d.kind,.int .i64 d.test.op,.int .i64 d.test.num,.string d.test.str,.string d.test.key,.slice fq d.test.args.length fu,.int .i64 d.ah.side,.int .i64 d.ah.base,.int .i64 d.ah.num,.int .i64 d.ah.den,.int .i64 d.uses,.int .i64 d.other,.int .i64 d.n]) w':=fun w' he=>yy (cs:= [.string d.name,.slice cu d.zones.length cy,.slice fW d.exc.length fX,.int .i64 d.start,.int .i64 d.stop,.int .i64 d.bM,.bool d.vary,.int .i64 d.kind,.int .i64 d.test.op,.int .i64 d.test.num,.string d.test.str,.string d.test.key,.slice fq d.test.args.length fu,.int .i64 d.ah.side,.int .i64 d.ah.base,.int .i64 d.ah.num,.int .i64 d.ah.den,.int .i64 d.uses,.int .i64 d.other,.int .i64 d.n]) rfl fun j u hu=>af.cell he (hc2 j u hu)
         have Mo:=aa (setRow_self hgc);have ye:=aa (fun o u=>zb hgc o u);have adw:=aa (fun v o u=>zb (heap_setCell_same wr g (k*20+1) cur 52 v hgc) o u);have GH:=aa hok;have Q1:=aa t1;have Q2:=aa t2;have Q3:=aa t7;have HD:=aa hd;clear hA hd hok hgc hcs hc hc2 hrs hg3 t0 t1 t2 t3 t4 t5 t6 t7 t8 t9 t10 t11 t12 t13 t14;go_wp2;refine b9 (S:=fun w'=> ∃(y:CEx),w'=av ((wr.setRow g y.c).alloc (.cells #[.string d.name,.slice cu d.zones.length cy,.slice fW d.exc.length fX,.int .i64 d.start,.int .i64 d.stop,.int .i64 d.bM,.bool d.vary,.int .i64 d.kind,.int .i64 d.test.op,.int .i64 d.test.num,.string d.test.str,.string d.test.key,.slice fq d.test.args.length fu,.int .i64 d.ah.side,.int .i64 d.ah.base,.int .i64 d.ah.num,.int .i64 d.ah.den,.int .i64 d.uses,.int .i64 d.other,.int .i64 d.n] 52)) y.x) [0,2,3,5,6,8,9,12,15] [([1,4,7,10,13,16],11),([],14),([],17),([18,19],20),([21,22],23)] [] [24,25,26] (by kernel_rfl) (by kernel_rfl) ⟨⟨rowOf wr g,_⟩,by rw[Mo.zo];exact dx _⟩ ?_;try simp only[bX,pick,eh]
         try change wpQuiet _ _ _ _ (_::_) _
         repeat (go_big_quiet_step (fail))
         refine wpQuiet_nil ?_;try change wpQuiet _ _ _ _ (_::_) _
         repeat (go_big_quiet_step (fail))
         refine wpQuiet_nil ?_;try change wpList _ _ _ (_::_) _ _
         go_wp2_with ((with_reducible refine ag (Mb _ _ _ d.zones _ ?_ ?_) ?_);exact Q1.zo.exts ae;omega;rintro e w' ⟨E7,c1',rfl,⟨x5,rfl⟩,_,hs⟩;(try simp only[bf,au,ai]at hs);(have xM:=aa hs);clear hs)
         refine dn ⟨⟨rowOf wr g,_⟩,by rw[Mo.zo]⟩ ?_;try simp only[bX,pick,eh]
         try change wpQuiet _ _ _ _ (_::_) _
         repeat (go_big_quiet_step (fail))
         refine wpQuiet_nil ?_;try change wpList _ _ _ (_::_) _ _
         go_wp2_with ((with_reducible refine ag (Mb _ _ _ d.exc _ ?_ ?_) ?_);exact Q2.zo.exts ae;omega;rintro e w' ⟨zx,c2',rfl,⟨x6,rfl⟩,_,hs⟩;(try simp only[bf,au,ai]at hs);(have HS2:=aa hs);clear hs)
         refine dn ⟨⟨rowOf wr g,_⟩,by rw[Mo.zo]⟩ ?_;try simp only[bX,pick,eh]
         try change wpQuiet _ _ _ _ (_::_) _
         repeat (go_big_quiet_step (fail))
         refine wpQuiet_nil ?_;try change wpList _ _ _ (_::_) _ _
         go_wp2_with ((with_reducible refine ag (Sp 13 d.test _ _ GH.zo ?_) ?_);exact(Q3.zo.exts ae).shut;rintro r w' ⟨ao3,c3',rfl,⟨x7,rfl⟩,hs⟩;(try simp only[bf,au,ai]at hs);(have HS3:=aa hs);clear hs)
         refine dn ⟨⟨rowOf wr g,_⟩,by rw[Mo.zo]⟩ ?_;try simp only[bX,pick,eh]
         try change wpQuiet _ _ _ _ (_::_) _
         repeat (go_big_quiet_step (fail))
         refine wpQuiet_nil ?_;try change wpList _ _ _ (_::_) _ _
         go_wp2;refine dn ⟨⟨_,_⟩,by rw[ye.zo]⟩ ?_;try simp only[bX,pick,eh]
         try change wpQuiet _ _ _ _ (_::_) _
         repeat (go_big_quiet_step (fail))
         refine wpQuiet_nil ?_;try change wpList _ _ _ (_::_) _ _
         go_wp2;refine dn ⟨⟨_,_⟩,by rw[adw.zo,ye.zo,Fx]⟩ ?_;try simp only[bX,pick,eh]
         try change wpQuiet _ _ _ _ (_::_) _
         repeat (go_big_quiet_step (fail))
         refine wpQuiet_nil ?_;try change wpList _ _ _ (_::_) _ _
         go_wp2;refine cV ?_;go_wp2;obtain⟨p1,p2⟩:=Ss (nb:=wr.heap.size+1) (W:=av (wr.alloc (.cells #[.string d.name,.slice cu d.zones.length cy,.slice fW d.exc.length fX,.int .i64 d.start,.int .i64 d.stop,.int .i64 d.bM,.bool d.vary,.int .i64 d.kind,.int .i64 d.test.op,.int .i64 d.test.num,.string d.test.str,.string d.test.key,.slice fq d.test.args.length fu,.int .i64 d.ah.side,.int .i64 d.ah.base,.int .i64 d.ah.num,.int .i64 d.ah.den,.int .i64 d.uses,.int .i64 d.other,.int .i64 d.n] 52)) ((x5.and x6).and x7)) (mr.zo.o3.exts ae) rfl HD.zo (Nat.le_succ_of_le mr.zo.sz) (by omega) ((xM.zo.exts ae).lower (by simp)) ((HS2.zo.exts ae).lower (by simp<;>omega)) ((HS3.zo.at (On.exts ae)).mono fun b hb=>by simp at hb;omega);have p3:=mr.zo.adp ((On.exts ae).trans p2) p1;refine⟨⟨k+1,by omega,by go_num,?_⟩,by simp[intOf];omega⟩;simpa[go_sem,hgl]using p3
        ·obtain rfl:k=p.rules.length:=by omega
         have CN:=hA.c4;clear hA;go_wp2;go_loopw [131] (fun i wr=> ∃(k:Nat),k<=p.caps.length/\i=.int .i64 k/\gQ w wr M p (.slice a0 p.defs.length c0) (.slice a1 p.tables.length c1) (.slice a2 p.zones.length c2) (.slice a3 p.rules.length c3) (.slice a4 p.caps.length c4) (.slice a5 p.views.length c5) (.slice a6 p.eA.length c6)) (fun i _=>p.caps.length - (intOf i).toNat)
         case atStart=>exact⟨0,by omega,rfl,mr.zo⟩
         case round=>
          obtain⟨k,hk,rfl,hA⟩:=hrel;clear mr;have mr:=aa hA;have C0:=hA.c4;have hsz:=hA.sz;have hlen:=HB.zo.caps;by_cases hlt:k<p.caps.length
          ·obtain⟨d,hd⟩:=(hA.o4.sl rfl).ex hlt
           obtain⟨g,cur,rfl,hgb,hgl,hgc,hcs⟩:=hA.o4.form rfl (by omega);obtain⟨b,off,cs,e0,lb,hR,hc⟩:=(hA.o4.sl rfl).at hd;simp only[Option.some.injEq,Addr.mk.injEq,and_true]at e0;obtain⟨rfl,rfl⟩:=e0;have hc2:∀j u,cs[j]?=some u->wr.cell? ⟨g,k*4+j,none⟩=some u:=fun j u h=>by
            have:=hc j u h;rw[Nat.zero_add]at this;exact this
           obtain⟨aV,aW,rfl,t0,t1,t2,t3⟩:=hR;have hfit:=uJ (K:=4) hd rfl;have hn:=HB.zo.cap k d hd;have CI:=hc2 3 _ rfl;have FZ:=fun i=>frozen_of_row wr g i _ 130 hgc
           have QI:=aa t3;have HD:=aa hd;clear hA hd hgc hcs hc hc2 t0 t1 t2 t3;go_wp2;refine b9 (S:=fun w'=> ∃x,w'=av _ x) [0,2,3,5] [([1,4,6,7,8],9)] [] [10,11,12] (by kernel_rfl) (by kernel_rfl) ⟨_,by first|exact dx _|exact ai _ _⟩ ?_;try simp only[bX,pick,eh]
           try change wpQuiet _ _ _ _ (_::_) _
           repeat (go_big_quiet_step (fail))
           refine wpQuiet_nil ?_;try change wpQuiet _ _ _ _ (_::_) _
           repeat (go_big_quiet_step (fail))
           refine wpQuiet_nil ?_;try change wpList _ _ _ (_::_) _ _
           go_wp2_with ((with_reducible refine ag (Ma _ _ _ d.corners _ ?_ ?_) ?_);exact QI.zo.exts ae;omega;rintro e w' ⟨ao',c',rfl,⟨x5,rfl⟩,_,hs⟩;(try simp only[bf,au,ai]at hs);(have HS:=aa hs);clear hs)
           refine dn (by first|exact⟨_,(cF _).symm⟩|exact⟨_,rfl⟩|exact ae) ?_;try simp only[bX,pick,eh]
           try change wpQuiet _ _ _ _ (_::_) _
           repeat (go_big_quiet_step (fail))
           refine wpQuiet_nil ?_;try change wpList _ _ _ (_::_) _ _
           go_wp2;refine cV ?_;go_wp2;refine⟨⟨k+1,by omega,by go_num,mr.zo.adq ((On.grown (bW _ _ _ _) fun b hb h0=>h0 hb).trans (On.exts ae)) (ua mr.zo.o4 rfl HD.zo (by decide) IX (by exact HS.zo) rfl mr.zo.sz ?_)⟩,by simp[intOf];omega⟩;exact fun w2 cs h hs=>by
            obtain⟨FI,FK,rfl,z0,z1,z2,z3⟩:=h;exact⟨_,_,rfl,z0,z1,z2,hs⟩
          ·obtain rfl:k=p.caps.length:=by omega
           have CN:=hA.c5;clear hA;go_wp2;go_loopw [150] (fun i wr=> ∃(k:Nat),k<=p.views.length/\i=.int .i64 k/\gQ w wr M p (.slice a0 p.defs.length c0) (.slice a1 p.tables.length c1) (.slice a2 p.zones.length c2) (.slice a3 p.rules.length c3) (.slice a4 p.caps.length c4) (.slice a5 p.views.length c5) (.slice a6 p.eA.length c6)) (fun i _=>p.views.length - (intOf i).toNat)
           case atStart=>exact⟨0,by omega,rfl,mr.zo⟩
           case round=>
            obtain⟨k,hk,rfl,hA⟩:=hrel;clear mr;have mr:=aa hA;have C0:=hA.c5;have hsz:=hA.sz;have hlen:=HB.zo.views;by_cases hlt:k<p.views.length
            ·obtain⟨d,hd⟩:=(hA.o5.sl rfl).ex hlt
             obtain⟨g,cur,rfl,hgb,hgl,hgc,hcs⟩:=hA.o5.form rfl (by omega);obtain⟨b,off,cs,e0,lb,hR,hc⟩:=(hA.o5.sl rfl).at hd;simp only[Option.some.injEq,Addr.mk.injEq,and_true]at e0;obtain⟨rfl,rfl⟩:=e0;have hc2:∀j u,cs[j]?=some u->wr.cell? ⟨g,k*6+j,none⟩=some u:=fun j u h=>by
              have:=hc j u h;rw[Nat.zero_add]at this;exact this
             obtain⟨fl,fo,rfl,t0,t1,t2,t3,t4,t5⟩:=hR;have hfit:=uJ (K:=6) hd rfl;have hn:=HB.zo.view k d hd;have CI:=hc2 5 _ rfl;have FZ:=fun i=>frozen_of_row wr g i _ 136 hgc
             have QI:=aa t5;have HD:=aa hd;clear hA hd hgc hcs hc hc2 t0 t1 t2 t3 t4 t5;go_wp2;refine b9 (S:=fun w'=> ∃x,w'=av _ x) [0,2,3,5] [([1,4,6,7,8],9)] [] [10,11,12] (by kernel_rfl) (by kernel_rfl) ⟨_,by first|exact dx _|exact ai _ _⟩ ?_;try simp only[bX,pick,eh]
             try change wpQuiet _ _ _ _ (_::_) _
             repeat (go_big_quiet_step (fail))
             refine wpQuiet_nil ?_;try change wpQuiet _ _ _ _ (_::_) _
             repeat (go_big_quiet_step (fail))
             refine wpQuiet_nil ?_;try change wpList _ _ _ (_::_) _ _
             go_wp2_with ((with_reducible refine ag (VW _ _ _ d.targets _ ?_ ?_) ?_);exact QI.zo.exts ae;omega;rintro e w' ⟨ao',c',rfl,⟨x5,rfl⟩,_,hs⟩;(try simp only[bf,au,ai]at hs);(have HS:=aa hs);clear hs)
             refine dn (by first|exact⟨_,(cF _).symm⟩|exact⟨_,rfl⟩|exact ae) ?_;try simp only[bX,pick,eh]
             try change wpQuiet _ _ _ _ (_::_) _
             repeat (go_big_quiet_step (fail))
             refine wpQuiet_nil ?_;try change wpList _ _ _ (_::_) _ _
             go_wp2;refine cV ?_;go_wp2;refine⟨⟨k+1,by omega,by go_num,mr.zo.adr ((On.grown (bW _ _ _ _) fun b hb h0=>h0 hb).trans (On.exts ae)) (ua mr.zo.o5 rfl HD.zo (by decide) IY (by exact HS.zo) rfl mr.zo.sz ?_)⟩,by simp[intOf];omega⟩;exact fun w2 cs h hs=>by
              obtain⟨Wy,WA,rfl,z0,z1,z2,z3,z4,z5⟩:=h;exact⟨_,_,rfl,z0,z1,z2,z3,z4,hs⟩
            ·obtain rfl:k=p.views.length:=by omega
             obtain⟨IR,RR⟩:=hA.row;have IS:=hA.res;clear hA;go_wp2;obtain⟨afw,oty,ohg,osz⟩:=IS;have HC:=fun i=>cell_setRow_same wr (w.heap.size+1) i afw #[.slice a0 p.defs.length c0,.slice a1 p.tables.length c1,.slice a2 p.zones.length c2,.slice a3 p.rules.length c3,.slice a4 p.caps.length c4,.slice a5 p.views.length c5,.slice a6 p.eA.length c6,.int .i64 p.hours] oty (0,0) ohg
             have HC0:(wr.setRow (w.heap.size+1) #[.slice a0 p.defs.length c0,.slice a1 p.tables.length c1,.slice a2 p.zones.length c2,.slice a3 p.rules.length c3,.slice a4 p.caps.length c4,.slice a5 p.views.length c5,.slice a6 p.eA.length c6,.int .i64 p.hours]).cell? ⟨w.heap.size+1,0,none⟩=some (.slice a0 p.defs.length c0):=HC 0;have GF:(wr.setRow (w.heap.size+1) #[.slice a0 p.defs.length c0,.slice a1 p.tables.length c1,.slice a2 p.zones.length c2,.slice a3 p.rules.length c3,.slice a4 p.caps.length c4,.slice a5 p.views.length c5,.slice a6 p.eA.length c6,.int .i64 p.hours]).cell? ⟨w.heap.size+1,1,none⟩=some (.slice a1 p.tables.length c1):=HC 1;have HC2:(wr.setRow (w.heap.size+1) #[.slice a0 p.defs.length c0,.slice a1 p.tables.length c1,.slice a2 p.zones.length c2,.slice a3 p.rules.length c3,.slice a4 p.caps.length c4,.slice a5 p.views.length c5,.slice a6 p.eA.length c6,.int .i64 p.hours]).cell? ⟨w.heap.size+1,2,none⟩=some (.slice a2 p.zones.length c2):=HC 2;have HC3:(wr.setRow (w.heap.size+1) #[.slice a0 p.defs.length c0,.slice a1 p.tables.length c1,.slice a2 p.zones.length c2,.slice a3 p.rules.length c3,.slice a4 p.caps.length c4,.slice a5 p.views.length c5,.slice a6 p.eA.length c6,.int .i64 p.hours]).cell? ⟨w.heap.size+1,3,none⟩=some (.slice a3 p.rules.length c3):=HC 3;have HC4:(wr.setRow (w.heap.size+1) #[.slice a0 p.defs.length c0,.slice a1 p.tables.length c1,.slice a2 p.zones.length c2,.slice a3 p.rules.length c3,.slice a4 p.caps.length c4,.slice a5 p.views.length c5,.slice a6 p.eA.length c6,.int .i64 p.hours]).cell? ⟨w.heap.size+1,4,none⟩=some (.slice a4 p.caps.length c4):=HC 4;have HC5:(wr.setRow (w.heap.size+1) #[.slice a0 p.defs.length c0,.slice a1 p.tables.length c1,.slice a2 p.zones.length c2,.slice a3 p.rules.length c3,.slice a4 p.caps.length c4,.slice a5 p.views.length c5,.slice a6 p.eA.length c6,.int .i64 p.hours]).cell? ⟨w.heap.size+1,5,none⟩=some (.slice a5 p.views.length c5):=HC 5;have HC6:(wr.setRow (w.heap.size+1) #[.slice a0 p.defs.length c0,.slice a1 p.tables.length c1,.slice a2 p.zones.length c2,.slice a3 p.rules.length c3,.slice a4 p.caps.length c4,.slice a5 p.views.length c5,.slice a6 p.eA.length c6,.int .i64 p.hours]).cell? ⟨w.heap.size+1,6,none⟩=some (.slice a6 p.eA.length c6):=HC 6;have HC7:(wr.setRow (w.heap.size+1) #[.slice a0 p.defs.length c0,.slice a1 p.tables.length c1,.slice a2 p.zones.length c2,.slice a3 p.rules.length c3,.slice a4 p.caps.length c4,.slice a5 p.views.length c5,.slice a6 p.eA.length c6,.int .i64 p.hours]).cell? ⟨w.heap.size+1,7,none⟩=some (.int .i64 p.hours):=HC 7;clear HC;refine bodyPost_ret (v:=.agg #[.slice a0 p.defs.length c0,.slice a1 p.tables.length c1,.slice a2 p.zones.length c2,.slice a3 p.rules.length c3,.slice a4 p.caps.length c4,.slice a5 p.views.length c5,.slice a6 p.eA.length c6,.int .i64 p.hours]) (by simp[results,go_sem,HC0,GF,HC2,HC3,HC4,HC5,HC6,HC7]) rfl ?_;have ho:On (fun b=>b≠w.heap.size+1) wr (wr.setRow (w.heap.size+1) #[.slice a0 p.defs.length c0,.slice a1 p.tables.length c1,.slice a2 p.zones.length c2,.slice a3 p.rules.length c3,.slice a4 p.caps.length c4,.slice a5 p.views.length c5,.slice a6 p.eA.length c6,.int .i64 p.hours]):=On.Ah fun h0=>h0 rfl
             refine⟨[.slice a0 p.defs.length c0,.slice a1 p.tables.length c1,.slice a2 p.zones.length c2,.slice a3 p.rules.length c3,.slice a4 p.caps.length c4,.slice a5 p.views.length c5,.slice a6 p.eA.length c6,.int .i64 p.hours],rfl,af.of_below (mr.zo.ex.below.trans (ho.below (fun b hb h0=>by omega) mr.zo.ex.below.size)),a0,c0,a1,c1,a2,c2,a3,c3,a4,c4,a5,c5,a6,c6,rfl,?_,?_,?_,?_,?_,?_,?_,H7.zo⟩
             ·exact(mr.zo.o0.at (ho.mono fun b hb h0=>by
               rcases hb with(hb|hb)|hb
               ·omega
               ·omega
               ·have:=mr.zo.b0 b hb;omega)).sl rfl
             ·exact(mr.zo.o1.at (ho.mono fun b hb h0=>by
               rcases hb with(hb|hb)|hb
               ·omega
               ·omega
               ·have:=mr.zo.b1 b hb;omega)).sl rfl
             ·exact(mr.zo.o2.at (ho.mono fun b hb h0=>by
               rcases hb with(hb|hb)|hb
               ·omega
               ·omega
               ·have:=mr.zo.b2 b hb;omega)).sl rfl
             ·exact(mr.zo.o3.at (ho.mono fun b hb h0=>by
               rcases hb with(hb|hb)|hb
               ·omega
               ·omega
               ·have:=mr.zo.b3 b hb;omega)).sl rfl
             ·exact(mr.zo.o4.at (ho.mono fun b hb h0=>by
               rcases hb with(hb|hb)|hb
               ·omega
               ·omega
               ·have:=mr.zo.b4 b hb;omega)).sl rfl
             ·exact(mr.zo.o5.at (ho.mono fun b hb h0=>by
               rcases hb with(hb|hb)|hb
               ·omega
               ·omega
               ·have:=mr.zo.b5 b hb;omega)).sl rfl
             ·exact(mr.zo.o6.at (ho.mono fun b hb h0=>by
               rcases hb with(hb|hb)|hb
               ·omega
               ·omega
               ·have:=mr.zo.b6 b hb;omega)).sl rfl
section
theorem Es(defs:List Def)(j:Nat):wK defs (j+1)=fun s=>if((defs.getD j default).name.data.toList==s)=true then some j else wK defs j s:=by
 unfold wK;rw[List.range_succ,List.foldl_append];rfl
theorem aav{defs:List Def}{k:Nat}{d:Def}{f:Lit->Option Int}(hd:defs[k]?=some d)(hf:∀s:ByteArray,f (.string s.data.toList)=(wK defs k s.data.toList).map fun i:Nat=>(i:Int))(s:ByteArray):Dn f (.string d.name.data.toList) (k:Int) (.string s.data.toList)=(wK defs (k+1) s.data.toList).map fun i:Nat=>(i:Int):=by
 rw[Es];have e:defs.getD k default=d:=by rw[List.getD_eq_getElem?_getD,hd];rfl
 simp only[e];by_cases h:d.name.data.toList=s.data.toList
 ·rw[h,ug]
  simp
 ·rw[oV _ _ (fun e=>h (by injection e with e;exact e.symm)),hf s,if_neg (by simpa using h)]
theorem Xb:(prog.info? 66).map (fun i=>(i.zero,i.size,i.bytes))=some (some (.slice none 0 0),1,24):=by kernel_rfl
theorem adM(w:World)(n:Nat)(hn:n<=1000):(Instr.makeSlice 419 (.int .i64 n) (.int .i64 n)).run prog w=.ok (.slice (some ⟨w.heap.size,0,none⟩) n n) (w.alloc (.cells (madeCells #[.slice none 0 0] n) 66)):=by
 obtain⟨i0,hi,q⟩:=Option.map_eq_some_iff.1 Xb;simp only[Prod.mk.injEq]at q;obtain⟨hz0,hz1,hz2⟩:=q;have h:=run_make (P:=prog) w 419 66 i0 _ underlying419 hi hz0 .i64 .i64 n n (by omega) (by omega) (by rw[hz2];omega) (by omega);rw[hz1,Int.toNat_natCast,Nat.mul_one]at h;exact h
def adN(ats:Array TypeId)(ty:TypeId)(args:Array Value):Sem Value:=Builtin.append_ ats ty args
theorem Xc(ats:Array TypeId)(ty:TypeId)(args:Array Value):Builtin.append_ ats ty args=adN ats ty args:=rfl
attribute [local go_sem ↓] Xc
def Rows(w:World)(lo top:Nat)(vs:zv)(rows:List (List Nat)):Prop:= ∀(j:Nat)(row:List Nat),rows[j]?=some row->∃ao c,vs[j]?=some (.slice ao row.length c)/\aq dv lo 3 w (.slice ao row.length c) (gw row)/\∀b,(Value.slice ao row.length c).ownBlock=some b->b<top
theorem Rows.kept{w w':World}{lo top:Nat}{vs vs':zv}{rows:List (List Nat)}{r:Option Nat}(h:Rows w lo top vs rows)(hg:w.grownBy w' r)(hr:∀b,r=some b->b<lo∨top<=b)(hv:∀j,j<rows.length->vs'[j]?=vs[j]?):Rows w' lo top vs' rows:=fun j row hj=>by
 obtain⟨ao,c,h1,h2,h3⟩:=h j row hj;refine⟨ao,c,by rw[hv j (bw hj).1];exact h1,h2.wZ eZ hg fun b hb e=> ?_,h3⟩;obtain⟨xs,h4,_⟩:=h2;have h5:=cm h4 b hb;have h6:=h3 b hb;rcases hr b e with h7|h7<;>omega
theorem Rows.top{w:World}{lo top top':Nat}{vs:zv}{rows:List (List Nat)}(h:Rows w lo top vs rows)(ht:top<=top'):Rows w lo top' vs rows:=fun j row hj=>by
 obtain⟨ao,c,h1,h2,h3⟩:=h j row hj;exact⟨ao,c,h1,h2,fun b hb=>Nat.lt_of_lt_of_le (h3 b hb) ht⟩
def qC(w:World)(g:Nat)(vs:zv):Prop:=w.heap[g]?=some (.cells vs.toArray 66 (0,0))
theorem qC.lt{w:World}{g:Nat}{vs:zv}(h:qC w g vs):g<w.heap.size:=(Array.getElem?_eq_some_iff.1 h).1
theorem qC.cell{w:World}{g:Nat}{vs:zv}(h:qC w g vs){i:Nat}{v:Value}(hi:vs[i]?=some v):w.cell? ⟨g,i,none⟩=some v:=by
 rw[cell_of_row _ _ _ _ _ _ h];simpa using hi
theorem qC.kept{w w':World}{g:Nat}{vs:zv}{r:Option Nat}(h:qC w g vs)(hg:w.grownBy w' r)(hne:r≠some g):qC w' g vs:=(hg.block g h.lt fun e=>hne e.symm).trans h
theorem qC.exts{w w':World}{g:Nat}{vs:zv}(h:qC w g vs)(he:af w w'):qC w' g vs:=h.kept (er he none) (by simp)
theorem qC.set{w:World}{g:Nat}{vs:zv}(h:qC w g vs)(i:Nat)(v:Value):qC (w.setCell ⟨g,i,none⟩ v) g (vs.set i v):=by
 unfold qC at*;rw[heap_setCell_same w g i _ 66 _ h];simp
theorem qC.fz{w:World}{g:Nat}{vs:zv}(h:qC w g vs)(i:Nat):w.frozen? ⟨g,i,none⟩=false:=frozen_of_row w g i _ 66 h
structure NG(w0 w:World)(m0 gu:Nat)(n:Nat)(f:Lit->Option Int)(Dq:Value)(vs:zv):Prop where
 ext:af w0 w
 len:vs.length=n
 blk:qC w gu vs
 c0:w.cell? ⟨gu+1,0,none⟩=some Dq
 c1:w.cell? ⟨gu+1,1,none⟩=some (.slice (some ⟨gu,0,none⟩) n n)
 map:pd w 9 m0 n f
 m0g:w0.heap.size<=m0/\m0<gu
theorem NG.exts{w0 w w':World}{m0 gu n:Nat}{f:Lit->Option Int}{Dq:Value}{vs:zv}(h:NG w0 w m0 gu n f Dq vs)(he:af w w'):NG w0 w' m0 gu n f Dq vs:=
 ⟨h.ext.trans he,h.len,h.blk.exts he,af.cell he h.c0,af.cell he h.c1,h.map.exts he,h.m0g⟩
theorem NG.kept{w0 w w':World}{m0 gu n:Nat}{f:Lit->Option Int}{Dq:Value}{vs:zv}{r:Option Nat}(h:NG w0 w m0 gu n f Dq vs)(hg:w.grownBy w' r)(hr:∀b,r=some b->gu+1<b):NG w0 w' m0 gu n f Dq vs:=by
 have hb:gu+1<w.heap.size:=bP h.c0;have hm:=h.m0g;exact⟨aF h.ext hg fun b hb=>by have:=hr b hb;omega,h.len,h.blk.kept hg fun e=>by have:=hr gu e;omega,(cell_grown hg hb fun e=>by have:=hr _ e;omega).trans h.c0,(cell_grown hg hb fun e=>by have:=hr _ e;omega).trans h.c1,h.map.kept hg fun e=>by have:=hr m0 e.symm;omega,h.m0g⟩
theorem NG.set{w0 w:World}{m0 gu n:Nat}{f:Lit->Option Int}{Dq:Value}{vs:zv}(h:NG w0 w m0 gu n f Dq vs)(k:Nat)(v:Value):NG w0 (w.setCell ⟨gu,k,none⟩ v) m0 gu n f Dq (vs.set k v):=by
 have hb:gu+1<w.heap.size:=bP h.c0;have hm:=h.m0g;have hg:=bW w gu k v;exact⟨jx h.ext (by omega) k v,by rw[List.length_set,h.len],h.blk.set k v,(cell_grown hg hb (by simp)).trans h.c0,(cell_grown hg hb (by simp)).trans h.c1,h.map.kept hg (by simp;omega),h.m0g⟩
theorem Cs{α:Type}{f:α->Option Nat}{L:List α}{q:Nat}{s:α}(hs:L[q]?=some s)(h:f s=none):(L.take (q+1)).filterMap f=(L.take q).filterMap f:=by
 rw[List.take_add_one,hs,Option.toList_some,List.filterMap_append];simp[h]
theorem filterMap_some{α:Type}{f:α->Option Nat}{L:List α}{q:Nat}{s:α}{x:Nat}(hs:L[q]?=some s)(h:f s=some x):(L.take (q+1)).filterMap f=(L.take q).filterMap f++ [x]:=by
 rw[List.take_add_one,hs,Option.toList_some,List.filterMap_append];simp[h]
theorem F6(defs:List Def)(s:List UInt8)(x:Nat):∀j,wK defs j s=some x->x<j
 |0,h=>by cases h
 |j+1,h=>by
  rw[Es]at h;simp only[]at h;split at h
  ·cases h;omega
  ·have:=F6 defs s x j h
   omega
theorem Ct:∀l,(oI l).length<=l.length
 | []=>Nat.le_refl _
 |a::l=>by
  unfold oI;have:=Ct l;split<;>simp<;>omega
theorem K6(e:Xp):(mj e).length<=(dS e).length:=by
 unfold mj;rw[List.length_mergeSort];exact Nat.le_trans (Ct _) (by simp)
theorem Rows.more{w:World}{lo top:Nat}{vs:zv}{U:List (List Nat)}{k:Nat}{R:List Nat}{ao:Option Addr}{c:Nat}(h:Rows w lo top vs (U.take k))(hk:U[k]?=some R)(hv:vs[k]?=some (.slice ao R.length c))(ho:aq dv lo 3 w (.slice ao R.length c) (gw R))(ht:∀b,(Value.slice ao R.length c).ownBlock=some b->b<top):Rows w lo top vs (U.take (k+1)):=fun j row hj=>by
 have hl:=(bw hk).1;rw[List.getElem?_take]at hj;split at hj
 ·by_cases e:j=k
  ·subst e
   rw[hk]at hj;cases hj;exact⟨ao,c,hv,ho,ht⟩
  ·exact h j row (by rw[List.getElem?_take,if_pos (by omega)];exact hj)
 ·cases hj
theorem aq.below{T:Type}{L:Lay T}{base:Nat}{e:TypeId}{w:World}{v:Value}{l:List T}(h:aq L base e w v l):∀b,v.ownBlock=some b->b<w.heap.size:=by
 obtain⟨xs,⟨_,⟨rfl,_⟩|⟨g,cap,cur,rfl,_,hg,_⟩⟩,_⟩:=h
 ·intro b hb
  cases hb
 ·intro b hb
  cases hb;exact(Array.getElem?_eq_some_iff.1 hg).1
theorem xj(defs:List Def)(i k:Nat)(h:jr (jo defs) i k=true):k<(jo defs).length:=by
 unfold jr at h;have h:=List.contains_iff_mem.1 h;rw[List.getD_eq_getElem?_getD]at h;unfold jo at h ⊢;rw[List.length_map];rw[List.getElem?_map]at h;cases hd:defs[i]? with
 |none=>rw[hd]at h;cases h
 |some d=>
  rw[hd]at h;obtain⟨s,_,hs⟩:=List.mem_filterMap.1 (show k∈EW defs d.body from h);exact F6 defs s k _ hs
theorem Xd{w:World}{lo top g n:Nat}{vs:zv}{U:List (List Nat)}(h:Rows w lo top vs U)(hb:qC w g vs)(hl:vs.length=n)(hU:U.length=n)(hm:n<=maxLen):Sl (Ps dv) w (some ⟨g,0,none⟩) n n (U.map gw):=by
 subst hl;have hown:w.ownsRow 0 66 1 (.slice (some ⟨g,0,none⟩) vs.length vs.length) (U.map gw).length vs:=⟨by rw[List.length_map,hU,Nat.mul_one],.inr ⟨g,vs.length,_,by rw[List.length_map,hU],Nat.zero_le _,hb,by rw[List.length_map,hU];exact Nat.le_refl _,hm,by simp,by rw[List.length_map,hU];exact dQ (by simp)⟩⟩;refine aq.sl (e:=66) (base:=0) ⟨_,hown,fun i d hd=> ?_⟩ (by rw[List.length_map,hU]);rw[show(Ps dv).k=1 from rfl,Nat.mul_one];rw[List.getElem?_map]at hd;obtain⟨row,hrow,rfl⟩:=Option.map_eq_some_iff.1 hd;obtain⟨ao,c,h1,h2,_⟩:=h i row hrow;obtain⟨h3,h4⟩:=bw h1;have e:(gw row).length=row.length:=by unfold gw;rw[List.length_map]
 refine⟨ao,c,?_,?_⟩
 ·rw[List.drop_eq_getElem_cons h3,h4,e]
  rfl
 ·rw[e]
  exact h2.sl e
theorem OQ{w:World}{cs:zv}{e:Xp}(h:iP w cs e):∀s∈mj e,gS ⟨s.toArray⟩:=fun s hs=>by
 unfold mj at hs;rw[List.mem_mergeSort,oJ]at hs;obtain⟨x,hx,rfl⟩:=List.mem_map.1 hs;exact Jr h x hx
theorem set_self{vs:zv}{k:Nat}{v:Value}(h:vs[k]?=some v):vs.set k v=vs:=by
 apply List.ext_getElem?;intro i;rw[List.getElem?_set];split
 ·rename_i e
  subst e;rw[h,if_pos (bw h).1]
 ·rfl
theorem Js(ao:Option Addr)(c:Nat)(defs:List Def)(w:World)(h:Sl mC w ao defs.length c defs)(hfew:defs.length<=4)(hnm:∀d∈defs,(dS d.body).length<=1000000):Calls prog 303 #[.slice ao defs.length c] w fun e w'=> ∃gb,e=.returned (.pointer (some ⟨gb,0,none⟩))/\af w w'/\kT w' gb defs (jo defs):=by
 have H:=aa h;have EM:=aa hnm;have hmm:= @run_makeMap prog;obtain⟨n,hn⟩:∃n,defs.length=n:=⟨_,rfl⟩;have HN:=aa hn;have M:=adM (n:=n) (hn:=by omega);rw[hn]at hfew H ⊢;obtain⟨m0,hm0⟩:∃m0,w.heap.size=m0:=⟨_,rfl⟩;clear h hnm hn;go_enter func303,ntmps303;go_wp2;go_loopw [16] (fun i wr=> ∃(k:Nat)(f:Lit->Option Int),k<=n/\i=.int .i64 k/\af w wr/\pd wr 9 m0 k f/\(∀s:ByteArray,f (.string s.data.toList)=(wK defs k s.data.toList).map fun i:Nat=>(i:Int))) (fun i _=>n - (intOf i).toNat)
 case atStart=>exact⟨0,fun _=>none,by omega,rfl,ae,by rw[<-hm0];exact pd.made w 9,fun s=>rfl⟩
 case round=>
  obtain⟨k,f,hk,rfl,hx,hmap,hf⟩:=hrel;have HX:=aa hx;have sH:=aa hmap;have HF:=aa hf;have hsz:=hx.below.size;have hml:=hmap.lt;clear hx hmap hf;by_cases hlt:k<n
  ·obtain⟨d,hd⟩:=H.zo.ex hlt
   have cZ:=H.zo.ld hd;obtain⟨b,off,cs,rfl,lb,hR,cZ⟩:=cZ;obtain⟨ob,cb,rfl,hs0,hxv⟩:=hR;have HS:=aa hs0;have hld:∀w',af wr w'->_:=fun w' he=>cZ w' (HX.zo.trans he)
   have HD:=aa hd;clear cZ hs0 hxv hd;go_wp2_with (at_mapUpdate;refine Jn rfl _ _ _ 250 9 rfl mF underlying250 m0 k _ rfl (sH.zo.exts ae) (by unfold maxLen;omega) _ (k:Int) _ rfl rfl (by unfold I64;omega) (WideMaps.keyOf_string_mk underlying9 HS.zo) trivial ?_;intro w9 hmap' hgrow;(have HM9:=aa hmap');(have HX9:=aa (aF (HX.zo.trans ae) hgrow (fun b hb=>by cases hb;omega)));clear hmap' hgrow)
   refine⟨⟨k+1,_,by omega,by go_num,HX9.zo,HM9.zo,aav HD.zo HF.zo⟩,?_⟩;simp[intOf];omega
  ·obtain rfl:n=k:=by omega
   go_wp2;refine bI ?_;intro W2 hW2;obtain⟨gu,hgu⟩:∃gu,wr.heap.size=gu:=⟨_,rfl⟩;have hs2:W2.heap.size=gu+2:=by rw[hW2,<-hgu];simp
   have HG2:Hid (NG w W2 m0 gu n f (.slice ao n c) (List.replicate n (.slice none 0 0))):=aa (by
    have hE:af w W2:=by rw[hW2];exact HX.zo.trans ae
    have hB:qC (wr.alloc (.cells (madeCells #[.slice none 0 0] n) 66)) gu (List.replicate n (.slice none 0 0)):=by
     unfold qC;rw[<-hgu,heap_alloc_new,made1]
    exact⟨hE,by simp,by rw[hW2];exact hB.exts ae,by rw[hW2,<-hgu];simp[go_sem],by rw[hW2,<-hgu];simp[go_sem],by rw[hW2];exact sH.zo.exts ae,by omega,by omega⟩)
   rw[hgu];clear hW2 HX sH;go_loopw [34] (fun i wr=> ∃(k:Nat)(vs:zv),k<=n/\i=.int .i64 k/\NG w wr m0 gu n f (.slice ao n c) vs/\Rows wr (gu+2) wr.heap.size vs ((jo defs).take k)/\(∀j,k<=j->j<n->vs[j]?=some (.slice none 0 0))/\gu+2<=wr.heap.size) (fun i _=>n - (intOf i).toNat)
   case atStart=>exact⟨0,_,by omega,rfl,HG2.zo,fun j row hj=>by simp at hj,fun j _ hj=>by rw[List.getElem?_replicate,if_pos hj],by omega⟩
   case round=>
    clear HG2 hs2;obtain⟨k,vs,hk,rfl,hng,hrows,hnil,hsz2⟩:=hrel;have HG:=aa hng;have HRW:=aa hrows;have adO:=aa hnil;clear hng hrows hnil;by_cases hlt:k<n
    ·obtain⟨d,hd⟩:=H.zo.ex hlt
     obtain⟨b,off,cs,rfl,lb,hR,cZ⟩:=H.zo.ld hd;obtain⟨ob,cb,rfl,hs0,hxv⟩:=hR;have hld:∀w',af wr w'->_:=fun w' he=>cZ w' (HG.zo.ext.trans he)
     have HD:=aa hd;have wH:=aa hxv;clear cZ hs0 hxv hd;go_wp2_with ((with_reducible refine ag (TC d.body _ _ ?_ ?_) ?_);exact(yv.shut wH.zo).exts (HG.zo.ext.trans ae);exact EM.zo d (gH HD.zo);rintro e w3 ⟨no,nc,rfl,hx3,hown3⟩;(have iU:=aa (show af wr w3 from af.trans ae hx3));(have Jt:=aa hown3);clear hx3 hown3)
     have hs3:=iU.zo.below.size;have tV:=aa (OQ (yv.shut wH.zo));have Yj:Hid ((jo defs)[k]?=some ((mj d.body).filterMap (wK defs n))):=aa (by
      unfold jo EW;rw[List.getElem?_map,HD.zo,HN.zo];rfl)
     have HNN:=aa (Nat.le_trans (K6 d.body) (EM.zo d (gH HD.zo)));obtain⟨L,hL⟩:∃L,mj d.body=L:=⟨_,rfl⟩;obtain⟨N,hN⟩:∃N,L.length=N:=⟨_,rfl⟩;rw[hL]at tV Yj Jt HNN ⊢;rw[hN]at Jt HNN ⊢;have Px:=aa hN;obtain⟨B3,hB3⟩:∃B3,w3.heap.size=B3:=⟨_,rfl⟩;have HNB:=aa (show∀b',(Value.slice no N nc).ownBlock=some b'->gu+2<=b'/\b'<B3 from fun b' hb'=>by
      have h1:=cm Jt.zo b' hb';rw[World.size_alloc]at h1;rcases gq Jt.zo with⟨_,h0,_⟩|⟨g,h0,_,h2,_⟩
      ·rw[h0]at hb';cases hb'
      ·rw[h0]at hb'
       have hb2:g=b':=by simpa[Value.ownBlock]using hb'
       omega)
     have hvk:=adO.zo k (Nat.le_refl _) hlt;have Tu:=aa (set_self hvk);have adP:=aa ((HRW.zo.kept (er iU.zo none) (fun _ h=>by cases h) fun j _=>rfl).top (show wr.heap.size<=B3 by omega));have Tl:=aa (HG.zo.exts iU.zo);have hvl:=HG.zo.len;have hBg:gu+2<=B3:=by omega
     have hnm:N<=maxLen:=by
      rcases gq Jt.zo with⟨h0,_⟩|⟨g,_,_,_,_⟩
      ·rw[h0];exact Nat.zero_le _
      ·obtain⟨_,⟨h1,h2⟩|⟨g,cap,cur,hv,hb,hg,hn,hm,_⟩⟩:=Jt.zo
       ·rw[h2];exact Nat.zero_le _
       ·exact Nat.le_trans hn hm
     unfold maxLen at hnm;clear hL hN hvk;go_loopw [43] (fun i wr2=> ∃(q:Nat)(ro:Option Addr)(rc:Nat)(R:List Nat),q<=N/\i=.int .i64 q/\(L.take q).filterMap (wK defs n)=R/\NG w wr2 m0 gu n f (.slice (some ⟨b,off,none⟩) n c) (vs.set k (.slice ro R.length rc))/\Rows wr2 (gu+2) B3 (vs.set k (.slice ro R.length rc)) ((jo defs).take k)/\aq dv B3 3 wr2 (.slice ro R.length rc) (gw R)/\wr2.ownsRow (gu+2) 9 1 (.slice no N nc) N (L.map encStr)/\B3<=wr2.heap.size) (fun i _=>N - (intOf i).toNat)
     case atStart=>exact⟨0,none,0,[],by omega,rfl,rfl,by rw[show([]:List Nat).length=0 from rfl,Tu.zo];exact Tl.zo,by rw[show([]:List Nat).length=0 from rfl,Tu.zo];exact adP.zo,aq.made _ _ _ _,uL Jt.zo (by simp;omega),by omega⟩
     case round=>
      clear Tl adP Jt hs3;obtain⟨q,ro,rc,R,hq,rfl,hR,hng,hrw,hso,how,hsz3⟩:=hrel;have ym:=aa hng;have TD:=aa hrw;have yn:=aa hso;have Xe:=aa how;have HR:=aa hR;have hmg:=hng.m0g;have ahU:=hng.map.lt;clear hng hrw hso how hR;by_cases hqN:q<N
      ·obtain⟨s,hs⟩:∃s,L[q]?=some s:=⟨_,fZ (by rw[Px.zo];exact hqN)⟩
       obtain⟨nb,rfl⟩:∃nb,no=some ⟨nb,0,none⟩:=by
        rcases gq Xe.zo with⟨h0,_⟩|⟨g,h0,_⟩
        ·omega
        ·exact⟨g,h0⟩
       obtain⟨sb,hsb⟩:∃sb:ByteArray,(⟨s.toArray⟩:ByteArray)=sb:=⟨_,rfl⟩;have hsl:sb.data.toList=s:=by rw[<-hsb]
       have n0:wr.cell? ⟨nb,q,none⟩=some (.string sb):=by
        rw[Xe.zo.cellAt q (by omega),List.getElem?_map,hs,<-hsb];rfl
       have lnb:=bP n0;have VO:Hid (gS sb):=aa (by rw[<-hsb];exact tV.zo s (gH hs));have hlk:=ym.zo.map.look (t:=250) mF underlying250 (WideMaps.keyOf_string_mk underlying9 VO.zo) trivial;rw[HF.zo sb,hsl]at hlk;cases hat:wK defs n s with
       |none=>
        have HE:=aa (Cs (f:=wK defs n) hs hat);rw[hat]at hlk;simp only[Option.map_none,Option.getD_none,Option.isSome_none]at hlk;clear hs hsb hsl hat;go_wp2;refine⟨⟨q+1,ro,rc,R,by omega,by go_num,by rw[HE.zo,HR.zo],ym.zo,TD.zo,yn.zo,Xe.zo,by omega⟩,?_⟩;simp[intOf];omega
       |some x=>
        have HE:=aa (filterMap_some (f:=wK defs n) hs hat);have hxn:=F6 defs s x n hat;rw[hat]at hlk;simp only[Option.map_some,Option.getD_some,Option.isSome_some]at hlk;clear hs hsb hsl hat;obtain⟨rl,hrl⟩:∃rl,R.length=rl:=⟨_,rfl⟩;rw[hrl]at ym TD yn;have Pz:=aa hrl;obtain⟨vs2,Xf⟩:∃vs2,vs.set k (.slice ro rl rc)=vs2:=⟨_,rfl⟩;rw[Xf]at ym TD;have aga:vs2[k]?=some (.slice ro rl rc):=by rw[<-Xf,List.getElem?_set,if_pos rfl,if_pos (by omega)]
        have MP:=aa (show∀u,vs.set k u=vs2.set k u from fun u=>by rw[<-Xf,List.set_set]);obtain⟨i0,hi,qq⟩:=Option.map_eq_some_iff.1 BN;simp only[Prod.mk.injEq]at qq;obtain⟨hz0,hz1,hz2⟩:=qq;have ahV:rl<=N:=by rw[<-hrl,<-HR.zo];exact Nat.le_trans (List.length_filterMap_le _ _) (by simp;omega)
        obtain⟨Wx,Cu,TE⟩:=yn.zo;have eRl:(gw R).length=rl:=by unfold gw;rw[List.length_map,hrl]
        rw[eRl]at Cu;have hN6:=HNN.zo;have k0:wr.cell? ⟨gu+1,1,none⟩=_:=ym.zo.c1;have k1:wr.cell? ⟨gu,k,none⟩=_:=ym.zo.blk.cell aga;have X4:=bP k0;obtain⟨g,cg,w9,h9,Ju,sZ,agb,agc⟩:=run_append_lies (P:=prog) (w:=wr.drew.alloc (.cells #[.int .i64 (x:Int)] 3)) 66 66 B3 3 i0 _ 1 8 underlying66 hi hz0 hz1 hz2 rfl (by decide) (.slice ro rl rc) rl Wx (eX Cu ae) ⟨wr.heap.size,0,none⟩ 1 1 [.int .i64 (x:Int)] rfl (by intro j u hj;match j,hj with|0,hj=>(simp at hj;subst hj;simp[go_sem])) (by intro u hu;simp at hu;subst hu;rfl) (by decide) (by unfold maxLen;omega) (by omega) (by simp;omega) (wr.heap.size+1) (by simp);have h9':(adN #[66,66] 66 #[.slice ro rl rc,.slice (some ⟨wr.heap.size,0,none⟩) 1 1]).run prog (wr.alloc (.cells #[.int .i64 (x:Int)] 3)).drew=.ok (.slice (some ⟨g,0,none⟩) (rl+1) cg) w9:=h9;have zS:=aa ((World.grownBy_alloc wr.drew (.cells #[.int .i64 (x:Int)] 3) _).trans sZ);have Ab:=aa (show∀b',(Value.slice ro rl rc).ownBlock=some b'->B3<=b' from cm Cu);have p0:=(cell_grown (j:=1) zS.zo (show gu+1<wr.heap.size from X4) fun e=>by have:=Ab.zo _ e;omega).trans k0;have p1:=(cell_grown (j:=k) zS.zo (show gu<wr.heap.size by omega) fun e=>by have:=Ab.zo _ e;omega).trans k1;have p6:wr.heap.size<w9.heap.size:=by have:=sZ.size;simp at this;omega
        have HB9:=aa ((ym.zo.blk.exts (ae:af wr wr.drew)).kept zS.zo fun e=>by have:=Ab.zo _ e;omega);have p4:=HB9.zo.fz k;have HO9:=aa Ju;have ahW:=aa sZ;have aaw:=aa TE;have hxl:Wx.length=rl:=by have:=Cu.1;rw[show dv.k=1 from rfl,Nat.mul_one]at this;exact this
        clear h9 Ju sZ Cu TE eRl hrl Xf;go_wp2;go_region
        (try go_frame)
        go_wp2;have hset:=bW w9 gu k (.slice (some ⟨g,0,none⟩) (rl+1) cg);have hgB:B3<=g:=cm HO9.zo g rfl;have el:(R++ [x]).length=rl+1:=by rw[dG,Pz.zo];rfl
        refine⟨⟨q+1,some ⟨g,0,none⟩,cg,R++ [x],by omega,by go_num,by rw[HE.zo,HR.zo],?_,?_,?_,?_,?_⟩,?_⟩
        ·rw[el,MP.zo]
         exact((ym.zo.exts (ae:af wr wr.drew)).kept zS.zo (fun b' hb'=>by have:=Ab.zo b' hb';omega)).set k _
        ·rw[el,MP.zo]
         refine((TD.zo.kept (er (ae:af wr wr.drew) none) (fun _ h=>by cases h) fun _ _=>rfl).kept zS.zo (fun b' hb'=> .inr (Ab.zo b' hb')) fun _ _=>rfl).kept hset (fun b' hb'=>by cases hb';exact .inl (by omega)) fun j hj=> ?_
         rw[List.length_take]at hj;rw[List.getElem?_set,if_neg (by omega)]
        ·rw[el]
         have h1:aq dv B3 3 w9 (.slice (some ⟨g,0,none⟩) (rl+1) cg) (gw R++ [(x:Int)]):=by
          have eRl:(gw R).length=rl:=by unfold gw;rw[List.length_map,Pz.zo]
          refine aq.app (L:=dv) (l2:= [(x:Int)]) (xs:=Wx) (ys:= [.int .i64 (x:Int)]) (by rw[eRl];exact HO9.zo) (by rw[hxl,eRl];exact(Nat.mul_one _).symm) aaw.zo fun i y hy=> ?_
          match i,hy with
          |0,hy=>(cases hy;exact⟨rfl,by unfold I64;omega⟩)
         rw[show gw (R++ [x])=gw R++ [(x:Int)]by unfold gw;rw[List.map_append];rfl];exact h1.wZ eZ hset fun b' hb' e=>by
          have h1:g=b':=by simpa[Value.ownBlock]using hb'
          have h2:gu=b':=by simpa using e
          omega
        ·refine((eX Xe.zo (ae:af wr wr.drew)).kept zS.zo (.inr fun e=> ?_)).kept hset (.inr fun e=> ?_)
         ·have h1:=HNB.zo nb rfl
          have h2:=Ab.zo nb (by rw[<-e];rfl);omega
         ·have h1:=HNB.zo _ e
          omega
        ·have:=zS.zo.size
         simp[World.setCell]at this ⊢;omega
        ·simp[intOf];omega
      ·obtain rfl:N=q:=by omega
       have eR:L.filterMap (wK defs n)=R:=by rw[<-HR.zo,dQ (by rw[Px.zo];exact Nat.le_refl _)]
       rw[eR]at Yj;go_wp2;refine⟨⟨k+1,_,by omega,by go_num,ym.zo,(TD.zo.top hsz3).more Yj.zo (by rw[List.getElem?_set,if_pos rfl,if_pos (by omega)]) (yn.zo.base hBg) yn.zo.below,fun j hj1 hj2=> ?_,by omega⟩,?_⟩
       ·rw[List.getElem?_set,if_neg (by omega)]
        exact adO.zo j (by omega) hj2
       ·simp[intOf];omega
    ·obtain rfl:n=k:=by omega
     have e1:(jo defs).take n=jo defs:=dQ (by unfold jo;rw[List.length_map,HN.zo];exact Nat.le_refl _);rw[e1]at HRW;go_wp2;go_ret;refine⟨gu+1,rfl,HG.zo.ext,?_⟩;have eU:(jo defs).length=n:=by unfold jo;rw[List.length_map,HN.zo]
     refine⟨by rw[eU,HN.zo],by rw[HN.zo];exact hfew,xj defs,⟨_,_,by rw[HN.zo];exact HG.zo.c0,by rw[HN.zo];exact H.zo.exts HG.zo.ext⟩,⟨_,_,by rw[HN.zo];exact HG.zo.c1,?_⟩⟩;rw[HN.zo];exact Xd HRW.zo HG.zo.blk HG.zo.len eU (by unfold maxLen;omega)
end
section
attribute [local go_sem ↓] Xc
def jM(l:List Rc):zv:=l.flatMap gh
theorem nY:∀l:List Rc,(jM l).length=l.length*4
 | []=>rfl
 |r::l=>by
  have:=nY l;unfold jM at*;rw[List.flatMap_cons,dG,this,List.length_cons];show 4+_=_;omega
theorem uh:∀(l:List Rc)(i t:Nat)(r:Rc),l[i]?=some r->t<4->(jM l)[i*4+t]?=(gh r)[t]?
 |r0::l,0,t,r,h,ht=>by
  cases h;show(gh r0++jM l)[0*4+t]?=_;rw[Nat.zero_mul,Nat.zero_add,List.getElem?_append_left (show t<4 from ht)]
 |r0::l,i+1,t,r,h,ht=>by
  show(gh r0++jM l)[(i+1)*4+t]?=_;rw[List.getElem?_append_right (show 4<=_ by omega),show(i+1)*4+t - (gh r0).length=i*4+t by show(i+1)*4+t - 4=_;omega];exact uh l i t r (by simpa using h) ht
theorem Et:∀(l:List Rc)(i:Nat)(r:Rc),i<l.length->(jM l).take (i*4)++gh r++(jM l).drop (i*4+4)=jM (l.set i r)
 |r0::l,0,r,h=>by
  show List.take (0*4) (gh r0++jM l)++gh r++List.drop (0*4+4) (gh r0++jM l)=gh r++jM l;simp[gh]
 |r0::l,i+1,r,h=>by
  have:=Et l i r (by simpa using h);show List.take ((i+1)*4) (gh r0++jM l)++gh r++List.drop ((i+1)*4+4) (gh r0++jM l)=gh r0++jM (l.set i r);rw[<-this,List.take_append,List.drop_append,dQ (show(gh r0).length<=_ by show 4<=_;omega),List.drop_eq_nil_of_le (show(gh r0).length<=_ by show 4<=_;omega),show(i+1)*4 - (gh r0).length=i*4 by show(i+1)*4 - 4=_;omega,show(i+1)*4+4 - (gh r0).length=i*4+4 by show(i+1)*4+4 - 4=_;omega];simp[List.append_assoc]
def pU(w:World)(g:Nat)(l:List Rc):Prop:=w.heap[g]?=some (.cells (jM l).toArray 74 (0,0))
theorem pU.lt{w:World}{g:Nat}{l:List Rc}(h:pU w g l):g<w.heap.size:=(Array.getElem?_eq_some_iff.1 h).1
theorem pU.cell{w:World}{g:Nat}{l:List Rc}(h:pU w g l){i t:Nat}{r:Rc}{u:Value}(hi:l[i]?=some r)(ht:(gh r)[t]?=some u):w.cell? ⟨g,i*4+t,none⟩=some u:=by
 rw[cell_of_row _ _ _ _ _ _ h];have h4:t<4:=(bw ht).1;rw[List.getElem?_toArray,uh l i t r hi h4,ht]
theorem pU.kept{w w':World}{g:Nat}{l:List Rc}{r:Option Nat}(h:pU w g l)(hg:w.grownBy w' r)(hne:r≠some g):pU w' g l:=(hg.block g h.lt fun e=>hne e.symm).trans h
theorem pU.exts{w w':World}{g:Nat}{l:List Rc}(h:pU w g l)(he:af w w'):pU w' g l:=h.kept (er he none) (by simp)
theorem Xg:(prog.info? 74).map (·.size)=some 4:=by kernel_rfl
theorem pU.store{w:World}{g:Nat}{l:List Rc}(h:pU w g l){i:Nat}(hi:i<l.length)(r:Rc):(PW 74 ⟨g,i*4,none⟩ (.agg #[.int .i64 r.x0,.int .i64 r.y0,.int .i64 r.x1,.int .i64 r.y1])).run prog w=.ok () (w.setRow g (jM (l.set i r)).toArray):=by
 have hl:=nY l;have h2:=run_storeCells_at prog g (i*4) 74 (gh r) 0 _ w h (by show i*4+4<=_;simp[hl];omega) (by simp[gh,Value.oneCell']);obtain⟨j,hj,hs⟩:=Option.map_eq_some_iff.1 Xg;simp only[Nat.add_zero]at h2;rw[show i*4+(gh r).length=i*4+4 from rfl,Et l i r hi]at h2;unfold PW;rw[<-h2];simp[storeVar,sizeOf,typeInfo,hj,Value.cells,hs,gh]
theorem pU.set{w:World}{g:Nat}{l l':List Rc}(h:pU w g l):pU (w.setRow g (jM l').toArray) g l'/\w.grownBy (w.setRow g (jM l').toArray) (some g):=
 ⟨setRow_heap w g _ _ 74 (0,0) h,⟨rfl,rfl,rfl,by simp,fun k _ hk=>setRow_other w g k _ (fun e=>hk (by simp[e]))⟩⟩
theorem Xh:(prog.info? 74).map (fun i=>(i.zero,i.size,i.bytes))=some (some (.agg #[.int .i64 0,.int .i64 0,.int .i64 0,.int .i64 0]),4,32):=by kernel_rfl
theorem agd(w:World)(n:Nat)(hn:n<=1000):(Instr.makeSlice 75 (.int .i64 n) (.int .i64 n)).run prog w=.ok (.slice (some ⟨w.heap.size,0,none⟩) n n) (w.alloc (.cells (madeCells #[.int .i64 0,.int .i64 0,.int .i64 0,.int .i64 0] (n*4)) 74)):=by
 obtain⟨i0,hi,q⟩:=Option.map_eq_some_iff.1 Xh;simp only[Prod.mk.injEq]at q;obtain⟨hz0,hz1,hz2⟩:=q;have h:=run_make (P:=prog) w 75 74 i0 _ underlying75 hi hz0 .i64 .i64 n n (by omega) (by omega) (by rw[hz2];omega) (by omega);rw[hz1,Int.toNat_natCast]at h;exact h
theorem adQ(n:Nat):madeCells #[.int .i64 0,.int .i64 0,.int .i64 0,.int .i64 0] (n*4)=(jM (List.replicate n EC)).toArray:=by
 apply Array.ext
 ·rw[size_madeCells,List.size_toArray,nY,List.length_replicate]
 ·intro i h1 h2
  rw[size_madeCells]at h1;have h3:=uh (List.replicate n EC) (i / 4) (i%4) EC (by rw[List.getElem?_replicate,if_pos (by omega)]) (by omega);rw[show i / 4*4+i%4=i by omega]at h3;rw[List.size_toArray]at h2;rw[fZ h2]at h3;have h4:(gh EC)[i%4]?=some (.int .i64 0):=by
   have:i%4<4:=by omega
   match i%4,this with
   |0,_=>rfl
   |1,_=>rfl
   |2,_=>rfl
   |3,_=>rfl
  rw[h4]at h3;have h5:(jM (List.replicate n EC))[i]=.int .i64 0:=Option.some.inj h3;rw[show(jM (List.replicate n EC)).toArray[i]=(jM (List.replicate n EC))[i]from rfl,h5];simp only[madeCells,Array.getElem_map,Array.getElem_range];have:i%4<4:=by omega
  show#[Value.int .i64 0,.int .i64 0,.int .i64 0,.int .i64 0][i%4]! =_
  match i%4,this with
  |0,_=>rfl
  |1,_=>rfl
  |2,_=>rfl
  |3,_=>rfl
theorem pU.own{w:World}{g base n:Nat}{l:List Rc}(h:pU w g l)(hb:base<=g)(hn:l.length=n)(hm:n<=1000)(hi:∀r∈l,I64 r.x0/\I64 r.y0/\I64 r.x1/\I64 r.y1):aq je base 74 w (.slice (some ⟨g,0,none⟩) n n) l:=by
 subst hn;refine⟨jM l,⟨nY l,.inr ⟨g,l.length,_,rfl,hb,h,Nat.le_refl _,by unfold maxLen;omega,by rw[List.size_toArray,nY];rfl,dQ (by rw[List.toList_toArray,nY];exact Nat.le_refl _)⟩⟩,fun i d hd=> ?_⟩;have hx:=hi d (gH hd);have e:((jM l).drop (i*(je).k)).take (je).k=gh d:=by
  apply List.ext_getElem?;intro t;rw[List.getElem?_take,List.getElem?_drop];show(if t<4 then(jM l)[i*4+t]? else none)=_;by_cases ht:t<4
  ·rw[if_pos ht,uh l i t d hd ht]
  ·rw[if_neg ht,List.getElem?_eq_none (show(gh d).length<=t by show 4<=t;omega)]
 rw[e];exact⟨rfl,hx.1,hx.2.1,hx.2.2.1,hx.2.2.2⟩
def kE(vs:List gR)(k:Nat):List Rc:=(vs.take k).map (·.base)++List.replicate (vs.length - k) EC
theorem zu{vs:List gR}{k:Nat}(h:k<=vs.length):(kE vs k).length=vs.length:=by
 unfold kE;rw[dG,List.length_map,List.length_take,List.length_replicate];omega
theorem xk{vs:List gR}{k:Nat}{d:gR}(h:vs[k]?=some d):(kE vs k).set k d.base=kE vs (k+1):=by
 have hk:=(bw h).1;have e:((vs.take k).map (·.base)).length=k:=by rw[List.length_map,List.length_take];omega
 unfold kE;rw[List.set_append_right _ _ (by omega),e,Nat.sub_self,show vs.length - k=(vs.length - (k+1))+1 by omega,List.replicate_succ,List.set_cons_zero,List.take_add_one,h];simp
def pJ(vs:List gR)(k:Nat):List Int:=(vs.take k).flatMap fun v=> [v.base.x0,v.base.x1]
theorem xm{vs:List gR}{k:Nat}{d:gR}(h:vs[k]?=some d):pJ vs (k+1)=pJ vs k++ [d.base.x0,d.base.x1]:=by
 unfold pJ;rw[List.take_add_one,h,Option.toList_some,List.flatMap_append];rfl
theorem td(vs:List gR):∀k,k<=vs.length->(pJ vs k).length=2*k
 |0,_=>rfl
 |k+1,hk=>by
  rw[xm (fZ (show k<vs.length by omega)),dG,td vs k (by omega)];simp;omega
theorem F7{α:Type} [Inhabited α] (enc:α->zv)(k:Nat)(w:World)(g q:Nat)(d:Array α)(os:Array Obj):w.grownBy (sortWorldK enc k w g 0 q d os) (some g):=by
 refine⟨rfl,rfl,rfl,?_,fun j hj hne=> ?_⟩
 ·simp[sortWorldK,Sort.grow,Sort.putRowK,Sort.putRow,Sort.ahead,Sort.mapBlock]
 ·have: ¬g=j:=fun e=>hne (by rw[e])
  simp[sortWorldK,Sort.grow,Sort.putRowK,Sort.putRow,Sort.ahead,Sort.mapBlock,Array.getElem?_append,hj,Array.getElem?_modify,this];rw[Array.getElem_modify,if_neg this]
theorem TF{base:Nat}{w w0:World}{n c:Nat}{ao:Option Addr}{l:List Rc}(h:aq je base 74 w (.slice ao n c) l)(hn:l.length=n)(he:af w0 w)(hb:w0.heap.size<=base)(hm:n<=1000000):Calls prog 247 #[.slice ao n c,.func (.func 248) #[] #[]] w fun e w'=>e=.returned (.tuple #[])/\af w0 w'/\aq je base 74 w' (.slice ao n c) (qN l)/\w.grownBy w' (Value.slice ao n c).ownBlock:=by
 have hk:∀x:Rc,(gh x).length=(je).k:=fun x=>rfl
 obtain⟨xs,h1,h2⟩:=id h;rw[hn]at h1;rcases gq h1 with⟨rfl,rfl,rfl⟩|⟨g,rfl,hg,hlt,hc⟩
 ·obtain rfl:l= []:=List.length_eq_zero_iff.1 hn
  refine(He _ w).mono ?_;rintro e w' ⟨rfl,hx⟩;rw[show qN []= []from List.length_eq_zero_iff.1 (pq []).1];exact⟨rfl,he.trans hx,h.exts hx,er hx _⟩
 ·obtain⟨_,_,hH⟩:=aq.holds (P:=fun d=> ∀w:World,(je).R w (gh d) d) hk J3 h hn
  have eg:∀args w,(callFunc 248 args).run prog w=.ok (.enter 248 args) w:=fun a w=>by rfl
  have hcon:=AnyQ.slices_SortFunc_eq Tryz.qN 4 Vq Qn gh (fun _=>rfl) (fun x v hv=>by simp[gh]at hv;rcases hv with rfl|rfl|rfl|rfl<;>rfl) M6 (zY (T:=Rc) (·.y0)) 248 #[] g 0 c l.toArray w eg (fun _ _ _ _ x y=>J1 x y _) hH hlt (by rw[List.size_toArray];omega);rw[List.size_toArray,hn]at hcon;refine ag hcon ?_;rintro e w' ⟨rfl,q,os,rfl⟩;obtain⟨p1,p2⟩:=pq l;have e0:Sort.pdq (ltOf M6) l.toArray 0 n (Lib.bitLen n) true true=(qN l).toArray:=by
   unfold qN G6;rw[List.size_toArray,hn]
  rw[e0];have hP:∀x∈l,∀w:World,(je).R w (gh x) x:=(h.flat (P:=fun d=> ∀w:World,(je).R w (gh d) d) (enc:=gh) J3).2;exact⟨rfl,yD he (by omega) _ _ _,aq.sorted (P:=fun d=> ∀w:World,(je).R w (gh d) d) hk J3 (fun w d h=>h w) h hn (p1.trans hn) (fun x hx=>hP x (p2 x hx)) _ _,F7 _ _ _ _ _ _ _⟩
def trunc(w:World)(n:Nat):World:={w with heap:=w.heap.extract 0 n}
theorem rA(w:World)(n:Nat):(trunc w n).heap.size=min n w.heap.size:=by simp[trunc]
theorem K7(w:World)(n:Nat):af (trunc w n) w:=by
 apply af.of_below;exact⟨rfl,rfl,rfl,by rw[rA];exact Nat.min_le_right _ _,fun b hb=>by rw[rA]at hb;simp[trunc,Array.getElem?_extract];omega⟩
theorem K8{w w':World}{n:Nat}(h:af w w')(hn:w.heap.size<=n):af w (trunc w' n):=by
 have hb:=h.below;have hs:=hb.size;refine af.of_below ⟨hb.os,hb.tape,hb.output,by rw[rA];omega,fun b hb'=> ?_⟩;rw[<-hb.block b hb'];simp[trunc,Array.getElem?_extract];omega
theorem aq.trunc{T:Type}{L:Lay T}(hf:Flat L){base m:Nat}{e:TypeId}{w:World}{v:Value}{l:List T}(h:aq L base e w v l)(hm:∀b,v.ownBlock=some b->b<m):aq L base e (trunc w m) v l:=by
 obtain⟨xs,⟨h1,h2⟩,h3⟩:=h;refine⟨xs,⟨h1,?_⟩,fun i d hd=>hf _ _ _ _ (h3 i d hd)⟩;rcases h2 with h2|⟨g,cap,cur,rfl,hb,hg,h4⟩
 ·exact .inl h2
 ·have h5:=hm g rfl
  refine .inr ⟨g,cap,cur,rfl,hb,?_,h4⟩;rw[<-hg];simp[Go.Proofs.YtomgpelfmgkknaaGreatDoor.trunc,Array.getElem?_extract];omega
theorem adR{u t:Int}(h1: -1048576<=u)(h2:u<=1048576)(h3:0<=t)(h4:t<=1048576): -1099511627776<=u*t/\u*t<=1099511627776:=by
 have a1:=Int.mul_le_mul_of_nonneg_right h2 h3;have a2:=Int.mul_le_mul_of_nonneg_right h1 h3;omega
theorem Jv(b:Nat)(p:Plan)(area:List Rc)(bJ:List gR)(w:World)(h:jN w b p area bJ)(hl:bJ.length<=40)(hv:∀v∈bJ,kt v.base=true):Calls prog 166 #[.pointer (some ⟨b,0,none⟩)] w fun e w'=>e=.returned (.int .i64 (sL bJ))/\af w w'/\I64 (sL bJ):=by
 obtain⟨_,_,vo,vc,c9,hs⟩:=h;have H:=aa hs;have HV:=aa hv;have lb:=bP c9;obtain⟨n,hn⟩:∃n,bJ.length=n:=⟨_,rfl⟩;have HN:=aa hn;rw[hn]at c9 hl H;have M:=agd (n:=n) (hn:=by omega);obtain⟨i0,hi,qq⟩:=Option.map_eq_some_iff.1 BN;simp only[Prod.mk.injEq]at qq;obtain⟨hz0,hz1,hz2⟩:=qq;clear hs hv hn;go_enter func166,ntmps166;go_wp2;refine bI ?_;intro W1 hW1;obtain⟨g,hg⟩:∃g,w.heap.size=g:=⟨_,rfl⟩;have jZ:=aa (show af w W1 by rw[hW1];exact ae);have HB1:Hid (pU W1 g (kE bJ 0)):=aa (by
  rw[hW1,<-hg];unfold pU;rw[heap_alloc_new,adQ];unfold kE;rw[HN.zo];rfl)
 have hs1:W1.heap.size=g+1:=by rw[hW1,<-hg];simp
 rw[hg];clear hW1 M;go_loopw [3,23] (fun x i wr=> ∃(k:Nat)(xo:Option Addr)(xc:Nat),k<=n/\i=.int .i64 k/\x=.slice xo (2*k) xc/\af w wr/\pU wr g (kE bJ k)/\aq dv (g+1) 3 wr (.slice xo (2*k) xc) (pJ bJ k)/\g+1<=wr.heap.size) (fun _ i _=>n - (intOf i).toNat)
 case atStart=>exact⟨0,none,0,by omega,rfl,rfl,jZ.zo,HB1.zo,aq.made _ _ _ _,by omega⟩
 case round=>
  clear jZ HB1 hs1;obtain⟨k,xo,xc,hk,rfl,rfl,hx,hb,hso,hsz⟩:=hrel;have HX:=aa hx;have HB:=aa hb;have D8:=aa hso;have hgl:=hb.lt;have c9':wr.cell? ⟨b,9,none⟩=_:=af.cell hx c9;have hxs:=hx.below.size;clear hx hb hso;by_cases hkn:k<n
  ·obtain⟨d,hd⟩:=H.zo.ex hkn
   obtain⟨vb,off,cs,rfl,lvb,hR,cZ⟩:=H.zo.ld hd;obtain⟨rfl,i1,i2,i3,i4,_⟩:=hR;have hld:∀w',af wr w'->_:=fun w' he=>cZ w' (HX.zo.trans he)
   have HD:=aa hd;have HI:=aa (show I64 d.base.x0/\I64 d.base.y0/\I64 d.base.x1/\I64 d.base.y1 from⟨i1,i2,i3,i4⟩);have hst:=fun(u:Array Value)=>((HB.zo.exts (show af wr (wr.alloc (.cells u 98))from ae)).store (i:=k) (by rw[zu (by rw[HN.zo];exact hk),HN.zo];exact hkn) d.base)
   rw[xk hd]at hst;clear cZ i1 i2 i3 i4 hd;go_wp2;refine bI ?_;intro W hW;obtain⟨hb1,hg1⟩:=HB.zo.set (l':=kE bJ (k+1));have HBW:=aa (show pU W g (kE bJ (k+1))by rw[hW];exact hb1.exts ae);have uB:=aa (show af w W by rw[hW];exact af.trans (aF HX.zo hg1 (fun b' hb'=>by cases hb';omega)) ae);have lgW:g<W.heap.size:=HBW.zo.lt;have agf:=aa (show aq dv (g+1) 3 W (.slice xo (2*k) xc) (pJ bJ k)by
    rw[hW];refine aq.exts (aq.wZ eZ D8.zo hg1 fun b' hb' e=> ?_) ae;obtain⟨xs,h1,_⟩:=D8.zo;have:=cm h1 b' hb';simp only[Option.some.injEq]at e;omega)
   have hd1:(kE bJ (k+1))[k]?=some d.base:=by
    rw[<-xk HD.zo,List.getElem?_set,if_pos rfl,if_pos (by rw[zu (by rw[HN.zo];exact hk),HN.zo];exact hkn)]
   have z0:W.cell? ⟨g,k*4,none⟩=some (.int .i64 d.base.x0):=HBW.zo.cell (t:=0) hd1 rfl;have z2:W.cell? ⟨g,k*4+2,none⟩=some (.int .i64 d.base.x1):=HBW.zo.cell (t:=2) hd1 rfl;obtain⟨Wx,Cu,TE⟩:=agf.zo;have eL:=td bJ k (by rw[HN.zo];exact hk);rw[eL]at Cu;obtain⟨g2,cg,w9,h9,Ju,sZ,agb,agc⟩:=run_append_lies (P:=prog) (w:=W.drew.alloc (.cells #[.int .i64 d.base.x0,.int .i64 d.base.x1] 3)) 66 66 (g+1) 3 i0 _ 1 8 underlying66 hi hz0 hz1 hz2 rfl (by decide) (.slice xo (2*k) xc) (2*k) Wx (eX Cu ae) ⟨W.heap.size,0,none⟩ 2 2 [.int .i64 d.base.x0,.int .i64 d.base.x1] rfl (by intro j u hj;match j,hj with|0,hj=>(simp at hj;subst hj;simp[go_sem])|1,hj=>(simp at hj;subst hj;simp[go_sem])) (by intro u hu;simp at hu;rcases hu with rfl|rfl<;>rfl) (by decide) (by unfold maxLen;omega) (by omega) (by simp;omega) (W.heap.size+1) (by simp);have h9':(adN #[66,66] 66 #[.slice xo (2*k) xc,.slice (some ⟨W.heap.size,0,none⟩) 2 2]).run prog (W.alloc (.cells #[.int .i64 d.base.x0,.int .i64 d.base.x1] 3)).drew=.ok (.slice (some ⟨g2,0,none⟩) (2*k+2) cg) w9:=h9;have zS:=aa ((World.grownBy_alloc W.drew (.cells #[.int .i64 d.base.x0,.int .i64 d.base.x1] 3) _).trans sZ);have Ab:=aa (show∀b',(Value.slice xo (2*k) xc).ownBlock=some b'->g+1<=b' from cm Cu);have p0:=(cell_grown (j:=k*4) zS.zo (show g<W.heap.size from lgW) fun e=>by have:=Ab.zo _ e;omega).trans z0;have p2:=(cell_grown (j:=k*4+2) zS.zo (show g<W.heap.size from lgW) fun e=>by have:=Ab.zo _ e;omega).trans z2;have p6:W.heap.size<w9.heap.size:=by have:=sZ.size;simp at this;omega
   have HO9:=aa Ju;have aaw:=aa TE;have hxl:Wx.length=2*k:=by have:=Cu.1;rw[show dv.k=1 from rfl,Nat.mul_one]at this;exact this
   clear hW hb1 hg1 h9 Ju sZ Cu TE hst hld;go_region
   (try go_frame)
   go_wp2;refine⟨⟨k+1,some ⟨g2,0,none⟩,cg,by omega,by go_num,rfl,aF (uB.zo.trans (ae:af W W.drew)) zS.zo (fun b' hb'=>by have:=Ab.zo b' hb';omega),(HBW.zo.exts (ae:af W W.drew)).kept zS.zo (fun e=>by have:=Ab.zo _ e;omega),?_,by omega⟩,?_⟩
   ·rw[xm HD.zo]
    refine aq.app (L:=dv) (l2:= [d.base.x0,d.base.x1]) (xs:=Wx) (ys:= [.int .i64 d.base.x0,.int .i64 d.base.x1]) (by rw[eL];exact HO9.zo) (by rw[hxl,eL];exact(Nat.mul_one _).symm) aaw.zo fun i y hy=> ?_
    match i,hy with
    |0,hy=>(cases hy;exact⟨rfl,HI.zo.1⟩)
    |1,hy=>(cases hy;exact⟨rfl,HI.zo.2.2.1⟩)
   ·simp[intOf];omega
  ·obtain rfl:n=k:=by omega
   have eb:kE bJ n=bJ.map (·.base):=by unfold kE;rw[HN.zo,Nat.sub_self,dQ (by rw[HN.zo];exact Nat.le_refl _)];simp
   have ee:pJ bJ n=bJ.flatMap fun v=> [v.base.x0,v.base.x1]:=by unfold pJ;rw[dQ (by rw[HN.zo];exact Nat.le_refl _)]
   have eel:=td bJ n (by rw[HN.zo];exact Nat.le_refl _);have HRC:=aa (show∀r∈bJ.map (·.base),kt r=true from fun r hr=>by
    obtain⟨v,hv,rfl⟩:=List.mem_map.1 hr;exact HV.zo v hv)
   rw[eb]at HB;rw[ee]at D8 eel;have HBO:=aa (HB.zo.own (base:=g) (Nat.le_refl _) (by rw[List.length_map,HN.zo]) (by omega) (fun r hr=>by
    have:=qK (HRC.zo r hr);unfold I64;omega))
   have hgw:w.heap.size<=g:=by omega
   go_wp2_with (first|((with_reducible refine ag (TF (w0:=w) (base:=g) (n:=n) (l:=bJ.map (·.base)) HBO.zo (by rw[List.length_map,HN.zo]) HX.zo hgw (by omega)) ?_);rintro e W2 ⟨rfl,hx2,ho2,aax⟩;(have gm:=aa hx2);(have jY:=aa ho2);(have ahX:=aa aax);(have Z2:=aa (aq.wZ eZ D8.zo aax (fun b' hb' e=>by obtain⟨xs,h1,_⟩:=D8.zo;have:=cm h1 b' hb';have e2:g=b':=(by simpa[Value.ownBlock]using e);omega)));clear hx2 ho2 aax)|((with_reducible refine ag (xH (w0:=trunc W2 (g+1)) (base:=g+1) (l:=bJ.flatMap fun v=> [v.base.x0,v.base.x1]) Z2.zo eel (K7 W2 (g+1)) (by rw[rA];omega) (by omega)) ?_);rintro e W3 ⟨rfl,hx3,ho3⟩;(have iU:=aa hx3);(have my:=aa ho3);clear hx3 ho3))
   have agh:=aa (show af w (trunc W2 (g+1))from K8 gm.zo (by omega));have agi:=aa (agh.zo.trans iU.zo);have HOB:=aa ((aq.trunc (m:=g+1) wu jY.zo (fun b' hb'=>by have e2:g=b':=(by simpa[Value.ownBlock]using hb');omega)).exts iU.zo);have HBM:=aa (show∀r∈Bu bJ,kt r=true from fun r hr=>HRC.zo r ((pq _).2 r hr));have CD:=aa (show(Bu bJ).length=n from(pq _).1.trans (by rw[List.length_map,HN.zo]));have Yh:=aa (show(yS bJ).length=2*n from(gO _).trans eel);have WT:Hid (aq dv (g+1) 3 W3 (.slice xo (2*n) xc) (yS bJ)):=my;have aay:Hid (aq je g 74 W3 (.slice (some ⟨g,0,none⟩) n n) (Bu bJ)):=HOB;clear eb ee my HOB jY gm;obtain⟨X,hX⟩:∃X,yS bJ=X:=⟨_,rfl⟩;obtain⟨B,hB⟩:∃B,Bu bJ=B:=⟨_,rfl⟩;have HC:=aa (show sL bJ=wL B X (2*n - 1)from by unfold sL;rw[Yh.zo,hX,hB]);have HXB:Hid (∀x∈X,0<=x/\x<=1048576):=aa (fun x hx=>by
    rw[<-hX]at hx;unfold yS at hx;obtain⟨v,hv,hx⟩:=List.mem_flatMap.1 (xG.1 hx);have:=qK (HV.zo v hv);simp only[List.mem_cons,List.not_mem_nil,or_false]at hx;omega)
   rw[hX]at WT Yh;rw[hB]at aay HBM CD;clear hX hB;obtain⟨N2,hN2⟩:∃N2,2*n - 1=N2:=⟨_,rfl⟩;have hmx:jF 0 (2*(n:Int) - 1)=(N2:Int):=by
    unfold jF;omega
   have Yl:=aa hN2;have hN3:N2<=79:=by omega
   rw[hN2]at HC;rw[hmx];clear hN2;go_loopw [7,56] (fun a i wr=> ∃(k:Nat),k<=N2/\i=.int .i64 k/\a=.int .i64 (wL B X k)/\af W3 wr/\wL B X k<=k*43980465111040/\ -(k*43980465111040:Int)<=wL B X k) (fun _ i _=>N2 - (intOf i).toNat)
   case atStart=>exact⟨0,by omega,by first|rfl|simp,rfl,af.refl _,by show(0:Int)<=_;omega,by show _<=(0:Int);omega⟩
   case round=>
    obtain⟨k,hk,rfl,rfl,hx,hb1,hb2⟩:=hrel;have nv:=aa hx;by_cases hkn:k<N2
    ·have hkn2:=Yl.zo
     obtain⟨lo,hlo⟩:=(WT.zo.sl Yh.zo).ex (show k<2*n by omega);obtain⟨hi2,hhi⟩:=(WT.zo.sl Yh.zo).ex (show k+1<2*n by omega);have UE:=aa (show X.getD k 0=lo from by rw[List.getD_eq_getElem?_getD,hlo];rfl);have HHI:=aa (show X.getD (k+1) 0=hi2 from by rw[List.getD_eq_getElem?_getD,hhi];rfl);have bl:=HXB.zo lo (gH hlo);have bh:=HXB.zo hi2 (gH hhi);obtain⟨xb,xf,rfl,lxb,c1,_⟩:=dV (WT.zo.sl Yh.zo) hlo;obtain⟨xb',xf',e3,_,c2,_⟩:=dV (WT.zo.sl Yh.zo) hhi;simp only[Option.some.injEq,Addr.mk.injEq,and_true]at e3;obtain⟨rfl,rfl⟩:=e3;have C1:∀w',af W3 w'->w'.cell? ⟨xb,xf+k,none⟩=some (.int .i64 lo):=fun w' h=>af.cell h c1
     have C2:∀w',af W3 w'->w'.cell? ⟨xb,xf+(k+1),none⟩=some (.int .i64 hi2):=fun w' h=>af.cell h c2
     have PC:Hid (wL B X (k+1)=(jQ B lo hi2 (wL B X k) B.length).1):=aa (by
      rw[<-UE.zo,<-HHI.zo];unfold wL;rw[List.range_succ,List.foldl_append];rfl)
     obtain⟨acc,hacc⟩:∃acc,wL B X k=acc:=⟨_,rfl⟩;rw[hacc]at PC hb1 hb2 ⊢;clear hlo hhi c1 c2 hx hacc;go_wp2;go_loopw [7,9,61] (fun a ro i wr2=> ∃(j:Nat),j<=n/\i=.int .i64 j/\a=.int .i64 (jQ B lo hi2 acc j).1/\ro=.int .i64 (jQ B lo hi2 acc j).2/\af wr wr2/\(jQ B lo hi2 acc j).1<=acc+j*1099511627776/\acc - (j*1099511627776:Int)<=(jQ B lo hi2 acc j).1/\0<=(jQ B lo hi2 acc j).2/\(jQ B lo hi2 acc j).2<=1048576) (fun _ _ i _=>n - (intOf i).toNat)
     case atStart=>exact⟨0,by omega,rfl,rfl,rfl,af.refl _,by show acc<=_;omega,by show _<=acc;omega,by show(0:Int)<=0;omega,by show(0:Int)<=_;omega⟩
     case round=>
      obtain⟨j,hj,rfl,rfl,rfl,hy,q1,q2,q3,q4⟩:=hrel;by_cases hjn:j<n
      ·obtain⟨r,hr⟩:=(aay.zo.sl CD.zo).ex hjn
       have hrr:=qK (HBM.zo r (gH hr));obtain⟨rb,rof,cs,e4,lrb,hR,cZ⟩:=(aay.zo.sl CD.zo).ld hr;obtain⟨rfl,_⟩:=hR;simp only[Option.some.injEq,Addr.mk.injEq,and_true]at e4;obtain⟨rfl,rfl⟩:=e4;have HY:=aa hy;simp only[Nat.zero_add]at cZ;have hld:∀w',af wr w'->_:=fun w' he=>cZ w' (nv.zo.trans (hy.trans he))
       have X5:Hid (jQ B lo hi2 acc (j+1)=ZE lo hi2 (jQ B lo hi2 acc j) r):=aa (by
        unfold jQ;rw[List.take_add_one,hr,Option.toList_some,List.foldl_append];rfl)
       obtain⟨⟨a,ro⟩,hst⟩:∃st,jQ B lo hi2 acc j=st:=⟨_,rfl⟩;rw[hst]at X5 q1 q2 q3 q4 ⊢;have HXY:=aa (nv.zo.trans hy);clear cZ hr hst hy;have hcb:ZE lo hi2 (a,ro) r=if(decide (r.x0<=lo)&&(decide (lo<r.x1)&&decide (ro<r.y1)))=true then(a+(hi2 - lo)*(r.y1 - jF ro r.y0),r.y1)else(a,ro):=rfl
       rw[hcb]at X5;clear hcb;go_wp2;refine bI ?_;intro W4 zB;have adS:=aa (show af W3 W4 by rw[zB];exact af.trans HXY.zo ae);have Zz:=aa (show af wr W4 by rw[zB];exact ae);have d0:W4.cell? ⟨wr.heap.size,0,none⟩=some (.int .i64 r.x0):=by rw[zB];simp[go_sem]
       have d1:W4.cell? ⟨wr.heap.size,1,none⟩=some (.int .i64 r.y0):=by rw[zB];simp[go_sem]
       have d2:W4.cell? ⟨wr.heap.size,2,none⟩=some (.int .i64 r.x1):=by rw[zB];simp[go_sem]
       have d3:W4.cell? ⟨wr.heap.size,3,none⟩=some (.int .i64 r.y1):=by rw[zB];simp[go_sem]
       have ld:=bP d0;have k1:=C1 W4 adS.zo;have k2:=C2 W4 adS.zo;have l1:=bP k1;have hkn2:=Yl.zo;clear zB C1 C2;have sQ:Hid (a<=acc+j*1099511627776):=aa q1;have ze:Hid (acc - (j*1099511627776:Int)<=a):=aa q2;have Oi:Hid (0<=ro):=aa q3;have HQ4:Hid (ro<=1048576):=aa q4;by_cases g1:r.x0<=lo
       ·by_cases g2:lo<r.x1
        ·by_cases g3:ro<r.y1
         ·have b1:decide (r.x0<=lo)=true:=zdt g1
          have b2:decide (lo<r.x1)=true:=zdt g2;have b3:decide (ro<r.y1)=true:=zdt g3;obtain⟨m,hm⟩:∃m,jF ro r.y0=m:=⟨_,rfl⟩;have hm2:0<=r.y1 - m/\r.y1 - m<=1048576:=by
           rw[<-hm];unfold jF;omega
          obtain⟨P,hP⟩:∃P,(hi2 - lo)*(r.y1 - m)=P:=⟨_,rfl⟩;have hPb: -1099511627776<=P/\P<=1099511627776:=by
           rw[<-hP];exact adR (by omega) (by omega) hm2.1 hm2.2
          have HE:Hid (jQ B lo hi2 acc (j+1)=(a+P,r.y1)):=aa (by rw[X5.zo,b1,b2,b3,hm,hP];rfl);have w1:IntKind.i64.wrap (hi2 - lo)=hi2 - lo:=IntWalk.i64_in _ (by omega);have w2:IntKind.i64.wrap (r.y1 - m)=r.y1 - m:=IntWalk.i64_in _ (by omega);have w3:IntKind.i64.wrap P=P:=IntWalk.i64_in _ (by omega);have w4:IntKind.i64.wrap (a+P)=a+P:=IntWalk.i64_in _ (by omega);clear g1 g2 g3 q1 q2 q3 q4;go_wp2;first|refine eK ?_|refine eJ ?_
          repeat (go_big_quiet_step (fail))
          refine eM fun xq=> ?_
          go_wp2;first|refine eK ?_|refine eJ ?_
          repeat (go_big_quiet_step (fail))
          refine eM fun xq=> ?_
          go_wp2;refine⟨⟨j+1,by omega,by go_num,by rw[HE.zo],by rw[HE.zo],HY.zo.trans (Zz.zo.trans ae),by rw[HE.zo];show a+P<=_;have:=sQ.zo;omega,by rw[HE.zo];show _<=a+P;have:=ze.zo;omega,by rw[HE.zo];show 0<=r.y1;omega,by rw[HE.zo];show r.y1<=_;omega⟩,?_⟩;simp[intOf];omega
         ·have b3:decide (ro<r.y1)=false:=jE g3
          have b1:decide (r.x0<=lo)=true:=zdt g1;have b2:decide (lo<r.x1)=true:=zdt g2;have HE:Hid (jQ B lo hi2 acc (j+1)=(a,ro)):=aa (by rw[X5.zo,b1,b2,b3];rfl);clear g1 g2 g3 q1 q2 q3 q4;go_wp2;first|refine eK ?_|refine eJ ?_
          repeat (go_big_quiet_step (fail))
          refine eM fun xq=> ?_
          go_wp2;refine⟨⟨j+1,by omega,by go_num,by rw[HE.zo],by rw[HE.zo],HY.zo.trans (Zz.zo.trans ae),by rw[HE.zo];show a<=_;have:=sQ.zo;omega,by rw[HE.zo];show _<=a;have:=ze.zo;omega,by rw[HE.zo];exact Oi.zo,by rw[HE.zo];exact HQ4.zo⟩,?_⟩;simp[intOf];omega
        ·have b1:decide (r.x0<=lo)=true:=zdt g1
         have b2:decide (lo<r.x1)=false:=jE g2;have HE:Hid (jQ B lo hi2 acc (j+1)=(a,ro)):=aa (by rw[X5.zo,b1,b2];rfl);clear g1 g2 q1 q2 q3 q4;go_wp2;first|refine eK ?_|refine eJ ?_
         repeat (go_big_quiet_step (fail))
         refine eM fun xq=> ?_
         go_wp2;refine⟨⟨j+1,by omega,by go_num,by rw[HE.zo],by rw[HE.zo],HY.zo.trans (Zz.zo.trans ae),by rw[HE.zo];show a<=_;have:=sQ.zo;omega,by rw[HE.zo];show _<=a;have:=ze.zo;omega,by rw[HE.zo];exact Oi.zo,by rw[HE.zo];exact HQ4.zo⟩,?_⟩;simp[intOf];omega
       ·have b1:decide (r.x0<=lo)=false:=jE g1
        have HE:Hid (jQ B lo hi2 acc (j+1)=(a,ro)):=aa (by rw[X5.zo,b1];rfl);clear g1 q1 q2 q3 q4;go_wp2;first|refine eK ?_|refine eJ ?_
        repeat (go_big_quiet_step (fail))
        refine eM fun xq=> ?_
        go_wp2;refine⟨⟨j+1,by omega,by go_num,by rw[HE.zo],by rw[HE.zo],HY.zo.trans (Zz.zo.trans ae),by rw[HE.zo];show a<=_;have:=sQ.zo;omega,by rw[HE.zo];show _<=a;have:=ze.zo;omega,by rw[HE.zo];exact Oi.zo,by rw[HE.zo];exact HQ4.zo⟩,?_⟩;simp[intOf];omega
      ·obtain rfl:n=j:=by omega
       have ec:(jQ B lo hi2 acc n)=jQ B lo hi2 acc B.length:=by rw[CD.zo]
       rw[ec]at q1 q2 ⊢;rw[<-PC.zo]at q1 q2 ⊢;have HY:=aa hy;clear hy;go_wp2;refine⟨⟨k+1,by omega,by go_num,rfl,nv.zo.trans HY.zo,by omega,by omega⟩,?_⟩;simp[intOf];omega
    ·obtain rfl:k=N2:=by omega
     go_wp2;go_ret;exact⟨by rw[HC.zo];rfl,agi.zo.trans nv.zo,by rw[HC.zo];exact⟨by omega,by omega⟩⟩
end
def Eu(w:World)(b base:Nat)(out:List ByteArray):Prop:= ∃oo oc,Bx w b [.slice oo out.length oc] 45/\bL (fun _=>False) fC base 9 w (.slice oo out.length oc) out
theorem Eu.at{w w1:World}{b base:Nat}{out:List ByteArray}(h:Eu w b base out)(he:af w w1):Eu w1 b base out:=by
 obtain⟨oo,oc,h1,h2⟩:=h;exact⟨oo,oc,h1.exts he,h2.exts he⟩
theorem adZ(name:ByteArray)(bad:Bool)(out:List ByteArray)(b base:Nat)(w:World)(hO:Eu w b base out)(hbb:b<base)(hw:base<=w.heap.size)(hsz:gS name)(hn:out.length<=2000):
 Calls prog 23 #[.string name,.bool bad,.pointer (some ⟨b,0,none⟩)] w fun e w'=>e=.returned (.tuple #[])/\On (fun x=>x≠b/\x<base) w w'/\Eu w' b base (addN out name bad):=by
 obtain⟨oo,oc,hB,hS⟩:=hO;have HS:=aa hS;have HB:=aa hB;have HZ:=aa hsz;have c0:w.cell? ⟨b,0,none⟩=some (.slice oo out.length oc):=hB.cell 0;have hbw:=hB.lt;clear hB hS hsz;cases bad with
 |false=>
  go_enter func23,ntmps23;go_wp2;go_end0
  exact⟨rfl,On.exts ae,oo,oc,HB.zo.exts ae,HS.zo.exts ae⟩
 |true=>
  cases hc:out.any (pN name)with
  |true=>
   have HC:=aa hc;have HA:=aa (show addN out name true=out by unfold addN;rw[hc];rfl);clear hc;go_enter func23,ntmps23;go_wp2_with ((with_reducible refine ag (pE name _ _ _ out _ ?_) ?_);exact(HS.zo.sl rfl).exts ae;rw[HC.zo];rintro e w' ⟨rfl,x1,rfl⟩)
   go_end0
   refine⟨rfl,On.exts ae,?_⟩;rw[HA.zo];exact⟨oo,oc,HB.zo.exts ae,HS.zo.exts ae⟩
  |false=>
   have HC:=aa hc;have HA:=aa (show addN out name true=out++ [name]by unfold addN;rw[hc];rfl);obtain⟨i0,hi,hz0,hz1,hz2⟩:=info_parts sk;clear hc;go_enter func23,ntmps23;go_wp2_with (first|((with_reducible refine ag (pE name _ _ _ out _ ?_) ?_);exact(HS.zo.sl rfl).exts ae;rw[HC.zo];rintro e w' ⟨rfl,x1,rfl⟩)|(at_builtin;refine fA rfl (.tmp 12) (.tmp 14) 45 rfl i0 _ 16 underlying45 hi hz0 hz1 hz2 rfl (by decide) rfl rfl (HS.zo.exts ae) _ 1 rfl (cs:= [.string name]) (fun w2 _=>⟨rfl,HZ.zo⟩) (fun j u hu=>(Bx.mv rfl (by simp)).news j u hu) (by omega) (by omega) (by simp<;>omega) ?_;intro g c' w1 hown hgrow;(have HB1:Bx w1 b [.slice oo out.length oc] 45:=(HB.zo.exts ae).at (On.grown (D:=fun x=>x=b) hgrow (fun x hx h0=>by have:=(HS.zo.lt hx).1;omega)) rfl);(have c1:w1.cell? ⟨b,0,none⟩=some (.slice oo out.length oc):=HB1.cell 0);(have f1:=HB1.fz 0);(have HB2:=aa HB1);(have HW:=aa hown);(have HG:=aa hgrow);clear HB1 hown hgrow))
   go_end0
   refine⟨rfl,?_,?_⟩
   ·refine(On.exts ae).trans ((On.grown HG.zo fun x hx h0=> ?_).trans (On.grown (bW _ _ _ _) fun x hx h0=> ?_))
    ·have:=(HS.zo.lt hx).1
     omega
    ·cases hx
     exact h0.1 rfl
   ·rw[HA.zo]
    refine⟨some ⟨g,0,none⟩,c',by rw[dG];exact HB2.zo.set 0 _,?_⟩;rw[dG];refine HW.zo.at (On.grown (bW _ _ _ _) fun x hx h0=> ?_);cases hx;have:=(HW.zo.lt (h0.elim False.elim id)).1;omega
end Go.Proofs.YtomgpelfmgkknaaGreatDoor
