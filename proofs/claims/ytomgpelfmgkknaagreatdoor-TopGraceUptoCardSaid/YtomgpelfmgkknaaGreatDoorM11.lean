/- Lemmas for the law. No conditions. -/
import Derived.Test.YtomgpelfmgkknaaGreatDoorM7
import Derived.Test.YtomgpelfmgkknaaGreatDoorM4
import Derived.Test.YtomgpelfmgkknaaGreatDoorM10
import Derived.BigRegion
namespace Go.Proofs.YtomgpelfmgkknaaGreatDoor
open Go.RowKit Go.Maps
open Go.Proofs.Tryz
set_option maxRecDepth 100000
set_option maxHeartbeats 40000000
set_option linter.unusedVariables false
set_option linter.unusedSimpArgs false
def JU(lo hi n:Int):Bool:=decide (lo<=n)&&decide (n<=hi)
theorem tH(n lo hi:Int)(w:World):Calls prog 313 #[.int .i64 n,.int .i64 lo,.int .i64 hi] w (cX (.bool (JU lo hi n)) w):=by
 unfold JU;cases q1:decide (lo<=n)with
 |false=>
  go_enter func313,ntmps313;go_wp2;go_ret;exact⟨rfl,ae⟩
 |true=>
  cases q2:decide (n<=hi)with
  |false=>
   go_enter func313,ntmps313;go_wp2;go_ret;exact⟨rfl,ae⟩
  |true=>
   go_enter func313,ntmps313;go_wp2;go_ret;exact⟨rfl,ae⟩
def Az(p:Dv):Bool:=JU 0 3 p.side&&(JU 0 4096 p.base&&(JU 0 4096 p.num&&JU 1 4096 p.den))
theorem CJ(p:Dv)(w:World):Calls prog 261 #[.agg #[.int .i64 p.side,.int .i64 p.base,.int .i64 p.num,.int .i64 p.den]] w (cX (.bool (Az p)) w):=by
 have e0:Az p=(JU 0 3 p.side&&(JU 0 4096 p.base&&(JU 0 4096 p.num&&JU 1 4096 p.den))):=rfl;obtain⟨a,ha⟩:∃a,JU 0 3 p.side=a:=⟨_,rfl⟩;obtain⟨b,hb⟩:∃a,JU 0 4096 p.base=a:=⟨_,rfl⟩;obtain⟨c,hc⟩:∃a,JU 0 4096 p.num=a:=⟨_,rfl⟩;obtain⟨d,hd⟩:∃a,JU 1 4096 p.den=a:=⟨_,rfl⟩;rw[e0,ha,hb,hc,hd];have HA:=aa ha;have HB:=aa hb;have HC:=aa hc;have HD:=aa hd;clear e0 ha hb hc hd;cases a<;>cases b<;>cases c<;>cases d<;>(
  go_enter func261,ntmps261;go_wp2_with (first|((with_reducible refine(tH p.side 0 3 _).mono ?_);rintro e w' ⟨rfl,x9,rfl⟩;rw[HA.zo])|((with_reducible refine(tH p.base 0 4096 _).mono ?_);rintro e w' ⟨rfl,x9,rfl⟩;rw[HB.zo])|((with_reducible refine(tH p.num 0 4096 _).mono ?_);rintro e w' ⟨rfl,x9,rfl⟩;rw[HC.zo])|((with_reducible refine(tH p.den 1 4096 _).mono ?_);rintro e w' ⟨rfl,x9,rfl⟩;rw[HD.zo]))
  go_ret;exact⟨rfl,ae⟩)
theorem GZ(p:Dv)(cs:zv)(w:World)(h:(um).R w cs p):Calls prog 260 #[.agg cs.toArray] w (cX (.bool (!Az p)) w):=by
 obtain⟨rfl,_⟩:=h;go_enter func260,ntmps260;go_wp2_with ((with_reducible refine(CJ p _).mono ?_);rintro e w' ⟨rfl,x9,rfl⟩)
 go_ret;exact⟨rfl,ae⟩
theorem MS:Enters 260:=fun a w=>by rfl
def AA(b:Rc)(l:List Dv):Bool:=kt b&& !(l.any fun p=> !Az p)
theorem AB(b:Rc)(ao:Option Addr)(n c:Nat)(l:List Dv)(w:World)(h:Sl um w ao n c l):Calls prog 174 #[.agg #[.int .i64 b.x0,.int .i64 b.y0,.int .i64 b.x1,.int .i64 b.y1],.slice ao n c] w (cX (.bool (AA b l)) w):=by
 have H:=aa h;clear h;unfold AA;cases q:kt b with
 |false=>
  have Q:=aa q;clear q;go_enter func174,ntmps174;go_wp2_with ((with_reducible refine(bK b _).mono ?_);rintro e w' ⟨rfl,x8,rfl⟩;rw[Q.zo])
  go_ret;exact⟨rfl,ae⟩
 |true=>
  have Q:=aa q;clear q;go_enter func174,ntmps174;go_wp2_with (first|((with_reducible refine(bK b _).mono ?_);rintro e w' ⟨rfl,x8,rfl⟩;rw[Q.zo])|((with_reducible refine ag (GY 260 #[] (fun p=> !Az p) _ _ _ l _ MS ?_ ?_) ?_);exact H.zo.exts ae;exact fun w' i d cs _ _ hR=>GZ d cs w' hR;rintro e w' ⟨rfl,x9,rfl⟩))
  go_ret;exact⟨rfl,ae⟩
def wh(b:Bool):Int:=if b then 1 else 0
theorem AD(b:Bool)(w:World):Calls prog 245 #[.bool b] w (cX (.int .i64 (wh b)) w):=by
 cases b with
 |false=>
  go_enter func245,ntmps245;go_wp2;go_ret;exact⟨rfl,ae⟩
 |true=>
  go_enter func245,ntmps245;go_wp2;go_ret;exact⟨rfl,ae⟩
def lX(op:Int):Int×Bool:=if op=0∨op=1∨op=2∨op=3 then(0,true)else if op=9∨op=15 then(1,true)else if op=16 then(3,true)else(2,decide (0<=op)&&decide (op<17))
theorem qg(op:Int)(w:World):Calls prog 301 #[.int .i64 op] w (cX (.tuple #[.int .i64 (lX op).1,.bool (lX op).2]) w):=by
 by_cases h:op=0∨op=1∨op=2∨op=3∨op=9∨op=15∨op=16
 ·rcases h with rfl|rfl|rfl|rfl|rfl|rfl|rfl<;>(
   go_enter func301,ntmps301;go_wp2;go_ret2;exact⟨rfl,ae⟩)
 ·have e0:lX op=(2,decide (0<=op)&&decide (op<17)):=by
   unfold lX;rw[if_neg (by omega),if_neg (by omega),if_neg (by omega)]
  rw[e0];have k0:(op==0)=false:=by simp;omega
  have k1:(op==1)=false:=by simp;omega
  have k2:(op==2)=false:=by simp;omega
  have k3:(op==3)=false:=by simp;omega
  have k9:(op==9)=false:=by simp;omega
  have k15:(op==15)=false:=by simp;omega
  have k16:(op==16)=false:=by simp;omega
  clear h e0;cases q1:decide (0<=op)with
  |false=>
   go_enter func301,ntmps301;go_wp2;go_ret2;exact⟨rfl,ae⟩
  |true=>
   cases q2:decide (op<17)with
   |false=>
    go_enter func301,ntmps301;go_wp2;go_ret2;exact⟨rfl,ae⟩
   |true=>
    go_enter func301,ntmps301;go_wp2;go_ret2;exact⟨rfl,ae⟩
def qL(e:Xp):Bool:=(lX e.op).2&&((lX e.op).1==(e.args.length:Int))
def pP:Nat->Xp->Int
 |0,_=>13
 |f+1,e=>if qL e=true then(e.args.map (pP f)).foldl jF 0+1 else 13
def CL(f:Nat)(l:List Xp):Int:=(l.map (pP f)).foldl jF 0
theorem MT{f:Nat}{l:List Xp}{k:Nat}{d:Xp}(h:l[k]?=some d):CL f (l.take (k+1))=jF (CL f (l.take k)) (pP f d):=by
 unfold CL;rw[List.take_add_one,h,Option.toList_some,List.map_append,List.foldl_append];rfl
theorem xF(M:Int):∀(l:List Int)(a:Int),(∀x∈l,0<=x/\x<=M)->0<=a->a<=M->0<=l.foldl jF a/\l.foldl jF a<=M
 | [],a,_,h1,h2=>⟨h1,h2⟩
 |x::l,a,h,h1,h2=>by
  have h3:=h x List.mem_cons_self;refine xF M l (jF a x) (fun y hy=>h y (List.mem_cons_of_mem _ hy)) ?_ ?_
  ·unfold jF;omega
  ·unfold jF;omega
theorem LI:∀(f:Nat)(e:Xp),0<=pP f e/\pP f e<=13+f
 |0,e=>by simp[pP]
 |f+1,e=>by
  unfold pP;split
  ·have:=xF (13+f) (e.args.map (pP f)) 0 (fun x hx=>by
    obtain⟨y,_,rfl⟩:=List.mem_map.1 hx;exact LI f y) (by omega) (by omega)
   omega
  ·omega
theorem Vi(f:Nat)(l:List Xp):0<=CL f l/\CL f l<=13+f:=
 xF (13+f) (l.map (pP f)) 0 (fun x hx=>by
  obtain⟨y,_,rfl⟩:=List.mem_map.1 hx;exact LI f y) (by omega) (by omega)
theorem MU:∀(f a:Nat)(e:Xp)(cs:zv)(w:World),a+f=12->(j7).R w cs e->Calls prog 242 #[.agg cs.toArray,.int .i64 a] w fun e' w'=>e'=.returned (.int .i64 (pP f e))/\af w w':=by
 intro f;induction f with
 |zero=>
  intro a e cs w ha h;obtain⟨eo,ec,rfl,hv⟩:=h.opened;obtain⟨op,num,str,key,args⟩:=e;obtain⟨⟨n,ok⟩,har⟩:∃r,lX op=r:=⟨_,rfl⟩;have MV:=aa har;obtain rfl:a=12:=by omega
  have HF:=aa (show pP 0 (.mk op num str key args)=13 from rfl);simp only[Xp.op,Xp.num,Xp.str,Xp.key,Xp.args];obtain⟨res,hres⟩:∃r,pP 0 (.mk op num str key args)=r:=⟨_,rfl⟩;rw[hres]at HF ⊢;clear h hv har hres;cases ok with
  |false=>
   go_enter func242,ntmps242;go_wp2_with ((with_reducible refine ag (qg op _) ?_);rw[MV.zo];rintro e w' ⟨rfl,x7,rfl⟩)
   go_ret;rw[HF.zo];exact⟨rfl,ae⟩
  |true=>
   cases q:(n==(args.length:Int))with
   |false=>
    have q1:(n !=(args.length:Int))=true:=by simpa using q
    have q2: ¬n=(args.length:Int):=by simpa using q
    go_enter func242,ntmps242;go_wp2_with ((with_reducible refine ag (qg op _) ?_);rw[MV.zo];rintro e w' ⟨rfl,x7,rfl⟩)
    go_ret;rw[HF.zo];exact⟨rfl,ae⟩
   |true=>
    have q2:n=(args.length:Int):=by simpa using q
    subst q2;go_enter func242,ntmps242;go_wp2_with ((with_reducible refine ag (qg op _) ?_);rw[MV.zo];rintro e w' ⟨rfl,x7,rfl⟩)
    go_ret;rw[HF.zo];exact⟨rfl,ae⟩
 |succ f ih=>
  intro a e cs w ha h;obtain⟨eo,ec,rfl,hv⟩:=h.opened;obtain⟨op,num,str,key,args⟩:=e;obtain⟨_,_,_,_,hs⟩:=hv;obtain⟨⟨n,ok⟩,har⟩:∃r,lX op=r:=⟨_,rfl⟩;have MV:=aa har;have HIH:=aa ih;have HS:=aa (show Sl j7 w eo args.length ec args from hs);have Za:=aa (show pP (f+1) (.mk op num str key args)=if(ok&&(n==(args.length:Int)))=true then CL f args+1 else 13 by
   have hok:qL (.mk op num str key args)=(ok&&(n==(args.length:Int))):=by
    show((lX op).2&&((lX op).1==(args.length:Int)))=_;rw[har]
   conv=>lhs;unfold pP
   rw[hok];rfl)
  have t12:decide ((12:Int)<=(a:Int))=false:=jE (by omega);simp only[Xp.op,Xp.num,Xp.str,Xp.key,Xp.args];obtain⟨res,hres⟩:∃r,pP (f+1) (.mk op num str key args)=r:=⟨_,rfl⟩;rw[hres]at Za ⊢;clear h hs har hres ih;cases ok with
  |false=>
   have HF:=aa (show res=13 by rw[Za.zo];rfl);go_enter func242,ntmps242;go_wp2_with ((with_reducible refine ag (qg op _) ?_);rw[MV.zo];rintro e w' ⟨rfl,x7,rfl⟩)
   go_ret;rw[HF.zo];exact⟨rfl,ae⟩
  |true=>
   cases q:(n==(args.length:Int))with
   |false=>
    have HF:=aa (show res=13 by rw[Za.zo,q];rfl);have q1:(n !=(args.length:Int))=true:=by simpa using q
    have q2: ¬n=(args.length:Int):=by simpa using q
    go_enter func242,ntmps242;go_wp2_with ((with_reducible refine ag (qg op _) ?_);rw[MV.zo];rintro e w' ⟨rfl,x7,rfl⟩)
    go_ret;rw[HF.zo];exact⟨rfl,ae⟩
   |true=>
    have HF:=aa (show res=CL f args+1 by rw[Za.zo,q];rfl);have q2:n=(args.length:Int):=by simpa using q
    subst q2;clear q;have hm:=HS.zo.nle;unfold maxLen at hm;go_enter func242,ntmps242;go_wp2_with ((with_reducible refine ag (qg op _) ?_);rw[MV.zo];rintro e w' ⟨rfl,x7,rfl⟩)
    go_loopw [7,32] (fun m i wr=> ∃(k:Nat),k<=args.length/\i=.int .i64 k/\m=.int .i64 (CL f (args.take k))/\af w wr) (fun _ i _=>args.length - (intOf i).toNat)
    case atStart=>exact⟨0,by omega,rfl,rfl,ae⟩
    case round=>
     obtain⟨k,hk,rfl,rfl,hx⟩:=hrel;have HX:=aa hx;by_cases hlt:k<args.length
     ·obtain⟨d,hd⟩:=HS.zo.ex hlt
      obtain⟨b,off,cs,rfl,lb,hR,cZ⟩:=HS.zo.ld hd;obtain⟨po,pc,rfl,_⟩:=hR.opened;have HR:=aa hR;have hld:∀w',af wr w'->_:=fun w' he=>cZ w' (HX.zo.trans he)
      have HU:=aa (MT (f:=f) hd);obtain⟨m,hm⟩:∃m,CL f (args.take k)=m:=⟨_,rfl⟩;rw[hm]at HU ⊢;have v1:(a:Int)+1=((a+1:Nat):Int):=by omega
      have HV:=aa v1;clear hd cZ hR hx hm v1;go_wp2_with (go_at_call 242;(rw[HV.zo]);((with_reducible refine ag (HIH.zo (a+1) d _ _ ?_ ?_) ?_);omega;exact(j7).exts HR.zo (HX.zo.trans ae);rintro e w' ⟨rfl,x8,rfl⟩))
      refine⟨⟨k+1,by omega,by go_num,by rw[HU.zo],HX.zo.trans ae⟩,?_⟩;simp[intOf];omega
     ·obtain rfl:args.length=k:=by omega
      rw[show args.take args.length=args from dQ (Nat.le_refl _)];obtain⟨m1,m2⟩:=Vi f args;obtain⟨m,hm⟩:∃m,CL f args=m:=⟨_,rfl⟩;rw[hm]at HF m1 m2 ⊢;have HX:=aa hx;clear hx hm;go_wp2;go_ret;rw[HF.zo];exact⟨rfl,HX.zo.trans ae⟩
def ow(e:Xp):Bool:=decide (pP 12 e<=12)
theorem kB(e:Xp)(cs:zv)(w:World)(h:(j7).R w cs e):Calls prog 160 #[.agg cs.toArray] w fun e' w'=>e'=.returned (.bool (ow e))/\af w w':=by
 have HR:=aa h;obtain⟨eo,ec,rfl,_⟩:=h.opened;obtain⟨m,hm⟩:∃m,pP 12 e=m:=⟨_,rfl⟩;have HM:=aa hm;unfold ow;rw[hm];clear h hm;go_enter func160,ntmps160;go_wp2_with ((with_reducible refine ag (MU 12 0 e _ _ (by omega) ?_) ?_);exact(j7).exts HR.zo ae;rw[HM.zo];rintro e w' ⟨rfl,x8,rfl⟩)
 go_ret;exact⟨rfl,ae⟩
def zz(a b:Int):Int:=if b=0 then 0 else if a.tmod b=0 then wrap64 (a.tdiv b)else if decide (a.tmod b<0)=decide (b<0)then wrap64 (a.tdiv b)else wrap64 (wrap64 (a.tdiv b) - 1)
theorem G4(a b:Int)(w:World):Calls prog 308 #[.int .i64 a,.int .i64 b] w (cX (.int .i64 (zz a b)) w):=by
 obtain⟨res,hres⟩:∃r,zz a b=r:=⟨_,rfl⟩;rw[hres];have aD:=aa hres;clear hres;by_cases hb:b=0
 ·have HQ:=aa (show res=0 by rw[<-aD.zo];simp[zz,hb])
  subst hb;go_enter func308,ntmps308;go_wp2;go_ret;exact⟨by rw[HQ.zo];rfl,ae⟩
 ·have q1:(b==0)=false:=by simp[hb]
  by_cases h1:a.tmod b=0
  ·have HQ:=aa (show res=wrap64 (a.tdiv b)by rw[<-aD.zo];simp[zz,hb,h1])
   go_enter func308,ntmps308;go_wp2_with fail
   all_goals(go_ret;exact⟨by rw[HQ.zo];rfl,ae⟩)
  ·have q2:(a.tmod b !=0)=true:=by simp[h1]
   cases h2:(decide (a.tmod b<0) !=decide (b<0))with
   |true=>
    have HQ:=aa (show res=wrap64 (wrap64 (a.tdiv b) - 1)by rw[<-aD.zo];unfold zz;rw[if_neg hb,if_neg h1,if_neg (by simpa using h2)]);go_enter func308,ntmps308;go_wp2_with fail
    all_goals first
     |(go_ret;exact⟨by rw[HQ.zo];rfl,ae⟩)
     |(exfalso;simp_all;done)
   |false=>
    have HQ:=aa (show res=wrap64 (a.tdiv b)by rw[<-aD.zo];unfold zz;rw[if_neg hb,if_neg h1,if_pos (by simpa using h2)]);go_enter func308,ntmps308;go_wp2_with fail
    all_goals first
     |(go_ret;exact⟨by rw[HQ.zo];rfl,ae⟩)
     |(exfalso;simp_all;done)
def Qg(a n:Int):Int:=if a.tmod n<0 then wrap64 (wrap64 (a.tdiv n) - 1)else wrap64 (a.tdiv n)
theorem yC(a n:Int)(hn:n≠0)(w:World):Calls prog 315 #[.int .i64 a,.int .i64 n] w (cX (.int .i64 (Qg a n)) w):=by
 unfold Qg;have q0:(n==0)=false:=by simp[hn]
 by_cases h:a.tmod n<0
 ·rw[if_pos h]
  have q:decide (a.tmod n<0)=true:=zdt h;clear h;go_enter func315,ntmps315;go_wp2;go_ret;exact⟨rfl,ae⟩
 ·rw[if_neg h]
  have q:decide (a.tmod n<0)=false:=jE h;clear h;go_enter func315,ntmps315;go_wp2;go_ret;exact⟨rfl,ae⟩
def AE(op a b:Int):Int:=
 if op=4 then wrap64 (a+b)else if op=5 then wrap64 (a - b)else if op=6 then wrap64 (a*b)else if op=7 then zz a b
 else if op=8 then(if b=0 then 0 else wrap64 (a - wrap64 (zz a b*b)))
 else if op=10 then wh (a==b)else if op=11 then wh (decide (a<b))else if op=12 then wh (decide (a<=b))else if op=13 then wh (a !=0&&b !=0)else wh (a !=0||b !=0)
theorem MW(op a b:Int)(w:World):Calls prog 246 #[.int .i64 op,.int .i64 a,.int .i64 b] w (cX (.int .i64 (AE op a b)) w):=by
 have acr:∀w,Calls prog 308 #[.int .i64 a,.int .i64 b] w fun e w'=>e=.returned (.int .i64 (zz a b))/\af w w':=fun w=>G4 a b w
 have HA:=aa acr;clear acr;by_cases h:op=4∨op=5∨op=6∨op=7∨op=10∨op=11∨op=12
 ·rcases h with rfl|rfl|rfl|rfl|rfl|rfl|rfl<;>(
   go_enter func246,ntmps246;go_wp2_with (first|((with_reducible refine(HA.zo _).mono ?_);rintro e w' ⟨rfl,x9,rfl⟩)|((with_reducible refine(AD _ _).mono ?_);rintro e w' ⟨rfl,x8,rfl⟩))
   go_ret;exact⟨rfl,ae⟩)
 ·by_cases h8:op=8
  ·subst h8
   by_cases hb:b=0
   ·subst hb
    go_enter func246,ntmps246;go_wp2;go_ret;exact⟨rfl,ae⟩
   ·have q1:(b==0)=false:=by simp[hb]
    have e0:AE 8 a b=wrap64 (a - wrap64 (zz a b*b)):=by simp[AE,hb]
    rw[e0];clear e0 h;go_enter func246,ntmps246;go_wp2_with ((with_reducible refine(HA.zo _).mono ?_);rintro e w' ⟨rfl,x9,rfl⟩)
    go_ret;exact⟨rfl,ae⟩
  ·have k4:(op==4)=false:=by simp;omega
   have k5:(op==5)=false:=by simp;omega
   have k6:(op==6)=false:=by simp;omega
   have k7:(op==7)=false:=by simp;omega
   have k8:(op==8)=false:=by simp;omega
   have k10:(op==10)=false:=by simp;omega
   have k11:(op==11)=false:=by simp;omega
   have k12:(op==12)=false:=by simp;omega
   by_cases h13:op=13
   ·subst h13
    have e0:AE 13 a b=wh (a !=0&&b !=0):=by simp[AE]
    rw[e0];cases q1:(a !=0)<;>cases q2:(b !=0)<;>(
     go_enter func246,ntmps246;go_wp2_with ((with_reducible refine(AD _ _).mono ?_);rintro e w' ⟨rfl,x8,rfl⟩)
     go_ret;exact⟨rfl,ae⟩)
   ·have k13:(op==13)=false:=by simp[h13]
    have e0:AE op a b=wh (a !=0||b !=0):=by
     unfold AE;rw[if_neg (by omega),if_neg (by omega),if_neg (by omega),if_neg (by omega),if_neg h8,if_neg (by omega),if_neg (by omega),if_neg (by omega),if_neg h13]
    rw[e0];clear e0 h h8 h13;cases q1:(a !=0)<;>cases q2:(b !=0)<;>(
     go_enter func246,ntmps246;go_wp2_with ((with_reducible refine(AD _ _).mono ?_);rintro e w' ⟨rfl,x8,rfl⟩)
     go_ret;exact⟨rfl,ae⟩)
section
open Go.RowKit Go.Sort Go.Lib
instance :Inhabited Span:=⟨⟨0,0⟩⟩
instance :Inhabited Rc:=⟨⟨0,0,0,0⟩⟩
def uA(s:Span):zv:= [.int .i64 s.lo,.int .i64 s.hi]
def gh(r:Rc):zv:= [.int .i64 r.x0,.int .i64 r.y0,.int .i64 r.x1,.int .i64 r.y1]
def M5(a b:Span):Int:=Lib.compareInt a.lo b.lo
def M6(a b:Rc):Int:=Lib.compareInt a.y0 b.y0
theorem JZ{T:Type}(f:T->Int)(x y:T):ltOf (fun a b=>Lib.compareInt (f a) (f b)) x y=decide (f x<f y):=by
 unfold ltOf Lib.compareInt;by_cases h1:f x<f y
 ·simp[h1]
 ·by_cases h2:f y<f x<;>simp[h1,h2]
theorem zY{T:Type}(f:T->Int):SWO (ltOf fun a b=>Lib.compareInt (f a) (f b)) where
 irrefl x:=by rw[JZ];simp
 trans x y z h1 h2:=by rw[JZ]at*;simp at*;omega
 ntrans x y z h1 h2:=by rw[JZ]at*;simp at*;omega
theorem J0(x y:Span)(w:World):Calls prog 343 #[.agg #[.int .i64 x.lo,.int .i64 x.hi],.agg #[.int .i64 y.lo,.int .i64 y.hi]] w fun e w'=>e=.returned (.int .i64 (M5 x y))/\∃q os',w'=grow (w.drewN q) os':=by
 have hcon:=fun W'=>Tryz.cmp_Compare_int x.lo y.lo W'
 unfold M5;generalize Lib.compareInt x.lo y.lo=r at hcon ⊢;go_enter func343,ntmps343;go_wp2_with (go_at_call 249;refine(hcon _).mono ?_;rintro e w' ⟨rfl,rfl⟩)
 go_ret;exact⟨rfl,0,_,by rw[alloc_eq_grow,alloc_eq_grow,grow_grow];rfl⟩
theorem J1(x y:Rc)(w:World):Calls prog 248 #[.agg #[.int .i64 x.x0,.int .i64 x.y0,.int .i64 x.x1,.int .i64 x.y1],.agg #[.int .i64 y.x0,.int .i64 y.y0,.int .i64 y.x1,.int .i64 y.y1]] w fun e w'=>e=.returned (.int .i64 (M6 x y))/\∃q os',w'=grow (w.drewN q) os':=by
 have hcon:=fun W'=>Tryz.cmp_Compare_int x.y0 y.y0 W'
 unfold M6;generalize Lib.compareInt x.y0 y.y0=r at hcon ⊢;go_enter func248,ntmps248;go_wp2_with (go_at_call 249;refine(hcon _).mono ?_;rintro e w' ⟨rfl,rfl⟩)
 go_ret;exact⟨rfl,0,_,by rw[alloc_eq_grow,alloc_eq_grow,grow_grow];rfl⟩
theorem Qm(w:World):(isAgg 406).run prog w=.ok true w:=by rfl
theorem Vq(w:World):(isAgg 74).run prog w=.ok true w:=by rfl
theorem M7(w:World):(Go.sizeOf 406).run prog w=.ok 2 w:=by rfl
theorem Qn(w:World):(Go.sizeOf 74).run prog w=.ok 4 w:=by rfl
def oy(l:List Span):List Span:=G6 M5 l
def qN(l:List Rc):List Rc:=G6 M6 l
theorem pn(l:List Span):(oy l).length=l.length/\∀x∈oy l,x∈l:=Dz M5 (zY (T:=Span) (·.lo)) l
theorem pq(l:List Rc):(qN l).length=l.length/\∀x∈qN l,x∈l:=Dz M6 (zY (T:=Rc) (·.y0)) l
theorem J2(w:World)(cs:zv)(d:Span)(h:(eQ).R w cs d):cs=uA d/\∀w':World,(eQ).R w' (uA d) d:=⟨h.1,fun w'=>⟨rfl,h.2⟩⟩
theorem J3(w:World)(cs:zv)(d:Rc)(h:(je).R w cs d):cs=gh d/\∀w':World,(je).R w' (gh d) d:=⟨h.1,fun w'=>⟨rfl,h.2⟩⟩
theorem bl0(w:World):Calls prog 122 #[.int .u64 0] w fun e w'=>e=.returned (.int .i64 0)/\w'=w:=(Tryz.bits_Len 0 w (by omega) (by omega)).mono fun e w' h=>h
theorem J4(v f:Value)(w:World):Calls prog 373 #[v,.int .i64 0,.int .i64 0,f] w (cX (.tuple #[]) w):=by
 go_enter func373,ntmps373;go_wp2_with (first|(refine wp_loop_rounds 6 ?_;rw[rounds_succ])|(rw[rounds_succ]))
 go_end0
 exact⟨rfl,ae⟩
theorem Qo(v f:Value)(k:Int)(w:World):Calls prog 361 #[v,.int .i64 0,.int .i64 0,.int .i64 k,f] w (cX (.tuple #[]) w):=by
 go_enter func361,ntmps361;go_wp2_with (first|(refine wp_loop_rounds 6 ?_;rw[rounds_succ])|(rw[rounds_succ])|((with_reducible refine(J4 _ _ _).mono ?_);rintro e w' ⟨rfl,xl,rfl⟩))
 refine bodyPost_ret (results_none rfl _ _ _) rfl ?_;exact⟨rfl,ae⟩
theorem Hd(v:Value)(w:World):Calls prog 342 #[.slice none 0 0,v] w (cX (.tuple #[]) w):=by
 go_enter func342,ntmps342;go_wp2_with (first|((with_reducible refine(Qo _ _ _ _).mono ?_);rintro e w' ⟨rfl,xp,rfl⟩)|((with_reducible refine(bl0 _).mono ?_);rintro e w' ⟨rfl,rfl⟩))
 go_end0
 exact⟨rfl,ae⟩
theorem J5(v f:Value)(w:World):Calls prog 332 #[v,.int .i64 0,.int .i64 0,f] w (cX (.tuple #[]) w):=by
 go_enter func332,ntmps332;go_wp2_with (first|(refine wp_loop_rounds 6 ?_;rw[rounds_succ])|(rw[rounds_succ]))
 go_end0
 exact⟨rfl,ae⟩
theorem Qp(v f:Value)(k:Int)(w:World):Calls prog 309 #[v,.int .i64 0,.int .i64 0,.int .i64 k,f] w (cX (.tuple #[]) w):=by
 go_enter func309,ntmps309;go_wp2_with (first|(refine wp_loop_rounds 6 ?_;rw[rounds_succ])|(rw[rounds_succ])|((with_reducible refine(J5 _ _ _).mono ?_);rintro e w' ⟨rfl,xl,rfl⟩))
 refine bodyPost_ret (results_none rfl _ _ _) rfl ?_;exact⟨rfl,ae⟩
theorem He(v:Value)(w:World):Calls prog 247 #[.slice none 0 0,v] w (cX (.tuple #[]) w):=by
 go_enter func247,ntmps247;go_wp2_with (first|((with_reducible refine(Qp _ _ _ _).mono ?_);rintro e w' ⟨rfl,xp,rfl⟩)|((with_reducible refine(bl0 _).mono ?_);rintro e w' ⟨rfl,rfl⟩))
 go_end0
 exact⟨rfl,ae⟩
theorem Vr{base:Nat}{w w0:World}{n c:Nat}{ao:Option Addr}{l:List Span}(h:aq eQ base 406 w (.slice ao n c) l)(hn:l.length=n)(he:af w0 w)(hb:w0.heap.size<=base)(hm:n<=1000000):Calls prog 342 #[.slice ao n c,.func (.func 343) #[] #[]] w fun e w'=>e=.returned (.tuple #[])/\af w0 w'/\aq eQ base 406 w' (.slice ao n c) (oy l):=by
 have hk:∀x:Span,(uA x).length=(eQ).k:=fun x=>rfl
 obtain⟨xs,h1,h2⟩:=id h;rw[hn]at h1;rcases gq h1 with⟨rfl,rfl,rfl⟩|⟨g,rfl,hg,hlt,hc⟩
 ·obtain rfl:l= []:=List.length_eq_zero_iff.1 hn
  refine(Hd _ w).mono ?_;rintro e w' ⟨rfl,hx⟩;rw[show oy []= []from List.length_eq_zero_iff.1 (pn []).1];exact⟨rfl,he.trans hx,h.exts hx⟩
 ·obtain⟨_,_,hH⟩:=aq.holds (P:=fun d=> ∀w:World,(eQ).R w (uA d) d) hk J2 h hn
  have eg:∀args w,(callFunc 343 args).run prog w=.ok (.enter 343 args) w:=fun a w=>by rfl
  have hcon:=AnyQ.slices_SortFunc_eq Tryz.oy 2 Qm M7 uA (fun _=>rfl) (fun x v hv=>by simp[uA]at hv;rcases hv with rfl|rfl<;>rfl) M5 (zY (T:=Span) (·.lo)) 343 #[] g 0 c l.toArray w eg (fun _ _ _ _ x y=>J0 x y _) hH hlt (by rw[List.size_toArray];omega);rw[List.size_toArray,hn]at hcon;refine ag hcon ?_;rintro e w' ⟨rfl,q,os,rfl⟩;obtain⟨p1,p2⟩:=pn l;have e0:pdq (ltOf M5) l.toArray 0 n (Lib.bitLen n) true true=(oy l).toArray:=by
   unfold oy G6;rw[List.size_toArray,hn]
  rw[e0];have hP:∀x∈l,∀w:World,(eQ).R w (uA x) x:=(h.flat (P:=fun d=> ∀w:World,(eQ).R w (uA d) d) (enc:=uA) J2).2;exact⟨rfl,yD he (by omega) _ _ _,aq.sorted (P:=fun d=> ∀w:World,(eQ).R w (uA d) d) hk J2 (fun w d h=>h w) h hn (p1.trans hn) (fun x hx=>hP x (p2 x hx)) _ _⟩
end
def lY(l:List Rc)(x:Int):List Span:=(oy (uq l x)).foldl jk []
theorem EG(l:List Rc)(x:Int):(uq l x).length<=l.length:=by
 unfold uq;rw[List.length_map];exact List.length_filter_le _ _
theorem Nb{l:List Rc}{x:Int}{k:Nat}{r:Rc}(h:l[k]?=some r):uq (l.take (k+1)) x=uq (l.take k) x++(if decide (r.x0<=x)&&decide (x<r.x1)then [⟨r.y0,r.y1⟩]else []):=by
 unfold uq;rw[List.take_add_one,h,Option.toList_some,List.filter_append,List.map_append];cases q:decide (r.x0<=x)&&decide (x<r.x1)<;>simp[List.filter_cons,q]
theorem fold_succ{S T:Type}(f:S->T->S)(s:S){l:List T}{k:Nat}{d:T}(h:l[k]?=some d):(l.take (k+1)).foldl f s=f ((l.take k).foldl f s) d:=by
 rw[List.take_add_one,h,Option.toList_some,List.foldl_append];rfl
theorem AR{T:Type}(l:List T):l= []∨∃A t,l=A++ [t]:=by
 rcases List.eq_nil_or_concat l with h|⟨A,t,h⟩
 ·exact .inl h
 ·exact .inr ⟨A,t,by rw[h,List.concat_eq_append]⟩
theorem Hf(s:Span):jk [] s= [s]:=rfl
theorem EH(A:List Span)(t s:Span):jk (A++ [t]) s=if s.lo<=t.hi then A++ [⟨t.lo,mxZ t.hi s.hi⟩]else A++ [t]++ [s]:=by
 unfold jk;rw[List.getLast?_concat];simp only[List.dropLast_concat]
theorem Nc(ao:Option Addr)(n c:Nat)(l:List Rc)(x:Int)(w:World)(h:Sl je w ao n c l)(hn:n<=100000):Calls prog 318 #[.slice ao n c,.int .i64 x] w fun e w'=> ∃oo oc,e=.returned (.slice oo (lY l x).length oc)/\af w w'/\aq eQ w.heap.size 406 w' (.slice oo (lY l x).length oc) (lY l x):=by
 obtain⟨i0,hi,hz0,hz1,hz2⟩:=info_parts tI;have H:=aa h;have HL:=aa h.1;clear h;go_enter func318,ntmps318;go_wp2;go_loopw [5,14] (fun o i wr=> ∃(k:Nat)(oo:Option Addr)(oc:Nat),k<=n/\i=.int .i64 k/\o=.slice oo (uq (l.take k) x).length oc/\af w wr/\aq eQ w.heap.size 406 wr (.slice oo (uq (l.take k) x).length oc) (uq (l.take k) x)) (fun _ i _=>n - (intOf i).toNat)
 case atStart=>exact⟨0,none,0,by omega,rfl,rfl,af.refl _,aq.made _ _ _ _⟩
 case round=>
  obtain⟨k,oo,oc,hk,rfl,rfl,hx,ho⟩:=hrel;have HX:=aa hx;have HO:=aa ho;by_cases hlt:k<n
  ·obtain⟨r,hr⟩:=H.zo.ex hlt
   obtain⟨b,off,cs,rfl,lb,hR,cZ⟩:=H.zo.ld hr;obtain⟨rfl,r0,r1,r2,r3⟩:=hR;have hld:∀w',af wr w'->_:=fun w' he=>cZ w' (HX.zo.trans he)
   have HS:=aa (Nb (x:=x) hr);have hle:=Nat.le_trans (EG (l.take k) x) (List.length_take_le _ _);have HI:=aa (show I64 r.y0/\I64 r.y1 from⟨r1,r3⟩);have hsz:w.heap.size<=wr.heap.size:=HX.zo.below.size;obtain⟨A,hA⟩:∃A,uq (l.take k) x=A:=⟨_,rfl⟩;rw[hA]at HO HS hle ⊢;clear hr cZ r0 r1 r2 r3 hx ho hA;cases q1:decide (r.x0<=x)with
   |false=>
    have HE:=aa (show uq (l.take (k+1)) x=A by rw[HS.zo,q1];simp);go_wp2;refine⟨⟨k+1,oo,oc,by omega,by go_num,by rw[HE.zo],HX.zo.trans ae,by rw[HE.zo];exact HO.zo.exts ae⟩,?_⟩;simp[intOf];omega
   |true=>
    cases q2:decide (x<r.x1)with
    |false=>
     have HE:=aa (show uq (l.take (k+1)) x=A by rw[HS.zo,q1,q2];simp);go_wp2;refine⟨⟨k+1,oo,oc,by omega,by go_num,by rw[HE.zo],HX.zo.trans ae,by rw[HE.zo];exact HO.zo.exts ae⟩,?_⟩;simp[intOf];omega
    |true=>
     have HE:=aa (show uq (l.take (k+1)) x=A++ [⟨r.y0,r.y1⟩]by rw[HS.zo,q1,q2];simp);go_wp2_with (at_builtin;refine dz rfl (.tmp 28) (.tmp 34) 387 rfl eQ w.heap.size 406 mG.turn i0 _ 16 underlying387 hi hz0 hz1 hz2 rfl (by decide) A ⟨r.y0,r.y1⟩ [.int .i64 r.y0,.int .i64 r.y1] _ _ _ rfl rfl HO.zo ae _ 1 rfl ⟨rfl,HI.zo.1,HI.zo.2⟩ (qO (by simp[go_sem]) (by simp[go_sem])) (by omega) (by omega) (by simp<;>omega) ?_;intro ao' c' w1 hown hgrow;(have HN:=aa hown);(have HG:=aa hgrow);clear hown hgrow)
     refine⟨⟨k+1,ao',c',by omega,by go_num,by rw[HE.zo,dG];rfl,HG.zo w (HX.zo.trans ae) (Nat.le_refl _),by rw[HE.zo,dG];exact HN.zo⟩,?_⟩;simp[intOf];omega
  ·obtain rfl:n=k:=by omega
   have e1:l.take n=l:=dQ (by rw[HL.zo];exact Nat.le_refl _);have hle:=EG l x;rw[HL.zo]at hle;rw[e1]at HO ⊢;obtain⟨A,hA⟩:∃A,uq l x=A:=⟨_,rfl⟩;have HA:=aa hA;rw[hA]at HO hle ⊢;clear hx ho e1 hA;go_wp2_with ((with_reducible refine ag (Vr (w0:=w) (base:=w.heap.size) (l:=A) ?_ rfl ?_ (Nat.le_refl _) (by omega)) ?_);exact HO.zo.exts ae;exact HX.zo.trans ae;rintro e W2 ⟨rfl,hx2,ho2⟩;(have gm:=aa hx2);(have jY:=aa ho2);clear hx2 ho2)
   obtain⟨B,hB⟩:∃B,oy A=B:=⟨_,rfl⟩;have hBl:B.length=A.length:=by rw[<-hB];exact(pn A).1
   have HC:=aa (show lY l x=B.foldl jk []by unfold lY;rw[HA.zo,hB]);rw[hB]at jY;clear hB;have HS2:=aa (jY.zo.sl hBl);have CD:=aa hBl;have hfl:=fun k=>zZ jk AQ (B.take k) []
   have GD:=aa hfl;have hsz0:w.heap.size<=W2.heap.size:=gm.zo.below.size;clear hBl hfl;go_loopw [8,41] (fun o i wr=> ∃(k:Nat)(oo:Option Addr)(oc:Nat),k<=A.length/\i=.int .i64 k/\o=.slice oo ((B.take k).foldl jk []).length oc/\af W2 wr/\aq eQ W2.heap.size 406 wr (.slice oo ((B.take k).foldl jk []).length oc) ((B.take k).foldl jk [])) (fun _ i _=>A.length - (intOf i).toNat)
   case atStart=>exact⟨0,none,0,by omega,rfl,rfl,ae,aq.made _ _ _ _⟩
   case round=>
    obtain⟨k,qo,qc,hk,rfl,rfl,hx,ho⟩:=hrel;have iU:=aa hx;have my:=aa ho;by_cases hlt:k<A.length
    ·obtain⟨d,hd⟩:=HS2.zo.ex hlt
     obtain⟨b,off,cs,rfl,lb,hR,cZ⟩:=HS2.zo.ld hd;obtain⟨rfl,i1,i2⟩:=hR;have hld:∀w',af wr w'->_:=fun w' he=>cZ w' (iU.zo.trans he)
     have HF:=aa (fold_succ jk [] hd);have hle:=GD.zo k;have hsz:W2.heap.size<=wr.heap.size:=iU.zo.below.size;simp only[List.length_nil,Nat.zero_add,List.length_take]at hle;have HI:=aa (show I64 d.lo/\I64 d.hi from⟨i1,i2⟩);obtain⟨F,hF⟩:∃F,(B.take k).foldl jk []=F:=⟨_,rfl⟩;rw[hF]at my HF hle ⊢;clear hx ho hd cZ i1 i2 hF;rcases AR F with rfl|⟨F,t,rfl⟩
     ·rw[Hf]at HF
      have q1:decide ((0:Int)<0)=false:=rfl;go_wp2;first|refine eK ?_|refine eJ ?_
      repeat (go_big_quiet_step (fail))
      refine eM fun xq=> ?_
      go_wp2_with (at_builtin;refine dz rfl (.tmp 74) (.tmp 76) 387 rfl eQ W2.heap.size 406 mG.turn i0 _ 16 underlying387 hi hz0 hz1 hz2 rfl (by decide) [] d [.int .i64 d.lo,.int .i64 d.hi] _ _ _ rfl rfl my.zo ae _ 1 rfl ⟨rfl,HI.zo.1,HI.zo.2⟩ (qO (by simp[go_sem]) (by simp[go_sem])) (by simp) (by omega) (by simp<;>omega) ?_;intro ao' c' w1 hown hgrow;(have HN:=aa hown);(have HG:=aa hgrow);clear hown hgrow)
      refine⟨⟨k+1,ao',c',by omega,by go_num,by rw[HF.zo];rfl,HG.zo W2 (iU.zo.trans ae) (Nat.le_refl _),by rw[HF.zo];exact HN.zo⟩,?_⟩;simp[intOf];omega
     ·obtain⟨g,rfl,hg,hgl,hgc⟩:∃g,qo=some ⟨g,0,none⟩/\W2.heap.size<=g/\g<wr.heap.size/\(F++ [t]).length<=qc:=by
       obtain⟨xs,h1,_⟩:=my.zo;rcases gq h1 with⟨h0,_⟩|h0
       ·simp at h0
       ·exact h0
      rw[EH]at HF;obtain⟨p,hp⟩:∃p,F.length=p:=⟨_,rfl⟩;have HP:=aa hp;have el:(F++ [t]).length=p+1:=by rw[dG,hp];rfl
      rw[el]at my hgc hle ⊢;have hlast:(F++ [t])[p]?=some t:=by rw[<-hp];simp
      obtain⟨b1,off1,e1,_,c0,c1,j1,j2⟩:=Al (my.zo.sl el) hlast;simp only[Option.some.injEq,Addr.mk.injEq,and_true]at e1;obtain⟨rfl,rfl⟩:=e1;rw[Nat.zero_add]at c0 c1;have fz:∀j,wr.frozen? ⟨g,j,none⟩=false:=by
       obtain⟨xs,h1,_⟩:=my.zo;rw[el]at h1;exact fun j=>h1.frozenAt j
      have HJ:=aa (show I64 t.lo/\I64 t.hi from⟨j1,j2⟩);have HLA:=aa hlast;have CO:=aa el;have q0:decide ((0:Int)<(p:Int)+1)=true:=zdt (by omega);clear hp el j1 j2 hlast;cases q1:decide (d.lo<=t.hi)with
      |true=>
       have HE:=aa (show(B.take (k+1)).foldl jk []=(F++ [t]).set p ⟨t.lo,max t.hi d.hi⟩by rw[HF.zo,if_pos (of_decide_eq_true q1),Zf,<-HP.zo];simp);have ST:=aa (aq.stored mG.turn (u:=.int .i64 (max t.hi d.hi)) (d':=⟨t.lo,max t.hi d.hi⟩) (j:=1) my.zo CO.zo HLA.zo (by decide) (fun cs hR=>by obtain⟨rfl,_⟩:=hR;exact⟨rfl,HJ.zo.1,Vt HJ.zo.2 HI.zo.2⟩));go_wp2;first|refine eK ?_|refine eJ ?_
       repeat (go_big_quiet_step (fail))
       refine eM fun xq=> ?_
       go_wp2;go_region;go_wp2;refine⟨⟨k+1,_,qc,by omega,by go_num,by rw[HE.zo,List.length_set,CO.zo],af.trans (jx iU.zo hg _ _) ae,?_⟩,?_⟩
       ·rw[HE.zo,List.length_set,CO.zo]
        exact ST.zo.exts ae
       ·simp[intOf];omega
      |false=>
       have HE:=aa (show(B.take (k+1)).foldl jk []=F++ [t]++ [d]by rw[HF.zo,if_neg (of_decide_eq_false q1)]);go_wp2;first|refine eK ?_|refine eJ ?_
       repeat (go_big_quiet_step (fail))
       refine eM fun xq=> ?_
       go_wp2_with (at_builtin;refine dz rfl (.tmp 74) (.tmp 76) 387 rfl eQ W2.heap.size 406 mG.turn i0 _ 16 underlying387 hi hz0 hz1 hz2 rfl (by decide) (F++ [t]) d [.int .i64 d.lo,.int .i64 d.hi] _ _ _ rfl CO.zo my.zo ae _ 1 rfl ⟨rfl,HI.zo.1,HI.zo.2⟩ (qO (by simp[go_sem]) (by simp[go_sem])) (by omega) (by omega) (by simp<;>omega) ?_;intro ao' c' w1 hown hgrow;(have HN:=aa hown);(have HG:=aa hgrow);clear hown hgrow)
       refine⟨⟨k+1,ao',c',by omega,by go_num,by rw[HE.zo,dG,CO.zo];rfl,HG.zo W2 (iU.zo.trans ae) (Nat.le_refl _),by rw[HE.zo,dG,CO.zo];exact HN.zo⟩,?_⟩;simp[intOf];omega
    ·obtain rfl:A.length=k:=by omega
     have e1:B.take A.length=B:=dQ (by rw[CD.zo];exact Nat.le_refl _);rw[e1]at my ⊢;clear hx ho e1;go_wp2;go_ret;rw[HC.zo];exact⟨_,_,rfl,gm.zo.trans (iU.zo.trans ae),(my.zo.exts ae).lower hsz0⟩
structure jH where
 cC:mD
 lot:Lot
 d:rW
 bJ:List gR
 zones:List ByteArray
def Zt(w:World)(cs:zv)(d:jH):Prop:= ∃(fD:Option Addr)(fE:Nat)(eT:Option Addr)(eV:Nat)(e7:Option Addr)(e8:Nat)(fc:Option Addr)(fe:Nat)(fF:Option Addr)(fG:Nat)(fg:Option Addr)(fh:Nat)(fR:Option Addr)(fS:Nat)(iV:Option Addr)(iW:Nat)(iu:Option Addr)(iv:Nat)(iX:Option Addr)(iY:Nat)(iw:Option Addr)(ix:Nat)(iZ:Option Addr)(ja:Nat)(jy:Option Addr)(jz:Nat)(kg:Option Addr)(kh:Nat)(jA:Option Addr)(jB:Nat)(oB:Option Addr)(oC:Nat)(cu:Option Addr)(cy:Nat),cs= [.slice fD d.cC.plan.defs.length fE,.slice eT d.cC.plan.tables.length eV,.slice e7 d.cC.plan.zones.length e8,.slice fc d.cC.plan.rules.length fe,.slice fF d.cC.plan.caps.length fG,.slice fg d.cC.plan.views.length fh,.slice fR d.cC.plan.eA.length fS,.int .i64 d.cC.plan.hours,.slice iV d.cC.land.length iW,.slice iu d.cC.dH.length iv,.slice iX d.cC.wins.length iY,.slice iw d.cC.built.length ix,.slice iZ d.cC.base.length ja,.int .i64 d.lot.id,.int .i64 d.lot.owner,.slice jy d.lot.area.length jz,.slice kg d.lot.old.length kh,.int .i64 d.d.lot,.slice jA d.d.phases.length jB,.slice oB d.bJ.length oC,.slice cu d.zones.length cy]/\Sl mC w fD d.cC.plan.defs.length fE d.cC.plan.defs/\Sl nB w eT d.cC.plan.tables.length eV d.cC.plan.tables/\Sl jV w e7 d.cC.plan.zones.length e8 d.cC.plan.zones/\Sl aw w fc d.cC.plan.rules.length fe d.cC.plan.rules/\Sl iR w fF d.cC.plan.caps.length fG d.cC.plan.caps/\Sl kM w fg d.cC.plan.views.length fh d.cC.plan.views/\Sl yw w fR d.cC.plan.eA.length fS d.cC.plan.eA/\I64 d.cC.plan.hours/\Sl pM w iV d.cC.land.length iW d.cC.land/\Sl vG w iu d.cC.dH.length iv d.cC.dH/\Sl PU w iX d.cC.wins.length iY d.cC.wins/\Sl lI w iw d.cC.built.length ix d.cC.built/\Sl eY w iZ d.cC.base.length ja d.cC.base/\I64 d.lot.id/\I64 d.lot.owner/\Sl je w jy d.lot.area.length jz d.lot.area/\Sl dv w kg d.lot.old.length kh d.lot.old/\I64 d.d.lot/\Sl uP w jA d.d.phases.length jB d.d.phases/\Sl iD w oB d.bJ.length oC d.bJ/\Sl fC w cu d.zones.length cy d.zones
def jO:Lay jH:=⟨21,Zt,fun h=>by obtain⟨fD,fE,eT,eV,e7,e8,fc,fe,fF,fG,fg,fh,fR,fS,iV,iW,iu,iv,iX,iY,iw,ix,iZ,ja,jy,jz,kg,kh,jA,jB,oB,oC,cu,cy,rfl,q0,q1,q2,q3,q4,q5,q6,q7,q8,q9,q10,q11,q12,q13,pV,JP,q16,ME,MF,LC,JQ⟩:=h;rfl,fun h he=>by obtain⟨fD,fE,eT,eV,e7,e8,fc,fe,fF,fG,fg,fh,fR,fS,iV,iW,iu,iv,iX,iY,iw,ix,iZ,ja,jy,jz,kg,kh,jA,jB,oB,oC,cu,cy,rfl,q0,q1,q2,q3,q4,q5,q6,q7,q8,q9,q10,q11,q12,q13,pV,JP,q16,ME,MF,LC,JQ⟩:=h;exact⟨fD,fE,eT,eV,e7,e8,fc,fe,fF,fG,fg,fh,fR,fS,iV,iW,iu,iv,iX,iY,iw,ix,iZ,ja,jy,jz,kg,kh,jA,jB,oB,oC,cu,cy,rfl,q0.exts he,q1.exts he,q2.exts he,q3.exts he,q4.exts he,q5.exts he,q6.exts he,q7,q8.exts he,q9.exts he,q10.exts he,q11.exts he,q12.exts he,q13,pV,JP.exts he,q16.exts he,ME,MF.exts he,LC.exts he,JQ.exts he⟩,fun h=>by obtain⟨fD,fE,eT,eV,e7,e8,fc,fe,fF,fG,fg,fh,fR,fS,iV,iW,iu,iv,iX,iY,iw,ix,iZ,ja,jy,jz,kg,kh,jA,jB,oB,oC,cu,cy,rfl,q0,q1,q2,q3,q4,q5,q6,q7,q8,q9,q10,q11,q12,q13,pV,JP,q16,ME,MF,LC,JQ⟩:=h;simp[Value.oneCell']⟩
instance aeV:iq 88 21:=⟨⟨_,underlying88,rfl⟩,by kernel_rfl⟩
abbrev acH{w:World}{b o:Nat}{cs:zv}:= @xA 88 21 _ w b o cs
theorem LS(fid:FuncId)(caps:Array Value)(p:gR->Bool)(s:jH)(cs:zv)(w:World)(hcf:Enters fid)(h:(jO).R w cs s)
 (hf:∀(w':World)(i:Nat)(d:gR)(cs:zv),af w w'->s.bJ[i]?=some d->(iD).R w' cs d->Calls prog fid (#[.agg cs.toArray]++caps) w' (cX (.bool (p d)) w')):
 Calls prog 27 #[.agg cs.toArray,.func (.func fid) #[] caps] w (cX (.bool (s.bJ.any p)) w):=by
 obtain⟨fD,fE,eT,eV,e7,e8,fc,fe,fF,fG,fg,fh,fR,fS,iV,iW,iu,iv,iX,iY,iw,ix,iZ,ja,jy,jz,kg,kh,jA,jB,oB,oC,cu,cy,rfl,q0,q1,q2,q3,q4,q5,q6,q7,q8,q9,q10,q11,q12,q13,pV,JP,q16,ME,MF,LC,JQ⟩:=h;have HV:=aa LC;have HF:=aa hf;clear hf q0 q1 q2 q3 q4 q5 q6 q7 q8 q9 q10 q11 q12 q13 pV JP q16 ME MF LC JQ;go_enter func27,ntmps27;go_wp2_with ((with_reducible refine ag (uU fid caps p _ _ _ s.bJ _ hcf ?_ ?_) ?_);exact HV.zo.exts ae;exact fun w' i d cs he hd hR=>HF.zo w' i d cs (af.trans ae he) hd hR;rintro e w' ⟨rfl,x7,rfl⟩)
 go_ret;exact⟨rfl,ae⟩
def pQ(lot:Int)(v:gR)(uses other n:Int)(b:Placed):Bool:=
 if(b.lot==lot||(!kt b.fU.base||(decide (b.fU.use<0)||decide (6<=b.fU.use))))=true then false
 else((v.use==uses&&b.fU.use==other)||(v.use==other&&b.fU.use==uses))&&decide (uz v.base b.fU.base<n)
theorem A8{a b:Rc}{x:Int}(hx:uz a b=x)(w:World):Calls prog 180 #[.agg #[.int .i64 a.x0,.int .i64 a.y0,.int .i64 a.x1,.int .i64 a.y1],.agg #[.int .i64 b.x0,.int .i64 b.y0,.int .i64 b.x1,.int .i64 b.y1]] w (cX (.int .i64 x) w):=by
 rw[<-hx];exact Zo a b w
theorem acI(lot:Int)(v:gR)(uses other n:Int)(d:Placed)(bS bV bR:Nat)(cs:zv)(w:World)(h:(lI).R w cs d)(cS:w.cell? ⟨bS,17,none⟩=some (.int .i64 lot))(cU:w.cell? ⟨bV,6,none⟩=some (.int .i64 v.use))(hlV:∀w',af w w'->(jf 74 ⟨bV,0,none⟩).run prog w'=.ok (.agg #[.int .i64 v.base.x0,.int .i64 v.base.y0,.int .i64 v.base.x1,.int .i64 v.base.y1]) w')(c17:w.cell? ⟨bR,17,none⟩=some (.int .i64 uses))(c18:w.cell? ⟨bR,18,none⟩=some (.int .i64 other))(c19:w.cell? ⟨bR,19,none⟩=some (.int .i64 n)):Calls prog 178 (#[.agg cs.toArray]++ #[.pointer (some ⟨bS,0,none⟩),.pointer (some ⟨bV,0,none⟩),.pointer (some ⟨bR,0,none⟩)]) w (cX (.bool (pQ lot v uses other n d)) w):=by
 obtain⟨rfl,_⟩:=h;have lS:=bP cS;have lV:=bP cU;have lR:=bP c17;show Calls prog 178 #[.agg #[.int .i64 d.lot,.int .i64 d.fU.base.x0,.int .i64 d.fU.base.y0,.int .i64 d.fU.base.x1,.int .i64 d.fU.base.y1,.int .i64 d.fU.z0,.int .i64 d.fU.z1,.int .i64 d.fU.use,.int .i64 d.fU.units,.bool d.fU.extra],.pointer (some ⟨bS,0,none⟩),.pointer (some ⟨bV,0,none⟩),.pointer (some ⟨bR,0,none⟩)] w _;obtain⟨res,hres⟩:∃x,pQ lot v uses other n d=x:=⟨_,rfl⟩;obtain⟨q,hq⟩:∃q,kt d.fU.base=q:=⟨_,rfl⟩;obtain⟨gp,hgp⟩:∃q,uz v.base d.fU.base=q:=⟨_,rfl⟩;have HQ:=aa hq;have Zu:=aa hgp;have aD:=aa (show res=if(d.lot==lot||(!q||(decide (d.fU.use<0)||decide (6<=d.fU.use))))=true then false else((v.use==uses&&d.fU.use==other)||(v.use==other&&d.fU.use==uses))&&decide (gp<n)by rw[<-hres];unfold pQ;rw[hq,hgp]);rw[hres];have QV:=aa hlV;clear hres hq hgp hlV;cases e0:(d.lot==lot)with
 |false=>
  cases q with
  |false=>
   have HF:=aa (show res=false by rw[aD.zo];simp[e0]);go_enter func178,ntmps178;go_wp2_with ((with_reducible refine ag (bK d.fU.base _) ?_);rw[HQ.zo];rintro e w' ⟨rfl,x7,rfl⟩)
   go_ret;rw[HF.zo];exact⟨rfl,ae⟩
  |true=>
   cases t2:decide (d.fU.use<0)with
   |false=>
    cases t3:decide (6<=d.fU.use)with
    |false=>
     cases p1:(v.use==uses)with
     |false=>
      cases p3:(v.use==other)with
      |false=>
       have HF:=aa (show res=false by rw[aD.zo];simp[e0,t2,t3,p1,p3]);go_enter func178,ntmps178;go_wp2_with ((with_reducible refine ag (bK d.fU.base _) ?_);rw[HQ.zo];rintro e w' ⟨rfl,x7,rfl⟩)
       refine bI ?_;intro W0 hW0;have HW0:=aa (show af w W0 by rw[hW0];exact ae);have hl1:∀w',af W0 w'->_:=fun w' he=>QV.zo w' (HW0.zo.trans he)
       have hl2:∀w',af W0 w'->(jf 74 ⟨w.heap.size+1,0,none⟩).run prog w'=.ok (.agg #[.int .i64 d.fU.base.x0,.int .i64 d.fU.base.y0,.int .i64 d.fU.base.x1,.int .i64 d.fU.base.y1]) w':=fun w' he=>pg (cs:= [.int .i64 d.fU.base.x0,.int .i64 d.fU.base.y0,.int .i64 d.fU.base.x1,.int .i64 d.fU.base.y1]) rfl (fun j u hu=>af.cell he (by
        rw[hW0]
        match j,hu with
        |0,hu=>(cases hu;simp[go_sem])
        |1,hu=>(cases hu;simp[go_sem])
        |2,hu=>(cases hu;simp[go_sem])
        |3,hu=>(cases hu;simp[go_sem])))
       have k0:W0.cell? ⟨w.heap.size+1,0,none⟩=some (.int .i64 d.fU.base.x0):=by rw[hW0];simp[go_sem]
       have k1:=af.cell HW0.zo cU;have k2:=af.cell HW0.zo c19;have l0:=bP k0;have l1:=bP k1;have l2:=bP k2;clear hW0 cS cU c17 c18 c19 lS lV lR;first|refine eK ?_|refine eJ ?_
       repeat (go_big_quiet_step (((go_at_call 180;exact Calls.dJ (A8 Zu.zo _)))))
       refine eM fun xq=> ?_
       go_wp2;go_ret;rw[HF.zo];exact⟨rfl,HW0.zo.trans ae⟩
      |true=>
       cases p4:(d.fU.use==uses)with
       |false=>
        have HF:=aa (show res=false by rw[aD.zo];simp[e0,t2,t3,p1,p3,p4]);go_enter func178,ntmps178;go_wp2_with ((with_reducible refine ag (bK d.fU.base _) ?_);rw[HQ.zo];rintro e w' ⟨rfl,x7,rfl⟩)
        refine bI ?_;intro W0 hW0;have HW0:=aa (show af w W0 by rw[hW0];exact ae);have hl1:∀w',af W0 w'->_:=fun w' he=>QV.zo w' (HW0.zo.trans he)
        have hl2:∀w',af W0 w'->(jf 74 ⟨w.heap.size+1,0,none⟩).run prog w'=.ok (.agg #[.int .i64 d.fU.base.x0,.int .i64 d.fU.base.y0,.int .i64 d.fU.base.x1,.int .i64 d.fU.base.y1]) w':=fun w' he=>pg (cs:= [.int .i64 d.fU.base.x0,.int .i64 d.fU.base.y0,.int .i64 d.fU.base.x1,.int .i64 d.fU.base.y1]) rfl (fun j u hu=>af.cell he (by
         rw[hW0]
         match j,hu with
         |0,hu=>(cases hu;simp[go_sem])
         |1,hu=>(cases hu;simp[go_sem])
         |2,hu=>(cases hu;simp[go_sem])
         |3,hu=>(cases hu;simp[go_sem])))
        have k0:W0.cell? ⟨w.heap.size+1,0,none⟩=some (.int .i64 d.fU.base.x0):=by rw[hW0];simp[go_sem]
        have k1:=af.cell HW0.zo cU;have k2:=af.cell HW0.zo c19;have l0:=bP k0;have l1:=bP k1;have l2:=bP k2;clear hW0 cS cU c17 c18 c19 lS lV lR;first|refine eK ?_|refine eJ ?_
        repeat (go_big_quiet_step (((go_at_call 180;exact Calls.dJ (A8 Zu.zo _)))))
        refine eM fun xq=> ?_
        go_wp2;go_ret;rw[HF.zo];exact⟨rfl,HW0.zo.trans ae⟩
       |true=>
        have HF:=aa (show res=decide (gp<n)by rw[aD.zo];simp[e0,t2,t3,p1,p3,p4]);go_enter func178,ntmps178;go_wp2_with ((with_reducible refine ag (bK d.fU.base _) ?_);rw[HQ.zo];rintro e w' ⟨rfl,x7,rfl⟩)
        refine bI ?_;intro W0 hW0;have HW0:=aa (show af w W0 by rw[hW0];exact ae);have hl1:∀w',af W0 w'->_:=fun w' he=>QV.zo w' (HW0.zo.trans he)
        have hl2:∀w',af W0 w'->(jf 74 ⟨w.heap.size+1,0,none⟩).run prog w'=.ok (.agg #[.int .i64 d.fU.base.x0,.int .i64 d.fU.base.y0,.int .i64 d.fU.base.x1,.int .i64 d.fU.base.y1]) w':=fun w' he=>pg (cs:= [.int .i64 d.fU.base.x0,.int .i64 d.fU.base.y0,.int .i64 d.fU.base.x1,.int .i64 d.fU.base.y1]) rfl (fun j u hu=>af.cell he (by
         rw[hW0]
         match j,hu with
         |0,hu=>(cases hu;simp[go_sem])
         |1,hu=>(cases hu;simp[go_sem])
         |2,hu=>(cases hu;simp[go_sem])
         |3,hu=>(cases hu;simp[go_sem])))
        have k0:W0.cell? ⟨w.heap.size+1,0,none⟩=some (.int .i64 d.fU.base.x0):=by rw[hW0];simp[go_sem]
        have k1:=af.cell HW0.zo cU;have k2:=af.cell HW0.zo c19;have l0:=bP k0;have l1:=bP k1;have l2:=bP k2;clear hW0 cS cU c17 c18 c19 lS lV lR;first|refine eK ?_|refine eJ ?_
        repeat (go_big_quiet_step (((go_at_call 180;exact Calls.dJ (A8 Zu.zo _)))))
        refine eM fun xq=> ?_
        go_wp2;go_ret;rw[HF.zo];exact⟨rfl,HW0.zo.trans ae⟩
     |true=>
      cases p2:(d.fU.use==other)with
      |false=>
       cases p3:(v.use==other)with
       |false=>
        have HF:=aa (show res=false by rw[aD.zo];simp[e0,t2,t3,p1,p2,p3]);go_enter func178,ntmps178;go_wp2_with ((with_reducible refine ag (bK d.fU.base _) ?_);rw[HQ.zo];rintro e w' ⟨rfl,x7,rfl⟩)
        refine bI ?_;intro W0 hW0;have HW0:=aa (show af w W0 by rw[hW0];exact ae);have hl1:∀w',af W0 w'->_:=fun w' he=>QV.zo w' (HW0.zo.trans he)
        have hl2:∀w',af W0 w'->(jf 74 ⟨w.heap.size+1,0,none⟩).run prog w'=.ok (.agg #[.int .i64 d.fU.base.x0,.int .i64 d.fU.base.y0,.int .i64 d.fU.base.x1,.int .i64 d.fU.base.y1]) w':=fun w' he=>pg (cs:= [.int .i64 d.fU.base.x0,.int .i64 d.fU.base.y0,.int .i64 d.fU.base.x1,.int .i64 d.fU.base.y1]) rfl (fun j u hu=>af.cell he (by
         rw[hW0]
         match j,hu with
         |0,hu=>(cases hu;simp[go_sem])
         |1,hu=>(cases hu;simp[go_sem])
         |2,hu=>(cases hu;simp[go_sem])
         |3,hu=>(cases hu;simp[go_sem])))
        have k0:W0.cell? ⟨w.heap.size+1,0,none⟩=some (.int .i64 d.fU.base.x0):=by rw[hW0];simp[go_sem]
        have k1:=af.cell HW0.zo cU;have k2:=af.cell HW0.zo c19;have l0:=bP k0;have l1:=bP k1;have l2:=bP k2;clear hW0 cS cU c17 c18 c19 lS lV lR;first|refine eK ?_|refine eJ ?_
        repeat (go_big_quiet_step (((go_at_call 180;exact Calls.dJ (A8 Zu.zo _)))))
        refine eM fun xq=> ?_
        go_wp2;go_ret;rw[HF.zo];exact⟨rfl,HW0.zo.trans ae⟩
       |true=>
        cases p4:(d.fU.use==uses)with
        |false=>
         have HF:=aa (show res=false by rw[aD.zo];simp[e0,t2,t3,p1,p2,p3,p4]);go_enter func178,ntmps178;go_wp2_with ((with_reducible refine ag (bK d.fU.base _) ?_);rw[HQ.zo];rintro e w' ⟨rfl,x7,rfl⟩)
         refine bI ?_;intro W0 hW0;have HW0:=aa (show af w W0 by rw[hW0];exact ae);have hl1:∀w',af W0 w'->_:=fun w' he=>QV.zo w' (HW0.zo.trans he)
         have hl2:∀w',af W0 w'->(jf 74 ⟨w.heap.size+1,0,none⟩).run prog w'=.ok (.agg #[.int .i64 d.fU.base.x0,.int .i64 d.fU.base.y0,.int .i64 d.fU.base.x1,.int .i64 d.fU.base.y1]) w':=fun w' he=>pg (cs:= [.int .i64 d.fU.base.x0,.int .i64 d.fU.base.y0,.int .i64 d.fU.base.x1,.int .i64 d.fU.base.y1]) rfl (fun j u hu=>af.cell he (by
          rw[hW0]
          match j,hu with
          |0,hu=>(cases hu;simp[go_sem])
          |1,hu=>(cases hu;simp[go_sem])
          |2,hu=>(cases hu;simp[go_sem])
          |3,hu=>(cases hu;simp[go_sem])))
         have k0:W0.cell? ⟨w.heap.size+1,0,none⟩=some (.int .i64 d.fU.base.x0):=by rw[hW0];simp[go_sem]
         have k1:=af.cell HW0.zo cU;have k2:=af.cell HW0.zo c19;have l0:=bP k0;have l1:=bP k1;have l2:=bP k2;clear hW0 cS cU c17 c18 c19 lS lV lR;first|refine eK ?_|refine eJ ?_
         repeat (go_big_quiet_step (((go_at_call 180;exact Calls.dJ (A8 Zu.zo _)))))
         refine eM fun xq=> ?_
         go_wp2;go_ret;rw[HF.zo];exact⟨rfl,HW0.zo.trans ae⟩
        |true=>
         have HF:=aa (show res=decide (gp<n)by rw[aD.zo];simp[e0,t2,t3,p1,p2,p3,p4]);go_enter func178,ntmps178;go_wp2_with ((with_reducible refine ag (bK d.fU.base _) ?_);rw[HQ.zo];rintro e w' ⟨rfl,x7,rfl⟩)
         refine bI ?_;intro W0 hW0;have HW0:=aa (show af w W0 by rw[hW0];exact ae);have hl1:∀w',af W0 w'->_:=fun w' he=>QV.zo w' (HW0.zo.trans he)
         have hl2:∀w',af W0 w'->(jf 74 ⟨w.heap.size+1,0,none⟩).run prog w'=.ok (.agg #[.int .i64 d.fU.base.x0,.int .i64 d.fU.base.y0,.int .i64 d.fU.base.x1,.int .i64 d.fU.base.y1]) w':=fun w' he=>pg (cs:= [.int .i64 d.fU.base.x0,.int .i64 d.fU.base.y0,.int .i64 d.fU.base.x1,.int .i64 d.fU.base.y1]) rfl (fun j u hu=>af.cell he (by
          rw[hW0]
          match j,hu with
          |0,hu=>(cases hu;simp[go_sem])
          |1,hu=>(cases hu;simp[go_sem])
          |2,hu=>(cases hu;simp[go_sem])
          |3,hu=>(cases hu;simp[go_sem])))
         have k0:W0.cell? ⟨w.heap.size+1,0,none⟩=some (.int .i64 d.fU.base.x0):=by rw[hW0];simp[go_sem]
         have k1:=af.cell HW0.zo cU;have k2:=af.cell HW0.zo c19;have l0:=bP k0;have l1:=bP k1;have l2:=bP k2;clear hW0 cS cU c17 c18 c19 lS lV lR;first|refine eK ?_|refine eJ ?_
         repeat (go_big_quiet_step (((go_at_call 180;exact Calls.dJ (A8 Zu.zo _)))))
         refine eM fun xq=> ?_
         go_wp2;go_ret;rw[HF.zo];exact⟨rfl,HW0.zo.trans ae⟩
      |true=>
       have HF:=aa (show res=decide (gp<n)by rw[aD.zo];simp[e0,t2,t3,p1,p2]);go_enter func178,ntmps178;go_wp2_with ((with_reducible refine ag (bK d.fU.base _) ?_);rw[HQ.zo];rintro e w' ⟨rfl,x7,rfl⟩)
       refine bI ?_;intro W0 hW0;have HW0:=aa (show af w W0 by rw[hW0];exact ae);have hl1:∀w',af W0 w'->_:=fun w' he=>QV.zo w' (HW0.zo.trans he)
       have hl2:∀w',af W0 w'->(jf 74 ⟨w.heap.size+1,0,none⟩).run prog w'=.ok (.agg #[.int .i64 d.fU.base.x0,.int .i64 d.fU.base.y0,.int .i64 d.fU.base.x1,.int .i64 d.fU.base.y1]) w':=fun w' he=>pg (cs:= [.int .i64 d.fU.base.x0,.int .i64 d.fU.base.y0,.int .i64 d.fU.base.x1,.int .i64 d.fU.base.y1]) rfl (fun j u hu=>af.cell he (by
        rw[hW0]
        match j,hu with
        |0,hu=>(cases hu;simp[go_sem])
        |1,hu=>(cases hu;simp[go_sem])
        |2,hu=>(cases hu;simp[go_sem])
        |3,hu=>(cases hu;simp[go_sem])))
       have k0:W0.cell? ⟨w.heap.size+1,0,none⟩=some (.int .i64 d.fU.base.x0):=by rw[hW0];simp[go_sem]
       have k1:=af.cell HW0.zo cU;have k2:=af.cell HW0.zo c19;have l0:=bP k0;have l1:=bP k1;have l2:=bP k2;clear hW0 cS cU c17 c18 c19 lS lV lR;first|refine eK ?_|refine eJ ?_
       repeat (go_big_quiet_step (((go_at_call 180;exact Calls.dJ (A8 Zu.zo _)))))
       refine eM fun xq=> ?_
       go_wp2;go_ret;rw[HF.zo];exact⟨rfl,HW0.zo.trans ae⟩
    |true=>
     have HF:=aa (show res=false by rw[aD.zo];simp[e0,t2,t3]);go_enter func178,ntmps178;go_wp2_with ((with_reducible refine ag (bK d.fU.base _) ?_);rw[HQ.zo];rintro e w' ⟨rfl,x7,rfl⟩)
     go_ret;rw[HF.zo];exact⟨rfl,ae⟩
   |true=>
    have HF:=aa (show res=false by rw[aD.zo];simp[e0,t2]);go_enter func178,ntmps178;go_wp2_with ((with_reducible refine ag (bK d.fU.base _) ?_);rw[HQ.zo];rintro e w' ⟨rfl,x7,rfl⟩)
    go_ret;rw[HF.zo];exact⟨rfl,ae⟩
 |true=>
  have HF:=aa (show res=false by rw[aD.zo];simp[e0]);go_enter func178,ntmps178;go_wp2_with ((with_reducible refine ag (bK d.fU.base _) ?_);rw[HQ.zo];rintro e w' ⟨rfl,x7,rfl⟩)
  go_ret;rw[HF.zo];exact⟨rfl,ae⟩
theorem Nz:Enters 178:=fun a w=>by rfl
def QW(b:Rc)(x y:Int):Array Value:=#[.int .i64 (x - b.x0),.int .i64 (b.x1 - 1 - x),.int .i64 (y - b.y0),.int .i64 (b.y1 - 1 - y)]
theorem EN(b:Rc)(x y:Int)(hb:kt b=true)(hx:0<=x/\x<=1048576)(hy:0<=y/\y<=1048576)(w:World):Calls prog 314 #[.agg #[.int .i64 b.x0,.int .i64 b.y0,.int .i64 b.x1,.int .i64 b.y1],.int .i64 x,.int .i64 y] w (cX (.agg (QW b x y)) w):=by
 obtain⟨a1,a2,a3,a4,a5,a6⟩:=qK hb;obtain⟨b1,b2⟩:=hx;obtain⟨b3,b4⟩:=hy;clear hb;unfold QW;go_enter func314,ntmps314;go_wp2;refine bodyPost_ret (by simp[results,go_sem];rfl) rfl ?_;exact⟨rfl,ae⟩
def acJ(b:Rc)(x y side:Int):Int:=if side=0 then x - b.x0 else if side=1 then b.x1 - 1 - x else if side=2 then y - b.y0 else b.y1 - 1 - y
def QX(b:Rc)(p:Dv)(x y:Int):Int:=ou 4096 (wrap64 (p.base+Qg (wrap64 (p.num*acJ b x y p.side)) p.den))
theorem VM{p:Dv}(h:Az p=true):(0<=p.side/\p.side<=3)/\(0<=p.base/\p.base<=4096)/\(0<=p.num/\p.num<=4096)/\1<=p.den/\p.den<=4096:=by
 simpa[Az,JU]using h
theorem Zv(b:Rc)(p:Dv)(x y:Int)(ao:Option Addr)(c:Nat)(hb:kt b=true)(hp:Az p=true)(hx:0<=x/\x<=1048576)(hy:0<=y/\y<=1048576)(w:World)(h:Sl um w ao 1 c [p]):Calls prog 262 #[.agg #[.int .i64 b.x0,.int .i64 b.y0,.int .i64 b.x1,.int .i64 b.y1],.slice ao 1 c,.int .i64 x,.int .i64 y] w (cX (.int .i64 (QX b p x y)) w):=by
 obtain⟨⟨s0,s1⟩,_,_,d1,d2⟩:=VM hp;obtain⟨bb,off,cs,rfl,lb,hR,hld⟩:=h.ld (i:=0) rfl;obtain⟨rfl,_⟩:=hR;simp only[Nat.zero_mul,Nat.add_zero]at hld;obtain⟨side,base,num,den⟩:=p;simp only at s0 s1 d1 d2 hld;have hd:den≠0:=by omega
 have HD:=aa hd;have acK:=aa (fun w=>EN b x y hb hx hy w);clear hb hp hx hy h hd d1 d2;have hs:side=0∨side=1∨side=2∨side=3:=by omega
 clear s0 s1;unfold QW at acK;rcases hs with rfl|rfl|rfl|rfl;all_goals(
  go_enter func262,ntmps262;go_wp2_with (first|((with_reducible refine ag (acK.zo _) ?_);rintro e w' ⟨rfl,x9,rfl⟩)|((with_reducible refine ag (yC _ _ HD.zo _) ?_);rintro e w' ⟨rfl,x8,rfl⟩)|(refine wp_loop_rounds 6 ?_;rw[rounds_succ])|(rw[rounds_succ]))
  first|refine eK ?_|refine eJ ?_
  repeat (go_big_quiet_step (((go_at_call 315;exact Calls.dJ (yC _ _ HD.zo _)))))
  refine eM fun xq=> ?_
  go_wp2_with (first|(refine wp_loop_rounds 6 ?_;rw[rounds_succ])|(rw[rounds_succ]))
  go_ret;exact⟨by rfl,ae⟩)
def CT(b:Rc)(p:Dv)(r:Rc):Int:=ou (ou (ou (ou 4096 (QX b p r.x0 r.y0)) (QX b p r.x0 (r.y1 - 1))) (QX b p (r.x1 - 1) r.y0)) (QX b p (r.x1 - 1) (r.y1 - 1))
theorem NA(b:Rc)(p:Dv)(r:Rc)(ao bo:Option Addr)(c cc:Nat)(hb:kt b=true)(hp:Az p=true)(hr:kt r=true)(w:World)(h:Sl um w ao 1 c [p])(h2:Sl je w bo 1 cc [r]):Calls prog 176 #[.agg #[.int .i64 b.x0,.int .i64 b.y0,.int .i64 b.x1,.int .i64 b.y1],.slice ao 1 c,.slice bo 1 cc] w (cX (.int .i64 (CT b p r)) w):=by
 obtain⟨bb,off,cs,rfl,lb,hR,hld⟩:=h2.ld (i:=0) rfl;obtain⟨rfl,_⟩:=hR;simp only[Nat.zero_mul,Nat.add_zero]at hld;obtain⟨a1,a2,a3,a4,a5,a6⟩:=qK hr;have H:=aa h;have T:=aa (fun(x y:Int)(w:World)(hx:0<=x/\x<=1048576)(hy:0<=y/\y<=1048576)(h:Sl um w ao 1 c [p])=>Zv b p x y ao c hb hp hx hy w h);clear h h2 hb hp hr;go_enter func176,ntmps176;go_wp2_with (first|((with_reducible refine ag (T.zo _ _ _ ?_ ?_ ?_) ?_);exact⟨by omega,by omega⟩;exact⟨by omega,by omega⟩;exact H.zo.exts ae;rintro e w' ⟨rfl,x9,rfl⟩)|(refine wp_loop_rounds 6 ?_;rw[rounds_succ])|(rw[rounds_succ]))
 go_ret;exact⟨by rfl,ae⟩
def yJ(a b:gR):Bool:=(JT a.base b.base).2&&(decide (a.z0<b.z1)&&decide (b.z0<a.z1))
theorem VP(a b:gR)(w:World):Calls prog 234 #[.agg #[.int .i64 a.base.x0,.int .i64 a.base.y0,.int .i64 a.base.x1,.int .i64 a.base.y1,.int .i64 a.z0,.int .i64 a.z1],.agg #[.int .i64 b.base.x0,.int .i64 b.base.y0,.int .i64 b.base.x1,.int .i64 b.base.y1,.int .i64 b.z0,.int .i64 b.z1]] w (cX (.bool (yJ a b)) w):=by
 unfold yJ;obtain⟨r,i,QP⟩:∃r i,JT a.base b.base=(r,i):=⟨_,_,rfl⟩;rw[QP];have HI:=aa QP;clear QP;cases i<;>cases q1:decide (a.z0<b.z1)<;>cases q2:decide (b.z0<a.z1)<;>(
  go_enter func234,ntmps234;go_wp2_with ((with_reducible refine ag (lU a.base b.base _) ?_);rintro e w' ⟨rfl,x9,rfl⟩;rw[HI.zo])
  go_ret;exact⟨rfl,ae⟩)
theorem yK(a b:gR)(bp:Nat)(cs:zv)(w:World)(h:(iD).R w cs b)(hc:∀j u,[Value.int .i64 a.base.x0,.int .i64 a.base.y0,.int .i64 a.base.x1,.int .i64 a.base.y1,.int .i64 a.z0,.int .i64 a.z1][j]?=some u->w.cell? ⟨bp,j,none⟩=some u):Calls prog 233 (#[.agg cs.toArray]++ #[.pointer (some ⟨bp,0,none⟩)]) w (cX (.bool (yJ a b)) w):=by
 obtain⟨rfl,_⟩:=h;have hld:∀w',af w w'->(jf 96 ⟨bp,0,none⟩).run prog w'=.ok (.agg #[.int .i64 a.base.x0,.int .i64 a.base.y0,.int .i64 a.base.x1,.int .i64 a.base.y1,.int .i64 a.z0,.int .i64 a.z1]) w':=fun w' he=>run_loadVar_mid w' bp 0 96 [.int .i64 a.base.x0,.int .i64 a.base.y0,.int .i64 a.base.x1,.int .i64 a.base.y1,.int .i64 a.z0,.int .i64 a.z1] _ (fun j u hu=>by rw[Nat.zero_add];exact af.cell he (hc j u hu)) underlying96 rfl (iq.s (t:=96))
 have lb:=bP (hc 0 _ rfl);clear hc;show Calls prog 233 #[.agg #[.int .i64 b.base.x0,.int .i64 b.base.y0,.int .i64 b.base.x1,.int .i64 b.base.y1,.int .i64 b.z0,.int .i64 b.z1,.int .i64 b.use,.int .i64 b.units,.bool b.extra],.pointer (some ⟨bp,0,none⟩)] w _;go_enter func233,ntmps233;go_wp2_with ((with_reducible refine ag (VP a b _) ?_);rintro e w' ⟨rfl,x9,rfl⟩)
 go_ret;exact⟨rfl,ae⟩
end Go.Proofs.YtomgpelfmgkknaaGreatDoor
