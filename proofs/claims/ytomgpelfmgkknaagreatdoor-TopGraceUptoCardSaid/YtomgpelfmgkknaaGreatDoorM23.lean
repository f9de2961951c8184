/- Lemmas for the law. No conditions. -/
import Derived.Test.YtomgpelfmgkknaaGreatDoorM16
import Derived.Test.YtomgpelfmgkknaaGreatDoorM21
import Derived.Test.YtomgpelfmgkknaaGreatDoorM17
namespace Go.Proofs.YtomgpelfmgkknaaGreatDoor
open Go.RowKit Go.Maps
open Go.Proofs.Tryz
set_option maxRecDepth 100000
set_option maxHeartbeats 40000000
set_option linter.unusedVariables false
set_option linter.unusedSimpArgs false
def uH(lo hi x y:Int):Bool:=inB lo hi x&&inB lo hi y
def rowOk(x:Entry):Bool:=inB (-1099511627776) 1099511627776 x.n
def kr(m:Int)(l:List ByteArray):Bool:=decide ((l.length:Int)<=m)&&mH true l
def sO(t:xz):Bool:=kr 60 (t.rows.map (·.name))&&(inB (-1099511627776) 1099511627776 t.els&&t.rows.all rowOk)
def sP(c:Cap):Bool:=inB 0 2 c.load&&(inB 0 1099511627776 c.limit&&jt c.corners)
def BM(x:P3):Bool:=uH 0 1048576 x.x x.y&&inB 0 4096 x.z
def oO(v:View):Bool:=inB 0 20 v.least&&(inB 1 20 v.targets.length&&(v.eye::v.targets).all BM)
def wP(x:P3):Bool:=uH (-4096) 4096 x.x x.y&&inB 1 4096 x.z
def mW(p:Plan):Bool:=kr 60 (p.defs.map (·.name))&&(kr 60 (p.tables.map (·.name))&&(kr 60 (p.zones.map (·.name))&&(kr 200 (p.rules.map (·.name))&&(kr 30 (p.caps.map (·.name))&&kr 60 (p.views.map (·.name))))))
def Mk(d:Def):Bool:=ea 12 d.body
def Fv(z:Zone):Bool:=jt z.corners
def dP(p:Plan):Bool:=mW p&&(p.defs.all Mk&&(p.tables.all sO&&(p.zones.all Fv&&(p.rules.all jq&&(p.caps.all sP&&(p.views.all oO&&(p.eA.all wP&&uH 0 24 p.hours p.eA.length)))))))
theorem fJ{w:World}(lo hi:Int){b:Nat}{x:Int}(hx:I64 x)(c0:w.cell? ⟨b,0,none⟩=some (.int .i64 x)):Calls prog 57 #[.int .i64 lo,.int .i64 hi,.slice (some ⟨b,0,none⟩) 1 1] w (cX (.bool (inB lo hi x)) w):=by
 refine(eG lo hi _ 1 1 [x] w (sN hx c0)).mono ?_;rintro e w' ⟨rfl,hx⟩;exact⟨by simp,hx⟩
theorem kV{w:World}(lo hi:Int){b:Nat}{x y:Int}(hx:I64 x)(hy:I64 y)(c0:w.cell? ⟨b,0,none⟩=some (.int .i64 x))(c1:w.cell? ⟨b,1,none⟩=some (.int .i64 y)):Calls prog 57 #[.int .i64 lo,.int .i64 hi,.slice (some ⟨b,0,none⟩) 2 2] w (cX (.bool (uH lo hi x y)) w):=by
 refine(eG lo hi _ 2 2 [x,y] w (Ad hx hy c0 c1)).mono ?_;rintro e w' ⟨rfl,hx⟩;exact⟨by simp[uH],hx⟩
theorem Ae{c:Cap}(h:inB 0 2 c.load=false):sP c=false:=by unfold sP;rw[h];rfl
theorem Af{c:Cap}(h:inB 0 1099511627776 c.limit=false):sP c=false:=by unfold sP;rw[h];simp
theorem Ag{c:Cap}(h:jt c.corners=false):sP c=false:=by unfold sP;rw[h];simp
theorem Wd{x:P3}(h:uH (-4096) 4096 x.x x.y=false):wP x=false:=by unfold wP;rw[h];rfl
theorem We{x:P3}(h:inB 1 4096 x.z=false):wP x=false:=by unfold wP;rw[h];simp
theorem ZT{x:P3}(h:uH 0 1048576 x.x x.y=false):BM x=false:=by unfold BM;rw[h];rfl
theorem ZU{x:P3}(h:inB 0 4096 x.z=false):BM x=false:=by unfold BM;rw[h];simp
theorem Wh{t:xz}(h:kr 60 (t.rows.map (·.name))=false):sO t=false:=by unfold sO;rw[h];rfl
theorem Wj{t:xz}(h:inB (-1099511627776) 1099511627776 t.els=false):sO t=false:=by unfold sO;rw[h];simp
theorem Wl{t:xz}(h:t.rows.all rowOk=false):sO t=false:=by unfold sO;rw[h];simp
theorem Sc{v:View}(h:inB 0 20 v.least=false):oO v=false:=by unfold oO;rw[h];rfl
theorem Sd{v:View}(h:inB 1 20 v.targets.length=false):oO v=false:=by unfold oO;rw[h];simp
theorem IG{v:View}(h:(v.eye::v.targets).all BM=false):oO v=false:=by unfold oO;rw[h];simp
theorem eH{T:Type}{p:T->Bool}{l:List T}{i:Nat}{d:T}(hd:l[i]?=some d)(h:p d=false):l.all p=false:=List.all_eq_false.2 ⟨d,gH hd,by rw[h];simp⟩
theorem nO{T:Type}{p:T->Bool}{l:List T}(h:∀i d,i<l.length->l[i]?=some d->p d=true):l.all p=true:=List.all_eq_true.2 fun d hd=>by
 obtain⟨i,hi⟩:=List.getElem?_of_mem hd;exact h i d (bw hi).1 hi
theorem mm{T:Type}{p:T->Bool}{l:List T}{k:Nat}{d:T}(h:∀i x,i<k->l[i]?=some x->p x=true)(hd:l[k]?=some d)(hp:p d=true):∀i x,i<k+1->l[i]?=some x->p x=true:=fun i x hi hx=>by
 rcases Nat.lt_or_ge i k with h1|h1
 ·exact h i x h1 hx
 ·obtain rfl:i=k:=by omega
  rw[hd]at hx;cases hx;exact hp
theorem Ec{r:Bool}(h:(!r)=true):r=false:=by simpa using h
theorem xX{r:Bool}(h:(!r)=false):r=true:=by simpa using h
theorem Ed{r:Bool}(h: ¬r=true):r=false:=by simpa using h
theorem eu{res:Bool}{w w':World}(h:res=false)(hx:af w w'):Ending.returned (Value.bool false)=.returned (.bool res)/\af w w':=⟨by rw[h],hx⟩
structure II(p:Plan):Prop where
 defs:p.defs.length<=1000
 tables:p.tables.length<=1000
 zones:p.zones.length<=1000
 rules:p.rules.length<=1000
 caps:p.caps.length<=1000
 views:p.views.length<=1000
 eA:p.eA.length<=1000
 rows:∀(i:Nat)(t:xz),p.tables[i]?=some t->t.rows.length<=1000
theorem afj(d:Def)(cs:zv)(w:World)(h:(mC).R w cs d):gS d.name/\Calls prog 43 (#[.agg cs.toArray]++ #[]) w (cX (.string d.name) w):=by
 obtain⟨eO,eP,rfl,q0,q1⟩:=h;refine⟨q0,?_⟩;clear q0 q1;show Calls prog 43 #[.agg #[.string d.name,.int .i64 d.body.op,.int .i64 d.body.num,.string d.body.str,.string d.body.key,.slice eO d.body.args.length eP]] w _;go_enter func43,ntmps43;go_wp2;go_ret;exact⟨rfl,ae⟩
theorem Sg:Enters 43:=fun a w=>by rfl
theorem kW{r:Bool}(ao:Option Addr)(n c:Nat)(l:List Def)(w:World)(hg:Gl w)(hn:n<=1000)(h:Sl mC w ao n c l)(hr:kr 60 (l.map (·.name))=r):Calls prog 42 #[.slice ao n c,.int .i64 60,.func (.func 43) #[] #[]] w (cX (.bool r) w):=by
 have hl:=h.1;refine(RU 43 #[] (·.name) 60 ao n c l w Sg hg hn h fun w' i d cs _ _ hR=>afj d cs w' hR).mono ?_;rintro e w' ⟨rfl,hx⟩;refine⟨?_,hx⟩;rw[<-hr];unfold kr;rw[List.length_map,hl]
theorem afk(d:xz)(cs:zv)(w:World)(h:(nB).R w cs d):gS d.name/\Calls prog 45 (#[.agg cs.toArray]++ #[]) w (cX (.string d.name) w):=by
 obtain⟨iF,iG,rfl,q0,q1,q2⟩:=h;refine⟨q0,?_⟩;clear q0 q1 q2;show Calls prog 45 #[.agg #[.string d.name,.slice iF d.rows.length iG,.int .i64 d.els]] w _;go_enter func45,ntmps45;go_wp2;go_ret;exact⟨rfl,ae⟩
theorem Sh:Enters 45:=fun a w=>by rfl
theorem kX{r:Bool}(ao:Option Addr)(n c:Nat)(l:List xz)(w:World)(hg:Gl w)(hn:n<=1000)(h:Sl nB w ao n c l)(hr:kr 60 (l.map (·.name))=r):Calls prog 44 #[.slice ao n c,.int .i64 60,.func (.func 45) #[] #[]] w (cX (.bool r) w):=by
 have hl:=h.1;refine(RV 45 #[] (·.name) 60 ao n c l w Sh hg hn h fun w' i d cs _ _ hR=>afk d cs w' hR).mono ?_;rintro e w' ⟨rfl,hx⟩;refine⟨?_,hx⟩;rw[<-hr];unfold kr;rw[List.length_map,hl]
theorem afl(d:Zone)(cs:zv)(w:World)(h:(jV).R w cs d):gS d.name/\Calls prog 47 (#[.agg cs.toArray]++ #[]) w (cX (.string d.name) w):=by
 obtain⟨aV,aW,rfl,q0,q1⟩:=h;refine⟨q0,?_⟩;clear q0 q1;show Calls prog 47 #[.agg #[.string d.name,.bool d.over,.slice aV d.corners.length aW]] w _;go_enter func47,ntmps47;go_wp2;go_ret;exact⟨rfl,ae⟩
theorem Si:Enters 47:=fun a w=>by rfl
theorem kY{r:Bool}(ao:Option Addr)(n c:Nat)(l:List Zone)(w:World)(hg:Gl w)(hn:n<=1000)(h:Sl jV w ao n c l)(hr:kr 60 (l.map (·.name))=r):Calls prog 46 #[.slice ao n c,.int .i64 60,.func (.func 47) #[] #[]] w (cX (.bool r) w):=by
 have hl:=h.1;refine(RX 47 #[] (·.name) 60 ao n c l w Si hg hn h fun w' i d cs _ _ hR=>afl d cs w' hR).mono ?_;rintro e w' ⟨rfl,hx⟩;refine⟨?_,hx⟩;rw[<-hr];unfold kr;rw[List.length_map,hl]
theorem afm(d:Rule)(cs:zv)(w:World)(h:(aw).R w cs d):gS d.name/\Calls prog 49 (#[.agg cs.toArray]++ #[]) w (cX (.string d.name) w):=by
 obtain⟨cu,cy,fW,fX,fq,fu,rfl,q0,q1,q2,q3,q4,q5,q6,q7,q8,q9,q10,q11,q12,q13,pV⟩:=h;refine⟨q0,?_⟩;clear q0 q1 q2 q3 q4 q5 q6 q7 q8 q9 q10 q11 q12 q13 pV;show Calls prog 49 #[.agg #[.string d.name,.slice cu d.zones.length cy,.slice fW d.exc.length fX,.int .i64 d.start,.int .i64 d.stop,.int .i64 d.bM,.bool d.vary,.int .i64 d.kind,.int .i64 d.test.op,.int .i64 d.test.num,.string d.test.str,.string d.test.key,.slice fq d.test.args.length fu,.int .i64 d.ah.side,.int .i64 d.ah.base,.int .i64 d.ah.num,.int .i64 d.ah.den,.int .i64 d.uses,.int .i64 d.other,.int .i64 d.n]] w _;go_enter func49,ntmps49;go_wp2;go_ret;exact⟨rfl,ae⟩
theorem Sj:Enters 49:=fun a w=>by rfl
theorem kZ{r:Bool}(ao:Option Addr)(n c:Nat)(l:List Rule)(w:World)(hg:Gl w)(hn:n<=1000)(h:Sl aw w ao n c l)(hr:kr 200 (l.map (·.name))=r):Calls prog 48 #[.slice ao n c,.int .i64 200,.func (.func 49) #[] #[]] w (cX (.bool r) w):=by
 have hl:=h.1;refine(RY 49 #[] (·.name) 200 ao n c l w Sj hg hn h fun w' i d cs _ _ hR=>afm d cs w' hR).mono ?_;rintro e w' ⟨rfl,hx⟩;refine⟨?_,hx⟩;rw[<-hr];unfold kr;rw[List.length_map,hl]
theorem afn(d:Cap)(cs:zv)(w:World)(h:(iR).R w cs d):gS d.name/\Calls prog 51 (#[.agg cs.toArray]++ #[]) w (cX (.string d.name) w):=by
 obtain⟨aV,aW,rfl,q0,q1,q2,q3⟩:=h;refine⟨q0,?_⟩;clear q0 q1 q2 q3;show Calls prog 51 #[.agg #[.string d.name,.int .i64 d.load,.int .i64 d.limit,.slice aV d.corners.length aW]] w _;go_enter func51,ntmps51;go_wp2;go_ret;exact⟨rfl,ae⟩
theorem Sk:Enters 51:=fun a w=>by rfl
theorem lf{r:Bool}(ao:Option Addr)(n c:Nat)(l:List Cap)(w:World)(hg:Gl w)(hn:n<=1000)(h:Sl iR w ao n c l)(hr:kr 30 (l.map (·.name))=r):Calls prog 50 #[.slice ao n c,.int .i64 30,.func (.func 51) #[] #[]] w (cX (.bool r) w):=by
 have hl:=h.1;refine(RZ 51 #[] (·.name) 30 ao n c l w Sk hg hn h fun w' i d cs _ _ hR=>afn d cs w' hR).mono ?_;rintro e w' ⟨rfl,hx⟩;refine⟨?_,hx⟩;rw[<-hr];unfold kr;rw[List.length_map,hl]
theorem afo(d:View)(cs:zv)(w:World)(h:(kM).R w cs d):gS d.name/\Calls prog 53 (#[.agg cs.toArray]++ #[]) w (cX (.string d.name) w):=by
 obtain⟨fl,fo,rfl,q0,q1,q2,q3,q4,q5⟩:=h;refine⟨q0,?_⟩;clear q0 q1 q2 q3 q4 q5;show Calls prog 53 #[.agg #[.string d.name,.int .i64 d.eye.x,.int .i64 d.eye.y,.int .i64 d.eye.z,.int .i64 d.least,.slice fl d.targets.length fo]] w _;go_enter func53,ntmps53;go_wp2;go_ret;exact⟨rfl,ae⟩
theorem Sm:Enters 53:=fun a w=>by rfl
theorem lh{r:Bool}(ao:Option Addr)(n c:Nat)(l:List View)(w:World)(hg:Gl w)(hn:n<=1000)(h:Sl kM w ao n c l)(hr:kr 60 (l.map (·.name))=r):Calls prog 52 #[.slice ao n c,.int .i64 60,.func (.func 53) #[] #[]] w (cX (.bool r) w):=by
 have hl:=h.1;refine(R7 53 #[] (·.name) 60 ao n c l w Sm hg hn h fun w' i d cs _ _ hR=>afo d cs w' hR).mono ?_;rintro e w' ⟨rfl,hx⟩;refine⟨?_,hx⟩;rw[<-hr];unfold kr;rw[List.length_map,hl]
theorem afp(d:Entry)(cs:zv)(w:World)(h:(eY).R w cs d):gS d.name/\Calls prog 56 (#[.agg cs.toArray]++ #[]) w (cX (.string d.name) w):=by
 obtain⟨rfl,q0,q1⟩:=h;refine⟨q0,?_⟩;clear q0 q1;show Calls prog 56 #[.agg #[.string d.name,.int .i64 d.n]] w _;go_enter func56,ntmps56;go_wp2;go_ret;exact⟨rfl,ae⟩
theorem Sn:Enters 56:=fun a w=>by rfl
theorem vh{r:Bool}(ao:Option Addr)(n c:Nat)(l:List Entry)(w:World)(hg:Gl w)(hn:n<=1000)(h:Sl eY w ao n c l)(hr:kr 60 (l.map (·.name))=r):Calls prog 55 #[.slice ao n c,.int .i64 60,.func (.func 56) #[] #[]] w (cX (.bool r) w):=by
 have hl:=h.1;refine(R9 56 #[] (·.name) 60 ao n c l w Sn hg hn h fun w' i d cs _ _ hR=>afp d cs w' hR).mono ?_;rintro e w' ⟨rfl,hx⟩;refine⟨?_,hx⟩;rw[<-hr];unfold kr;rw[List.length_map,hl]
theorem Wm{P:Prop}(h:P/\True):P:=h.1
theorem ZW{U:World}{H:Nat}{d:P3}(hH:U.heap.size=H)(h:I64 d.x/\I64 d.y/\I64 d.z):aq yw H 134 (U.alloc (.cells #[.int .i64 d.x,.int .i64 d.y,.int .i64 d.z] 134)) (.slice (some ⟨H,0,none⟩) 1 1) [d]:=by
 subst hH;exact⟨[.int .i64 d.x,.int .i64 d.y,.int .i64 d.z],World.ownsRow_lit U #[.int .i64 d.x,.int .i64 d.y,.int .i64 d.z] 1 (Nat.le_refl _) (by unfold maxLen;omega) rfl,fun i e he=>by
  match i,he with
  |0,he=>(cases he;exact⟨rfl,h⟩)⟩
theorem ZX{w:World}{o:Option Addr}{n c:Nat}{l:List P3}(h:Sl yw w o n c l)(hn:0<n):∃(b off:Nat)(xs:zv),o=some ⟨b,off,none⟩/\xs.length=n*3/\(∀u∈xs,u.oneCell'=true)/\∀w',af w w'->(∀i d,l[i]?=some d->(yw).R w' ((xs.drop (i*(yw).k)).take (yw).k) d)/\∀j u,xs[j]?=some u->w'.cell? ((⟨b,off,none⟩:Addr).add j)=some u:=by
 obtain⟨xs,hr,h1,h2⟩:=h.ones;obtain⟨hl,zx,cap2,hv,_,_,_,h5⟩:=hr;simp only[Value.slice.injEq,true_and]at hv;obtain⟨rfl,rfl⟩:=hv;obtain⟨b,off,rfl,_,hb,hc⟩:=h5 hn;refine⟨b,off,xs,rfl,hl,h2,fun w' he=>⟨fun i d hd=>(yw).exts (h1 i d hd) he,fun j u hj=> ?_⟩⟩;rw[Addr.add_lit];exact he.cell (hc j u hj)
theorem qw{p:Plan}(h:mW p=false):dP p=false:=by
 unfold dP;rw[h];simp
theorem wS{p:Plan}(h:p.defs.all Mk=false):dP p=false:=by
 unfold dP;rw[h];simp
theorem BQ{p:Plan}(h:p.tables.all sO=false):dP p=false:=by
 unfold dP;rw[h];simp
theorem wT{p:Plan}(h:p.zones.all Fv=false):dP p=false:=by
 unfold dP;rw[h];simp
theorem wU{p:Plan}(h:p.rules.all jq=false):dP p=false:=by
 unfold dP;rw[h];simp
theorem jK{p:Plan}(h:p.caps.all sP=false):dP p=false:=by
 unfold dP;rw[h];simp
theorem wV{p:Plan}(h:p.views.all oO=false):dP p=false:=by
 unfold dP;rw[h];simp
theorem IZ{p:Plan}(h:p.eA.all wP=false):dP p=false:=by
 unfold dP;rw[h];simp
theorem Wn{p:Plan}(h:kr 60 (p.defs.map (·.name))=false):dP p=false:=by
 refine qw ?_;unfold mW;rw[h];simp
theorem Wo{p:Plan}(h:kr 60 (p.tables.map (·.name))=false):dP p=false:=by
 refine qw ?_;unfold mW;rw[h];simp
theorem Wp{p:Plan}(h:kr 60 (p.zones.map (·.name))=false):dP p=false:=by
 refine qw ?_;unfold mW;rw[h];simp
theorem Wq{p:Plan}(h:kr 200 (p.rules.map (·.name))=false):dP p=false:=by
 refine qw ?_;unfold mW;rw[h];simp
theorem Ws{p:Plan}(h:kr 30 (p.caps.map (·.name))=false):dP p=false:=by
 refine qw ?_;unfold mW;rw[h];simp
theorem Wu{p:Plan}(h:kr 60 (p.views.map (·.name))=false):dP p=false:=by
 refine qw ?_;unfold mW;rw[h];simp
theorem pI(p:Plan)(cs:zv)(w:World)(hg:Gl w)(h:(bq).R w cs p)(hb:II p):Calls prog 20 #[.agg cs.toArray] w (cX (.bool (dP p)) w):=by
 obtain⟨bF,bG,aN,aK,aX,aY,bH,bE,bN,bO,bj,aZ,cj,ck,rfl,q0,q1,q2,q3,q4,q5,q6,q7⟩:=h;have HG:=aa hg;have rS:=aa q0;have BR:=hb.defs;have kS:=aa q1;have rj:=hb.tables;have fj:=aa q2;have vn:=hb.zones;have np:=aa q3;have vp:=hb.rules;have rT:=aa q4;have BS:=hb.caps;have nr:=aa q5;have vq:=hb.views;have ZR:=aa q6;have ahK:=hb.eA;have ads:=aa hb.rows;have IH:=aa q7;have IS:=aa (show I64 (p.eA.length:Int)from⟨by omega,by omega⟩);clear hg hb q0 q1 q2 q3 q4 q5 q6 q7;obtain⟨res,hres⟩:∃r,dP p=r:=⟨_,rfl⟩;rw[hres];have aD:=aa hres;clear hres;obtain⟨h0,e0⟩:∃r,kr 60 (p.defs.map (·.name))=r:=⟨_,rfl⟩;have E0:=aa e0;obtain⟨h1,e1⟩:∃r,kr 60 (p.tables.map (·.name))=r:=⟨_,rfl⟩;have E1:=aa e1;obtain⟨h2,e2⟩:∃r,kr 60 (p.zones.map (·.name))=r:=⟨_,rfl⟩;have E2:=aa e2;obtain⟨h3,e3⟩:∃r,kr 200 (p.rules.map (·.name))=r:=⟨_,rfl⟩;have E3:=aa e3;obtain⟨h4,e4⟩:∃r,kr 30 (p.caps.map (·.name))=r:=⟨_,rfl⟩;have E4:=aa e4;obtain⟨h5,e5⟩:∃r,kr 60 (p.views.map (·.name))=r:=⟨_,rfl⟩;have E5:=aa e5;clear e0 e1 e2 e3 e4 e5;cases h0 with
 |false=>
  have HF:=aa (aD.zo.symm.trans (Wn E0.zo));go_enter func20,ntmps20;go_wp2_with (first|((with_reducible refine ag (kW _ _ _ p.defs _ ?_ BR ?_ E0.zo) ?_);exact HG.zo.exts ae;exact rS.zo.exts ae;rintro e w' ⟨rfl,x0,rfl⟩)|((with_reducible refine ag (kX _ _ _ p.tables _ ?_ rj ?_ E1.zo) ?_);exact HG.zo.exts ae;exact kS.zo.exts ae;rintro e w' ⟨rfl,x1,rfl⟩)|((with_reducible refine ag (kY _ _ _ p.zones _ ?_ vn ?_ E2.zo) ?_);exact HG.zo.exts ae;exact fj.zo.exts ae;rintro e w' ⟨rfl,x2,rfl⟩)|((with_reducible refine ag (kZ _ _ _ p.rules _ ?_ vp ?_ E3.zo) ?_);exact HG.zo.exts ae;exact np.zo.exts ae;rintro e w' ⟨rfl,x3,rfl⟩)|((with_reducible refine ag (lf _ _ _ p.caps _ ?_ BS ?_ E4.zo) ?_);exact HG.zo.exts ae;exact rT.zo.exts ae;rintro e w' ⟨rfl,x4,rfl⟩)|((with_reducible refine ag (lh _ _ _ p.views _ ?_ vq ?_ E5.zo) ?_);exact HG.zo.exts ae;exact nr.zo.exts ae;rintro e w' ⟨rfl,x5,rfl⟩))
  go_ret;exact eu HF.zo ae
 |true=>
  cases h1 with
  |false=>
   have HF:=aa (aD.zo.symm.trans (Wo E1.zo));go_enter func20,ntmps20;go_wp2_with (first|((with_reducible refine ag (kW _ _ _ p.defs _ ?_ BR ?_ E0.zo) ?_);exact HG.zo.exts ae;exact rS.zo.exts ae;rintro e w' ⟨rfl,x0,rfl⟩)|((with_reducible refine ag (kX _ _ _ p.tables _ ?_ rj ?_ E1.zo) ?_);exact HG.zo.exts ae;exact kS.zo.exts ae;rintro e w' ⟨rfl,x1,rfl⟩)|((with_reducible refine ag (kY _ _ _ p.zones _ ?_ vn ?_ E2.zo) ?_);exact HG.zo.exts ae;exact fj.zo.exts ae;rintro e w' ⟨rfl,x2,rfl⟩)|((with_reducible refine ag (kZ _ _ _ p.rules _ ?_ vp ?_ E3.zo) ?_);exact HG.zo.exts ae;exact np.zo.exts ae;rintro e w' ⟨rfl,x3,rfl⟩)|((with_reducible refine ag (lf _ _ _ p.caps _ ?_ BS ?_ E4.zo) ?_);exact HG.zo.exts ae;exact rT.zo.exts ae;rintro e w' ⟨rfl,x4,rfl⟩)|((with_reducible refine ag (lh _ _ _ p.views _ ?_ vq ?_ E5.zo) ?_);exact HG.zo.exts ae;exact nr.zo.exts ae;rintro e w' ⟨rfl,x5,rfl⟩))
   go_ret;exact eu HF.zo ae
  |true=>
   cases h2 with
   |false=>
    have HF:=aa (aD.zo.symm.trans (Wp E2.zo));go_enter func20,ntmps20;go_wp2_with (first|((with_reducible refine ag (kW _ _ _ p.defs _ ?_ BR ?_ E0.zo) ?_);exact HG.zo.exts ae;exact rS.zo.exts ae;rintro e w' ⟨rfl,x0,rfl⟩)|((with_reducible refine ag (kX _ _ _ p.tables _ ?_ rj ?_ E1.zo) ?_);exact HG.zo.exts ae;exact kS.zo.exts ae;rintro e w' ⟨rfl,x1,rfl⟩)|((with_reducible refine ag (kY _ _ _ p.zones _ ?_ vn ?_ E2.zo) ?_);exact HG.zo.exts ae;exact fj.zo.exts ae;rintro e w' ⟨rfl,x2,rfl⟩)|((with_reducible refine ag (kZ _ _ _ p.rules _ ?_ vp ?_ E3.zo) ?_);exact HG.zo.exts ae;exact np.zo.exts ae;rintro e w' ⟨rfl,x3,rfl⟩)|((with_reducible refine ag (lf _ _ _ p.caps _ ?_ BS ?_ E4.zo) ?_);exact HG.zo.exts ae;exact rT.zo.exts ae;rintro e w' ⟨rfl,x4,rfl⟩)|((with_reducible refine ag (lh _ _ _ p.views _ ?_ vq ?_ E5.zo) ?_);exact HG.zo.exts ae;exact nr.zo.exts ae;rintro e w' ⟨rfl,x5,rfl⟩))
    go_ret;exact eu HF.zo ae
   |true=>
    cases h3 with
    |false=>
     have HF:=aa (aD.zo.symm.trans (Wq E3.zo));go_enter func20,ntmps20;go_wp2_with (first|((with_reducible refine ag (kW _ _ _ p.defs _ ?_ BR ?_ E0.zo) ?_);exact HG.zo.exts ae;exact rS.zo.exts ae;rintro e w' ⟨rfl,x0,rfl⟩)|((with_reducible refine ag (kX _ _ _ p.tables _ ?_ rj ?_ E1.zo) ?_);exact HG.zo.exts ae;exact kS.zo.exts ae;rintro e w' ⟨rfl,x1,rfl⟩)|((with_reducible refine ag (kY _ _ _ p.zones _ ?_ vn ?_ E2.zo) ?_);exact HG.zo.exts ae;exact fj.zo.exts ae;rintro e w' ⟨rfl,x2,rfl⟩)|((with_reducible refine ag (kZ _ _ _ p.rules _ ?_ vp ?_ E3.zo) ?_);exact HG.zo.exts ae;exact np.zo.exts ae;rintro e w' ⟨rfl,x3,rfl⟩)|((with_reducible refine ag (lf _ _ _ p.caps _ ?_ BS ?_ E4.zo) ?_);exact HG.zo.exts ae;exact rT.zo.exts ae;rintro e w' ⟨rfl,x4,rfl⟩)|((with_reducible refine ag (lh _ _ _ p.views _ ?_ vq ?_ E5.zo) ?_);exact HG.zo.exts ae;exact nr.zo.exts ae;rintro e w' ⟨rfl,x5,rfl⟩))
     go_ret;exact eu HF.zo ae
    |true=>
     cases h4 with
     |false=>
      have HF:=aa (aD.zo.symm.trans (Ws E4.zo));go_enter func20,ntmps20;go_wp2_with (first|((with_reducible refine ag (kW _ _ _ p.defs _ ?_ BR ?_ E0.zo) ?_);exact HG.zo.exts ae;exact rS.zo.exts ae;rintro e w' ⟨rfl,x0,rfl⟩)|((with_reducible refine ag (kX _ _ _ p.tables _ ?_ rj ?_ E1.zo) ?_);exact HG.zo.exts ae;exact kS.zo.exts ae;rintro e w' ⟨rfl,x1,rfl⟩)|((with_reducible refine ag (kY _ _ _ p.zones _ ?_ vn ?_ E2.zo) ?_);exact HG.zo.exts ae;exact fj.zo.exts ae;rintro e w' ⟨rfl,x2,rfl⟩)|((with_reducible refine ag (kZ _ _ _ p.rules _ ?_ vp ?_ E3.zo) ?_);exact HG.zo.exts ae;exact np.zo.exts ae;rintro e w' ⟨rfl,x3,rfl⟩)|((with_reducible refine ag (lf _ _ _ p.caps _ ?_ BS ?_ E4.zo) ?_);exact HG.zo.exts ae;exact rT.zo.exts ae;rintro e w' ⟨rfl,x4,rfl⟩)|((with_reducible refine ag (lh _ _ _ p.views _ ?_ vq ?_ E5.zo) ?_);exact HG.zo.exts ae;exact nr.zo.exts ae;rintro e w' ⟨rfl,x5,rfl⟩))
      go_ret;exact eu HF.zo ae
     |true=>
      cases h5 with
      |false=>
       have HF:=aa (aD.zo.symm.trans (Wu E5.zo));go_enter func20,ntmps20;go_wp2_with (first|((with_reducible refine ag (kW _ _ _ p.defs _ ?_ BR ?_ E0.zo) ?_);exact HG.zo.exts ae;exact rS.zo.exts ae;rintro e w' ⟨rfl,x0,rfl⟩)|((with_reducible refine ag (kX _ _ _ p.tables _ ?_ rj ?_ E1.zo) ?_);exact HG.zo.exts ae;exact kS.zo.exts ae;rintro e w' ⟨rfl,x1,rfl⟩)|((with_reducible refine ag (kY _ _ _ p.zones _ ?_ vn ?_ E2.zo) ?_);exact HG.zo.exts ae;exact fj.zo.exts ae;rintro e w' ⟨rfl,x2,rfl⟩)|((with_reducible refine ag (kZ _ _ _ p.rules _ ?_ vp ?_ E3.zo) ?_);exact HG.zo.exts ae;exact np.zo.exts ae;rintro e w' ⟨rfl,x3,rfl⟩)|((with_reducible refine ag (lf _ _ _ p.caps _ ?_ BS ?_ E4.zo) ?_);exact HG.zo.exts ae;exact rT.zo.exts ae;rintro e w' ⟨rfl,x4,rfl⟩)|((with_reducible refine ag (lh _ _ _ p.views _ ?_ vq ?_ E5.zo) ?_);exact HG.zo.exts ae;exact nr.zo.exts ae;rintro e w' ⟨rfl,x5,rfl⟩))
       go_ret;exact eu HF.zo ae
      |true=>
       have E6:=aa (show mW p=true by unfold mW;rw[E0.zo,E1.zo,E2.zo,E3.zo,E4.zo,E5.zo];rfl);go_enter func20,ntmps20;go_wp2_with (first|((with_reducible refine ag (kW _ _ _ p.defs _ ?_ BR ?_ E0.zo) ?_);exact HG.zo.exts ae;exact rS.zo.exts ae;rintro e w' ⟨rfl,x0,rfl⟩)|((with_reducible refine ag (kX _ _ _ p.tables _ ?_ rj ?_ E1.zo) ?_);exact HG.zo.exts ae;exact kS.zo.exts ae;rintro e w' ⟨rfl,x1,rfl⟩)|((with_reducible refine ag (kY _ _ _ p.zones _ ?_ vn ?_ E2.zo) ?_);exact HG.zo.exts ae;exact fj.zo.exts ae;rintro e w' ⟨rfl,x2,rfl⟩)|((with_reducible refine ag (kZ _ _ _ p.rules _ ?_ vp ?_ E3.zo) ?_);exact HG.zo.exts ae;exact np.zo.exts ae;rintro e w' ⟨rfl,x3,rfl⟩)|((with_reducible refine ag (lf _ _ _ p.caps _ ?_ BS ?_ E4.zo) ?_);exact HG.zo.exts ae;exact rT.zo.exts ae;rintro e w' ⟨rfl,x4,rfl⟩)|((with_reducible refine ag (lh _ _ _ p.views _ ?_ vq ?_ E5.zo) ?_);exact HG.zo.exts ae;exact nr.zo.exts ae;rintro e w' ⟨rfl,x5,rfl⟩))
       go_loopw [58] (fun i wr=> ∃(k:Nat),k<=p.defs.length/\i=.int .i64 k/\af (w.alloc (.cells #[.slice bF p.defs.length bG,.slice aN p.tables.length aK,.slice aX p.zones.length aY,.slice bH p.rules.length bE,.slice bN p.caps.length bO,.slice bj p.views.length aZ,.slice cj p.eA.length ck,.int .i64 p.hours] 30)) wr/\∀(j:Nat)(d:Def),j<k->p.defs[j]?=some d->Mk d=true) (fun i _=>p.defs.length - (intOf i).toNat)
       case atStart=>exact⟨0,by omega,rfl,ae,fun j d hj=>by omega⟩
       case round=>
        obtain⟨k,hk,rfl,⟨y0,rfl⟩,hall⟩:=hrel;have ey:=aa hall;clear hall;by_cases hlt:k<p.defs.length
        ·obtain⟨d,hd⟩:=rS.zo.ex hlt
         have HD:=aa hd;obtain⟨b,off,cs,rfl,lb,hR,hld⟩:=rS.zo.ld hd;obtain⟨eO,eP,rfl,r0,r1⟩:=hR;have R0:=aa r0;have R1:=aa r1;clear hd r0 r1;go_wp2_with ((with_reducible refine ag (pG d.body _ _ ?_ ?_) ?_);exact HG.zo.exts ae;exact(R1.zo.exts ae).shut;rintro e w' ⟨rfl,x9,rfl⟩;obtain⟨r,hr⟩:∃r,ea 12 d.body=r:=⟨_,rfl⟩;rw[hr];(have HQ:=aa hr);clear hr)
         all_goals first
          |(go_ret;exact eu (aD.zo.symm.trans (wS (eH HD.zo (HQ.zo)))) ae)
          |(go_ret;exact eu (aD.zo.symm.trans (wS (eH HD.zo ((HQ.zo.trans (Ec (by assumption))))))) ae)
          |(go_ret;exact eu (aD.zo.symm.trans (wS (eH HD.zo ((HQ.zo.trans (Ed (by assumption))))))) ae)
          |(go_ret;exact eu (aD.zo.symm.trans (wS (eH HD.zo ((HQ.zo.trans (by assumption)))))) ae)
          |skip
         replace HQ:=aa (show _=true from by first|exact HQ.zo|exact HQ.zo.trans (xX (by assumption))|exact HQ.zo.trans (by assumption))
         refine⟨⟨k+1,by omega,by go_num,ae,mm ey.zo HD.zo (HQ.zo)⟩,?_⟩;simp[intOf];omega
        ·obtain rfl:k=p.defs.length:=by omega
         have Oe:=aa (show p.defs.all Mk=true from nO ey.zo);go_wp2_with fail
         go_loopw [70] (fun i wr=> ∃(k:Nat),k<=p.tables.length/\i=.int .i64 k/\af (w.alloc (.cells #[.slice bF p.defs.length bG,.slice aN p.tables.length aK,.slice aX p.zones.length aY,.slice bH p.rules.length bE,.slice bN p.caps.length bO,.slice bj p.views.length aZ,.slice cj p.eA.length ck,.int .i64 p.hours] 30)) wr/\∀(j:Nat)(d:xz),j<k->p.tables[j]?=some d->sO d=true) (fun i _=>p.tables.length - (intOf i).toNat)
         case atStart=>exact⟨0,by omega,rfl,ae,fun j d hj=>by omega⟩
         case round=>
          obtain⟨k,hk,rfl,⟨y1,rfl⟩,hall⟩:=hrel;have ey:=aa hall;clear hall;by_cases hlt:k<p.tables.length
          ·obtain⟨d,hd⟩:=kS.zo.ex hlt
           have HD:=aa hd;obtain⟨b,off,cs,rfl,lb,hR,hld⟩:=kS.zo.ld hd;obtain⟨iF,iG,rfl,r0,r1,r2⟩:=hR;have R0:=aa r0;have R1:=aa r1;have m1:=r1.nle;unfold maxLen at m1;have R2:=aa r2;have bR:=ads.zo k d hd;clear hd r0 r1 r2;cases hq1:kr 60 (d.rows.map (·.name))with
           |false=>
            have sQ:=aa hq1;clear hq1;go_wp2_with ((with_reducible refine ag (vh _ _ _ d.rows _ ?_ bR ?_ sQ.zo) ?_);exact HG.zo.exts ae;exact R1.zo.exts ae;rintro e w' ⟨rfl,x9,rfl⟩)
            go_ret;exact eu (aD.zo.symm.trans (BQ (eH HD.zo (Wh sQ.zo)))) (ae)
           |true=>
            have sQ:=aa hq1;clear hq1;cases hq2:inB (-1099511627776) 1099511627776 d.els with
            |false=>
             have ze:=aa hq2;clear hq2;go_wp2_with (first|((with_reducible refine ag (vh _ _ _ d.rows _ ?_ bR ?_ sQ.zo) ?_);exact HG.zo.exts ae;exact R1.zo.exts ae;rintro e w' ⟨rfl,x9,rfl⟩)|(go_at_call 57;show Calls prog 57 #[.int .i64 (-1099511627776),.int .i64 1099511627776,_] _ _;((refine ag (fJ (-1099511627776) 1099511627776 (x:=d.els) R2.zo ?_) ?_);exact(by simp[go_sem]);rintro e w' ⟨rfl,x8,rfl⟩;rw[ze.zo])))
             go_ret;exact eu (aD.zo.symm.trans (BQ (eH HD.zo (Wj ze.zo)))) (ae)
            |true=>
             have ze:=aa hq2;clear hq2;go_wp2_with (first|((with_reducible refine ag (vh _ _ _ d.rows _ ?_ bR ?_ sQ.zo) ?_);exact HG.zo.exts ae;exact R1.zo.exts ae;rintro e w' ⟨rfl,x9,rfl⟩)|(go_at_call 57;show Calls prog 57 #[.int .i64 (-1099511627776),.int .i64 1099511627776,_] _ _;((refine ag (fJ (-1099511627776) 1099511627776 (x:=d.els) R2.zo ?_) ?_);exact(by simp[go_sem]);rintro e w' ⟨rfl,x8,rfl⟩;rw[ze.zo])))
             go_loopw [88] (fun i wr=> ∃(q:Nat),q<=d.rows.length/\i=.int .i64 q/\af (w.alloc (.cells #[.slice bF p.defs.length bG,.slice (some ⟨b,off,none⟩) p.tables.length aK,.slice aX p.zones.length aY,.slice bH p.rules.length bE,.slice bN p.caps.length bO,.slice bj p.views.length aZ,.slice cj p.eA.length ck,.int .i64 p.hours] 30)) wr/\∀(j:Nat)(x:Entry),j<q->d.rows[j]?=some x->rowOk x=true) (fun i _=>d.rows.length - (intOf i).toNat)
             case atStart=>exact⟨0,by omega,rfl,ae,fun j d hj=>by omega⟩
             case round=>
              obtain⟨q,hq,rfl,⟨z1,rfl⟩,hin⟩:=hrel;have HI:=aa hin;clear hin;by_cases hlq:q<d.rows.length
              ·obtain⟨x,hx⟩:=R1.zo.ex hlq
               have ER:=aa hx;obtain⟨bx,ofx,csx,rfl,lbx,hRx,afq⟩:=R1.zo.ld hx;obtain⟨rfl,t0,t1⟩:=hRx;have T0:=aa t0;have T1:=aa t1;clear hx t0 t1;cases hq:inB (-1099511627776) 1099511627776 x.n with
               |false=>
                have HQ:=aa hq;clear hq;go_wp2_with (go_at_call 57;show Calls prog 57 #[.int .i64 (-1099511627776),.int .i64 1099511627776,_] _ _;((refine ag (fJ (-1099511627776) 1099511627776 (x:=x.n) T1.zo ?_) ?_);exact(by simp[go_sem]);rintro e w' ⟨rfl,x8,rfl⟩;rw[HQ.zo]))
                go_ret;exact eu (aD.zo.symm.trans (BQ (eH HD.zo (Wl (eH (p:=rowOk) ER.zo (HQ.zo)))))) (ae)
               |true=>
                have HQ:=aa hq;clear hq;go_wp2_with (go_at_call 57;show Calls prog 57 #[.int .i64 (-1099511627776),.int .i64 1099511627776,_] _ _;((refine ag (fJ (-1099511627776) 1099511627776 (x:=x.n) T1.zo ?_) ?_);exact(by simp[go_sem]);rintro e w' ⟨rfl,x8,rfl⟩;rw[HQ.zo]))
                exact⟨⟨q+1,by omega,by go_num,ae,mm HI.zo ER.zo (HQ.zo)⟩,by simp[intOf];omega⟩
              ·obtain rfl:q=d.rows.length:=by omega
               have rG:=aa (show d.rows.all rowOk=true from nO HI.zo);go_wp2_with fail
               refine⟨⟨k+1,by omega,by go_num,ae,mm ey.zo HD.zo (by unfold sO;rw[sQ.zo,ze.zo,rG.zo];rfl)⟩,?_⟩;simp[intOf];omega
          ·obtain rfl:k=p.tables.length:=by omega
           have HA1:=aa (show p.tables.all sO=true from nO ey.zo);go_wp2_with fail
           go_loopw [102] (fun i wr=> ∃(k:Nat),k<=p.zones.length/\i=.int .i64 k/\af (w.alloc (.cells #[.slice bF p.defs.length bG,.slice aN p.tables.length aK,.slice aX p.zones.length aY,.slice bH p.rules.length bE,.slice bN p.caps.length bO,.slice bj p.views.length aZ,.slice cj p.eA.length ck,.int .i64 p.hours] 30)) wr/\∀(j:Nat)(d:Zone),j<k->p.zones[j]?=some d->Fv d=true) (fun i _=>p.zones.length - (intOf i).toNat)
           case atStart=>exact⟨0,by omega,rfl,ae,fun j d hj=>by omega⟩
           case round=>
            obtain⟨k,hk,rfl,⟨y2,rfl⟩,hall⟩:=hrel;have ey:=aa hall;clear hall;by_cases hlt:k<p.zones.length
            ·obtain⟨d,hd⟩:=fj.zo.ex hlt
             have HD:=aa hd;obtain⟨b,off,cs,rfl,lb,hR,hld⟩:=fj.zo.ld hd;obtain⟨aV,aW,rfl,r0,r1⟩:=hR;have R0:=aa r0;have R1:=aa r1;have m1:=r1.nle;unfold maxLen at m1;clear hd r0 r1;go_wp2_with ((with_reducible refine ag (Hz _ _ _ d.corners _ ?_) ?_);exact R1.zo.exts ae;rintro e w' ⟨rfl,x9,rfl⟩;obtain⟨r,hr⟩:∃r,jt d.corners=r:=⟨_,rfl⟩;rw[hr];(have HQ:=aa hr);clear hr)
             all_goals first
              |(go_ret;exact eu (aD.zo.symm.trans (wT (eH HD.zo (HQ.zo)))) ae)
              |(go_ret;exact eu (aD.zo.symm.trans (wT (eH HD.zo ((HQ.zo.trans (Ec (by assumption))))))) ae)
              |(go_ret;exact eu (aD.zo.symm.trans (wT (eH HD.zo ((HQ.zo.trans (Ed (by assumption))))))) ae)
              |(go_ret;exact eu (aD.zo.symm.trans (wT (eH HD.zo ((HQ.zo.trans (by assumption)))))) ae)
              |skip
             replace HQ:=aa (show _=true from by first|exact HQ.zo|exact HQ.zo.trans (xX (by assumption))|exact HQ.zo.trans (by assumption))
             refine⟨⟨k+1,by omega,by go_num,ae,mm ey.zo HD.zo (HQ.zo)⟩,?_⟩;simp[intOf];omega
            ·obtain rfl:k=p.zones.length:=by omega
             have HA2:=aa (show p.zones.all Fv=true from nO ey.zo);go_wp2_with fail
             go_loopw [114] (fun i wr=> ∃(k:Nat),k<=p.rules.length/\i=.int .i64 k/\af (w.alloc (.cells #[.slice bF p.defs.length bG,.slice aN p.tables.length aK,.slice aX p.zones.length aY,.slice bH p.rules.length bE,.slice bN p.caps.length bO,.slice bj p.views.length aZ,.slice cj p.eA.length ck,.int .i64 p.hours] 30)) wr/\∀(j:Nat)(d:Rule),j<k->p.rules[j]?=some d->jq d=true) (fun i _=>p.rules.length - (intOf i).toNat)
             case atStart=>exact⟨0,by omega,rfl,ae,fun j d hj=>by omega⟩
             case round=>
              obtain⟨k,hk,rfl,⟨y3,rfl⟩,hall⟩:=hrel;have ey:=aa hall;clear hall;by_cases hlt:k<p.rules.length
              ·obtain⟨d,hd⟩:=np.zo.ex hlt
               have HD:=aa hd;obtain⟨b,off,cs,rfl,lb,hR,hld⟩:=np.zo.ld hd;have one1:=List.all_eq_true.2 ((aw).one hR);have len1:=(aw).len hR
               (try simp only[aw]at len1)
               have HR:=aa hR;clear hd hR;go_wp2_with ((with_reducible refine ag (ID d _ _ ?_ ?_) ?_);exact HG.zo.exts ae;exact(aw).exts HR.zo ae;rintro e w' ⟨rfl,x9,rfl⟩;obtain⟨r,hr⟩:∃r,jq d=r:=⟨_,rfl⟩;rw[hr];(have HQ:=aa hr);clear hr)
               all_goals first
                |(go_ret;exact eu (aD.zo.symm.trans (wU (eH HD.zo (HQ.zo)))) ae)
                |(go_ret;exact eu (aD.zo.symm.trans (wU (eH HD.zo ((HQ.zo.trans (Ec (by assumption))))))) ae)
                |(go_ret;exact eu (aD.zo.symm.trans (wU (eH HD.zo ((HQ.zo.trans (Ed (by assumption))))))) ae)
                |(go_ret;exact eu (aD.zo.symm.trans (wU (eH HD.zo ((HQ.zo.trans (by assumption)))))) ae)
                |skip
               replace HQ:=aa (show _=true from by first|exact HQ.zo|exact HQ.zo.trans (xX (by assumption))|exact HQ.zo.trans (by assumption))
               refine⟨⟨k+1,by omega,by go_num,ae,mm ey.zo HD.zo (HQ.zo)⟩,?_⟩;simp[intOf];omega
              ·obtain rfl:k=p.rules.length:=by omega
               have HA3:=aa (show p.rules.all jq=true from nO ey.zo);go_wp2_with fail
               go_loopw [125] (fun i wr=> ∃(k:Nat),k<=p.caps.length/\i=.int .i64 k/\af (w.alloc (.cells #[.slice bF p.defs.length bG,.slice aN p.tables.length aK,.slice aX p.zones.length aY,.slice bH p.rules.length bE,.slice bN p.caps.length bO,.slice bj p.views.length aZ,.slice cj p.eA.length ck,.int .i64 p.hours] 30)) wr/\∀(j:Nat)(d:Cap),j<k->p.caps[j]?=some d->sP d=true) (fun i _=>p.caps.length - (intOf i).toNat)
               case atStart=>exact⟨0,by omega,rfl,ae,fun j d hj=>by omega⟩
               case round=>
                obtain⟨k,hk,rfl,⟨y4,rfl⟩,hall⟩:=hrel;have ey:=aa hall;clear hall;by_cases hlt:k<p.caps.length
                ·obtain⟨d,hd⟩:=rT.zo.ex hlt
                 have HD:=aa hd;obtain⟨b,off,cs,rfl,lb,hR,hld⟩:=rT.zo.ld hd;obtain⟨aV,aW,rfl,r0,r1,r2,r3⟩:=hR;have R0:=aa r0;have R1:=aa r1;have R2:=aa r2;have R3:=aa r3;have m3:=r3.nle;unfold maxLen at m3;clear hd r0 r1 r2 r3;go_wp2_with (first|(go_at_call 57;((with_reducible refine ag (fJ (0) 2 (x:=d.load) R1.zo ?_) ?_);exact(by simp[go_sem]);rintro e w' ⟨rfl,x8,rfl⟩;obtain⟨r,hr⟩:∃r,inB (0) 2 d.load=r:=⟨_,rfl⟩;rw[hr];(have sQ:=aa hr);clear hr))|(go_at_call 57;((with_reducible refine ag (fJ (0) 1099511627776 (x:=d.limit) R2.zo ?_) ?_);exact(by simp[go_sem]);rintro e w' ⟨rfl,x8,rfl⟩;obtain⟨r,hr⟩:∃r,inB (0) 1099511627776 d.limit=r:=⟨_,rfl⟩;rw[hr];(have ze:=aa hr);clear hr))|((with_reducible refine ag (Hz _ _ _ d.corners _ ?_) ?_);exact R3.zo.exts ae;rintro e w' ⟨rfl,x9,rfl⟩;obtain⟨r,hr⟩:∃r,jt d.corners=r:=⟨_,rfl⟩;rw[hr];(have Oi:=aa hr);clear hr))
                 all_goals first
                  |(go_ret;exact eu (aD.zo.symm.trans (jK (eH HD.zo (Ag Oi.zo)))) ae)
                  |(go_ret;exact eu (aD.zo.symm.trans (jK (eH HD.zo (Ag (Oi.zo.trans (Ec (by assumption))))))) ae)
                  |(go_ret;exact eu (aD.zo.symm.trans (jK (eH HD.zo (Ag (Oi.zo.trans (Ed (by assumption))))))) ae)
                  |(go_ret;exact eu (aD.zo.symm.trans (jK (eH HD.zo (Ag (Oi.zo.trans (by assumption)))))) ae)
                  |(go_ret;exact eu (aD.zo.symm.trans (jK (eH HD.zo (Af ze.zo)))) ae)
                  |(go_ret;exact eu (aD.zo.symm.trans (jK (eH HD.zo (Af (ze.zo.trans (Ec (by assumption))))))) ae)
                  |(go_ret;exact eu (aD.zo.symm.trans (jK (eH HD.zo (Af (ze.zo.trans (Ed (by assumption))))))) ae)
                  |(go_ret;exact eu (aD.zo.symm.trans (jK (eH HD.zo (Af (ze.zo.trans (by assumption)))))) ae)
                  |(go_ret;exact eu (aD.zo.symm.trans (jK (eH HD.zo (Ae sQ.zo)))) ae)
                  |(go_ret;exact eu (aD.zo.symm.trans (jK (eH HD.zo (Ae (sQ.zo.trans (Ec (by assumption))))))) ae)
                  |(go_ret;exact eu (aD.zo.symm.trans (jK (eH HD.zo (Ae (sQ.zo.trans (Ed (by assumption))))))) ae)
                  |(go_ret;exact eu (aD.zo.symm.trans (jK (eH HD.zo (Ae (sQ.zo.trans (by assumption)))))) ae)
                  |skip
                 replace sQ:=aa (show _=true from by first|exact sQ.zo|exact sQ.zo.trans (xX (by assumption))|exact sQ.zo.trans (by assumption))
                 replace ze:=aa (show _=true from by first|exact ze.zo|exact ze.zo.trans (xX (by assumption))|exact ze.zo.trans (by assumption))
                 replace Oi:=aa (show _=true from by first|exact Oi.zo|exact Oi.zo.trans (xX (by assumption))|exact Oi.zo.trans (by assumption))
                 refine⟨⟨k+1,by omega,by go_num,ae,mm ey.zo HD.zo (by unfold sP;rw[sQ.zo,ze.zo,Oi.zo];rfl)⟩,?_⟩;simp[intOf];omega
                ·obtain rfl:k=p.caps.length:=by omega
                 have HA4:=aa (show p.caps.all sP=true from nO ey.zo);go_wp2_with fail
                 go_loopw [151] (fun i wr=> ∃(k:Nat),k<=p.views.length/\i=.int .i64 k/\af (w.alloc (.cells #[.slice bF p.defs.length bG,.slice aN p.tables.length aK,.slice aX p.zones.length aY,.slice bH p.rules.length bE,.slice bN p.caps.length bO,.slice bj p.views.length aZ,.slice cj p.eA.length ck,.int .i64 p.hours] 30)) wr/\∀(j:Nat)(d:View),j<k->p.views[j]?=some d->oO d=true) (fun i _=>p.views.length - (intOf i).toNat)
                 case atStart=>exact⟨0,by omega,rfl,ae,fun j d hj=>by omega⟩
                 case round=>
                  obtain⟨k,hk,rfl,⟨y5,rfl⟩,hall⟩:=hrel;have ey:=aa hall;clear hall;by_cases hlt:k<p.views.length
                  ·obtain⟨d,hd⟩:=nr.zo.ex hlt
                   have HD:=aa hd;obtain⟨b,off,cs,rfl,lb,hR,hld⟩:=nr.zo.ld hd;obtain⟨fl,fo,rfl,r0,r1,r2,r3,r4,r5⟩:=hR;have R0:=aa r0;have R1:=aa r1;have R2:=aa r2;have R3:=aa r3;have R4:=aa r4;have R5:=aa r5;have m5:=r5.nle;unfold maxLen at m5;clear hd r0 r1 r2 r3 r4 r5;have IT:I64 (d.targets.length:Int):=⟨by omega,by omega⟩;cases hq1:inB 0 20 d.least with
                   |false=>
                    have sQ:=aa hq1;clear hq1;go_wp2_with (go_at_call 57;((with_reducible refine ag (fJ (0) 20 (x:=d.least) R4.zo ?_) ?_);exact(by simp[go_sem]);rintro e w' ⟨rfl,x8,rfl⟩;rw[sQ.zo]))
                    go_ret;exact eu (aD.zo.symm.trans (wV (eH HD.zo (Sc sQ.zo)))) (ae)
                   |true=>
                    have sQ:=aa hq1;clear hq1;cases hv:inB 1 20 d.targets.length with
                    |false=>
                     have HV:=aa hv;clear hv;go_wp2_with (first|(go_at_call 57;((with_reducible refine ag (fJ (0) 20 (x:=d.least) R4.zo ?_) ?_);exact(by simp[go_sem]);rintro e w' ⟨rfl,x8,rfl⟩;rw[sQ.zo]))|((with_reducible refine ag (fJ 1 20 (x:=d.targets.length) IT ?_) ?_);exact(by simp[go_sem]);rintro e w' ⟨rfl,x8,rfl⟩;rw[HV.zo]))
                     go_ret;exact eu (aD.zo.symm.trans (wV (eH HD.zo (Sd HV.zo)))) (ae)
                    |true=>
                     have HV:=aa hv;clear hv;have hv2:1<=d.targets.length/\d.targets.length<=20:=by
                      have hv:=HV.zo;simp[inB]at hv;omega
                     obtain⟨i0,hi,hz0,hz1,hz2⟩:=info_parts LL;obtain⟨tb,ahL,xs,rfl,hxl,hx1,hxs⟩:=ZX R5.zo (show 0<d.targets.length by omega);have Pv:=aa hxs;have jZ:=aa hx1;have Yh:=aa (show xs.length=d.targets.length*(yw).k from hxl);have HE:=aa (show I64 d.eye.x/\I64 d.eye.y/\I64 d.eye.z from⟨R1.zo,R2.zo,R3.zo⟩);clear hxs hx1 hxl;obtain⟨L,hL⟩:∃L,d.eye::d.targets=L:=⟨_,rfl⟩;have rY:=aa (show 1+d.targets.length=L.length by rw[<-hL];simp;omega);have HL:=aa hL;have hll:L.length<=21:=by have:=rY.zo;omega
                     clear hL;go_wp2_with (first|(go_at_call 57;((with_reducible refine ag (fJ (0) 20 (x:=d.least) R4.zo ?_) ?_);exact(by simp[go_sem]);rintro e w' ⟨rfl,x8,rfl⟩;rw[sQ.zo]))|((with_reducible refine ag (fJ 1 20 (x:=d.targets.length) IT ?_) ?_);exact(by simp[go_sem]);rintro e w' ⟨rfl,x8,rfl⟩;rw[HV.zo])|(at_builtin;refine Wm ?_))
                     refine⟨?_,trivial⟩;refine nH rfl (.tmp 170) (.tmp 172) 28 rfl yw _ 134 (Flat.turn IY) i0 _ 24 underlying28 hi hz0 hz1 hz2 rfl (by decide) [d.eye] d.targets xs 1 _ _ _ rfl rfl (ZW (by simp<;>omega) HE.zo) (af.refl _) _ _ rfl rfl Yh.zo (Pv.zo _ ae).1 (Pv.zo _ ae).2 jZ.zo (by unfold maxLen;omega) (by omega) (by simp<;>omega) ?_;intro ao' c' w1 hown hgrow;have HX:=aa (show af (w.alloc (.cells #[.slice bF p.defs.length bG,.slice aN p.tables.length aK,.slice aX p.zones.length aY,.slice bH p.rules.length bE,.slice bN p.caps.length bO,.slice (some ⟨b,off,none⟩) p.views.length aZ,.slice cj p.eA.length ck,.int .i64 p.hours] 30)) w1 from hgrow _ ae (by simp<;>omega));rw[show [d.eye]++d.targets=L from HL.zo]at hown;rw[rY.zo]at hown ⊢;have HW:=aa (aq.sl hown rfl);clear hown hgrow;go_wp2;go_loopw [175] (fun i wr=> ∃(q:Nat),q<=L.length/\i=.int .i64 q/\af w1 wr/\∀(j:Nat)(x:P3),j<q->L[j]?=some x->BM x=true) (fun i _=>L.length - (intOf i).toNat)
                     case atStart=>exact⟨0,by omega,rfl,ae,fun j d hj=>by omega⟩
                     case round=>
                      obtain⟨q,hq,rfl,⟨z5,rfl⟩,hin⟩:=hrel;have HI:=aa hin;clear hin;by_cases hlq:q<L.length
                      ·obtain⟨x,hx⟩:=HW.zo.ex hlq
                       have ER:=aa hx;obtain⟨bx,ofx,csx,rfl,lbx,hRx,afq⟩:=HW.zo.ld hx;obtain⟨rfl,t0,t1,t2⟩:=hRx;have T0:=aa t0;have T1:=aa t1;have T2:=aa t2;clear hx t0 t1 t2;cases hu1:uH 0 1048576 x.x x.y with
                       |false=>
                        have HU1:=aa hu1;clear hu1;go_wp2_with (go_at_call 57;((with_reducible refine ag (kV (0) 1048576 (x:=x.x) (y:=x.y) T0.zo T1.zo ?_ ?_) ?_);exact(by simp[go_sem]);exact(by simp[go_sem]);rintro e w' ⟨rfl,x8,rfl⟩;rw[HU1.zo]))
                        go_ret;exact eu (aD.zo.symm.trans (wV (eH HD.zo (IG (by rw[HL.zo];exact(eH (p:=BM) ER.zo (ZT HU1.zo))))))) ((show af w (w.alloc _)from(af.refl w).alloc _).trans (HX.zo.trans ae))
                       |true=>
                        have HU1:=aa hu1;clear hu1;cases hu2:inB 0 4096 x.z with
                        |false=>
                         have HU2:=aa hu2;clear hu2;go_wp2_with (first|(go_at_call 57;((with_reducible refine ag (kV (0) 1048576 (x:=x.x) (y:=x.y) T0.zo T1.zo ?_ ?_) ?_);exact(by simp[go_sem]);exact(by simp[go_sem]);rintro e w' ⟨rfl,x8,rfl⟩;rw[HU1.zo]))|(go_at_call 57;((with_reducible refine ag (fJ (0) 4096 (x:=x.z) T2.zo ?_) ?_);exact(by simp[go_sem]);rintro e w' ⟨rfl,x8,rfl⟩;rw[HU2.zo])))
                         go_ret;exact eu (aD.zo.symm.trans (wV (eH HD.zo (IG (by rw[HL.zo];exact(eH (p:=BM) ER.zo (ZU HU2.zo))))))) ((show af w (w.alloc _)from(af.refl w).alloc _).trans (HX.zo.trans ae))
                        |true=>
                         have HU2:=aa hu2;clear hu2;go_wp2_with (first|(go_at_call 57;((with_reducible refine ag (kV (0) 1048576 (x:=x.x) (y:=x.y) T0.zo T1.zo ?_ ?_) ?_);exact(by simp[go_sem]);exact(by simp[go_sem]);rintro e w' ⟨rfl,x8,rfl⟩;rw[HU1.zo]))|(go_at_call 57;((with_reducible refine ag (fJ (0) 4096 (x:=x.z) T2.zo ?_) ?_);exact(by simp[go_sem]);rintro e w' ⟨rfl,x8,rfl⟩;rw[HU2.zo])))
                         exact⟨⟨q+1,by omega,by go_num,ae,mm HI.zo ER.zo (by unfold BM;rw[HU1.zo,HU2.zo];rfl)⟩,by simp[intOf];omega⟩
                      ·obtain rfl:q=L.length:=by omega
                       have rG:=aa (show L.all BM=true from nO HI.zo);go_wp2_with fail
                       refine⟨⟨k+1,by omega,by go_num,HX.zo.trans ae,mm ey.zo HD.zo (by unfold oO;rw[sQ.zo,HV.zo,HL.zo,rG.zo];rfl)⟩,?_⟩;simp[intOf];omega
                  ·obtain rfl:k=p.views.length:=by omega
                   have HA5:=aa (show p.views.all oO=true from nO ey.zo);go_wp2_with fail
                   go_loopw [198] (fun i wr=> ∃(k:Nat),k<=p.eA.length/\i=.int .i64 k/\af (w.alloc (.cells #[.slice bF p.defs.length bG,.slice aN p.tables.length aK,.slice aX p.zones.length aY,.slice bH p.rules.length bE,.slice bN p.caps.length bO,.slice bj p.views.length aZ,.slice cj p.eA.length ck,.int .i64 p.hours] 30)) wr/\∀(j:Nat)(d:P3),j<k->p.eA[j]?=some d->wP d=true) (fun i _=>p.eA.length - (intOf i).toNat)
                   case atStart=>exact⟨0,by omega,rfl,ae,fun j d hj=>by omega⟩
                   case round=>
                    obtain⟨k,hk,rfl,⟨y6,rfl⟩,hall⟩:=hrel;have ey:=aa hall;clear hall;by_cases hlt:k<p.eA.length
                    ·obtain⟨d,hd⟩:=ZR.zo.ex hlt
                     have HD:=aa hd;obtain⟨b,off,cs,rfl,lb,hR,hld⟩:=ZR.zo.ld hd;obtain⟨rfl,r0,r1,r2⟩:=hR;have R0:=aa r0;have R1:=aa r1;have R2:=aa r2;clear hd r0 r1 r2;cases hq1:uH (-4096) 4096 d.x d.y with
                     |false=>
                      have sQ:=aa hq1;clear hq1;go_wp2_with (go_at_call 57;show Calls prog 57 #[.int .i64 (-4096),.int .i64 4096,_] _ _;((refine ag (kV (-4096) 4096 (x:=d.x) (y:=d.y) R0.zo R1.zo ?_ ?_) ?_);exact(by simp[go_sem]);exact(by simp[go_sem]);rintro e w' ⟨rfl,x8,rfl⟩;rw[sQ.zo]))
                      go_ret;exact eu (aD.zo.symm.trans (IZ (eH HD.zo (Wd sQ.zo)))) (ae)
                     |true=>
                      have sQ:=aa hq1;clear hq1;cases hq2:inB 1 4096 d.z with
                      |false=>
                       have ze:=aa hq2;clear hq2;go_wp2_with (first|(go_at_call 57;((with_reducible refine ag (fJ (1) 4096 (x:=d.z) R2.zo ?_) ?_);exact(by simp[go_sem]);rintro e w' ⟨rfl,x8,rfl⟩;rw[ze.zo]))|(go_at_call 57;show Calls prog 57 #[.int .i64 (-4096),.int .i64 4096,_] _ _;((refine ag (kV (-4096) 4096 (x:=d.x) (y:=d.y) R0.zo R1.zo ?_ ?_) ?_);exact(by simp[go_sem]);exact(by simp[go_sem]);rintro e w' ⟨rfl,x8,rfl⟩;rw[sQ.zo])))
                       go_ret;exact eu (aD.zo.symm.trans (IZ (eH HD.zo (We ze.zo)))) (ae)
                      |true=>
                       have ze:=aa hq2;clear hq2;go_wp2_with (first|(go_at_call 57;((with_reducible refine ag (fJ (1) 4096 (x:=d.z) R2.zo ?_) ?_);exact(by simp[go_sem]);rintro e w' ⟨rfl,x8,rfl⟩;rw[ze.zo]))|(go_at_call 57;show Calls prog 57 #[.int .i64 (-4096),.int .i64 4096,_] _ _;((refine ag (kV (-4096) 4096 (x:=d.x) (y:=d.y) R0.zo R1.zo ?_ ?_) ?_);exact(by simp[go_sem]);exact(by simp[go_sem]);rintro e w' ⟨rfl,x8,rfl⟩;rw[sQ.zo])))
                       refine⟨⟨k+1,by omega,by go_num,ae,mm ey.zo HD.zo (by unfold wP;rw[sQ.zo,ze.zo];rfl)⟩,?_⟩;simp[intOf];omega
                    ·obtain rfl:k=p.eA.length:=by omega
                     have HA6:=aa (show p.eA.all wP=true from nO ey.zo);go_wp2_with fail
                     go_wp2_with (go_at_call 57;((with_reducible refine ag (kV (0) 24 (x:=p.hours) (y:=p.eA.length) IH.zo IS.zo ?_ ?_) ?_);exact(by simp[go_sem]);exact(by simp[go_sem]);rintro e w' ⟨rfl,x8,rfl⟩;obtain⟨r,hr⟩:∃r,uH (0) 24 p.hours p.eA.length=r:=⟨_,rfl⟩;rw[hr];(have HQ:=aa hr);clear hr))
                     go_ret;refine⟨?_,ae⟩;rw[<-aD.zo];unfold dP;rw[E6.zo,Oe.zo,HA1.zo,HA2.zo,HA3.zo,HA4.zo,HA5.zo,HA6.zo,HQ.zo];rfl
def adt:Rule:=⟨⟨#[]⟩,[],[],0,0,0,false,0,.mk 0 0 ⟨#[]⟩ ⟨#[]⟩ [],⟨0,0,0,0⟩,0,0,0⟩
def jL(e:fN):fN:=⟨e.kind,e.name,e.key,e.n,adt,.mk 0 0 ⟨#[]⟩ ⟨#[]⟩ [],[]⟩
def kP(e:fN):Bool:=
 if e.kind=0 then dP (ni e.rule)&&kL (aj e.rule) e
 else kL e (jL e)&&(nameB e.name&&((e.key.toList== [])&&(decide ((if e.kind=1 then 1 else 0)<=e.n)&&decide (e.n<=(if e.kind=1 then 1073741824 else 1099511627776)))))
def qx(p:Plan)(e:fN):Int:=if(dP p&&kP e)=true then mJ p e else 1
def fK:Plan->List fN->Except Int Plan
 |p,[]=> .ok p
 |p,e::l=>if qx p e=0 then fK (jR p e) l else .error (qx p e)
theorem BU{e:Xp}(h:iz e=true):e.args.length=argN e.op:=by
 unfold iz at h;simp only[Bool.and_eq_true,beq_iff_eq]at h;exact h.2.1.2
theorem Ml(op:Int):argN op<=3:=by
 unfold argN;split
 ·omega
 ·split
  ·omega
  ·split<;>omega
theorem KD:∀(d:Nat)(e:Xp),okA d e=true->okA (d+1) e=true
 |0,_,h=>by cases h
 |d+1,e,h=>by
  unfold okA at h ⊢;simp only[Bool.and_eq_true,List.all_eq_true]at h ⊢;exact⟨h.1,fun x hx=>KD d x (h.2 x hx)⟩
theorem xZ:∀(d:Nat)(e:Xp),ea d e=true->okA d e=true
 |0,_,h=>by cases h
 |d+1,e,h=>by
  unfold ea at h;simp only[Bool.and_eq_true,List.all_eq_true]at h;have h1:=BU h.1;have h2:=Ml e.op;unfold okA;simp only[Bool.and_eq_true,List.all_eq_true,decide_eq_true_eq];exact⟨by omega,fun x hx=>xZ d x (h.2 x hx)⟩
theorem zg{M:Nat}:∀{l:List Xp},(∀x∈l,(dS x).length<=M)->(dm l).length<=l.length*M
 | [],_=>by simp[dm]
 |a::l,h=>by
  have h1:=h a List.mem_cons_self;have h2:=zg (l:=l) fun x hx=>h x (List.mem_cons_of_mem _ hx)
  rw[show dm (a::l)=dS a++dm l from rfl,dG,List.length_cons,Nat.succ_mul];omega
theorem BV:∀(d:Nat)(e:Xp),ea d e=true->(dS e).length<=3 ^ d
 |0,_,h=>by cases h
 |d+1,.mk op n s k args,h=>by
  unfold ea at h;simp only[Bool.and_eq_true,List.all_eq_true]at h;have h1:args.length=argN op:=BU h.1;have h2:=Ml op;have h3:=zg (M:=3 ^ d) (l:=args) fun x hx=>BV d x (h.2 x hx)
  have h4:0<3 ^ d:=Nat.pow_pos (by decide);rw[show dS (.mk op n s k args)=(if op=1 then [s]else [])++dm args from rfl,dG,Nat.pow_succ];by_cases ho:op=1
  ·subst ho
   have h5:args.length=0:=h1;rw[h5]at h3;simp;omega
  ·rw[if_neg ho]
   have:=Nat.mul_le_mul_right (3 ^ d) (show args.length<=3 by omega);simp;omega
structure mA(n:Nat)(p:Plan):Prop where
 defs:p.defs.length<=4
 tables:p.tables.length<=1000
 zones:p.zones.length<=1000
 rules:p.rules.length<=n
 caps:p.caps.length<=1000
 views:p.views.length<=1000
 eA:p.eA.length<=1000
 rows:∀(i:Nat)(t:xz),p.tables[i]?=some t->t.rows.length<=1000
 zone:∀(i:Nat)(z:Zone),p.zones[i]?=some z->z.corners.length<=1000
 rule:∀(i:Nat)(r:Rule),p.rules[i]?=some r->oN r
 cap:∀(i:Nat)(z:Cap),p.caps[i]?=some z->z.corners.length<=1000
 view:∀(i:Nat)(v:View),p.views[i]?=some v->v.targets.length<=1000
theorem Mj.w{p:Plan}(h:Mj p):mA 5 p:=
 ⟨h.defs,by have:=h.tables;omega,by have:=h.zones;omega,h.rules,by have:=h.caps;omega,by have:=h.views;omega,by have:=h.eA;omega,fun i t ht=>by have:=h.table i t ht;omega,fun i t ht=>by have:=h.zone i t ht;omega,h.rule,fun i t ht=>by have:=h.cap i t ht;omega,fun i t ht=>by have:=h.view i t ht;omega⟩
theorem mA.b{n:Nat}{p:Plan}(h:mA n p)(hn:n<=1000):II p:=
 ⟨by have:=h.defs;omega,h.tables,h.zones,by have:=h.rules;omega,h.caps,h.views,h.eA,h.rows⟩
def I3(p:Plan):Prop:=(∀d∈p.defs,okA 13 d.body=true)/\∀r∈p.rules,okA 13 r.test=true
theorem mA.o{n:Nat}{p:Plan}(h:mA n p)(hn:n<=1000)(hd:I3 p):Sr p:=
 ⟨by have:=h.defs;omega,h.tables,h.zones,by have:=h.rules;omega,h.caps,h.views,h.eA,h.rows,fun i d hi=>hd.1 d (gH hi),h.zone,fun i r hi=>⟨by have:=(h.rule i r hi).1;omega,by have:=(h.rule i r hi).2;omega,hd.2 r (gH hi)⟩,h.cap,h.view⟩
theorem Su(e:Xp)(h:JI e PE=true):okA 13 e=true:=by
 cases e with
 |mk o n s k l=>
  have h1:EA l []=true:=by
   unfold JI at h;simp only[Bool.and_eq_true]at h;exact h.2
  cases l with
  |nil=>rfl
  |cons a l=>simp[EA]at h1
theorem zh{r:Rule}(h:jq r=true):okA 13 r.test=true:=by
 unfold jq at h;simp only[Bool.and_eq_true]at h;obtain⟨_,h1,h2⟩:=h;by_cases hk:r.kind=0
 ·unfold okR at h1
  rw[if_pos hk]at h1;exact KD 12 _ (xZ 12 _ h1)
 ·unfold jI at h2
  simp only[Bool.and_eq_true]at h2;have h3:=h2.2.2.1;unfold Eb at h3;simp only[if_neg hk]at h3;exact Su _ h3
theorem sR{p:Plan}(h:dP p=true):I3 p/\∀d∈p.defs,(dS d.body).length<=1000000:=by
 unfold dP at h;simp only[Bool.and_eq_true,List.all_eq_true]at h;obtain⟨_,h1,_,_,h2,_⟩:=h;refine⟨⟨fun d hd=>KD 12 _ (xZ 12 _ (h1 d hd)),fun r hr=>zh (h2 r hr)⟩,fun d hd=> ?_⟩;have:=BV 12 d.body (h1 d hd);have:(3:Nat) ^ 12=531441:=by decide
 omega
theorem ya(p:Plan)(e:fN):(jR p e).defs=p.defs:=by
 unfold jR;split
 ·rfl
 ·split<;>rfl
def zi(e:fN):Prop:=e.kind=0∨e.kind=1∨e.kind=5
theorem Fy{n:Nat}{p:Plan}{e:fN}(h:mA n p)(he:oN e.rule):mA (n+1) (jR p e):=by
 unfold jR;split
 ·refine⟨h.defs,h.tables,h.zones,by have:=h.rules;simp;omega,h.caps,h.views,h.eA,h.rows,h.zone,fun i r hi=> ?_,h.cap,h.view⟩
  have hi:(p.rules++ [e.rule])[i]?=some r:=hi;rcases List.mem_append.1 (gH hi)with h1|h1
  ·obtain⟨j,hj⟩:=List.getElem?_of_mem h1
   exact h.rule j r hj
  ·have:r=e.rule:=by simpa using h1
   rw[this];exact he
 ·split
  ·refine⟨h.defs,h.tables,h.zones,by have:=h.rules;rw[iM];omega,h.caps,h.views,h.eA,h.rows,h.zone,fun i r hi=> ?_,h.cap,h.view⟩
   have hi:(fx (iL e.name) (fun r=>{r with stop:=e.n}) p.rules)[i]?=some r:=hi;cases hy:p.rules[i]? with
   |none=>
    have h1:=(bw hi).1;rw[iM]at h1;have h2:=List.getElem?_eq_none_iff.1 hy;omega
   |some y=>
    obtain⟨x,h3,h4⟩:=lF (iL e.name) (fun r=>{r with stop:=e.n}) p.rules i _ hy;rw[hi]at h3;cases h3;rcases h4 with rfl|⟨_,rfl⟩
    ·exact h.rule i _ hy
    ·exact h.rule i y hy
  ·refine⟨h.defs,h.tables,h.zones,by have h0:=h.rules;show p.rules.length<=n+1;omega,by have:=h.caps;rw[iM];omega,h.views,h.eA,h.rows,h.zone,h.rule,fun i z hi=> ?_,h.view⟩
   have hi:(fx (CZ e.name) (fun c=>{c with limit:=e.n}) p.caps)[i]?=some z:=hi;cases hy:p.caps[i]? with
   |none=>
    have h1:=(bw hi).1;rw[iM]at h1;have h2:=List.getElem?_eq_none_iff.1 hy;omega
   |some y=>
    obtain⟨x,h3,h4⟩:=lF (CZ e.name) (fun c=>{c with limit:=e.n}) p.caps i _ hy;rw[hi]at h3;cases h3;rcases h4 with rfl|⟨_,rfl⟩
    ·exact h.cap i _ hy
    ·exact h.cap i y hy
theorem Ee{e:fN}(hk:e.kind=0)(h:kP e=true):jq e.rule=true:=by
 unfold kP at h;rw[if_pos hk]at h;simp only[Bool.and_eq_true]at h;have h1:=h.1;unfold dP at h1;simp only[Bool.and_eq_true,List.all_eq_true]at h1;exact h1.2.2.2.2.1 e.rule (by simp[ni])
theorem Ef{p:Plan}{e:fN}(h:I3 p)(hk:zi e)(he:kP e=true):I3 (jR p e):=by
 refine⟨by rw[ya];exact h.1,fun r hr=> ?_⟩;unfold jR at hr;split at hr
 ·rename_i h0
  have hr:r∈p.rules++ [e.rule]:=hr;rcases List.mem_append.1 hr with h1|h1
  ·exact h.2 r h1
  ·have:r=e.rule:=by simpa using h1
   rw[this];exact zh (Ee h0 he)
 ·split at hr
  ·have hr:r∈fx (iL e.name) (fun r=>{r with stop:=e.n}) p.rules:=hr
   obtain⟨i,hi⟩:=List.getElem?_of_mem hr;cases hy:p.rules[i]? with
   |none=>
    have h1:=(bw hi).1;rw[iM]at h1;have h2:=List.getElem?_eq_none_iff.1 hy;omega
   |some y=>
    obtain⟨x,h3,h4⟩:=lF (iL e.name) (fun r=>{r with stop:=e.n}) p.rules i _ hy;rw[hi]at h3;cases h3;have h5:=h.2 y (gH hy);rcases h4 with rfl|⟨_,rfl⟩
    ·exact h5
    ·exact h5
  ·exact h.2 r hr
theorem wW{day:Int}{p0:Plan}:∀(l:List fN)(p q:Plan),kq day p0 p->(∀e∈l,xU day p0.rules e)->fK p l=.ok q->kq day p0 q
 | [],p,q,h,_,ha=>by
  unfold fK at ha;cases ha;exact h
 |e::l,p,q,h,hl,ha=>by
  unfold fK at ha;split at ha
  ·exact wW l _ q (BC h (hl e List.mem_cons_self)) (fun x hx=>hl x (List.mem_cons_of_mem _ hx)) ha
  ·cases ha
theorem sS:∀(l:List fN)(p q:Plan)(e:fN),fK p l=.ok q->fK p (l++ [e])=if qx q e=0 then .ok (jR q e)else .error (qx q e)
 | [],p,q,e,h=>by
  unfold fK at h;cases h;rfl
 |a::l,p,q,e,h=>by
  unfold fK at h;split at h
  ·rename_i h0
   rw[List.cons_append];show(if qx p a=0 then fK (jR p a) (l++ [e])else _)=_;rw[if_pos h0];exact sS l _ q e h
  ·cases h
theorem BW:∀(l m:List fN)(p:Plan)(c:Int),fK p l=.error c->fK p (l++m)=.error c
 | [],m,p,c,h=>by
  unfold fK at h;cases h
 |a::l,m,p,c,h=>by
  unfold fK at h;rw[List.cons_append];show(if qx p a=0 then fK (jR p a) (l++m)else _)=_;split at h
  ·rename_i h0
   rw[if_pos h0];exact BW l m _ c h
  ·rename_i h0
   rw[if_neg h0];exact h
theorem Z4{e:fN}(h:e.kind=1):kP e=(kL e (jL e)&&(nameB e.name&&((e.key.toList== [])&&(decide (1<=e.n)&&decide (e.n<=1073741824))))):=by
 unfold kP;rw[if_neg (by omega),if_pos h,if_pos h]
theorem Z5{e:fN}(h:e.kind=5):kP e=(kL e (jL e)&&(nameB e.name&&((e.key.toList== [])&&(decide (0<=e.n)&&decide (e.n<=1099511627776))))):=by
 unfold kP;rw[if_neg (by omega),if_neg (by omega),if_neg (by omega)]
theorem Z6{e:fN}(h:e.kind=0):kP e=(dP (ni e.rule)&&kL (aj e.rule) e):=by
 unfold kP;rw[if_pos h]
theorem Oz(e:fN)(ds:zv)(w:World)(hg:Gl w)(h2:(cY).R w ds e)(hk:e.kind=1):Calls prog 31 #[.agg ds.toArray] w (cX (.bool (kP e)) w):=by
 have rp:=aa h2;have JM:=aa (Z4 hk);obtain⟨az,aA,aT,aU,aL,aM,dg,dh,bA,bC,rfl,t0,t1,t2,t3,t4,t5,t6,t7,t8,t9,t10,t11,t12,t13,t14,t15,t16,t17,uw,t19,t20⟩:=h2;rw[hk]at rp ⊢;have HG:=aa hg;have T0:=aa t0;have T1:=aa t1;have T2:=aa t2;have T3:=aa t3;have T4:=aa t4;have T5:=aa t5;have T6:=aa t6;have T7:=aa t7;have T8:=aa t8;have T9:=aa t9;have T10:=aa t10;have T11:=aa t11;have T12:=aa t12;have T13:=aa t13;have RN:=aa t14;have T15:=aa t15;have RO:=aa t16;have RP:=aa t17;have RQ:=aa uw;have V9:=aa t19;have UG:=aa t20;clear hg t0 t1 t2 t3 t4 t5 t6 t7 t8 t9 t10 t11 t12 t13 t14 t15 t16 t17 uw t19 t20;have Ch:Hid (∀w',(cY).R w' [.int .i64 1,.string e.name,.string e.key,.int .i64 e.n,.string ⟨#[]⟩,.slice none 0 0,.slice none 0 0,.int .i64 0,.int .i64 0,.int .i64 0,.bool false,.int .i64 0,.int .i64 0,.int .i64 0,.string ⟨#[]⟩,.string ⟨#[]⟩,.slice none 0 0,.int .i64 0,.int .i64 0,.int .i64 0,.int .i64 0,.int .i64 0,.int .i64 0,.int .i64 0,.int .i64 0,.int .i64 0,.string ⟨#[]⟩,.string ⟨#[]⟩,.slice none 0 0,.slice none 0 0] (jL e)):=aa fun w'=>by
  have i0:I64 0:=by constructor<;>omega
  have s0:gS ⟨#[]⟩:=by simp[gS,ByteArray.size]
  have hx:jL e={jL e with kind:=1}:=by unfold jL;rw[hk]
  rw[hx];have hki:I64 (1:Int):=by constructor<;>omega
  exact⟨_,_,_,_,_,_,_,_,_,_,rfl,hki,T1.zo,T2.zo,T3.zo,s0,Sl.nil _ _,Sl.nil _ _,i0,i0,i0,i0,⟨i0,i0,s0,s0,Sl.nil _ _⟩,i0,i0,i0,i0,i0,i0,i0,⟨i0,i0,s0,s0,Sl.nil _ _⟩,Sl.nil _ _⟩
 cases h0:kL e (jL e)with
 |false=>
  have HF:=aa (show kP e=false by rw[JM.zo,h0];rfl);rw[HF.zo];go_enter func31,ntmps31;go_wp2_with (first|((with_reducible refine ag (nW e _ _ ?_ hk) ?_);exact(cY).exts rp.zo ae;rintro r w' ⟨rfl,⟨x1,rfl⟩⟩)|(go_at_call 92;((with_reducible refine ag (mK e (jL e) _ [.int .i64 1,.string e.name,.string e.key,.int .i64 e.n,.string ⟨#[]⟩,.slice none 0 0,.slice none 0 0,.int .i64 0,.int .i64 0,.int .i64 0,.bool false,.int .i64 0,.int .i64 0,.int .i64 0,.string ⟨#[]⟩,.string ⟨#[]⟩,.slice none 0 0,.int .i64 0,.int .i64 0,.int .i64 0,.int .i64 0,.int .i64 0,.int .i64 0,.int .i64 0,.int .i64 0,.int .i64 0,.string ⟨#[]⟩,.string ⟨#[]⟩,.slice none 0 0,.slice none 0 0] _ ?_ ?_) ?_);exact(cY).exts rp.zo ae;exact Ch.zo _;rintro r w' ⟨rfl,⟨x2,rfl⟩⟩;rw[h0])))
  go_ret;exact⟨rfl,ae⟩
 |true=>
  cases h1:nameB e.name with
  |false=>
   have HF:=aa (show kP e=false by rw[JM.zo,h0,h1];rfl);rw[HF.zo];go_enter func31,ntmps31;go_wp2_with (first|((with_reducible refine ag (nW e _ _ ?_ hk) ?_);exact(cY).exts rp.zo ae;rintro r w' ⟨rfl,⟨x1,rfl⟩⟩)|(go_at_call 92;((with_reducible refine ag (mK e (jL e) _ [.int .i64 1,.string e.name,.string e.key,.int .i64 e.n,.string ⟨#[]⟩,.slice none 0 0,.slice none 0 0,.int .i64 0,.int .i64 0,.int .i64 0,.bool false,.int .i64 0,.int .i64 0,.int .i64 0,.string ⟨#[]⟩,.string ⟨#[]⟩,.slice none 0 0,.int .i64 0,.int .i64 0,.int .i64 0,.int .i64 0,.int .i64 0,.int .i64 0,.int .i64 0,.int .i64 0,.int .i64 0,.string ⟨#[]⟩,.string ⟨#[]⟩,.slice none 0 0,.slice none 0 0] _ ?_ ?_) ?_);exact(cY).exts rp.zo ae;exact Ch.zo _;rintro r w' ⟨rfl,⟨x2,rfl⟩⟩;rw[h0]))|((with_reducible refine ag (gF e.name _ ?_ ?_) ?_);exact HG.zo.exts ae;exact T1.zo;rintro r w' ⟨rfl,⟨x3,rfl⟩⟩;rw[h1]))
   go_ret;exact⟨rfl,ae⟩
  |true=>
   cases h2:(e.key.toList== [])with
   |false=>
    have HF:=aa (show kP e=false by rw[JM.zo,h0,h1,h2];rfl);rw[HF.zo];go_enter func31,ntmps31;go_wp2_with (first|((with_reducible refine ag (nW e _ _ ?_ hk) ?_);exact(cY).exts rp.zo ae;rintro r w' ⟨rfl,⟨x1,rfl⟩⟩)|(go_at_call 92;((with_reducible refine ag (mK e (jL e) _ [.int .i64 1,.string e.name,.string e.key,.int .i64 e.n,.string ⟨#[]⟩,.slice none 0 0,.slice none 0 0,.int .i64 0,.int .i64 0,.int .i64 0,.bool false,.int .i64 0,.int .i64 0,.int .i64 0,.string ⟨#[]⟩,.string ⟨#[]⟩,.slice none 0 0,.int .i64 0,.int .i64 0,.int .i64 0,.int .i64 0,.int .i64 0,.int .i64 0,.int .i64 0,.int .i64 0,.int .i64 0,.string ⟨#[]⟩,.string ⟨#[]⟩,.slice none 0 0,.slice none 0 0] _ ?_ ?_) ?_);exact(cY).exts rp.zo ae;exact Ch.zo _;rintro r w' ⟨rfl,⟨x2,rfl⟩⟩;rw[h0]))|((with_reducible refine ag (gF e.name _ ?_ ?_) ?_);exact HG.zo.exts ae;exact T1.zo;rintro r w' ⟨rfl,⟨x3,rfl⟩⟩;rw[h1]))
    go_ret;exact⟨rfl,ae⟩
   |true=>
    cases h3:decide (1<=e.n)with
    |false=>
     have HF:=aa (show kP e=false by rw[JM.zo,h0,h1,h2,h3];rfl);rw[HF.zo];go_enter func31,ntmps31;go_wp2_with (first|((with_reducible refine ag (nW e _ _ ?_ hk) ?_);exact(cY).exts rp.zo ae;rintro r w' ⟨rfl,⟨x1,rfl⟩⟩)|(go_at_call 92;((with_reducible refine ag (mK e (jL e) _ [.int .i64 1,.string e.name,.string e.key,.int .i64 e.n,.string ⟨#[]⟩,.slice none 0 0,.slice none 0 0,.int .i64 0,.int .i64 0,.int .i64 0,.bool false,.int .i64 0,.int .i64 0,.int .i64 0,.string ⟨#[]⟩,.string ⟨#[]⟩,.slice none 0 0,.int .i64 0,.int .i64 0,.int .i64 0,.int .i64 0,.int .i64 0,.int .i64 0,.int .i64 0,.int .i64 0,.int .i64 0,.string ⟨#[]⟩,.string ⟨#[]⟩,.slice none 0 0,.slice none 0 0] _ ?_ ?_) ?_);exact(cY).exts rp.zo ae;exact Ch.zo _;rintro r w' ⟨rfl,⟨x2,rfl⟩⟩;rw[h0]))|((with_reducible refine ag (gF e.name _ ?_ ?_) ?_);exact HG.zo.exts ae;exact T1.zo;rintro r w' ⟨rfl,⟨x3,rfl⟩⟩;rw[h1]))
     go_ret;exact⟨rfl,ae⟩
    |true=>
     cases h4:decide (e.n<=1073741824)with
     |false=>
      have HF:=aa (show kP e=false by rw[JM.zo,h0,h1,h2,h3,h4];rfl);rw[HF.zo];go_enter func31,ntmps31;go_wp2_with (first|((with_reducible refine ag (nW e _ _ ?_ hk) ?_);exact(cY).exts rp.zo ae;rintro r w' ⟨rfl,⟨x1,rfl⟩⟩)|(go_at_call 92;((with_reducible refine ag (mK e (jL e) _ [.int .i64 1,.string e.name,.string e.key,.int .i64 e.n,.string ⟨#[]⟩,.slice none 0 0,.slice none 0 0,.int .i64 0,.int .i64 0,.int .i64 0,.bool false,.int .i64 0,.int .i64 0,.int .i64 0,.string ⟨#[]⟩,.string ⟨#[]⟩,.slice none 0 0,.int .i64 0,.int .i64 0,.int .i64 0,.int .i64 0,.int .i64 0,.int .i64 0,.int .i64 0,.int .i64 0,.int .i64 0,.string ⟨#[]⟩,.string ⟨#[]⟩,.slice none 0 0,.slice none 0 0] _ ?_ ?_) ?_);exact(cY).exts rp.zo ae;exact Ch.zo _;rintro r w' ⟨rfl,⟨x2,rfl⟩⟩;rw[h0]))|((with_reducible refine ag (gF e.name _ ?_ ?_) ?_);exact HG.zo.exts ae;exact T1.zo;rintro r w' ⟨rfl,⟨x3,rfl⟩⟩;rw[h1]))
      go_ret;exact⟨rfl,ae⟩
     |true=>
      have HF:=aa (show kP e=true by rw[JM.zo,h0,h1,h2,h3,h4];rfl);rw[HF.zo];go_enter func31,ntmps31;go_wp2_with (first|((with_reducible refine ag (nW e _ _ ?_ hk) ?_);exact(cY).exts rp.zo ae;rintro r w' ⟨rfl,⟨x1,rfl⟩⟩)|(go_at_call 92;((with_reducible refine ag (mK e (jL e) _ [.int .i64 1,.string e.name,.string e.key,.int .i64 e.n,.string ⟨#[]⟩,.slice none 0 0,.slice none 0 0,.int .i64 0,.int .i64 0,.int .i64 0,.bool false,.int .i64 0,.int .i64 0,.int .i64 0,.string ⟨#[]⟩,.string ⟨#[]⟩,.slice none 0 0,.int .i64 0,.int .i64 0,.int .i64 0,.int .i64 0,.int .i64 0,.int .i64 0,.int .i64 0,.int .i64 0,.int .i64 0,.string ⟨#[]⟩,.string ⟨#[]⟩,.slice none 0 0,.slice none 0 0] _ ?_ ?_) ?_);exact(cY).exts rp.zo ae;exact Ch.zo _;rintro r w' ⟨rfl,⟨x2,rfl⟩⟩;rw[h0]))|((with_reducible refine ag (gF e.name _ ?_ ?_) ?_);exact HG.zo.exts ae;exact T1.zo;rintro r w' ⟨rfl,⟨x3,rfl⟩⟩;rw[h1]))
      go_ret;exact⟨rfl,ae⟩
theorem OA(e:fN)(ds:zv)(w:World)(hg:Gl w)(h2:(cY).R w ds e)(hk:e.kind=5):Calls prog 31 #[.agg ds.toArray] w (cX (.bool (kP e)) w):=by
 have rp:=aa h2;have JM:=aa (Z5 hk);obtain⟨az,aA,aT,aU,aL,aM,dg,dh,bA,bC,rfl,t0,t1,t2,t3,t4,t5,t6,t7,t8,t9,t10,t11,t12,t13,t14,t15,t16,t17,uw,t19,t20⟩:=h2;rw[hk]at rp ⊢;have HG:=aa hg;have T0:=aa t0;have T1:=aa t1;have T2:=aa t2;have T3:=aa t3;have T4:=aa t4;have T5:=aa t5;have T6:=aa t6;have T7:=aa t7;have T8:=aa t8;have T9:=aa t9;have T10:=aa t10;have T11:=aa t11;have T12:=aa t12;have T13:=aa t13;have RN:=aa t14;have T15:=aa t15;have RO:=aa t16;have RP:=aa t17;have RQ:=aa uw;have V9:=aa t19;have UG:=aa t20;clear hg t0 t1 t2 t3 t4 t5 t6 t7 t8 t9 t10 t11 t12 t13 t14 t15 t16 t17 uw t19 t20;have Ch:Hid (∀w',(cY).R w' [.int .i64 5,.string e.name,.string e.key,.int .i64 e.n,.string ⟨#[]⟩,.slice none 0 0,.slice none 0 0,.int .i64 0,.int .i64 0,.int .i64 0,.bool false,.int .i64 0,.int .i64 0,.int .i64 0,.string ⟨#[]⟩,.string ⟨#[]⟩,.slice none 0 0,.int .i64 0,.int .i64 0,.int .i64 0,.int .i64 0,.int .i64 0,.int .i64 0,.int .i64 0,.int .i64 0,.int .i64 0,.string ⟨#[]⟩,.string ⟨#[]⟩,.slice none 0 0,.slice none 0 0] (jL e)):=aa fun w'=>by
  have i0:I64 0:=by constructor<;>omega
  have s0:gS ⟨#[]⟩:=by simp[gS,ByteArray.size]
  have hx:jL e={jL e with kind:=5}:=by unfold jL;rw[hk]
  rw[hx];have hki:I64 (5:Int):=by constructor<;>omega
  exact⟨_,_,_,_,_,_,_,_,_,_,rfl,hki,T1.zo,T2.zo,T3.zo,s0,Sl.nil _ _,Sl.nil _ _,i0,i0,i0,i0,⟨i0,i0,s0,s0,Sl.nil _ _⟩,i0,i0,i0,i0,i0,i0,i0,⟨i0,i0,s0,s0,Sl.nil _ _⟩,Sl.nil _ _⟩
 cases h0:kL e (jL e)with
 |false=>
  have HF:=aa (show kP e=false by rw[JM.zo,h0];rfl);rw[HF.zo];go_enter func31,ntmps31;go_wp2_with (first|((with_reducible refine ag (nX e _ _ ?_ hk) ?_);exact(cY).exts rp.zo ae;rintro r w' ⟨rfl,⟨x1,rfl⟩⟩)|(go_at_call 92;((with_reducible refine ag (mK e (jL e) _ [.int .i64 5,.string e.name,.string e.key,.int .i64 e.n,.string ⟨#[]⟩,.slice none 0 0,.slice none 0 0,.int .i64 0,.int .i64 0,.int .i64 0,.bool false,.int .i64 0,.int .i64 0,.int .i64 0,.string ⟨#[]⟩,.string ⟨#[]⟩,.slice none 0 0,.int .i64 0,.int .i64 0,.int .i64 0,.int .i64 0,.int .i64 0,.int .i64 0,.int .i64 0,.int .i64 0,.int .i64 0,.string ⟨#[]⟩,.string ⟨#[]⟩,.slice none 0 0,.slice none 0 0] _ ?_ ?_) ?_);exact(cY).exts rp.zo ae;exact Ch.zo _;rintro r w' ⟨rfl,⟨x2,rfl⟩⟩;rw[h0])))
  go_ret;exact⟨rfl,ae⟩
 |true=>
  cases h1:nameB e.name with
  |false=>
   have HF:=aa (show kP e=false by rw[JM.zo,h0,h1];rfl);rw[HF.zo];go_enter func31,ntmps31;go_wp2_with (first|((with_reducible refine ag (nX e _ _ ?_ hk) ?_);exact(cY).exts rp.zo ae;rintro r w' ⟨rfl,⟨x1,rfl⟩⟩)|(go_at_call 92;((with_reducible refine ag (mK e (jL e) _ [.int .i64 5,.string e.name,.string e.key,.int .i64 e.n,.string ⟨#[]⟩,.slice none 0 0,.slice none 0 0,.int .i64 0,.int .i64 0,.int .i64 0,.bool false,.int .i64 0,.int .i64 0,.int .i64 0,.string ⟨#[]⟩,.string ⟨#[]⟩,.slice none 0 0,.int .i64 0,.int .i64 0,.int .i64 0,.int .i64 0,.int .i64 0,.int .i64 0,.int .i64 0,.int .i64 0,.int .i64 0,.string ⟨#[]⟩,.string ⟨#[]⟩,.slice none 0 0,.slice none 0 0] _ ?_ ?_) ?_);exact(cY).exts rp.zo ae;exact Ch.zo _;rintro r w' ⟨rfl,⟨x2,rfl⟩⟩;rw[h0]))|((with_reducible refine ag (gF e.name _ ?_ ?_) ?_);exact HG.zo.exts ae;exact T1.zo;rintro r w' ⟨rfl,⟨x3,rfl⟩⟩;rw[h1]))
   go_ret;exact⟨rfl,ae⟩
  |true=>
   cases h2:(e.key.toList== [])with
   |false=>
    have HF:=aa (show kP e=false by rw[JM.zo,h0,h1,h2];rfl);rw[HF.zo];go_enter func31,ntmps31;go_wp2_with (first|((with_reducible refine ag (nX e _ _ ?_ hk) ?_);exact(cY).exts rp.zo ae;rintro r w' ⟨rfl,⟨x1,rfl⟩⟩)|(go_at_call 92;((with_reducible refine ag (mK e (jL e) _ [.int .i64 5,.string e.name,.string e.key,.int .i64 e.n,.string ⟨#[]⟩,.slice none 0 0,.slice none 0 0,.int .i64 0,.int .i64 0,.int .i64 0,.bool false,.int .i64 0,.int .i64 0,.int .i64 0,.string ⟨#[]⟩,.string ⟨#[]⟩,.slice none 0 0,.int .i64 0,.int .i64 0,.int .i64 0,.int .i64 0,.int .i64 0,.int .i64 0,.int .i64 0,.int .i64 0,.int .i64 0,.string ⟨#[]⟩,.string ⟨#[]⟩,.slice none 0 0,.slice none 0 0] _ ?_ ?_) ?_);exact(cY).exts rp.zo ae;exact Ch.zo _;rintro r w' ⟨rfl,⟨x2,rfl⟩⟩;rw[h0]))|((with_reducible refine ag (gF e.name _ ?_ ?_) ?_);exact HG.zo.exts ae;exact T1.zo;rintro r w' ⟨rfl,⟨x3,rfl⟩⟩;rw[h1]))
    go_ret;exact⟨rfl,ae⟩
   |true=>
    cases h3:decide (0<=e.n)with
    |false=>
     have HF:=aa (show kP e=false by rw[JM.zo,h0,h1,h2,h3];rfl);rw[HF.zo];go_enter func31,ntmps31;go_wp2_with (first|((with_reducible refine ag (nX e _ _ ?_ hk) ?_);exact(cY).exts rp.zo ae;rintro r w' ⟨rfl,⟨x1,rfl⟩⟩)|(go_at_call 92;((with_reducible refine ag (mK e (jL e) _ [.int .i64 5,.string e.name,.string e.key,.int .i64 e.n,.string ⟨#[]⟩,.slice none 0 0,.slice none 0 0,.int .i64 0,.int .i64 0,.int .i64 0,.bool false,.int .i64 0,.int .i64 0,.int .i64 0,.string ⟨#[]⟩,.string ⟨#[]⟩,.slice none 0 0,.int .i64 0,.int .i64 0,.int .i64 0,.int .i64 0,.int .i64 0,.int .i64 0,.int .i64 0,.int .i64 0,.int .i64 0,.string ⟨#[]⟩,.string ⟨#[]⟩,.slice none 0 0,.slice none 0 0] _ ?_ ?_) ?_);exact(cY).exts rp.zo ae;exact Ch.zo _;rintro r w' ⟨rfl,⟨x2,rfl⟩⟩;rw[h0]))|((with_reducible refine ag (gF e.name _ ?_ ?_) ?_);exact HG.zo.exts ae;exact T1.zo;rintro r w' ⟨rfl,⟨x3,rfl⟩⟩;rw[h1]))
     go_ret;exact⟨rfl,ae⟩
    |true=>
     cases h4:decide (e.n<=1099511627776)with
     |false=>
      have HF:=aa (show kP e=false by rw[JM.zo,h0,h1,h2,h3,h4];rfl);rw[HF.zo];go_enter func31,ntmps31;go_wp2_with (first|((with_reducible refine ag (nX e _ _ ?_ hk) ?_);exact(cY).exts rp.zo ae;rintro r w' ⟨rfl,⟨x1,rfl⟩⟩)|(go_at_call 92;((with_reducible refine ag (mK e (jL e) _ [.int .i64 5,.string e.name,.string e.key,.int .i64 e.n,.string ⟨#[]⟩,.slice none 0 0,.slice none 0 0,.int .i64 0,.int .i64 0,.int .i64 0,.bool false,.int .i64 0,.int .i64 0,.int .i64 0,.string ⟨#[]⟩,.string ⟨#[]⟩,.slice none 0 0,.int .i64 0,.int .i64 0,.int .i64 0,.int .i64 0,.int .i64 0,.int .i64 0,.int .i64 0,.int .i64 0,.int .i64 0,.string ⟨#[]⟩,.string ⟨#[]⟩,.slice none 0 0,.slice none 0 0] _ ?_ ?_) ?_);exact(cY).exts rp.zo ae;exact Ch.zo _;rintro r w' ⟨rfl,⟨x2,rfl⟩⟩;rw[h0]))|((with_reducible refine ag (gF e.name _ ?_ ?_) ?_);exact HG.zo.exts ae;exact T1.zo;rintro r w' ⟨rfl,⟨x3,rfl⟩⟩;rw[h1]))
      go_ret;exact⟨rfl,ae⟩
     |true=>
      have HF:=aa (show kP e=true by rw[JM.zo,h0,h1,h2,h3,h4];rfl);rw[HF.zo];go_enter func31,ntmps31;go_wp2_with (first|((with_reducible refine ag (nX e _ _ ?_ hk) ?_);exact(cY).exts rp.zo ae;rintro r w' ⟨rfl,⟨x1,rfl⟩⟩)|(go_at_call 92;((with_reducible refine ag (mK e (jL e) _ [.int .i64 5,.string e.name,.string e.key,.int .i64 e.n,.string ⟨#[]⟩,.slice none 0 0,.slice none 0 0,.int .i64 0,.int .i64 0,.int .i64 0,.bool false,.int .i64 0,.int .i64 0,.int .i64 0,.string ⟨#[]⟩,.string ⟨#[]⟩,.slice none 0 0,.int .i64 0,.int .i64 0,.int .i64 0,.int .i64 0,.int .i64 0,.int .i64 0,.int .i64 0,.int .i64 0,.int .i64 0,.string ⟨#[]⟩,.string ⟨#[]⟩,.slice none 0 0,.slice none 0 0] _ ?_ ?_) ?_);exact(cY).exts rp.zo ae;exact Ch.zo _;rintro r w' ⟨rfl,⟨x2,rfl⟩⟩;rw[h0]))|((with_reducible refine ag (gF e.name _ ?_ ?_) ?_);exact HG.zo.exts ae;exact T1.zo;rintro r w' ⟨rfl,⟨x3,rfl⟩⟩;rw[h1]))
      go_ret;exact⟨rfl,ae⟩
theorem Yo(r:Rule):II (ni r):=⟨by simp[ni],by simp[ni],by simp[ni],by simp[ni],by simp[ni],by simp[ni],by simp[ni],fun i t h=>by simp[ni]at h⟩
theorem OB(e:fN)(ds:zv)(w:World)(hg:Gl w)(h2:(cY).R w ds e)(hk:e.kind=0):Calls prog 31 #[.agg ds.toArray] w (cX (.bool (kP e)) w):=by
 have rp:=aa h2;have JM:=aa (Z6 hk);obtain⟨az,aA,aT,aU,aL,aM,dg,dh,bA,bC,rfl,t0,t1,t2,t3,t4,t5,t6,t7,t8,t9,t10,t11,t12,t13,t14,t15,t16,t17,uw,t19,t20⟩:=h2;rw[hk]at rp ⊢;have HG:=aa hg;clear hg t0 t1 t2 t3 t4 t5 t6 t7 t8 t9 t10 t11 t12 t13 t14 t15 t16 t17 uw t19 t20;cases hr:dP (ni e.rule)with
 |false=>
  have HF:=aa (show kP e=false by rw[JM.zo,hr];simp);rw[HF.zo];go_enter func31,ntmps31;go_wp2_with ((with_reducible refine ag (Ea e _ _ ?_ hk) ?_);exact(cY).exts rp.zo ae;rintro r V ⟨b,rc,rfl,hx1,hR1,hB1⟩;(have jZ:=aa hx1);(have HR1:=aa hR1);(have HB1:=aa hB1);clear hx1 hR1 hB1)
  refine bI ?_;intro U hU;have KN:U=V.alloc (.cells #[.slice none 0 0,.slice none 0 0,.slice none 0 0,.slice (some ⟨b,0,none⟩) 1 1,.slice none 0 0,.slice none 0 0,.slice none 0 0,.int .i64 0] 30):=hU;have xe:af V U:=by rw[KN];exact ae
  have hxw:af w V:=af.trans ae jZ.zo;have Yp:Bx V w.heap.size [.int .i64 0,.string e.name,.string e.key,.int .i64 e.n,.string e.rule.name,.slice az e.rule.zones.length aA,.slice aT e.rule.exc.length aU,.int .i64 e.rule.start,.int .i64 e.rule.stop,.int .i64 e.rule.bM,.bool e.rule.vary,.int .i64 e.rule.kind,.int .i64 e.rule.test.op,.int .i64 e.rule.test.num,.string e.rule.test.str,.string e.rule.test.key,.slice aL e.rule.test.args.length aM,.int .i64 e.rule.ah.side,.int .i64 e.rule.ah.base,.int .i64 e.rule.ah.num,.int .i64 e.rule.ah.den,.int .i64 e.rule.uses,.int .i64 e.rule.other,.int .i64 e.rule.n,.int .i64 e.body.op,.int .i64 e.body.num,.string e.body.str,.string e.body.key,.slice dg e.body.args.length dh,.slice bA e.corners.length bC] 55:=(Bx.new w [.int .i64 0,.string e.name,.string e.key,.int .i64 e.n,.string e.rule.name,.slice az e.rule.zones.length aA,.slice aT e.rule.exc.length aU,.int .i64 e.rule.start,.int .i64 e.rule.stop,.int .i64 e.rule.bM,.bool e.rule.vary,.int .i64 e.rule.kind,.int .i64 e.rule.test.op,.int .i64 e.rule.test.num,.string e.rule.test.str,.string e.rule.test.key,.slice aL e.rule.test.args.length aM,.int .i64 e.rule.ah.side,.int .i64 e.rule.ah.base,.int .i64 e.rule.ah.num,.int .i64 e.rule.ah.den,.int .i64 e.rule.uses,.int .i64 e.rule.other,.int .i64 e.rule.n,.int .i64 e.body.op,.int .i64 e.body.num,.string e.body.str,.string e.body.key,.slice dg e.body.args.length dh,.slice bA e.corners.length bC] 55).exts jZ.zo;have WH:=aa (Yp.exts xe);have WI:Hid (Bx U V.heap.size [.slice none 0 0,.slice none 0 0,.slice none 0 0,.slice (some ⟨b,0,none⟩) 1 1,.slice none 0 0,.slice none 0 0,.slice none 0 0,.int .i64 0] 30):=aa (by rw[KN];exact Bx.new V [.slice none 0 0,.slice none 0 0,.slice none 0 0,.slice (some ⟨b,0,none⟩) 1 1,.slice none 0 0,.slice none 0 0,.slice none 0 0,.int .i64 0] 30);have SH:∀wz,af U wz->(jf 55 ⟨w.heap.size,0,none⟩).run prog wz=.ok (.agg #[.int .i64 0,.string e.name,.string e.key,.int .i64 e.n,.string e.rule.name,.slice az e.rule.zones.length aA,.slice aT e.rule.exc.length aU,.int .i64 e.rule.start,.int .i64 e.rule.stop,.int .i64 e.rule.bM,.bool e.rule.vary,.int .i64 e.rule.kind,.int .i64 e.rule.test.op,.int .i64 e.rule.test.num,.string e.rule.test.str,.string e.rule.test.key,.slice aL e.rule.test.args.length aM,.int .i64 e.rule.ah.side,.int .i64 e.rule.ah.base,.int .i64 e.rule.ah.num,.int .i64 e.rule.ah.den,.int .i64 e.rule.uses,.int .i64 e.rule.other,.int .i64 e.rule.n,.int .i64 e.body.op,.int .i64 e.body.num,.string e.body.str,.string e.body.key,.slice dg e.body.args.length dh,.slice bA e.corners.length bC]) wz:=fun wz he=>LF (cs:= [.int .i64 0,.string e.name,.string e.key,.int .i64 e.n,.string e.rule.name,.slice az e.rule.zones.length aA,.slice aT e.rule.exc.length aU,.int .i64 e.rule.start,.int .i64 e.rule.stop,.int .i64 e.rule.bM,.bool e.rule.vary,.int .i64 e.rule.kind,.int .i64 e.rule.test.op,.int .i64 e.rule.test.num,.string e.rule.test.str,.string e.rule.test.key,.slice aL e.rule.test.args.length aM,.int .i64 e.rule.ah.side,.int .i64 e.rule.ah.base,.int .i64 e.rule.ah.num,.int .i64 e.rule.ah.den,.int .i64 e.rule.uses,.int .i64 e.rule.other,.int .i64 e.rule.n,.int .i64 e.body.op,.int .i64 e.body.num,.string e.body.str,.string e.body.key,.slice dg e.body.args.length dh,.slice bA e.corners.length bC]) rfl fun j u hu=>by rw[Nat.zero_add];exact((WH.zo.exts he).cell j).trans hu
  have SI:∀wz,af U wz->(jf 30 ⟨V.heap.size,0,none⟩).run prog wz=.ok (.agg #[.slice none 0 0,.slice none 0 0,.slice none 0 0,.slice (some ⟨b,0,none⟩) 1 1,.slice none 0 0,.slice none 0 0,.slice none 0 0,.int .i64 0]) wz:=fun wz he=>yz (cs:= [.slice none 0 0,.slice none 0 0,.slice none 0 0,.slice (some ⟨b,0,none⟩) 1 1,.slice none 0 0,.slice none 0 0,.slice none 0 0,.int .i64 0]) rfl fun j u hu=>by rw[Nat.zero_add];exact((WI.zo.exts he).cell j).trans hu
  have Yq:=aa (HG.zo.exts (hxw.trans xe));have HPU:=aa (RS ((aw).exts HR1.zo xe) (HB1.zo.exts xe));have Yr:=aa ((aw).exts HR1.zo xe);have HBU:=aa (HB1.zo.exts xe);have Zq:=aa ((cY).exts rp.zo (hxw.trans xe));have CV:=aa (hxw.trans xe);clear hU KN xe hxw Yp;refine b9 (S:=fun w'=> ∃y:Ex,w'=av U y) [] [([0],1),([2,3,5],4),([],6)] [] [7,8] (by kernel_rfl) (by kernel_rfl) (show af U _ from ae) ?_;try simp only[bX,pick,eh]
  refine wpQuiet_nil ?_;try change wpQuiet _ _ _ _ (_::_) _
  repeat (go_big_quiet_step (fail))
  refine wpQuiet_nil ?_;try change wpList _ _ _ (_::_) _ _
  go_wp2_with ((with_reducible refine ag (pI (ni e.rule) _ _ ?_ ?_ ?_) ?_);exact Yq.zo.exts ae;exact(bq).exts HPU.zo ae;exact Yo e.rule;rintro r w' ⟨rfl,⟨x2,rfl⟩⟩;rw[hr])
  refine dn (show af U _ from ae) ?_;try simp only[bX,pick,eh]
  try change wpQuiet _ _ _ _ (_::_) _
  repeat (go_big_quiet_step (fail))
  refine wpQuiet_nil ?_;try change wpList _ _ _ (_::_) _ _
  go_wp2_with fail
  refine dn (show af U _ from ae) ?_;try simp only[bX,pick,eh]
  refine wpQuiet_nil ?_;try change wpList _ _ _ (_::_) _ _
  go_wp2_with fail
  refine dn (show af U _ from ae) ?_;try simp only[bX,pick,eh]
  refine wpQuiet_nil ?_;try change wpList _ _ _ (_::_) _ _
  go_wp2_with fail
  refine cV ?_;go_wp2;go_ret;exact⟨rfl,CV.zo.trans ae⟩
 |true=>
  have HF:=aa (show kP e=kL (aj e.rule) e by rw[JM.zo,hr];simp);rw[HF.zo];go_enter func31,ntmps31;go_wp2_with ((with_reducible refine ag (Ea e _ _ ?_ hk) ?_);exact(cY).exts rp.zo ae;rintro r V ⟨b,rc,rfl,hx1,hR1,hB1⟩;(have jZ:=aa hx1);(have HR1:=aa hR1);(have HB1:=aa hB1);clear hx1 hR1 hB1)
  refine bI ?_;intro U hU;have KN:U=V.alloc (.cells #[.slice none 0 0,.slice none 0 0,.slice none 0 0,.slice (some ⟨b,0,none⟩) 1 1,.slice none 0 0,.slice none 0 0,.slice none 0 0,.int .i64 0] 30):=hU;have xe:af V U:=by rw[KN];exact ae
  have hxw:af w V:=af.trans ae jZ.zo;have Yp:Bx V w.heap.size [.int .i64 0,.string e.name,.string e.key,.int .i64 e.n,.string e.rule.name,.slice az e.rule.zones.length aA,.slice aT e.rule.exc.length aU,.int .i64 e.rule.start,.int .i64 e.rule.stop,.int .i64 e.rule.bM,.bool e.rule.vary,.int .i64 e.rule.kind,.int .i64 e.rule.test.op,.int .i64 e.rule.test.num,.string e.rule.test.str,.string e.rule.test.key,.slice aL e.rule.test.args.length aM,.int .i64 e.rule.ah.side,.int .i64 e.rule.ah.base,.int .i64 e.rule.ah.num,.int .i64 e.rule.ah.den,.int .i64 e.rule.uses,.int .i64 e.rule.other,.int .i64 e.rule.n,.int .i64 e.body.op,.int .i64 e.body.num,.string e.body.str,.string e.body.key,.slice dg e.body.args.length dh,.slice bA e.corners.length bC] 55:=(Bx.new w [.int .i64 0,.string e.name,.string e.key,.int .i64 e.n,.string e.rule.name,.slice az e.rule.zones.length aA,.slice aT e.rule.exc.length aU,.int .i64 e.rule.start,.int .i64 e.rule.stop,.int .i64 e.rule.bM,.bool e.rule.vary,.int .i64 e.rule.kind,.int .i64 e.rule.test.op,.int .i64 e.rule.test.num,.string e.rule.test.str,.string e.rule.test.key,.slice aL e.rule.test.args.length aM,.int .i64 e.rule.ah.side,.int .i64 e.rule.ah.base,.int .i64 e.rule.ah.num,.int .i64 e.rule.ah.den,.int .i64 e.rule.uses,.int .i64 e.rule.other,.int .i64 e.rule.n,.int .i64 e.body.op,.int .i64 e.body.num,.string e.body.str,.string e.body.key,.slice dg e.body.args.length dh,.slice bA e.corners.length bC] 55).exts jZ.zo;have WH:=aa (Yp.exts xe);have WI:Hid (Bx U V.heap.size [.slice none 0 0,.slice none 0 0,.slice none 0 0,.slice (some ⟨b,0,none⟩) 1 1,.slice none 0 0,.slice none 0 0,.slice none 0 0,.int .i64 0] 30):=aa (by rw[KN];exact Bx.new V [.slice none 0 0,.slice none 0 0,.slice none 0 0,.slice (some ⟨b,0,none⟩) 1 1,.slice none 0 0,.slice none 0 0,.slice none 0 0,.int .i64 0] 30);have SH:∀wz,af U wz->(jf 55 ⟨w.heap.size,0,none⟩).run prog wz=.ok (.agg #[.int .i64 0,.string e.name,.string e.key,.int .i64 e.n,.string e.rule.name,.slice az e.rule.zones.length aA,.slice aT e.rule.exc.length aU,.int .i64 e.rule.start,.int .i64 e.rule.stop,.int .i64 e.rule.bM,.bool e.rule.vary,.int .i64 e.rule.kind,.int .i64 e.rule.test.op,.int .i64 e.rule.test.num,.string e.rule.test.str,.string e.rule.test.key,.slice aL e.rule.test.args.length aM,.int .i64 e.rule.ah.side,.int .i64 e.rule.ah.base,.int .i64 e.rule.ah.num,.int .i64 e.rule.ah.den,.int .i64 e.rule.uses,.int .i64 e.rule.other,.int .i64 e.rule.n,.int .i64 e.body.op,.int .i64 e.body.num,.string e.body.str,.string e.body.key,.slice dg e.body.args.length dh,.slice bA e.corners.length bC]) wz:=fun wz he=>LF (cs:= [.int .i64 0,.string e.name,.string e.key,.int .i64 e.n,.string e.rule.name,.slice az e.rule.zones.length aA,.slice aT e.rule.exc.length aU,.int .i64 e.rule.start,.int .i64 e.rule.stop,.int .i64 e.rule.bM,.bool e.rule.vary,.int .i64 e.rule.kind,.int .i64 e.rule.test.op,.int .i64 e.rule.test.num,.string e.rule.test.str,.string e.rule.test.key,.slice aL e.rule.test.args.length aM,.int .i64 e.rule.ah.side,.int .i64 e.rule.ah.base,.int .i64 e.rule.ah.num,.int .i64 e.rule.ah.den,.int .i64 e.rule.uses,.int .i64 e.rule.other,.int .i64 e.rule.n,.int .i64 e.body.op,.int .i64 e.body.num,.string e.body.str,.string e.body.key,.slice dg e.body.args.length dh,.slice bA e.corners.length bC]) rfl fun j u hu=>by rw[Nat.zero_add];exact((WH.zo.exts he).cell j).trans hu
  have SI:∀wz,af U wz->(jf 30 ⟨V.heap.size,0,none⟩).run prog wz=.ok (.agg #[.slice none 0 0,.slice none 0 0,.slice none 0 0,.slice (some ⟨b,0,none⟩) 1 1,.slice none 0 0,.slice none 0 0,.slice none 0 0,.int .i64 0]) wz:=fun wz he=>yz (cs:= [.slice none 0 0,.slice none 0 0,.slice none 0 0,.slice (some ⟨b,0,none⟩) 1 1,.slice none 0 0,.slice none 0 0,.slice none 0 0,.int .i64 0]) rfl fun j u hu=>by rw[Nat.zero_add];exact((WI.zo.exts he).cell j).trans hu
  have Yq:=aa (HG.zo.exts (hxw.trans xe));have HPU:=aa (RS ((aw).exts HR1.zo xe) (HB1.zo.exts xe));have Yr:=aa ((aw).exts HR1.zo xe);have HBU:=aa (HB1.zo.exts xe);have Zq:=aa ((cY).exts rp.zo (hxw.trans xe));have CV:=aa (hxw.trans xe);clear hU KN xe hxw Yp;refine b9 (S:=fun w'=> ∃y:Ex,w'=av U y) [] [([0],1),([2,3,5],4),([],6)] [] [7,8] (by kernel_rfl) (by kernel_rfl) (show af U _ from ae) ?_;try simp only[bX,pick,eh]
  refine wpQuiet_nil ?_;try change wpQuiet _ _ _ _ (_::_) _
  repeat (go_big_quiet_step (fail))
  refine wpQuiet_nil ?_;try change wpList _ _ _ (_::_) _ _
  go_wp2_with ((with_reducible refine ag (pI (ni e.rule) _ _ ?_ ?_ ?_) ?_);exact Yq.zo.exts ae;exact(bq).exts HPU.zo ae;exact Yo e.rule;rintro r w' ⟨rfl,⟨x2,rfl⟩⟩;rw[hr])
  refine dn (show af U _ from ae) ?_;try simp only[bX,pick,eh]
  try change wpQuiet _ _ _ _ (_::_) _
  repeat (go_big_quiet_step (fail))
  refine wpQuiet_nil ?_;try change wpList _ _ _ (_::_) _ _
  go_wp2_with ((with_reducible refine ag (RT e.rule b rc _ ?_ ?_) ?_);exact(aw).exts Yr.zo ae;exact HBU.zo.exts ae;rintro r w' ⟨bc,rfl,⟨x3,rfl⟩,hbc⟩;(try simp only[bf,au,ai]at hbc);(have HBC:=aa hbc);clear hbc)
  refine dn (show af U _ from ae) ?_;try simp only[bX,pick,eh]
  refine wpQuiet_nil ?_;try change wpList _ _ _ (_::_) _ _
  go_wp2_with ((with_reducible refine ag (mK (aj e.rule) e _ _ _ ?_ ?_) ?_);exact(cY).exts HBC.zo ae;exact(cY).exts Zq.zo ae;rintro r w' ⟨rfl,⟨x4,rfl⟩⟩)
  refine dn (show af U _ from ae) ?_;try simp only[bX,pick,eh]
  refine wpQuiet_nil ?_;try change wpList _ _ _ (_::_) _ _
  go_wp2_with fail
  refine cV ?_;go_wp2;go_ret;exact⟨rfl,CV.zo.trans ae⟩
def yj:fN:=⟨1,⟨#[108,111,119]⟩,⟨#[]⟩,5,adt,.mk 0 0 ⟨#[]⟩ ⟨#[]⟩ [],[]⟩
def Dp:zv:= [.int .i64 1,.string ⟨#[108,111,119]⟩,.string ⟨#[]⟩,.int .i64 5,.string ⟨#[]⟩,.slice none 0 0,.slice none 0 0,.int .i64 0,.int .i64 0,.int .i64 0,.bool false,.int .i64 0,.int .i64 0,.int .i64 0,.string ⟨#[]⟩,.string ⟨#[]⟩,.slice none 0 0,.int .i64 0,.int .i64 0,.int .i64 0,.int .i64 0,.int .i64 0,.int .i64 0,.int .i64 0,.int .i64 0,.int .i64 0,.string ⟨#[]⟩,.string ⟨#[]⟩,.slice none 0 0,.slice none 0 0]
def KW:List Tok:= [⟨0,⟨#[101,110,100]⟩,0,0⟩,⟨0,⟨#[108,111,119]⟩,0,4⟩,⟨1,⟨#[53]⟩,5,8⟩,⟨2,⟨#[59]⟩,0,9⟩]
theorem aak(w:World):(cY).R w Dp yj:=by
 have i0:∀z:Int,0<=z->z<=100->I64 z:=fun z h1 h2=>⟨by omega,by omega⟩
 have z0:=i0 0 (by decide) (by decide);have s0:gS ⟨#[]⟩:=by simp[gS,ByteArray.size]
 exact⟨_,_,_,_,_,_,_,_,_,_,rfl,i0 1 (by decide) (by decide),(by simp[gS,yj,ByteArray.size]),s0,i0 5 (by decide) (by decide),s0,Sl.nil _ _,Sl.nil _ _,z0,z0,z0,z0,⟨z0,z0,s0,s0,Sl.nil _ _⟩,z0,z0,z0,z0,z0,z0,z0,⟨z0,z0,s0,s0,Sl.nil _ _⟩,Sl.nil _ _⟩
theorem FV{fn:Func}{p q:Tmp}{ty:TypeId}{a:Addr}{v x:Value}{tmps:Array Value}{P:Program}{w:World}(h:fn.results=#[.cell p ty,.tmp q])(hp:tmps.getD p undef=.pointer (some a))(hq:tmps.getD q undef=x)(hl:(loadVar ty a).run P w=.ok v w):(results fn tmps).run P w=.ok (.tuple #[v,x]) w:=by
 rw[results_cell_tmp h,hp,hq,show(asAddr (.pointer (some a))).run P w=.ok a w from rfl];show((loadVar ty a).run P w).andThen _=_;rw[hl];rfl
theorem KX(ao:Option Addr)(c:Nat)(w:World)(hg:Gl w)(h:Sl vR w ao 4 c KW):Calls prog 41 #[.slice ao 4 c] w (cX (.tuple #[.agg Dp.toArray,.int .i64 0]) w):=by
 have HG:=aa hg;obtain⟨b,off,rfl,lb,d00,d01,d02,d03,_⟩:=tC h (show KW[0]?=some ⟨0,⟨#[101,110,100]⟩,0,0⟩from rfl);obtain⟨b',off',hbb,_,d10,d11,d12,d13,_⟩:=tC h (show KW[1]?=some ⟨0,⟨#[108,111,119]⟩,0,4⟩from rfl);cases hbb;obtain⟨b',off',hbb,_,d20,d21,d22,d23,_⟩:=tC h (show KW[2]?=some ⟨1,⟨#[53]⟩,5,8⟩from rfl);cases hbb;have HB1:=aa (show∀w',On (fun x=>x=b) w w'->(jf 121 ⟨b,off+4,none⟩).run prog w'=.ok (.agg #[.int .i64 0,.string ⟨#[108,111,119]⟩,.int .i64 0,.int .i64 4]) w' from fun w' he=>by
  obtain⟨b',off',cs,hbb,_,⟨rfl,_⟩,hld⟩:=h.ld (show KW[1]?=some ⟨0,⟨#[108,111,119]⟩,0,4⟩from rfl);cases hbb;obtain⟨b',off',hbb,_,d10,d11,d12,d13,_⟩:=tC h (show KW[1]?=some ⟨0,⟨#[108,111,119]⟩,0,4⟩from rfl);cases hbb;refine YZ (cs:= [.int .i64 0,.string ⟨#[108,111,119]⟩,.int .i64 0,.int .i64 4]) rfl fun j u hu=> ?_
  match j,hu with
  |0,hu=>(cases hu;exact he.cell rfl d10)
  |1,hu=>(cases hu;exact he.cell rfl d11)
  |2,hu=>(cases hu;exact he.cell rfl d12)
  |3,hu=>(cases hu;exact he.cell rfl d13))
 have hc4:4<=c:=by
  obtain⟨_,xs,⟨_,zx,cap2,hv,h5,_⟩,_⟩:=h;cases hv;exact h5
 clear h;obtain⟨w0,hw0⟩:∃w0,(w.alloc (.cells #[.int .i64 0,.string ⟨#[]⟩,.string ⟨#[]⟩,.int .i64 0,.string ⟨#[]⟩,.slice none 0 0,.slice none 0 0,.int .i64 0,.int .i64 0,.int .i64 0,.bool false,.int .i64 0,.int .i64 0,.int .i64 0,.string ⟨#[]⟩,.string ⟨#[]⟩,.slice none 0 0,.int .i64 0,.int .i64 0,.int .i64 0,.int .i64 0,.int .i64 0,.int .i64 0,.int .i64 0,.int .i64 0,.int .i64 0,.string ⟨#[]⟩,.string ⟨#[]⟩,.slice none 0 0,.slice none 0 0] 55)).alloc (.map #[] 0)=w0:=⟨_,rfl⟩;have hm0:pd w0 9 (w.heap.size+1) 0 (fun _=>none):=by
  have:=pd.made (w.alloc (.cells #[.int .i64 0,.string ⟨#[]⟩,.string ⟨#[]⟩,.int .i64 0,.string ⟨#[]⟩,.slice none 0 0,.slice none 0 0,.int .i64 0,.int .i64 0,.int .i64 0,.bool false,.int .i64 0,.int .i64 0,.int .i64 0,.string ⟨#[]⟩,.string ⟨#[]⟩,.slice none 0 0,.int .i64 0,.int .i64 0,.int .i64 0,.int .i64 0,.int .i64 0,.int .i64 0,.int .i64 0,.int .i64 0,.int .i64 0,.string ⟨#[]⟩,.string ⟨#[]⟩,.slice none 0 0,.slice none 0 0] 55)) 9;rw[<-hw0];simpa using this
 have ky:∀s:ByteArray,s.size<=maxLen->keyOf prog 9 (.string s)=some (.string s.data.toList):=fun s hs=>WideMaps.keyOf_string_mk underlying9 hs
 obtain⟨w1,r1,hm1,g1⟩:=hm0.put mF underlying250 (by unfold maxLen;omega) (ky ⟨#[101,110,100]⟩ (by decide)) trivial 1 ⟨by decide,by decide⟩;obtain⟨w2,r2,hm2,g2⟩:=hm1.put mF underlying250 (by unfold maxLen;omega) (ky ⟨#[114,111,119]⟩ (by decide)) trivial 3 ⟨by decide,by decide⟩;obtain⟨w3,r3,UC,g3⟩:=hm2.put mF underlying250 (by unfold maxLen;omega) (ky ⟨#[108,105,109,105,116]⟩ (by decide)) trivial 5 ⟨by decide,by decide⟩;have lk:=UC.look mF underlying250 (ky ⟨#[101,110,100]⟩ (by decide)) trivial;have hv:(Dn (Dn (Dn (fun _=>none) (.string (ByteArray.data ⟨#[101,110,100]⟩).toList) 1) (.string (ByteArray.data ⟨#[114,111,119]⟩).toList) 3) (.string (ByteArray.data ⟨#[108,105,109,105,116]⟩).toList) 5) (.string (ByteArray.data ⟨#[101,110,100]⟩).toList)=some 1:=by
  rw[oV _ _ (fun h=>absurd (Lit.string.inj h) (by decide)),oV _ _ (fun h=>absurd (Lit.string.inj h) (by decide)),ug]
 rw[hv]at lk;have hon:On (fun b=>b≠w.heap.size+1) w0 w3:=(On.grown g1 (fun b hb h=>by cases hb;exact h rfl)).trans ((On.grown g2 (fun b hb h=>by cases hb;exact h rfl)).trans (On.grown g3 (fun b hb h=>by cases hb;exact h rfl)));have hx0:af w w0:=by rw[<-hw0];exact ae
 have Jh:=aa (On.trans (On.exts hx0) hon);have Ch:=aa ((show Bx w0 w.heap.size [.int .i64 0,.string ⟨#[]⟩,.string ⟨#[]⟩,.int .i64 0,.string ⟨#[]⟩,.slice none 0 0,.slice none 0 0,.int .i64 0,.int .i64 0,.int .i64 0,.bool false,.int .i64 0,.int .i64 0,.int .i64 0,.string ⟨#[]⟩,.string ⟨#[]⟩,.slice none 0 0,.int .i64 0,.int .i64 0,.int .i64 0,.int .i64 0,.int .i64 0,.int .i64 0,.int .i64 0,.int .i64 0,.int .i64 0,.string ⟨#[]⟩,.string ⟨#[]⟩,.slice none 0 0,.slice none 0 0] 55 by rw[<-hw0];exact(Bx.new w _ 55).exts ae).at hon (show w.heap.size≠w.heap.size+1 by omega));have hcell:∀i v,w.cell? ⟨b,i,none⟩=some v->w3.cell? ⟨b,i,none⟩=some v:=fun i v h=>Jh.zo.cell (show b≠w.heap.size+1 by omega) h
 replace d00:=hcell _ _ d00
 replace d01:=hcell _ _ d01
 replace d10:=hcell _ _ d10
 replace d11:=hcell _ _ d11
 replace d20:=hcell _ _ d20
 replace d22:=hcell _ _ d22
 simp only[Nat.zero_mul,Nat.one_mul,Nat.add_zero,show 2*4=8 from rfl]at d00 d01 d10 d11 d20 d22;have LM:=aa (show∀w',af w3 w'->(jf 121 ⟨b,off+4,none⟩).run prog w'=.ok (.agg #[.int .i64 0,.string ⟨#[108,111,119]⟩,.int .i64 0,.int .i64 4]) w' from fun w' he=>HB1.zo w' ((Jh.zo.mono fun x hx=>by rw[hx];omega).trans (On.exts he)));have Tl:=aa (show Gl w3 from by
  obtain⟨m,hm⟩:=HG.zo;have h2:2<w.heap.size:=bP hm;exact⟨m,Jh.zo.cell (show 2≠w.heap.size+1 by omega) hm⟩)
 have lb3:b<w3.heap.size:=bP d00;have lr3:w.heap.size<w3.heap.size:=Ch.zo.lt;have ir3:isRow w3 w.heap.size 30:=Ch.zo.row.1;have EM:=aa (show nameB ⟨#[108,111,119]⟩=true from by kernel_rfl);have e2:(Instr.makeMap 250 none).run prog (w.alloc (.cells #[.int .i64 0,.string ⟨#[]⟩,.string ⟨#[]⟩,.int .i64 0,.string ⟨#[]⟩,.slice none 0 0,.slice none 0 0,.int .i64 0,.int .i64 0,.int .i64 0,.bool false,.int .i64 0,.int .i64 0,.int .i64 0,.string ⟨#[]⟩,.string ⟨#[]⟩,.slice none 0 0,.int .i64 0,.int .i64 0,.int .i64 0,.int .i64 0,.int .i64 0,.int .i64 0,.int .i64 0,.int .i64 0,.int .i64 0,.string ⟨#[]⟩,.string ⟨#[]⟩,.slice none 0 0,.slice none 0 0] 55))=.ok (.map (some (w.heap.size+1))) w0:=by
  rw[<-hw0,@run_makeMap prog];simp
 have HX:=aa (Jh.zo);clear hg hw0 hm0 hm1 hm2 UC g1 g2 g3 hv hon hx0 hcell ky d02 d03 d12 d13 d21 d23;go_enter func41,ntmps41;have hl1:=LM.zo;go_wp2_with (first|(refine wp_loop_rounds 2 ?_;rw[rounds_succ])|(rw[rounds_succ])|((with_reducible refine ag (gF _ _ ?_ ?_) ?_);exact Tl.zo.exts ae;simp[gS,ByteArray.size];rintro e w' ⟨rfl,⟨y1,rfl⟩⟩;rw[EM.zo]))
 go_region
 (try go_frame)
 go_wp2;have hs:=Ch.zo.setRow Dp;have SH:∀w',af (w3.setRow w.heap.size Dp.toArray) w'->(jf 55 ⟨w.heap.size,0,none⟩).run prog w'=.ok (.agg Dp.toArray) w':=fun w' he=>LF rfl fun j u hu=>by rw[Nat.zero_add];exact((hs.exts he).cell j).trans hu
 have afU:On (fun b=>b<w.heap.size) w (w3.setRow w.heap.size Dp.toArray):=(Jh.zo.mono fun b hb=>by omega).trans ((On.setRow _ _ _).mono fun b hb=>by omega);have hx2:af w (w3.setRow w.heap.size Dp.toArray):=af.of_below (afU.below (fun b hb=>hb) (Nat.le_refl _));exact bodyPost_ret (v:=.tuple #[.agg Dp.toArray,.int .i64 0]) (FV rfl rfl rfl (SH _ ae)) rfl ⟨rfl,hx2.trans ae⟩
theorem jX{w:World}{b off n c i:Nat}{l:List Tok}{d:Tok}(h:Sl vR w (some ⟨b,off,none⟩) n c l)(hd:l[i]?=some d){o:Nat}(ho:off+i*4=o):∀w',af w w'->(jf 121 ⟨b,o,none⟩).run prog w'=.ok (.agg #[.int .i64 d.kind,.string d.text,.int .i64 d.n,.int .i64 d.pos]) w':=fun w' he=>by
 obtain⟨b',off',cs,hb,_,⟨rfl,_⟩,hld⟩:=h.ld hd;cases hb;rw[<-ho];exact hld w' he
theorem FW{w:World}{b off n c i:Nat}{l:List Tok}{d:Tok}(h:Sl vR w (some ⟨b,off,none⟩) n c l)(hd:l[i]?=some d):b<w.heap.size/\w.cell? ⟨b,off+i*4+1,none⟩=some (.string d.text)/\w.cell? ⟨b,off+i*4+3,none⟩=some (.int .i64 d.pos):=by
 obtain⟨b',off',hb,lb,_,c1,_,c3,_⟩:=tC h hd;cases hb;exact⟨lb,c1,c3⟩
def Tn:Lay Value:=⟨1,fun _ cs d=>cs= [d]/\d.oneCell'=true,fun h=>by rw[h.1];rfl,fun h _=>h,fun h=>by rw[h.1];simpa using h.2⟩
theorem Tp:(prog.info? 107).map (fun i=>(i.zero,i.size,i.bytes))=some (some (.slice none 0 0),1,24):=by kernel_rfl
theorem Tq{D:Nat->Prop}{w:World}{d:Value}(h:d.oneCell'=true):jg D w Tn [d] d:=fun _ _=>⟨rfl,h⟩
def ak:Rule:=zQ ⟨#[109,111,114,101]⟩ 5 ⟨0,⟨#[104,101,105,103,104,116]⟩,0,19⟩ ⟨1,⟨#[49,50]⟩,12,29⟩
def xi:fN:=aj ak
theorem bL.wide{T:Type}{D D':Nat->Prop}{L:Lay T}{base:Nat}{e:TypeId}{w:World}{v:Value}{l:List T}(h:bL D L base e w v l)(hd:∀b,D b->D' b):bL D' L base e w v l:=by
 obtain⟨xs,h1,h2⟩:=h;exact⟨xs,h1,fun i d hi=>(h2 i d hi).mono fun b hb=>⟨hd b hb.1,hb.2⟩⟩
theorem WU(w:World)(hg:Gl w)(hsg:qA w):Calls prog 16 #[.string OM] w fun e w'=> ∃ao c,e=.returned (.tuple #[.slice ao 2 c,.int .i64 0])/\af w w'/\Sl cY w' ao 2 c [yj,xi]:=by
 obtain⟨i0,hi,hz0,hz1,hz2⟩:=info_parts Tp;obtain⟨i1,hi1,hy0,hy1,hy2⟩:=info_parts M0;have HG:=aa hg;have za:=aa hsg;clear hg hsg;go_enter func16,ntmps16;go_wp2_with fail
 with_reducible refine ag (SQ OM T2 _ (by decide) ?_ afR) ?_
 ·exact za.zo.exts ae
 rintro e V ⟨ao,c,rfl,hx,hsl⟩;rw[show T2.length=14 from rfl]at hsl ⊢;obtain⟨tb,off,_,hao,lb,_⟩:=hsl.ld (show T2[0]?=some ⟨0,⟨#[101,110,100]⟩,0,0⟩from rfl);subst hao;have HSL:=aa hsl;have HX:=aa hx;have ahT:14<=c:=by
  obtain⟨_,xs,⟨_,zx,cap2,hv,h5,_⟩,_⟩:=hsl;cases hv;exact h5
 clear hx hsl;have r0:=fun(wz:World)(he:af V wz)=>jX HSL.zo (show T2[0]?=some ⟨0,⟨#[101,110,100]⟩,0,0⟩from rfl) (o:=off) (by omega) wz (he)
 have r1:=fun(wz:World)(he:af V wz)=>jX HSL.zo (show T2[1]?=some ⟨0,⟨#[108,111,119]⟩,0,4⟩from rfl) (o:=off+4) (by omega) wz (he)
 have r2:=fun(wz:World)(he:af V wz)=>jX HSL.zo (show T2[2]?=some ⟨1,⟨#[53]⟩,5,8⟩from rfl) (o:=off+8) (by omega) wz (he)
 have r3:=fun(wz:World)(he:af V wz)=>jX HSL.zo (show T2[3]?=some ⟨2,⟨#[59]⟩,0,9⟩from rfl) (o:=off+12) (by omega) wz (he)
 have HO0:=aa (bL.nil (fun b=>V.heap.size<=b) Tn V.heap.size 107 V);go_wp2_with fail
 refine wp_loop_rounds 15 ?_;rw[rounds_succ];go_wp2_with (first|(rw[rounds_succ])|(at_builtin;refine fA rfl (.tmp 41) (.tmp 47) 119 rfl i0 _ 24 underlying119 hi hz0 hz1 hz2 rfl (by decide) (L:=Tn) (l:= []) (d:=.slice (some ⟨tb,off,none⟩) 4 c) rfl rfl (HO0.zo.exts ae) _ 1 rfl (Tq rfl) (jw (by simp[go_sem])) (by omega) (by decide) (by simp<;>omega) ?_;intro g1 c1 w1 hown hgrow;(have lv:=aa hown);(have jZ:=aa (aF (W:=V) (ae) hgrow (fun b hb=>(HO0.zo.lt hb).1)));clear hown hgrow))
 clear r0 r1 r2 r3;have hs1:V.heap.size<=w1.heap.size:=jZ.zo.below.size;have r4:=fun(wz:World)(he:af w1 wz)=>jX HSL.zo (show T2[4]?=some ⟨0,⟨#[114,117,108,101]⟩,0,11⟩from rfl) (o:=off+16) (by omega) wz (jZ.zo.trans he)
 have r5:=fun(wz:World)(he:af w1 wz)=>jX HSL.zo (show T2[5]?=some ⟨0,⟨#[109,111,114,101]⟩,0,16⟩from rfl) (o:=off+20) (by omega) wz (jZ.zo.trans he)
 have r6:=fun(wz:World)(he:af w1 wz)=>jX HSL.zo (show T2[6]?=some ⟨0,⟨#[102,114,111,109]⟩,0,21⟩from rfl) (o:=off+24) (by omega) wz (jZ.zo.trans he)
 have r7:=fun(wz:World)(he:af w1 wz)=>jX HSL.zo (show T2[7]?=some ⟨1,⟨#[53]⟩,5,26⟩from rfl) (o:=off+28) (by omega) wz (jZ.zo.trans he)
 have r8:=fun(wz:World)(he:af w1 wz)=>jX HSL.zo (show T2[8]?=some ⟨2,⟨#[58]⟩,0,28⟩from rfl) (o:=off+32) (by omega) wz (jZ.zo.trans he)
 have r9:=fun(wz:World)(he:af w1 wz)=>jX HSL.zo (show T2[9]?=some ⟨0,⟨#[104,101,105,103,104,116]⟩,0,30⟩from rfl) (o:=off+36) (by omega) wz (jZ.zo.trans he)
 have r10:=fun(wz:World)(he:af w1 wz)=>jX HSL.zo (show T2[10]?=some ⟨2,⟨#[60,61]⟩,0,37⟩from rfl) (o:=off+40) (by omega) wz (jZ.zo.trans he)
 have r11:=fun(wz:World)(he:af w1 wz)=>jX HSL.zo (show T2[11]?=some ⟨1,⟨#[49,50]⟩,12,40⟩from rfl) (o:=off+44) (by omega) wz (jZ.zo.trans he)
 have r12:=fun(wz:World)(he:af w1 wz)=>jX HSL.zo (show T2[12]?=some ⟨2,⟨#[59]⟩,0,42⟩from rfl) (o:=off+48) (by omega) wz (jZ.zo.trans he)
 go_wp2_with (first|(rw[rounds_succ])|(at_builtin;refine fA rfl (.tmp 41) (.tmp 47) 119 rfl i0 _ 24 underlying119 hi hz0 hz1 hz2 rfl (by decide) (L:=Tn) (l:= [.slice (some ⟨tb,off,none⟩) 4 c]) (d:=.slice (some ⟨tb,off+16,none⟩) 9 (c - 4)) rfl rfl (lv.zo.exts ae) _ 1 rfl (Tq rfl) (jw (by simp[go_sem])) (by omega) (by decide) (by simp<;>omega) ?_;intro g2 c2 w2 hown hgrow;(have jY:=aa hown);(have gm:=aa (aF (W:=V) (jZ.zo.trans ae) hgrow (fun b hb=>(lv.zo.lt hb).1)));clear hown hgrow))
 clear r4 r5 r6 r7 r8 r9 r10 r11 r12;have r13:=fun(wz:World)(he:af w2 wz)=>jX HSL.zo (show T2[13]?=some ⟨3,⟨#[]⟩,0,43⟩from rfl) (o:=off+52) (by omega) wz (gm.zo.trans he)
 go_wp2_with (rw[rounds_succ])
 have hs2:V.heap.size<=w2.heap.size:=gm.zo.below.size;have hsl2:=jY.zo.sl rfl;obtain⟨gb,go,cs0,hgb,lg,⟨rfl,_⟩,hp0⟩:=hsl2.at (show([.slice (some ⟨tb,off,none⟩) 4 c,.slice (some ⟨tb,off+16,none⟩) 9 (c - 4)]:zv)[0]?=some (.slice (some ⟨tb,off,none⟩) 4 c)from rfl);cases hgb;obtain⟨gb',go',cs1,hgb,_,⟨rfl,_⟩,hp1⟩:=hsl2.at (show([.slice (some ⟨tb,off,none⟩) 4 c,.slice (some ⟨tb,off+16,none⟩) 9 (c - 4)]:zv)[1]?=some (.slice (some ⟨tb,off+16,none⟩) 9 (c - 4))from rfl);cases hgb;have pc0:=hp0 0 _ rfl;have pc1:=hp1 0 _ rfl;simp only[Tn,Nat.zero_mul,Nat.one_mul,Nat.add_zero,Nat.zero_add]at pc0 pc1;obtain⟨ltb,tc0,_⟩:=FW (HSL.zo.exts gm.zo) (show T2[0]?=some ⟨0,⟨#[101,110,100]⟩,0,0⟩from rfl);obtain⟨_,tc4,tp4⟩:=FW (HSL.zo.exts gm.zo) (show T2[4]?=some ⟨0,⟨#[114,117,108,101]⟩,0,11⟩from rfl);obtain⟨_,_,OO⟩:=FW (HSL.zo.exts gm.zo) (show T2[12]?=some ⟨2,⟨#[59]⟩,0,42⟩from rfl);simp only[Nat.zero_mul,Nat.add_zero,show 4*4=16 from rfl,show 12*4=48 from rfl,Nat.add_assoc]at tc0 tc4 tp4 OO;have HST:=aa (show Sl vR w2 (some ⟨tb,off,none⟩) 4 c KW from(HSL.zo.exts gm.zo).take (show 4<=14 by decide));have adJ:=aa (HG.zo.exts (HX.zo.trans gm.zo));clear hsl2 hp0 hp1 r13;refine wp_loop_rounds 3 ?_;rw[rounds_succ];go_wp2_with (first|((with_reducible refine ag (KX (some ⟨tb,off,none⟩) c _ ?_ ?_) ?_);exact adJ.zo.exts ae;exact HST.zo.exts ae;rintro e w' ⟨rfl,⟨x3,rfl⟩⟩;simp only[Dp])|(at_builtin;refine fA rfl (.tmp 109) (.tmp 111) 41 rfl i1 _ 376 underlying41 hi1 hy0 hy1 hy2 rfl (by decide) (L:=cY) (l:= []) (d:=yj) (cs:=Dp) rfl rfl ((bL.nil (fun _=>False) cY V.heap.size 55 V).exts (gm.zo.trans ae)) _ 1 rfl (fun wz _=>aak wz) (fun j u hu=>(Bx.mv rfl (by simp)).news j u hu) (by omega) (by decide) (by simp<;>omega) ?_;intro g4 c4 w4 hown hgrow;(have Hh:=aa hown);(have nv:=aa (aF (W:=w2) ae hgrow (fun b hb=>by cases hb)));clear hown hgrow))
 replace pc1:=nv.zo.cell pc1
 replace tc4:=nv.zo.cell tc4
 replace tp4:=nv.zo.cell tp4
 replace OO:=nv.zo.cell OO
 have lg4:=bP pc1;have lt4:=bP tc4;rw[rounds_succ];go_wp2_with fail
 refine bI ?_;intro U hU;have KN:U=(w4.alloc (.cells #[.int .i64 0,.string ⟨#[]⟩,.string ⟨#[]⟩,.int .i64 0,.string ⟨#[]⟩,.slice none 0 0,.slice none 0 0,.int .i64 0,.int .i64 0,.int .i64 0,.bool false,.int .i64 0,.int .i64 0,.int .i64 0,.string ⟨#[]⟩,.string ⟨#[]⟩,.slice none 0 0,.int .i64 0,.int .i64 0,.int .i64 0,.int .i64 0,.int .i64 0,.int .i64 0,.int .i64 0,.int .i64 0,.int .i64 0,.string ⟨#[]⟩,.string ⟨#[]⟩,.slice none 0 0,.slice none 0 0] 55)).alloc (.cells #[.slice none 0 0,.slice none 0 0,.slice none 0 0,.slice none 0 0,.slice none 0 0,.slice none 0 0,.slice none 0 0,.int .i64 0] 30):=hU;have hxU:af w4 U:=by rw[KN];exact ae
 have Yp:Bx U w4.heap.size [.int .i64 0,.string ⟨#[]⟩,.string ⟨#[]⟩,.int .i64 0,.string ⟨#[]⟩,.slice none 0 0,.slice none 0 0,.int .i64 0,.int .i64 0,.int .i64 0,.bool false,.int .i64 0,.int .i64 0,.int .i64 0,.string ⟨#[]⟩,.string ⟨#[]⟩,.slice none 0 0,.int .i64 0,.int .i64 0,.int .i64 0,.int .i64 0,.int .i64 0,.int .i64 0,.int .i64 0,.int .i64 0,.int .i64 0,.string ⟨#[]⟩,.string ⟨#[]⟩,.slice none 0 0,.slice none 0 0] 55:=by rw[KN];exact(Bx.new w4 _ 55).exts ae
 have hBP:Bx U (w4.heap.size+1) [.slice none 0 0,.slice none 0 0,.slice none 0 0,.slice none 0 0,.slice none 0 0,.slice none 0 0,.slice none 0 0,.int .i64 0] 30:=by
  have h0:=Bx.new (w4.alloc (.cells #[.int .i64 0,.string ⟨#[]⟩,.string ⟨#[]⟩,.int .i64 0,.string ⟨#[]⟩,.slice none 0 0,.slice none 0 0,.int .i64 0,.int .i64 0,.int .i64 0,.bool false,.int .i64 0,.int .i64 0,.int .i64 0,.string ⟨#[]⟩,.string ⟨#[]⟩,.slice none 0 0,.int .i64 0,.int .i64 0,.int .i64 0,.int .i64 0,.int .i64 0,.int .i64 0,.int .i64 0,.int .i64 0,.int .i64 0,.string ⟨#[]⟩,.string ⟨#[]⟩,.slice none 0 0,.slice none 0 0] 55)) [.slice none 0 0,.slice none 0 0,.slice none 0 0,.slice none 0 0,.slice none 0 0,.slice none 0 0,.slice none 0 0,.int .i64 0] 30;rw[show(w4.alloc (.cells #[.int .i64 0,.string ⟨#[]⟩,.string ⟨#[]⟩,.int .i64 0,.string ⟨#[]⟩,.slice none 0 0,.slice none 0 0,.int .i64 0,.int .i64 0,.int .i64 0,.bool false,.int .i64 0,.int .i64 0,.int .i64 0,.string ⟨#[]⟩,.string ⟨#[]⟩,.slice none 0 0,.int .i64 0,.int .i64 0,.int .i64 0,.int .i64 0,.int .i64 0,.int .i64 0,.int .i64 0,.int .i64 0,.int .i64 0,.string ⟨#[]⟩,.string ⟨#[]⟩,.slice none 0 0,.slice none 0 0] 55)).heap.size=w4.heap.size+1 by simp]at h0;rw[KN];exact h0
 replace tp4:=hxU.cell tp4
 replace OO:=hxU.cell OO
 have WH:=aa Yp;have WI:=aa hBP;have CV:=aa hxU;have lu4:w4.heap.size+1<U.heap.size:=hBP.lt;have e4:∀y:Yv (fun b=>b≠w4.heap.size+1) U,y.w.cell? ⟨tb,off+(16+3),none⟩=some (.int .i64 11):=fun y=>y.on.cell (show tb≠w4.heap.size+1 by omega) tp4
 have e12:∀y:Yv (fun b=>b≠w4.heap.size+1) U,y.w.cell? ⟨tb,off+(48+3),none⟩=some (.int .i64 42):=fun y=>y.on.cell (show tb≠w4.heap.size+1 by omega) OO
 have Yq:=aa (adJ.zo.exts (nv.zo.trans hxU));have XX:=aa (za.zo.exts (HX.zo.trans (gm.zo.trans (nv.zo.trans hxU))));have ht2:OM.size=43:=by decide
 have hx3:OM.extract 11 43=Tg:=by decide
 clear hU KN hxU Yp hBP;refine b9 (S:=fun w'=> ∃y:Yv (fun b=>b≠w4.heap.size+1) U,w'=y.w) [0,1,2,3,5,6] [([4],7),([8,9,10,11,12,13],14),([15,16,17,18],19)] [] [20] (by kernel_rfl) (by kernel_rfl) ⟨⟨_,On.exts ae⟩,rfl⟩ ?_;try simp only[bX,pick,eh]
 try change wpQuiet _ _ _ _ (_::_) _
 repeat (go_big_quiet_step (fail))
 refine wpQuiet_nil ?_;try change wpQuiet _ _ _ _ (_::_) _
 repeat (go_big_quiet_step (fail))
 refine wpQuiet_nil ?_;try change wpList _ _ _ (_::_) _ _
 go_wp2_with fail
 refine dn ⟨⟨_,On.exts ae⟩,rfl⟩ ?_;try simp only[bX,pick,eh]
 try change wpQuiet _ _ _ _ (_::_) _
 repeat (go_big_quiet_step (fail))
 refine wpQuiet_nil ?_;try change wpList _ _ _ (_::_) _ _
 go_wp2_with fail
 with_reducible refine ag (Jm _ ?_ ?_) ?_
 ·exact Yq.zo.exts ae
 ·exact XX.zo.exts ae
 rintro e w' ⟨pcs,rfl,hx5,hpl,g5,c5,hcs,hg5⟩;subst hcs;replace hpl:jg (fun b=>U.drew.heap.size<=b) w' bq [.slice none 0 0,.slice none 0 0,.slice none 0 0,.slice (some ⟨g5,0,none⟩) 1 c5,.slice none 0 0,.slice none 0 0,.slice none 0 0,.int .i64 0] ⟨[],[],[],[ak],[],[],[],0⟩:=hpl
 obtain⟨w5,hw5⟩:∃w5,w'=w5:=⟨_,rfl⟩;subst hw5;have WV:af U w':=af.trans ae hx5;have HPL:=aa hpl;have CG:=aa WV;have Tf:=aa (WH.zo.exts WV);have aam:=aa (WI.zo.exts WV);have lp5:w4.heap.size+1<w'.heap.size:=aam.zo.lt;have ip5:isRow w' (w4.heap.size+1) 8:=aam.zo.row.1;clear hpl hx5 WV e4 e12;go_wp2;refine dn ⟨⟨_,On.exts CG.zo⟩,rfl⟩ ?_;try simp only[bX,pick,eh]
 try change wpQuiet _ _ _ _ (_::_) _
 repeat (go_big_quiet_step (fail))
 refine wpQuiet_nil ?_;try change wpList _ _ _ (_::_) _ _
 go_wp2_with fail
 have hrow:=aam.zo.setRow [.slice none 0 0,.slice none 0 0,.slice none 0 0,.slice (some ⟨g5,0,none⟩) 1 c5,.slice none 0 0,.slice none 0 0,.slice none 0 0,.int .i64 0];have Dm:=On.setRow w' (w4.heap.size+1) #[.slice none 0 0,.slice none 0 0,.slice none 0 0,.slice (some ⟨g5,0,none⟩) 1 c5,.slice none 0 0,.slice none 0 0,.slice none 0 0,.int .i64 0];have YA:=HPL.zo.at (w1:=w'.setRow (w4.heap.size+1) #[.slice none 0 0,.slice none 0 0,.slice none 0 0,.slice (some ⟨g5,0,none⟩) 1 c5,.slice none 0 0,.slice none 0 0,.slice none 0 0,.int .i64 0]) (Dm.mono fun b hb=>by simp at hb;omega);have aan:=(On.exts (D:=fun b=>b≠w4.heap.size+1) CG.zo).trans Dm;generalize w'.setRow (w4.heap.size+1) #[.slice none 0 0,.slice none 0 0,.slice none 0 0,.slice (some ⟨g5,0,none⟩) 1 c5,.slice none 0 0,.slice none 0 0,.slice none 0 0,.int .i64 0]=W6 at*;refine dn ⟨⟨_,aan⟩,rfl⟩ ?_;try simp only[bX,pick,eh]
 refine wpQuiet_nil ?_;try change wpList _ _ _ (_::_) _ _
 have SI:∀wz,af W6 wz->(jf 30 ⟨w4.heap.size+1,0,none⟩).run prog wz=.ok (.agg #[.slice none 0 0,.slice none 0 0,.slice none 0 0,.slice (some ⟨g5,0,none⟩) 1 c5,.slice none 0 0,.slice none 0 0,.slice none 0 0,.int .i64 0]) wz:=fun wz he=>yz rfl fun j u hu=>by rw[Nat.zero_add];exact((hrow.exts he).cell j).trans hu
 have aao:=aa (Tf.zo.at Dm (show w4.heap.size≠w4.heap.size+1 by omega));have HD6:=aa YA;have ie6:isRow W6 w4.heap.size 30:=aao.zo.row.1;have le6:w4.heap.size<W6.heap.size:=aao.zo.lt;have afV:=aa aan;have HR6:Hid (KV= [ak]):=aa rfl;clear hrow Dm YA aan;go_wp2;refine cV ?_;go_wp2_with fail
 with_reducible refine ag (Tm ak g5 c5 W6 (fun b=>U.drew.heap.size<=b) HD6.zo hg5) ?_
 rintro e w8 ⟨cs8,rfl,hx8,hd8⟩;have afW:=hd8.r;obtain⟨az,aA,aT,aU,aL,aM,dg,dh,bA,bC,rfl,_⟩:=afW;have HD8:=aa hd8;have HX8:=aa hx8;have aap:=aa (aao.zo.exts hx8);have ie8:isRow w8 w4.heap.size 30:=aap.zo.row.1;have le8:w4.heap.size<w8.heap.size:=aap.zo.lt;clear hd8 hx8;go_wp2;have hsd:U.drew.heap.size=U.heap.size:=by simp
 have hl4:g4<w4.heap.size:=(Hh.zo.lt rfl).2;have YB:=aap.zo.setRow [.int .i64 (aj ak).kind,.string (aj ak).name,.string (aj ak).key,.int .i64 (aj ak).n,.string (aj ak).rule.name,.slice az (aj ak).rule.zones.length aA,.slice aT (aj ak).rule.exc.length aU,.int .i64 (aj ak).rule.start,.int .i64 (aj ak).rule.stop,.int .i64 (aj ak).rule.bM,.bool (aj ak).rule.vary,.int .i64 (aj ak).rule.kind,.int .i64 (aj ak).rule.test.op,.int .i64 (aj ak).rule.test.num,.string (aj ak).rule.test.str,.string (aj ak).rule.test.key,.slice aL (aj ak).rule.test.args.length aM,.int .i64 (aj ak).rule.ah.side,.int .i64 (aj ak).rule.ah.base,.int .i64 (aj ak).rule.ah.num,.int .i64 (aj ak).rule.ah.den,.int .i64 (aj ak).rule.uses,.int .i64 (aj ak).rule.other,.int .i64 (aj ak).rule.n,.int .i64 (aj ak).body.op,.int .i64 (aj ak).body.num,.string (aj ak).body.str,.string (aj ak).body.key,.slice dg (aj ak).body.args.length dh,.slice bA (aj ak).corners.length bC];have aaq:=On.setRow w8 w4.heap.size #[.int .i64 (aj ak).kind,.string (aj ak).name,.string (aj ak).key,.int .i64 (aj ak).n,.string (aj ak).rule.name,.slice az (aj ak).rule.zones.length aA,.slice aT (aj ak).rule.exc.length aU,.int .i64 (aj ak).rule.start,.int .i64 (aj ak).rule.stop,.int .i64 (aj ak).rule.bM,.bool (aj ak).rule.vary,.int .i64 (aj ak).rule.kind,.int .i64 (aj ak).rule.test.op,.int .i64 (aj ak).rule.test.num,.string (aj ak).rule.test.str,.string (aj ak).rule.test.key,.slice aL (aj ak).rule.test.args.length aM,.int .i64 (aj ak).rule.ah.side,.int .i64 (aj ak).rule.ah.base,.int .i64 (aj ak).rule.ah.num,.int .i64 (aj ak).rule.ah.den,.int .i64 (aj ak).rule.uses,.int .i64 (aj ak).rule.other,.int .i64 (aj ak).rule.n,.int .i64 (aj ak).body.op,.int .i64 (aj ak).body.num,.string (aj ak).body.str,.string (aj ak).body.key,.slice dg (aj ak).body.args.length dh,.slice bA (aj ak).corners.length bC];have YC:=HD8.zo.at (aaq.mono fun b hb=>by omega);have Ms:On (fun b=>b≠w4.heap.size/\b≠w4.heap.size+1) U (w8.setRow w4.heap.size #[.int .i64 (aj ak).kind,.string (aj ak).name,.string (aj ak).key,.int .i64 (aj ak).n,.string (aj ak).rule.name,.slice az (aj ak).rule.zones.length aA,.slice aT (aj ak).rule.exc.length aU,.int .i64 (aj ak).rule.start,.int .i64 (aj ak).rule.stop,.int .i64 (aj ak).rule.bM,.bool (aj ak).rule.vary,.int .i64 (aj ak).rule.kind,.int .i64 (aj ak).rule.test.op,.int .i64 (aj ak).rule.test.num,.string (aj ak).rule.test.str,.string (aj ak).rule.test.key,.slice aL (aj ak).rule.test.args.length aM,.int .i64 (aj ak).rule.ah.side,.int .i64 (aj ak).rule.ah.base,.int .i64 (aj ak).rule.ah.num,.int .i64 (aj ak).rule.ah.den,.int .i64 (aj ak).rule.uses,.int .i64 (aj ak).rule.other,.int .i64 (aj ak).rule.n,.int .i64 (aj ak).body.op,.int .i64 (aj ak).body.num,.string (aj ak).body.str,.string (aj ak).body.key,.slice dg (aj ak).body.args.length dh,.slice bA (aj ak).corners.length bC]):=((afV.zo.mono fun b hb=>hb.2).trans (On.exts HX8.zo)).trans (aaq.mono fun b hb=>hb.1);generalize w8.setRow w4.heap.size #[.int .i64 (aj ak).kind,.string (aj ak).name,.string (aj ak).key,.int .i64 (aj ak).n,.string (aj ak).rule.name,.slice az (aj ak).rule.zones.length aA,.slice aT (aj ak).rule.exc.length aU,.int .i64 (aj ak).rule.start,.int .i64 (aj ak).rule.stop,.int .i64 (aj ak).rule.bM,.bool (aj ak).rule.vary,.int .i64 (aj ak).rule.kind,.int .i64 (aj ak).rule.test.op,.int .i64 (aj ak).rule.test.num,.string (aj ak).rule.test.str,.string (aj ak).rule.test.key,.slice aL (aj ak).rule.test.args.length aM,.int .i64 (aj ak).rule.ah.side,.int .i64 (aj ak).rule.ah.base,.int .i64 (aj ak).rule.ah.num,.int .i64 (aj ak).rule.ah.den,.int .i64 (aj ak).rule.uses,.int .i64 (aj ak).rule.other,.int .i64 (aj ak).rule.n,.int .i64 (aj ak).body.op,.int .i64 (aj ak).body.num,.string (aj ak).body.str,.string (aj ak).body.key,.slice dg (aj ak).body.args.length dh,.slice bA (aj ak).corners.length bC]=w9 at*;have SH:∀wz,af w9 wz->(jf 55 ⟨w4.heap.size,0,none⟩).run prog wz=.ok (.agg #[.int .i64 (aj ak).kind,.string (aj ak).name,.string (aj ak).key,.int .i64 (aj ak).n,.string (aj ak).rule.name,.slice az (aj ak).rule.zones.length aA,.slice aT (aj ak).rule.exc.length aU,.int .i64 (aj ak).rule.start,.int .i64 (aj ak).rule.stop,.int .i64 (aj ak).rule.bM,.bool (aj ak).rule.vary,.int .i64 (aj ak).rule.kind,.int .i64 (aj ak).rule.test.op,.int .i64 (aj ak).rule.test.num,.string (aj ak).rule.test.str,.string (aj ak).rule.test.key,.slice aL (aj ak).rule.test.args.length aM,.int .i64 (aj ak).rule.ah.side,.int .i64 (aj ak).rule.ah.base,.int .i64 (aj ak).rule.ah.num,.int .i64 (aj ak).rule.ah.den,.int .i64 (aj ak).rule.uses,.int .i64 (aj ak).rule.other,.int .i64 (aj ak).rule.n,.int .i64 (aj ak).body.op,.int .i64 (aj ak).body.num,.string (aj ak).body.str,.string (aj ak).body.key,.slice dg (aj ak).body.args.length dh,.slice bA (aj ak).corners.length bC]) wz:=fun wz he=>LF rfl fun j u hu=>by rw[Nat.zero_add];exact((YB.exts he).cell j).trans hu
 have HE9:=aa ((Hh.zo.at ((On.exts CV.zo).trans (Ms.mono fun b hb=>by
  rcases hb with hb|hb
  ·exact hb.elim
  ·have:=(Hh.zo.lt hb).2
   omega))).wide (D':=fun b=>U.drew.heap.size<=b) fun b hb=>hb.elim)
 have afX:Hid (bL (fun b=>U.drew.heap.size<=b) cY V.heap.size 55 w9 (.slice (some ⟨g4,0,none⟩) 1 c4) [yj]):=aa HE9.zo;have HD9:Hid (jg (NB (fun b=>U.drew.heap.size<=b) (.slice (some ⟨g4,0,none⟩) 1 c4)) w9 cY [.int .i64 (aj ak).kind,.string (aj ak).name,.string (aj ak).key,.int .i64 (aj ak).n,.string (aj ak).rule.name,.slice az (aj ak).rule.zones.length aA,.slice aT (aj ak).rule.exc.length aU,.int .i64 (aj ak).rule.start,.int .i64 (aj ak).rule.stop,.int .i64 (aj ak).rule.bM,.bool (aj ak).rule.vary,.int .i64 (aj ak).rule.kind,.int .i64 (aj ak).rule.test.op,.int .i64 (aj ak).rule.test.num,.string (aj ak).rule.test.str,.string (aj ak).rule.test.key,.slice aL (aj ak).rule.test.args.length aM,.int .i64 (aj ak).rule.ah.side,.int .i64 (aj ak).rule.ah.base,.int .i64 (aj ak).rule.ah.num,.int .i64 (aj ak).rule.ah.den,.int .i64 (aj ak).rule.uses,.int .i64 (aj ak).rule.other,.int .i64 (aj ak).rule.n,.int .i64 (aj ak).body.op,.int .i64 (aj ak).body.num,.string (aj ak).body.str,.string (aj ak).body.key,.slice dg (aj ak).body.args.length dh,.slice bA (aj ak).corners.length bC] xi):=aa (YC.mono fun b hb=>⟨hb,fun e=>by
  have e2:g4=b:=Option.some.inj e;omega⟩)
 have afY:=aa Ms;have hv9:V.heap.size<=w9.heap.size:=by
  have h1:=Ms.size;have h2:=CV.zo.below.size;have h3:=nv.zo.below.size;omega
 clear YB aaq YC Ms;rw[SH w9 (af.refl w9)];go_wp2_with (first|(rw[rounds_succ])|(at_builtin;refine fA rfl (.tmp 109) (.tmp 111) 41 rfl i1 _ 376 underlying41 hi1 hy0 hy1 hy2 rfl (by decide) (L:=cY) (l:= [yj]) (d:=xi) (cs:= [.int .i64 (aj ak).kind,.string (aj ak).name,.string (aj ak).key,.int .i64 (aj ak).n,.string (aj ak).rule.name,.slice az (aj ak).rule.zones.length aA,.slice aT (aj ak).rule.exc.length aU,.int .i64 (aj ak).rule.start,.int .i64 (aj ak).rule.stop,.int .i64 (aj ak).rule.bM,.bool (aj ak).rule.vary,.int .i64 (aj ak).rule.kind,.int .i64 (aj ak).rule.test.op,.int .i64 (aj ak).rule.test.num,.string (aj ak).rule.test.str,.string (aj ak).rule.test.key,.slice aL (aj ak).rule.test.args.length aM,.int .i64 (aj ak).rule.ah.side,.int .i64 (aj ak).rule.ah.base,.int .i64 (aj ak).rule.ah.num,.int .i64 (aj ak).rule.ah.den,.int .i64 (aj ak).rule.uses,.int .i64 (aj ak).rule.other,.int .i64 (aj ak).rule.n,.int .i64 (aj ak).body.op,.int .i64 (aj ak).body.num,.string (aj ak).body.str,.string (aj ak).body.key,.slice dg (aj ak).body.args.length dh,.slice bA (aj ak).corners.length bC]) rfl rfl (afX.zo.exts ae) _ 1 rfl (HD9.zo.at (On.exts ae)) (fun j u hu=>(Bx.mv rfl (by simp)).news j u hu) (by omega) (by decide) (by simp<;>omega) ?_;intro g10 c10 w10 hown hgrow;(have afZ:=aa hown);(have WW:=aa hgrow);clear hown hgrow))
 have hVU:af V U:=(gm.zo.trans nv.zo).trans CV.zo;have hV9:af V w9:=af.of_below (((On.exts (D:=fun b=>b<V.heap.size) hVU).trans (afY.zo.mono fun b hb=>by
  have h4:V.heap.size<=w4.heap.size:=(gm.zo.trans nv.zo).below.size;have hb:b<V.heap.size:=hb;omega)).below (fun b hb=>hb) (Nat.le_refl _))
 have hg9:V.heap.size<=g4:=(Hh.zo.lt rfl).1;have af0:=aF (W:=V) (hV9.trans ae) WW.zo (fun b hb=>by
  have e2:g4=b:=Option.some.inj hb;omega)
 exact bodyPost_ret (v:=.tuple #[.slice (some ⟨g10,0,none⟩) 2 c10,.int .i64 0]) (by simp[results,go_sem]) rfl ⟨_,c10,rfl,(HX.zo.trans af0).trans ae,(afZ.zo.sl rfl).exts ae⟩
end Go.Proofs.YtomgpelfmgkknaaGreatDoor
