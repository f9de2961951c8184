/- Lemmas for the law. No conditions. -/
import Derived.Test.YtomgpelfmgkknaaGreatDoorM2
import Derived.Shelf.SlSortCmp.WholeK
import Derived.Lib.OwnBridge
import Derived.Lib.SmallJoins
namespace Go.Proofs.YtomgpelfmgkknaaGreatDoor
open Go.RowKit Go.Maps
open Go.Proofs.Tryz
set_option maxRecDepth 100000
set_option maxHeartbeats 40000000
set_option linter.unusedVariables false
set_option linter.unusedSimpArgs false
def jF(a b:Int):Int:=max a b
def ou(a b:Int):Int:=min a b
@[go_sem ↓high] theorem abw{P:Program}{w:World}(ts:Array TypeId)(t:TypeId)(k k':IntKind)(x y:Int):(Builtin.max_ ts t #[.int k x,.int k' y]).run P w=.ok (.int k (jF x y)) w:=by
 rw[run_max_int2];congr 2;unfold jF;rw[Int.max_def]
 (repeat' split)<;>omega
@[go_sem ↓high] theorem abx{P:Program}{w:World}(ts:Array TypeId)(t:TypeId)(k k':IntKind)(x y:Int):(Builtin.min_ ts t #[.int k x,.int k' y]).run P w=.ok (.int k (ou x y)) w:=by
 rw[run_min_int2];congr 2;unfold ou;rw[Int.min_def]
 (repeat' split)<;>omega
@[go_sem ↓high] theorem aby{P:Program}{w:World}(ts:Array TypeId)(t:TypeId)(k k' k'':IntKind)(x y z:Int):(Builtin.max_ ts t #[.int k x,.int k' y,.int k'' z]).run P w=.ok (.int k (jF (jF x y) z)) w:=by
 rw[run_max_int3];congr 2;unfold jF;simp only[Int.max_def]
 (repeat' split)<;>omega
def kt(r:Rc):Bool:=decide ((0:Int)<=r.x0)&&decide (r.x0<r.x1)&&decide (r.x1<=1048576)&&decide ((0:Int)<=r.y0)&&decide (r.y0<r.y1)&&decide (r.y1<=1048576)
theorem qK{r:Rc}(h:kt r=true):0<=r.x0/\r.x0<r.x1/\r.x1<=1048576/\0<=r.y0/\r.y0<r.y1/\r.y1<=1048576:=by
 simpa[kt,and_assoc]using h
def EC:Rc:=⟨0,0,0,0⟩
def rcC(r:Rc):Rc×Bool:=if kt r then(r,true)else(EC,false)
def fO(r:Rc):Int:=if kt r then(r.x1 - r.x0)*(r.y1 - r.y0)else 0
def pk(a b:Rc):Rc:=⟨jF a.x0 b.x0,jF a.y0 b.y0,ou a.x1 b.x1,ou a.y1 b.y1⟩
def JT(a b:Rc):Rc×Bool:=if kt a&&kt b then rcC (pk a b)else(EC,false)
def uz(a b:Rc):Int:=if kt a&&kt b then jF (jF 0 (jF a.x0 b.x0 - ou a.x1 b.x1)) (jF a.y0 b.y0 - ou a.y1 b.y1)else -1
theorem Qe{a b:Int}(h1:0<=a)(h2:a<=1048576)(h3:0<=b)(h4:b<=1048576):0<=a*b/\a*b<=1099511627776:=
 ⟨Int.mul_nonneg h1 h3,Int.le_trans (Int.mul_le_mul h2 h4 h3 (by decide)) (by decide)⟩
theorem ji{n:Int}(h1: -9223372036854775808<=n)(h2:n<=9223372036854775807):IntKind.i64.wrap n=n:=by rw[IntKind.wrap_i64]<;>omega
theorem bK(r:Rc)(w:World):Calls prog 179 #[.agg #[.int .i64 r.x0,.int .i64 r.y0,.int .i64 r.x1,.int .i64 r.y1]] w (cX (.bool (kt r)) w):=by
 cases q0:decide ((0:Int)<=r.x0)with
 |false=>
  go_enter func179,ntmps179;go_wp2;go_ret;exact⟨by simp[kt, *],ae⟩
 |true=>
  cases q1:decide (r.x0<r.x1)with
  |false=>
   go_enter func179,ntmps179;go_wp2;go_ret;exact⟨by simp[kt, *],ae⟩
  |true=>
   cases q2:decide (r.x1<=1048576)with
   |false=>
    go_enter func179,ntmps179;go_wp2;go_ret;exact⟨by simp[kt, *],ae⟩
   |true=>
    cases q3:decide ((0:Int)<=r.y0)with
    |false=>
     go_enter func179,ntmps179;go_wp2;go_ret;exact⟨by simp[kt, *],ae⟩
    |true=>
     cases q4:decide (r.y0<r.y1)with
     |false=>
      go_enter func179,ntmps179;go_wp2;go_ret;exact⟨by simp[kt, *],ae⟩
     |true=>
      cases q5:decide (r.y1<=1048576)with
      |false=>
       go_enter func179,ntmps179;go_wp2;go_ret;exact⟨by simp[kt, *],ae⟩
      |true=>
       go_enter func179,ntmps179;go_wp2;go_ret;exact⟨by simp[kt, *],ae⟩
theorem rF(r:Rc)(w:World)(q:kt r=true):Calls prog 237 #[.agg #[.int .i64 r.x0,.int .i64 r.y0,.int .i64 r.x1,.int .i64 r.y1]] w (cX (.tuple #[.agg #[.int .i64 r.x0,.int .i64 r.y0,.int .i64 r.x1,.int .i64 r.y1],.bool true]) w):=by
 have Q1:=aa q;clear q;go_enter func237,ntmps237;go_wp2_with ((with_reducible refine(bK r _).mono ?_);rintro e w' ⟨rfl,x9,rfl⟩;rw[Q1.zo])
 refine bodyPost_ret (by simp[results,go_sem];rfl) rfl ?_;exact⟨rfl,ae⟩
theorem qd(r:Rc)(w:World)(q:kt r=false):Calls prog 237 #[.agg #[.int .i64 r.x0,.int .i64 r.y0,.int .i64 r.x1,.int .i64 r.y1]] w (cX (.tuple #[.agg #[.int .i64 0,.int .i64 0,.int .i64 0,.int .i64 0],.bool false]) w):=by
 have Q1:=aa q;clear q;go_enter func237,ntmps237;go_wp2_with ((with_reducible refine(bK r _).mono ?_);rintro e w' ⟨rfl,x9,rfl⟩;rw[Q1.zo])
 refine bodyPost_ret (by simp[results,go_sem];rfl) rfl ?_;exact⟨rfl,ae⟩
theorem tG(r:Rc)(w:World):Calls prog 154 #[.agg #[.int .i64 r.x0,.int .i64 r.y0,.int .i64 r.x1,.int .i64 r.y1]] w (cX (.int .i64 (fO r)) w):=by
 cases q:kt r with
 |false=>
  have e1:fO r=0:=by simp[fO,q]
  rw[e1];have Q1:=aa q;clear q e1;go_enter func154,ntmps154;go_wp2_with ((with_reducible refine(qd _ _ Q1.zo).mono ?_);rintro e w' ⟨rfl,x9,rfl⟩)
  go_ret;exact⟨rfl,ae⟩
 |true=>
  have e1:fO r=(r.x1 - r.x0)*(r.y1 - r.y0):=by simp[fO,q]
  rw[e1];obtain⟨a1,a2,a3,a4,a5,a6⟩:=qK q;have w1:IntKind.i64.wrap (r.x1 - r.x0)=r.x1 - r.x0:=ji (by omega) (by omega);have w2:IntKind.i64.wrap (r.y1 - r.y0)=r.y1 - r.y0:=ji (by omega) (by omega);have w3:IntKind.i64.wrap ((r.x1 - r.x0)*(r.y1 - r.y0))=(r.x1 - r.x0)*(r.y1 - r.y0):=by
   obtain⟨m1,m2⟩:=Qe (show 0<=r.x1 - r.x0 by omega) (show r.x1 - r.x0<=1048576 by omega) (show 0<=r.y1 - r.y0 by omega) (show r.y1 - r.y0<=1048576 by omega);exact ji (by omega) (by omega)
  have Q1:=aa q;clear q e1 a1 a2 a3 a4 a5 a6;go_enter func154,ntmps154;go_wp2_with ((with_reducible refine(rF _ _ Q1.zo).mono ?_);rintro e w' ⟨rfl,x9,rfl⟩)
  go_ret;exact⟨rfl,ae⟩
theorem Vh(a b:Rc)(w:World)(ha:kt a=true)(hb:kt b=true):Calls prog 264 #[.agg #[.int .i64 a.x0,.int .i64 a.y0,.int .i64 a.x1,.int .i64 a.y1],.agg #[.int .i64 b.x0,.int .i64 b.y0,.int .i64 b.x1,.int .i64 b.y1]] w (cX (.tuple #[.int .i64 (jF a.x0 b.x0 - ou a.x1 b.x1),.int .i64 (jF a.y0 b.y0 - ou a.y1 b.y1)]) w):=by
 obtain⟨a1,a2,a3,a4,a5,a6⟩:=qK ha;obtain⟨b1,b2,b3,b4,b5,b6⟩:=qK hb;have e1:IntKind.i64.wrap (jF a.x0 b.x0 - ou a.x1 b.x1)=jF a.x0 b.x0 - ou a.x1 b.x1:=ji (by unfold jF ou;omega) (by unfold jF ou;omega);have e2:IntKind.i64.wrap (jF a.y0 b.y0 - ou a.y1 b.y1)=jF a.y0 b.y0 - ou a.y1 b.y1:=ji (by unfold jF ou;omega) (by unfold jF ou;omega);clear a1 a2 a3 a4 a5 a6 b1 b2 b3 b4 b5 b6 ha hb;go_enter func264,ntmps264;go_wp2;first|refine eK ?_|refine eJ ?_
 repeat (go_big_quiet_step (fail))
 refine eM fun xq=> ?_
 go_wp2;go_ret2;exact⟨rfl,ae⟩
theorem zy(a b:Rc)(w:World)(q:(kt a&&kt b)=false):Calls prog 297 #[.agg #[.int .i64 a.x0,.int .i64 a.y0,.int .i64 a.x1,.int .i64 a.y1],.agg #[.int .i64 b.x0,.int .i64 b.y0,.int .i64 b.x1,.int .i64 b.y1]] w (cX (.tuple #[.agg #[.int .i64 0,.int .i64 0,.int .i64 0,.int .i64 0],.bool false]) w):=by
 cases q1:kt a with
 |false=>
  have Q1:=aa q1;clear q q1;go_enter func297,ntmps297;go_wp2_with ((with_reducible refine(bK a _).mono ?_);rintro e w' ⟨rfl,x9,rfl⟩;rw[Q1.zo])
  refine bodyPost_ret (by simp[results,go_sem];rfl) rfl ?_;exact⟨rfl,ae⟩
 |true=>
  have Q1:=aa q1;have Q2:=aa (show kt b=false by simpa[q1]using q);clear q q1;go_enter func297,ntmps297;go_wp2_with (first|((with_reducible refine(bK a _).mono ?_);rintro e w' ⟨rfl,x1,rfl⟩;rw[Q1.zo])|((with_reducible refine(bK b _).mono ?_);rintro e w' ⟨rfl,x9,rfl⟩;rw[Q2.zo]))
  refine bodyPost_ret (by simp[results,go_sem];rfl) rfl ?_;exact⟨rfl,ae⟩
theorem wa(a b:Rc)(w:World)(q1:kt a=true)(q2:kt b=true)(q:kt (pk a b)=true):Calls prog 297 #[.agg #[.int .i64 a.x0,.int .i64 a.y0,.int .i64 a.x1,.int .i64 a.y1],.agg #[.int .i64 b.x0,.int .i64 b.y0,.int .i64 b.x1,.int .i64 b.y1]] w (cX (.tuple #[.agg #[.int .i64 (pk a b).x0,.int .i64 (pk a b).y0,.int .i64 (pk a b).x1,.int .i64 (pk a b).y1],.bool true]) w):=by
 have Q1:=aa q1;have Q2:=aa q2;have Q:=aa q;clear q1 q2 q;go_enter func297,ntmps297;go_wp2_with (first|((with_reducible refine(bK a _).mono ?_);rintro e w' ⟨rfl,x1,rfl⟩;rw[Q1.zo])|((with_reducible refine(bK b _).mono ?_);rintro e w' ⟨rfl,x1,rfl⟩;rw[Q2.zo])|(go_at_call 237;refine(rF (pk a b) _ Q.zo).mono ?_;rintro e w' ⟨rfl,x2,rfl⟩))
 refine bodyPost_ret (by simp[results,go_sem];rfl) rfl ?_;exact⟨rfl,ae⟩
theorem uV(a b:Rc)(w:World)(q1:kt a=true)(q2:kt b=true)(q:kt (pk a b)=false):Calls prog 297 #[.agg #[.int .i64 a.x0,.int .i64 a.y0,.int .i64 a.x1,.int .i64 a.y1],.agg #[.int .i64 b.x0,.int .i64 b.y0,.int .i64 b.x1,.int .i64 b.y1]] w (cX (.tuple #[.agg #[.int .i64 0,.int .i64 0,.int .i64 0,.int .i64 0],.bool false]) w):=by
 have Q1:=aa q1;have Q2:=aa q2;have Q:=aa q;clear q1 q2 q;go_enter func297,ntmps297;go_wp2_with (first|((with_reducible refine(bK a _).mono ?_);rintro e w' ⟨rfl,x1,rfl⟩;rw[Q1.zo])|((with_reducible refine(bK b _).mono ?_);rintro e w' ⟨rfl,x1,rfl⟩;rw[Q2.zo])|(go_at_call 237;refine(qd (pk a b) _ Q.zo).mono ?_;rintro e w' ⟨rfl,x2,rfl⟩))
 refine bodyPost_ret (by simp[results,go_sem];rfl) rfl ?_;exact⟨rfl,ae⟩
theorem lU(a b:Rc)(w:World):Calls prog 297 #[.agg #[.int .i64 a.x0,.int .i64 a.y0,.int .i64 a.x1,.int .i64 a.y1],.agg #[.int .i64 b.x0,.int .i64 b.y0,.int .i64 b.x1,.int .i64 b.y1]] w (cX (.tuple #[.agg #[.int .i64 (JT a b).1.x0,.int .i64 (JT a b).1.y0,.int .i64 (JT a b).1.x1,.int .i64 (JT a b).1.y1],.bool (JT a b).2]) w):=by
 cases q:(kt a&&kt b)with
 |false=>
  have e1:JT a b=(EC,false):=by simp only[JT,q];rfl
  rw[e1];exact zy a b w q
 |true=>
  have e1:JT a b=rcC (pk a b):=by simp only[JT,q];rfl
  rw[e1];obtain⟨q1,q2⟩:=Bool.and_eq_true_iff.1 q;cases q3:kt (pk a b)with
  |false=>
   have e2:rcC (pk a b)=(EC,false):=by simp[rcC,q3]
   rw[e2];exact uV a b w q1 q2 q3
  |true=>
   have e2:rcC (pk a b)=(pk a b,true):=by simp[rcC,q3]
   rw[e2];exact wa a b w q1 q2 q3
section
open Go.RowKit Go.Sort Go.Lib
theorem chunks{T:Type}{enc:T->zv}{k:Nat}:∀(l:List T)(xs:zv),xs.length=l.length*k->(∀i d,l[i]?=some d->(xs.drop (i*k)).take k=enc d)->xs=(l.map enc).flatten
 | [],xs,hl,_=>by
  have:xs= []:=List.length_eq_zero_iff.1 (by simpa using hl);simp[this]
 |d::l,xs,hl,h=>by
  have h0:=h 0 d rfl;rw[Nat.zero_mul,List.drop_zero]at h0;have h1:=chunks (enc:=enc) (k:=k) l (xs.drop k) (by rw[List.length_drop,hl,List.length_cons,Nat.add_mul,Nat.one_mul];omega) (fun i x hx=>by
   have:=h (i+1) x (by simpa using hx);rw[Nat.add_mul,Nat.one_mul,Nat.add_comm,<-List.drop_drop]at this;exact this)
  rw[List.map_cons,List.flatten_cons,<-h0,<-h1,List.take_append_drop]
theorem aq.flat{T:Type}{L:Lay T}{base:Nat}{e:TypeId}{w:World}{l:List T}{enc:T->zv}{P:T->Prop}(he:∀w cs d,L.R w cs d->cs=enc d/\P d){v:Value}(h:aq L base e w v l):w.ownsRow base e L.k v l.length (l.map enc).flatten/\∀x∈l,P x:=by
 obtain⟨xs,h1,h2⟩:=h;have hx:=chunks (enc:=enc) (k:=L.k) l xs h1.1 (fun i d hd=>(he _ _ _ (h2 i d hd)).1);refine⟨hx▸h1,fun x hx=> ?_⟩;obtain⟨i,hi⟩:=List.getElem?_of_mem hx;exact(he _ _ _ (h2 i x hi)).2
section
variable {T:Type} [Inhabited T] {L:Lay T}{base:Nat}{e:TypeId}{w w0:World}{g n c k:Nat}{l l':List T}{enc:T->zv}{P:T->Prop}
theorem AH(hk:∀x,(enc x).length=k)(l:List T):(flatK enc k l.toArray).toList=(l.map enc).flatten:=by
 have hfl:∀y∈l.map enc,y.length=k:=by
  intro y hy;obtain⟨x,_,rfl⟩:=List.mem_map.1 hy;exact hk x
 apply List.ext_getElem?;intro j;by_cases hj:j<l.length*k
 ·have hk0:0<k:=by
   rcases Nat.eq_zero_or_pos k with h|h
   ·subst h;simp at hj
   ·exact h
  have hq:j / k<l.length:=by rw[Nat.div_lt_iff_lt_mul hk0];exact hj
  have e0:j=j / k*k+j%k:=by rw[Nat.mul_comm];exact(Nat.div_add_mod j k).symm
  have e1:(l.map enc).flatten[j]?=some ((enc l[j / k])[j%k]'(by rw[hk];exact Nat.mod_lt _ hk0)):=by
   conv=>lhs;rw[e0]
   rw[qF _ hfl _ _ (Nat.mod_lt _ hk0)];rw[List.getElem?_map,fZ hq];simp only[Option.map_some,Option.bind_some];exact fZ (by rw[hk];exact Nat.mod_lt _ hk0)
  rw[e1];simp only[flatK,List.size_toArray,Array.toList_map,Array.toList_range,List.getElem?_map];rw[List.getElem?_range hj];simp only[Option.map_some,Option.some.injEq];rw[getElem!_pos l.toArray (j / k) (by simpa using hq),List.getElem_toArray];rw[getElem!_pos (enc l[j / k]) (j%k) (by rw[hk];exact Nat.mod_lt _ hk0)]
 ·rw[List.getElem?_eq_none (by simp;omega),List.getElem?_eq_none (by rw[mX _ hfl];simp;omega)]
theorem aq.holds(hk:∀x,(enc x).length=L.k)(he:∀w cs d,L.R w cs d->cs=enc d/\P d)(h:aq L base e w (.slice (some ⟨g,0,none⟩) n c) l)(hn:l.length=n):g<w.heap.size/\base<=g/\HoldsK enc L.k w g 0 l.toArray:=by
 subst hn;obtain⟨h1,_⟩:=h.flat he;obtain⟨hl,⟨h2,_⟩|⟨g',cap,cur,e1,hb,hg,h5,h6,h7,h8⟩⟩:=h1
 ·cases h2
 ·simp only[Value.slice.injEq,Option.some.injEq,Addr.mk.injEq,and_true,true_and]at e1
  obtain⟨rfl,rfl⟩:=e1;refine⟨(Array.getElem?_eq_some_iff.1 hg).1,hb,fun j hj=> ?_⟩;have hj':j<l.length*L.k:=by simpa using hj
  refine⟨?_,by simp[World.frozen?,hg]⟩;have e2:(cur.toList.take (l.length*L.k))[j]?=(flatK enc L.k l.toArray).toList[j]?:=by rw[h8,AH hk]
  rw[List.getElem?_take,if_pos hj',Array.getElem?_toList,Array.getElem?_toList]at e2;simp only[World.cell?,hg,Nat.zero_add,Option.isSome_none,Bool.false_eq_true,if_false];rw[e2,getElem!_pos _ j hj,Array.getElem?_eq_getElem hj];rfl
theorem aq.sorted(hk:∀x,(enc x).length=L.k)(he:∀w cs d,L.R w cs d->cs=enc d/\P d)(hp:∀w d,P d->L.R w (enc d) d)(h:aq L base e w (.slice (some ⟨g,0,none⟩) n c) l)(hn:l.length=n)(hl':l'.length=n)(hP:∀x∈l',P x)(q:Nat)(os:Array Obj):
 aq L base e (sortWorldK enc L.k w g 0 q l'.toArray os) (.slice (some ⟨g,0,none⟩) n c) l':=by
 subst hn;obtain⟨h1,_⟩:=h.flat he;obtain⟨hl,⟨h2,_⟩|⟨g',cap,cur,e1,hb,hg,h5,h6,h7,h8⟩⟩:=h1
 ·cases h2
 ·simp only[Value.slice.injEq,Option.some.injEq,Addr.mk.injEq,and_true,true_and]at e1
  obtain⟨rfl,rfl⟩:=e1;have hfl:∀y∈l'.map enc,y.length=L.k:=by
   intro y hy;obtain⟨x,_,rfl⟩:=List.mem_map.1 hy;exact hk x
  have hlt:g<w.heap.size:=(Array.getElem?_eq_some_iff.1 hg).1;have hlen:(l'.map enc).flatten.length=l'.length*L.k:=by rw[mX _ hfl,List.length_map]
  refine⟨(l'.map enc).flatten,⟨hlen,.inr ⟨g,c,putCells id 0 (flatK enc L.k l'.toArray) cur,by rw[hl'],hb,?_,by omega,h6,by simpa[putCells]using h7,?_⟩⟩,fun i d hd=> ?_⟩
  ·have hsz:g<(putRowK enc L.k (Sort.ahead w q) g 0 l'.toArray).heap.size:=by simpa[putRowK,putRow,mapBlock,Sort.ahead]using hlt
   show(_++os)[g]?=_;rw[Array.getElem?_append_left hsz];simp[putRowK,putRow,mapBlock,Sort.ahead,Array.getElem?_modify,hg,onCells]
  ·rw[<-AH hk]
   apply List.ext_getElem?;intro j;rw[List.getElem?_take];have hcur:l.length*L.k<=cur.size:=by rw[h7];exact Nat.mul_le_mul_right _ h5
   by_cases hj:j<l'.length*L.k
   ·have hjc:j<cur.size:=by rw[hl']at hj;omega
    rw[if_pos hj,Array.getElem?_toList,Array.getElem?_toList];simp only[putCells,Array.getElem?_mapIdx,Array.getElem?_eq_getElem hjc,Option.map_some,Nat.zero_le,true_and,Nat.zero_add,Nat.sub_zero,id];have hj2:j<(flatK enc L.k l'.toArray).size:=by simpa using hj
    rw[if_pos hj2,getElem!_pos _ j hj2,Array.getElem?_eq_getElem hj2]
   ·rw[if_neg hj,List.getElem?_eq_none (by simp;omega)]
  ·have hi:=(bw hd).1
   have hPd:=hP d (gH hd);have e3:((l'.map enc).flatten.drop (i*L.k)).take L.k=enc d:=by
    apply List.ext_getElem?;intro t;rw[List.getElem?_take];by_cases ht:t<L.k
    ·rw[if_pos ht,List.getElem?_drop,qF _ hfl _ _ ht,List.getElem?_map,hd]
     rfl
    ·rw[if_neg ht,List.getElem?_eq_none (by rw[hk];omega)]
   rw[e3];exact hp _ d hPd
theorem yD(he:af w0 w)(hg:w0.heap.size<=g)(q:Nat)(d:Array T)(os:Array Obj):af w0 (sortWorldK enc k w g 0 q d os):=
 (af.of_below (below_putRow he.below hg)).trans ⟨⟨os,_⟩,rfl⟩
end
def G6{T:Type} [Inhabited T] (cf:T->T->Int)(l:List T):List T:=(pdq (ltOf cf) l.toArray 0 l.toArray.size (Lib.bitLen l.toArray.size) true true).toList
theorem Dz{T:Type} [Inhabited T] (cf:T->T->Int)(hO:SWO (ltOf cf))(l:List T):(G6 cf l).length=l.length/\∀x∈G6 cf l,x∈l:=by
 obtain⟨⟨h1,_,h3⟩,_⟩:=pdq_sorts (ltOf cf) hO l.toArray 0 l.toArray.size (Lib.bitLen l.toArray.size) true true (Nat.zero_le _) (Nat.le_refl _) (Or.inl rfl);have hl:(G6 cf l).length=l.length:=by unfold G6;rw[Array.length_toList,h1];simp
 refine⟨hl,fun x hx=> ?_⟩;have ge:∀(a b:Array T),a.size=b.size->a.extract 0 b.size=a:=fun a b h=>by rw[<-h];exact Array.extract_size
 rw[ge _ _ h1,ge _ _ rfl]at h3;have:=h3.mem_iff.1 hx;simpa using this
end
section
open Go.RowKit Go.Sort Go.Lib
def fL(l:List Int):List Int:=l.mergeSort fun x y=>decide (x<=y)
theorem gO(l:List Int):(fL l).length=l.length:=List.length_mergeSort l
theorem xG{l:List Int}{x:Int}:x∈fL l↔x∈l:=List.mem_mergeSort
def kG(l:List Int):List Int:=Lib.compact l
theorem sq(l:List Int):(kG l).length<=l.length:=by
 unfold kG Lib.compact compactUpTo;rw[List.length_map];exact Nat.le_trans (List.length_filter_le _ _) (by simp)
theorem M3{l:List Int}{x:Int}(h:x∈kG l):x∈l:=by
 unfold kG Lib.compact compactUpTo at h;obtain⟨i,hi,rfl⟩:=List.mem_map.1 h;have hi2:i<l.length:=List.mem_range.1 (List.mem_filter.1 hi).1;rw[getElem!_pos l.toArray i (by simpa using hi2)];simp
section
variable {base:Nat}{e:TypeId}{w w0:World}{n c:Nat}{ao:Option Addr}{v:Value}{l:List Int}
theorem aq.ints(h:aq dv base e w v l):w.ownsRow base e 1 v l.length (l.map (Value.int .i64))/\∀x∈l,I64 x:=by
 obtain⟨h1,h2⟩:=h.flat (enc:=fun d=> [Value.int .i64 d]) (P:=I64) (fun w cs d h=>h);have e0:(l.map fun d=> [Value.int .i64 d]).flatten=l.map (Value.int .i64):=by
  clear h h1 h2;induction l with
  |nil=>rfl
  |cons x l ih=>simp[ih]
 rw[e0]at h1;exact⟨h1,h2⟩
theorem aq.EF(h:w.ownsRow base e 1 v l.length (l.map (Value.int .i64)))(hi:∀x∈l,I64 x):aq dv base e w v l:=by
 refine⟨_,h,fun i d hd=>⟨?_,hi d (gH hd)⟩⟩;show((l.map (Value.int .i64)).drop (i*1)).take 1= [Value.int .i64 d];rw[Nat.mul_one,<-List.map_drop,<-List.map_take];have:(l.drop i).take 1= [d]:=by
  obtain⟨hi,e⟩:=bw hd;rw[List.drop_eq_getElem_cons hi,e];rfl
 rw[this];rfl
theorem gq{k:Nat}{xs:zv}(h:w.ownsRow base e k (.slice ao n c) n xs):(n=0/\ao=none/\c=0)∨∃g,ao=some ⟨g,0,none⟩/\base<=g/\g<w.heap.size/\n<=c:=by
 obtain⟨_,⟨h1,h2⟩|⟨g,cap,cur,hv,hb,hg,hn,_⟩⟩:=h
 ·simp only[Value.slice.injEq]at h1
  exact .inl ⟨h2,h1.1,h1.2.2⟩
 ·simp only[Value.slice.injEq,true_and]at hv
  obtain⟨rfl,rfl⟩:=hv;exact .inr ⟨g,rfl,hb,(Array.getElem?_eq_some_iff.1 hg).1,hn⟩
theorem xH(h:aq dv base 3 w (.slice ao n c) l)(hn:l.length=n)(he:af w0 w)(hb:w0.heap.size<=base)(hm:n<=1000000):Calls prog 34 #[.slice ao n c] w fun e w'=>e=.returned (.tuple #[])/\af w0 w'/\aq dv base 3 w' (.slice ao n c) (fL l):=by
 obtain⟨h1,h2⟩:=h.ints;rw[hn]at h1;rcases gq h1 with⟨rfl,rfl,rfl⟩|⟨g,rfl,hg,hlt,hc⟩
 ·obtain rfl:l= []:=List.length_eq_zero_iff.1 hn
  refine(Tryz.slices_Sort_int_none none 0 w).mono ?_;rintro e w' ⟨rfl,rfl⟩;rw[show fL []= []from List.length_eq_zero_iff.1 (gO [])];exact⟨rfl,he,h⟩
 ·obtain⟨g',c',hv,_,_,_,_,_,hH⟩:=holds_of_ownsRow h1 (by simp)
  simp only[Value.slice.injEq,Option.some.injEq,Addr.mk.injEq,and_true,true_and]at hv;obtain⟨rfl,rfl⟩:=hv;subst hn;refine(Tryz.slices_Sort_int g 0 c l w hH hlt (by omega)).mono ?_;rintro e w' ⟨rfl,q,os,rfl⟩;have h3:=ownsRow_putRow (q:=q) h1 (ys:=fL l) (k:=l.length) (gO l) (Nat.le_refl _);rw[dQ (by rw[gO];exact Nat.le_refl _)]at h3;have hx:∀w1:World,af w1 (grow w1 os):=fun w1=>⟨⟨os,_⟩,rfl⟩
  refine⟨rfl,(af.of_below (below_putRow he.below (by omega))).trans (hx _),?_⟩;exact(aq.EF (l:=fL l) (by rw[gO];exact h3) (fun x hx=>h2 x (xG.1 hx))).exts (hx _)
theorem tJ(h:aq dv base 3 w (.slice ao n c) l)(hn:l.length=n)(he:af w0 w)(hb:w0.heap.size<=base)(hm:n<=1000000):Calls prog 35 #[.slice ao n c] w fun e w'=>e=.returned (.slice ao (kG l).length c)/\af w0 w'/\aq dv base 3 w' (.slice ao (kG l).length c) (kG l):=by
 obtain⟨h1,h2⟩:=h.ints;rw[hn]at h1;rcases gq h1 with⟨rfl,rfl,rfl⟩|⟨g,rfl,hg,hlt,hc⟩
 ·obtain rfl:l= []:=List.length_eq_zero_iff.1 hn
  refine(Tryz.slices_Compact_int_empty none 0 w).mono ?_;rintro e w' ⟨rfl,rfl⟩;exact⟨rfl,he,h⟩
 ·obtain⟨g',c',hv,_,_,_,_,_,hH⟩:=holds_of_ownsRow h1 (by simp)
  simp only[Value.slice.injEq,Option.some.injEq,Addr.mk.injEq,and_true,true_and]at hv;obtain⟨rfl,rfl⟩:=hv;subst hn;refine(Tryz.slices_Compact_int g 0 c l w hH (by omega) hc).mono ?_;rintro e w' ⟨rfl,q,rfl⟩;have hle:=sq l;have h3:=ownsRow_putRow (q:=q) h1 (ys:=kG l++List.replicate (l.length - (kG l).length) 0) (k:=(kG l).length) (by simp;omega) hle;rw[List.take_append_of_le_length (Nat.le_refl _),dQ (Nat.le_refl _)]at h3;exact⟨rfl,af.of_below (below_putRow he.below (by omega)),aq.EF (l:=kG l) h3 (fun x hx=>h2 x (M3 hx))⟩
theorem M4(h:aq dv base 3 w (.slice ao n c) l)(hn:l.length=n)(he:af w0 w)(hb:w0.heap.size<=base)(hm:n<=1000000):Calls prog 36 #[.slice ao n c] w fun e w'=>e=.returned (.tuple #[])/\af w0 w'/\aq dv base 3 w' (.slice ao n c) l.reverse:=by
 obtain⟨h1,h2⟩:=h.ints;rw[hn]at h1;rcases gq h1 with⟨rfl,rfl,rfl⟩|⟨g,rfl,hg,hlt,hc⟩
 ·obtain rfl:l= []:=List.length_eq_zero_iff.1 hn
  refine(Tryz.slices_Reverse_int_empty none 0 w).mono ?_;rintro e w' ⟨rfl,rfl⟩;exact⟨rfl,he,h⟩
 ·obtain⟨g',c',hv,_,_,_,_,_,hH⟩:=holds_of_ownsRow h1 (by simp)
  simp only[Value.slice.injEq,Option.some.injEq,Addr.mk.injEq,and_true,true_and]at hv;obtain⟨rfl,rfl⟩:=hv;subst hn;refine(Tryz.slices_Reverse_int g 0 c l w hH (by omega)).mono ?_;rintro e w' ⟨rfl,q,rfl⟩;have h3:=ownsRow_putRow (q:=q) h1 (ys:=l.reverse) (k:=l.length) (by simp) (Nat.le_refl _);rw[dQ (by simp)]at h3;exact⟨rfl,af.of_below (below_putRow he.below (by omega)),aq.EF (l:=l.reverse) (by rw[List.length_reverse];exact h3) (fun x hx=>h2 x (List.mem_reverse.1 hx))⟩
end
end
def mxZ(a b:Int):Int:=max a b
theorem Zf(a b:Int):mxZ a b=max a b:=rfl
theorem Vt{a b:Int}(ha:I64 a)(hb:I64 b):I64 (max a b):=by
 rcases Int.le_total a b with h|h
 ·rw[Int.max_eq_right h];exact hb
 ·rw[Int.max_eq_left h];exact ha
def uq(l:List Rc)(x:Int):List Span:=(l.filter fun r=>decide (r.x0<=x)&&decide (x<r.x1)).map fun r=>⟨r.y0,r.y1⟩
def jk(out:List Span)(s:Span):List Span:=
 match out.getLast? with
 |some t=>if s.lo<=t.hi then out.dropLast++ [⟨t.lo,mxZ t.hi s.hi⟩]else out++ [s]
 |none=> [s]
def CC(p:Nat->Bool):Nat->Nat->Nat->Nat
 |0,i,_=>i
 |f+1,i,j=>if i<j then(if p ((i+j) / 2)then CC p f ((i+j) / 2+1) j else CC p f i ((i+j) / 2))else i
def DF{T:Type}(p:T->Bool)(l:List T)(k:Nat):Bool:=match l[k]? with|some d=>p d|none=>false
def nI(l:List Span)(y:Int):Bool:=
 match l[CC (DF (fun s=>decide (s.hi<=y)) l) (l.length+1) 0 l.length]? with
 |some s=>decide (s.lo<=y)
 |none=>false
def gV(l:List Strip)(x:Int):List Span:=
 match l[CC (DF (fun s=>decide (s.x1<=x)) l) (l.length+1) 0 l.length]? with
 |some s=>if s.x0<=x then s.column else []
 |none=> []
def DG(a b:List Span)(ys:List Int)(out:List Span)(i:Nat):List Span:=
 let y:=ys.getD i 0
 let z:=ys.getD (i+1) 0
 if nI a y&&nI b y then
  match out.getLast? with
  |some t=>if t.hi=y then out.dropLast++ [⟨t.lo,z⟩]else out++ [⟨y,z⟩]
  |none=> [⟨y,z⟩]
 else out
theorem AQ(out:List Span)(s:Span):(jk out s).length<=out.length+1:=by
 unfold jk;split
 ·split
  ·simp[List.length_dropLast]
  ·simp
 ·simp
theorem Qq(a b:List Span)(ys:List Int)(out:List Span)(i:Nat):(DG a b ys out i).length<=out.length+1:=by
 unfold DG;simp only;split
 ·split
  ·split
   ·simp[List.length_dropLast]
   ·simp
  ·simp
 ·omega
theorem zZ{S T:Type}(f:List S->T->List S)(h:∀o x,(f o x).length<=o.length+1):∀(l:List T)(o:List S),(l.foldl f o).length<=o.length+l.length
 | [],o=>by simp
 |x::l,o=>by
  have h1:=h o x;have h2:=zZ f h l (f o x);simp only[List.foldl_cons,List.length_cons];omega
instance :DecidableEq Span:=fun a b=>by
 cases a;cases b;simp only[Span.mk.injEq];exact inferInstance
def QB(s:Rc×Bool)(r:Rc):Rc×Bool:=if kt r then(if s.2 then(⟨ou s.1.x0 r.x0,ou s.1.y0 r.y0,jF s.1.x1 r.x1,jF s.1.y1 r.y1⟩,true)else(r,true))else s
def AV(l:List Rc):Rc×Bool:=l.foldl QB (EC,false)
theorem Ng{l:List Rc}{k:Nat}{d:Rc}(h:l[k]?=some d):AV (l.take (k+1))=QB (AV (l.take k)) d:=by
 unfold AV;rw[List.take_add_one,h,List.foldl_append];rfl
theorem Nh(ao:Option Addr)(n c:Nat)(l:List Rc)(w:World)(h:Sl je w ao n c l):Calls prog 173 #[.slice ao n c] w (cX (.tuple #[.agg #[.int .i64 (AV l).1.x0,.int .i64 (AV l).1.y0,.int .i64 (AV l).1.x1,.int .i64 (AV l).1.y1],.bool (AV l).2]) w):=by
 have H:=aa h;have hm:=h.nle;unfold maxLen at hm;have HL:=aa h.1;clear h;go_enter func173,ntmps173;go_wp2;go_loopw [3,8] (fun a i wr=> ∃(k:Nat)(s:Rc×Bool),k<=n/\i=.int .i64 k/\s=AV (l.take k)/\a=.bool s.2/\af (w.alloc (.cells #[.int .i64 s.1.x0,.int .i64 s.1.y0,.int .i64 s.1.x1,.int .i64 s.1.y1] 74)) wr) (fun _ i _=>n - (intOf i).toNat)
 case atStart=>exact⟨0,(EC,false),by omega,rfl,rfl,rfl,af.refl _⟩
 case round=>
  obtain⟨k,s,hk,rfl,hs,rfl,⟨y,rfl⟩⟩:=hrel;by_cases hlt:k<n
  ·obtain⟨d,hd⟩:=H.zo.ex hlt
   obtain⟨b,off,rfl,lb,c0,c1,c2,c3,i0,i1,i2,i3⟩:=YQ H.zo hd;have HS:=aa (Ng hd);rw[<-hs]at HS;have HH:=aa hs;clear hs hd i0 i1 i2 i3;cases q:kt d with
   |false=>
    have Q:=aa q;clear q;go_wp2_with ((with_reducible refine(bK d _).mono ?_);rintro e w' ⟨rfl,x9,rfl⟩;rw[Q.zo])
    refine⟨⟨k+1,s,by omega,by go_num,?_,rfl,ae⟩,?_⟩
    ·rw[HS.zo];simp[QB,Q.zo]
    ·simp[intOf];omega
   |true=>
    have Q:=aa q;clear q;obtain⟨r,t⟩:=s;cases t with
    |false=>
     go_wp2_with ((with_reducible refine(bK d _).mono ?_);rintro e w' ⟨rfl,x9,rfl⟩;rw[Q.zo])
     refine⟨⟨k+1,(d,true),by omega,by go_num,?_,rfl,ae⟩,?_⟩
     ·rw[HS.zo];simp[QB,Q.zo]
     ·simp[intOf];omega
    |true=>
     go_wp2_with ((with_reducible refine(bK d _).mono ?_);rintro e w' ⟨rfl,x9,rfl⟩;rw[Q.zo])
     refine⟨⟨k+1,(⟨ou r.x0 d.x0,ou r.y0 d.y0,jF r.x1 d.x1,jF r.y1 d.y1⟩,true),by omega,by go_num,?_,rfl,ae⟩,?_⟩
     ·rw[HS.zo];simp[QB,Q.zo]
     ·simp[intOf];omega
  ·obtain rfl:k=n:=by omega
   have e:l.take k=l:=dQ (by rw[HL.zo];exact Nat.le_refl _);rw[e]at hs;subst hs;go_wp2;refine bodyPost_ret (by simp[results,go_sem];rfl) rfl ?_;exact⟨rfl,ae⟩
theorem Zo(a b:Rc)(w:World):Calls prog 180 #[.agg #[.int .i64 a.x0,.int .i64 a.y0,.int .i64 a.x1,.int .i64 a.y1],.agg #[.int .i64 b.x0,.int .i64 b.y0,.int .i64 b.x1,.int .i64 b.y1]] w (cX (.int .i64 (uz a b)) w):=by
 cases q1:kt a with
 |false=>
  have e1:uz a b= -1:=by simp[uz,q1]
  rw[e1];have Q1:=aa q1;clear q1 e1;go_enter func180,ntmps180;go_wp2_with ((with_reducible refine(bK a _).mono ?_);rintro e w' ⟨rfl,x9,rfl⟩;rw[Q1.zo])
  go_ret;exact⟨rfl,ae⟩
 |true=>
  cases q2:kt b with
  |false=>
   have e1:uz a b= -1:=by simp[uz,q2]
   rw[e1];have Q1:=aa q1;have Q2:=aa q2;clear q1 q2 e1;go_enter func180,ntmps180;go_wp2_with (first|((with_reducible refine(bK a _).mono ?_);rintro e w' ⟨rfl,x9,rfl⟩;rw[Q1.zo])|((with_reducible refine(bK b _).mono ?_);rintro e w' ⟨rfl,x9,rfl⟩;rw[Q2.zo]))
   go_ret;exact⟨rfl,ae⟩
  |true=>
   have e1:uz a b=jF (jF 0 (jF a.x0 b.x0 - ou a.x1 b.x1)) (jF a.y0 b.y0 - ou a.y1 b.y1):=by simp[uz,q1,q2]
   rw[e1];have Q1:=aa q1;have Q2:=aa q2;clear q1 q2 e1;go_enter func180,ntmps180;go_wp2_with (first|((with_reducible refine(bK a _).mono ?_);rintro e w' ⟨rfl,x9,rfl⟩;rw[Q1.zo])|((with_reducible refine(bK b _).mono ?_);rintro e w' ⟨rfl,x9,rfl⟩;rw[Q2.zo])|((with_reducible refine(Vh a b _ Q1.zo Q2.zo).mono ?_);rintro e w' ⟨rfl,x8,rfl⟩))
   go_ret;exact⟨rfl,ae⟩
def iE(v:gR):Bool:=kt v.base&&(!decide (v.z0<0)&&(!decide (v.z1<=v.z0)&&(!decide (4096<v.z1)&&(!((v.use !=0)&&(v.units !=0))&&(decide ((0:Int)<=v.use)&&(decide (v.use<6)&&(decide ((0:Int)<=v.units)&&decide (v.units<=1048576))))))))
theorem js(v:gR)(w:World):Calls prog 164 #[.agg #[.int .i64 v.base.x0,.int .i64 v.base.y0,.int .i64 v.base.x1,.int .i64 v.base.y1,.int .i64 v.z0,.int .i64 v.z1,.int .i64 v.use,.int .i64 v.units,.bool v.extra]] w (cX (.bool (iE v)) w):=by
 obtain⟨res,hres⟩:∃r,iE v=r:=⟨_,rfl⟩;rw[hres];have aD:=aa hres;clear hres;cases q0:kt v.base with
 |false=>
  have Q0:=aa q0;clear q0;go_enter func164,ntmps164;go_wp2_with ((with_reducible refine(bK v.base _).mono ?_);rintro e w' ⟨rfl,x9,rfl⟩;rw[Q0.zo])
  go_ret;exact⟨by rw[<-aD.zo];simp only[iE,Q0.zo, *];rfl,ae⟩
 |true=>
  have Q0:=aa q0;clear q0;cases q1:decide (v.z0<0)with
  |false=>
   cases q2:decide (v.z1<=v.z0)with
   |false=>
    cases q3:decide (4096<v.z1)with
    |false=>
     cases q4:(v.use !=0)with
     |false=>
      cases q5:decide ((0:Int)<=v.use)with
      |false=>
       go_enter func164,ntmps164;go_wp2_with ((with_reducible refine(bK v.base _).mono ?_);rintro e w' ⟨rfl,x9,rfl⟩;rw[Q0.zo])
       go_ret;exact⟨by rw[<-aD.zo];simp only[iE,Q0.zo, *];rfl,ae⟩
      |true=>
       cases q6:decide (v.use<6)with
       |false=>
        go_enter func164,ntmps164;go_wp2_with ((with_reducible refine(bK v.base _).mono ?_);rintro e w' ⟨rfl,x9,rfl⟩;rw[Q0.zo])
        go_ret;exact⟨by rw[<-aD.zo];simp only[iE,Q0.zo, *];rfl,ae⟩
       |true=>
        cases q7:decide ((0:Int)<=v.units)with
        |false=>
         go_enter func164,ntmps164;go_wp2_with ((with_reducible refine(bK v.base _).mono ?_);rintro e w' ⟨rfl,x9,rfl⟩;rw[Q0.zo])
         go_ret;exact⟨by rw[<-aD.zo];simp only[iE,Q0.zo, *];rfl,ae⟩
        |true=>
         cases q8:decide (v.units<=1048576)with
         |false=>
          go_enter func164,ntmps164;go_wp2_with ((with_reducible refine(bK v.base _).mono ?_);rintro e w' ⟨rfl,x9,rfl⟩;rw[Q0.zo])
          go_ret;exact⟨by rw[<-aD.zo];simp only[iE,Q0.zo, *];rfl,ae⟩
         |true=>
          go_enter func164,ntmps164;go_wp2_with ((with_reducible refine(bK v.base _).mono ?_);rintro e w' ⟨rfl,x9,rfl⟩;rw[Q0.zo])
          go_ret;exact⟨by rw[<-aD.zo];simp only[iE,Q0.zo, *];rfl,ae⟩
     |true=>
      cases q5:(v.units !=0)with
      |false=>
       cases q6:decide ((0:Int)<=v.use)with
       |false=>
        go_enter func164,ntmps164;go_wp2_with ((with_reducible refine(bK v.base _).mono ?_);rintro e w' ⟨rfl,x9,rfl⟩;rw[Q0.zo])
        go_ret;exact⟨by rw[<-aD.zo];simp only[iE,Q0.zo, *];rfl,ae⟩
       |true=>
        cases q7:decide (v.use<6)with
        |false=>
         go_enter func164,ntmps164;go_wp2_with ((with_reducible refine(bK v.base _).mono ?_);rintro e w' ⟨rfl,x9,rfl⟩;rw[Q0.zo])
         go_ret;exact⟨by rw[<-aD.zo];simp only[iE,Q0.zo, *];rfl,ae⟩
        |true=>
         cases q8:decide ((0:Int)<=v.units)with
         |false=>
          go_enter func164,ntmps164;go_wp2_with ((with_reducible refine(bK v.base _).mono ?_);rintro e w' ⟨rfl,x9,rfl⟩;rw[Q0.zo])
          go_ret;exact⟨by rw[<-aD.zo];simp only[iE,Q0.zo, *];rfl,ae⟩
         |true=>
          cases q9:decide (v.units<=1048576)with
          |false=>
           go_enter func164,ntmps164;go_wp2_with ((with_reducible refine(bK v.base _).mono ?_);rintro e w' ⟨rfl,x9,rfl⟩;rw[Q0.zo])
           go_ret;exact⟨by rw[<-aD.zo];simp only[iE,Q0.zo, *];rfl,ae⟩
          |true=>
           go_enter func164,ntmps164;go_wp2_with ((with_reducible refine(bK v.base _).mono ?_);rintro e w' ⟨rfl,x9,rfl⟩;rw[Q0.zo])
           go_ret;exact⟨by rw[<-aD.zo];simp only[iE,Q0.zo, *];rfl,ae⟩
      |true=>
       go_enter func164,ntmps164;go_wp2_with ((with_reducible refine(bK v.base _).mono ?_);rintro e w' ⟨rfl,x9,rfl⟩;rw[Q0.zo])
       go_ret;exact⟨by rw[<-aD.zo];simp only[iE,Q0.zo, *];rfl,ae⟩
    |true=>
     go_enter func164,ntmps164;go_wp2_with ((with_reducible refine(bK v.base _).mono ?_);rintro e w' ⟨rfl,x9,rfl⟩;rw[Q0.zo])
     go_ret;exact⟨by rw[<-aD.zo];simp only[iE,Q0.zo, *];rfl,ae⟩
   |true=>
    go_enter func164,ntmps164;go_wp2_with ((with_reducible refine(bK v.base _).mono ?_);rintro e w' ⟨rfl,x9,rfl⟩;rw[Q0.zo])
    go_ret;exact⟨by rw[<-aD.zo];simp only[iE,Q0.zo, *];rfl,ae⟩
  |true=>
   go_enter func164,ntmps164;go_wp2_with ((with_reducible refine(bK v.base _).mono ?_);rintro e w' ⟨rfl,x9,rfl⟩;rw[Q0.zo])
   go_ret;exact⟨by rw[<-aD.zo];simp only[iE,Q0.zo, *];rfl,ae⟩
theorem mS{v:gR}(h:iE v=true):kt v.base=true/\0<=v.z0/\v.z0<v.z1/\v.z1<=4096/\0<=v.use/\v.use<6/\0<=v.units/\v.units<=1048576:=by
 simp only[iE,Bool.and_eq_true,Bool.not_eq_true',decide_eq_true_eq,decide_eq_false_iff_not]at h;obtain⟨h0,h1,h2,h3,h4,h5,h6,h7,h8⟩:=h;exact⟨h0,by omega,by omega,by omega,h5,h6,h7,h8⟩
theorem XS{a:Int}(h:0<=a)(h2:a<=5000):0<=a.tdiv 3/\a.tdiv 3<=5000:=by
 rw[Int.tdiv_eq_ediv_of_nonneg h];omega
def fM(v:gR):Int:=if v.extra|| !iE v then 0 else(v.z1 - v.z0+3 - 1).tdiv 3
theorem AW(v:gR)(w:World):Calls prog 253 #[.agg #[.int .i64 v.base.x0,.int .i64 v.base.y0,.int .i64 v.base.x1,.int .i64 v.base.y1,.int .i64 v.z0,.int .i64 v.z1,.int .i64 v.use,.int .i64 v.units,.bool v.extra]] w (cX (.int .i64 (fM v)) w):=by
 obtain⟨res,hres⟩:∃r,fM v=r:=⟨_,rfl⟩;rw[hres];have aD:=aa hres;clear hres;cases q:iE v with
 |false=>
  have Q:=aa q;have HZ:=aa (show res=0 by rw[<-aD.zo];simp[fM,q]);clear q;cases qe:v.extra with
  |true=>
   have HX:=aa qe;go_enter func253,ntmps253;go_wp2;go_ret;exact⟨by rw[HZ.zo];rfl,ae⟩
  |false=>
   have HX:=aa qe;go_enter func253,ntmps253;go_wp2_with (go_at_call 164;refine(js ⟨v.base,v.z0,v.z1,v.use,v.units,false⟩ _).mono ?_;rintro e w' ⟨rfl,x9,rfl⟩;rw[show iE ⟨v.base,v.z0,v.z1,v.use,v.units,false⟩=false from Q.zo])
   go_ret;exact⟨by rw[HZ.zo];rfl,ae⟩
 |true=>
  have Q:=aa q;obtain⟨h0,h1,h2,h3,_⟩:=mS q;have w1:IntKind.i64.wrap (v.z1 - v.z0)=v.z1 - v.z0:=ji (by omega) (by omega);have w2:IntKind.i64.wrap (v.z1 - v.z0+3)=v.z1 - v.z0+3:=ji (by omega) (by omega);have w3:IntKind.i64.wrap (v.z1 - v.z0+3 - 1)=v.z1 - v.z0+3 - 1:=ji (by omega) (by omega);obtain⟨d1,d2⟩:=XS (a:=v.z1 - v.z0+3 - 1) (by omega) (by omega);have w4:IntKind.i64.wrap ((v.z1 - v.z0+3 - 1).tdiv 3)=(v.z1 - v.z0+3 - 1).tdiv 3:=ji (by omega) (by omega);have HE:=aa (show res=if v.extra then 0 else(v.z1 - v.z0+3 - 1).tdiv 3 by rw[<-aD.zo];simp[fM,q]);clear q h0 h1 h2 h3 d1 d2;cases qe:v.extra with
  |true=>
   have HX:=aa qe;go_enter func253,ntmps253;go_wp2;go_ret;exact⟨by rw[HE.zo,HX.zo];rfl,ae⟩
  |false=>
   have HX:=aa qe;go_enter func253,ntmps253;go_wp2_with (go_at_call 164;refine(js ⟨v.base,v.z0,v.z1,v.use,v.units,false⟩ _).mono ?_;rintro e w' ⟨rfl,x9,rfl⟩;rw[show iE ⟨v.base,v.z0,v.z1,v.use,v.units,false⟩=true from Q.zo])
   go_ret;exact⟨by rw[HE.zo,HX.zo];rfl,ae⟩
section
open Go.RowKit Go.Deep Go.Joins Go.WideShapes
theorem uj{H:Type}{d:DataW H}{l:List (DataW H)}(h:d∈l):Rows.uptoBulk d<=Rows.uptoBulkAll l:=by
 induction l with
 |nil=>cases h
 |cons x r ih=>
  simp only[Rows.uptoBulkAll];cases List.mem_cons.1 h with
  |inl e=>subst e;omega
  |inr e=>have:=ih e;omega
theorem TY{H:Type}(d:DataW H):1<=Rows.uptoBulk d:=by
 cases d with
 |lit l=>cases l<;>simp[Rows.uptoBulk]
 |nil=>simp[Rows.uptoBulk]
 |ptr d=>simp[Rows.uptoBulk]
 |slice elems spare=>simp[Rows.uptoBulk]
 |agg parts=>simp[Rows.uptoBulk]
 |iface t d=>simp[Rows.uptoBulk]
 |map entries=>simp[Rows.uptoBulk]
 |held h=>simp[Rows.uptoBulk]
theorem TZ{H:Type}(l:List (DataW H)):l.length<=Rows.uptoBulkAll l:=by
 induction l with
 |nil=>simp[Rows.uptoBulkAll]
 |cons x r ih=>have:=TY x;simp only[Rows.uptoBulkAll,List.length_cons];omega
theorem xt{k:Nat}:∀(L:List (List Value)),(∀l∈L,l.length=k)->∀(i:Nat)(l:zv),L[i]?=some l->(L.flatten.drop (i*k)).take k=l
 | [],_,i,l,h=>by simp at h
 |a::L,hk,0,l,h=>by
  simp at h;subst h;rw[Nat.zero_mul,List.drop_zero,List.flatten_cons,<-hk a List.mem_cons_self,List.take_left]
 |a::L,hk,i+1,l,h=>by
  have h1:=xt L (fun x hx=>hk x (List.mem_cons_of_mem _ hx)) i l (by simpa using h);rw[List.flatten_cons,show(i+1)*k=a.length+i*k by rw[hk a List.mem_cons_self,Nat.add_mul,Nat.one_mul,Nat.add_comm],<-List.drop_drop,List.drop_left];exact h1
section
variable {H:Type}{enc:TypeId×Value->H}{w:World}{base:Nat}{spare:Nat->Bool}{held:Bool}
def Rd(enc:TypeId×Value->H)(w:World)(base:Nat)(spare:Nat->Bool)(held:Bool)(n:Nat)(t:TypeId)(cs:zv):Prop:= ∃y,DataW.trod enc prog w base spare held n t cs=some y/\Rows.uptoBulk y.1<=1048576
theorem Rd.struct{n:Nat}{t:TypeId}{cs:zv}{fs:Array Field}(h:Rd enc w base spare held n t cs)(ht:prog.underlying t=some (.struct fs)):cs.length=prog.cellsOf t/\∃m,n=m+1/\∀(i:Nat)(f:Field),fs[i]?=some f->∀c,prog.cellsOf f.type=c->Rd enc w base spare held m f.type ((cs.drop f.offset).take c):=by
 obtain⟨y,h,hb⟩:=h;obtain⟨xs,m,rfl,rfl,hl,hn,hx⟩:=DataW.trod_struct ht h;refine⟨hl,m,rfl,fun i f hf c hc=> ?_⟩;subst hc;have hi:=(Array.getElem?_eq_some_iff.1 hf).1;refine⟨xs[i],?_,?_⟩
 ·rw[hx i f hf,fZ (by omega)]
 ·have h1:Rows.uptoBulk xs[i].1<=Rows.uptoBulkAll (xs.map (·.1)):=uj (List.mem_map.2 ⟨xs[i],List.getElem_mem _,rfl⟩)
  simp only[Rows.uptoBulk]at hb;omega
theorem Rd.slice{n:Nat}{t e:TypeId}{k:Nat}{cs:zv}(h:Rd enc w base spare held n t cs)(ht:prog.underlying t=some (.slice e))(hk:prog.cellsOf e=k)(hk0:0<k):
 ∃ao len cap,∃L:List (List Value),cs= [.slice ao len cap]/\L.length=len/\len<=1048576/\fB (fun _=>True) k w (.slice ao len cap) len L.flatten/\∀l∈L,l.length=k/\∃m,m<n/\Rd enc w base spare held m e l:=by
 obtain⟨y,h,hb⟩:=h;rcases DataW.trod_slice ht h with⟨rfl,_⟩|⟨a,len,cap,elems,rest,m,rfl,rfl,rfl,hbs,hl,hm,hlen,hel,_,_⟩
 ·exact⟨none,0,0,[],rfl,rfl,by omega,fB.nil _ _ _,fun l hl=>by cases hl⟩
 ·have hbe:Rows.uptoBulkAll (elems.map (·.1))<=1048576:=by
   simp only[Rows.uptoBulk]at hb;omega
  have hle:len<=1048576:=by
   have:=TZ (elems.map (·.1));rw[List.length_map,hlen]at this;omega
  obtain⟨C,hC⟩:=choose_lt (α:=List Value) (n:=len) (p:=fun i c=>w.cells? base (a.add (i*k)) k=some c/\Rd enc w base spare held m e c) (fun i hi=>by
   have:=hel i hi;rw[hk,fZ (by omega)]at this;obtain⟨c,h1,h2⟩:=Option.bind_eq_some_iff.1 this;exact⟨c,h1,elems[i],h2,Nat.le_trans (uj (List.mem_map.2 ⟨elems[i],List.getElem_mem _,rfl⟩)) hbe⟩)
  have hCl:∀l∈(List.range len).map C,l.length=k:=by
   intro l hl;rw[List.mem_map]at hl;obtain⟨i,hi,rfl⟩:=hl;exact(World.cells?_some (hC i (by simpa using hi)).1).2.1
  refine⟨some a,len,cap,(List.range len).map C,rfl,by simp,hle,⟨?_,some a,cap,rfl,hl,hm,(fun h=>by cases h),fun hn=> ?_⟩,?_⟩
  ·rw[mX _ hCl];simp
  ·have at0:∃v,w.cell? a=some v:=by
    obtain⟨_,h2,h3⟩:=World.cells?_some (hC 0 hn).1;have:=h3 0 hk0;rw[Nat.zero_mul]at this;have hadd:(a.add 0).add 0=a:=by simp[Addr.add]
    rw[hadd,fZ (by omega)]at this;exact⟨_,this⟩
   obtain⟨v,hv⟩:=at0;have hsp:a.spot=none:=by
    unfold World.cell? at hv;split at hv
    ·split at hv
     ·cases hv
     ·simpa using ‹¬a.spot.isSome=true›
    ·cases hv
   obtain⟨b,off,sp⟩:=a;simp only at hsp;subst hsp;refine⟨b,off,rfl,trivial,bP hv,fun t c ht=> ?_⟩;have htl:=(bw ht).1;rw[mX _ hCl]at htl;simp only[List.length_map,List.length_range]at htl;have hdm:t / k*k+t%k=t:=by rw[Nat.mul_comm];exact Nat.div_add_mod t k
   have hmod:=Nat.mod_lt t hk0;have hi:t / k<len:=Nat.div_lt_of_lt_mul (by rw[Nat.mul_comm];exact htl);rw[<-hdm,qF _ hCl _ _ hmod]at ht;simp only[List.getElem?_map,List.getElem?_range hi,Option.map_some,Option.bind_some]at ht;obtain⟨_,_,h3⟩:=World.cells?_some (hC (t / k) hi).1;have:=h3 (t%k) hmod;rw[ht,Addr.add_lit,Addr.add_lit,Nat.add_assoc,hdm]at this;exact this
  ·intro l hl
   refine⟨hCl l hl,m,Nat.lt_succ_self m,?_⟩;rw[List.mem_map]at hl;obtain⟨i,hi,rfl⟩:=hl;exact(hC i (by simpa using hi)).2
theorem JD{α:Type}{β:Type}{R:β->α->Prop}:∀(L:List β),(∀l∈L,∃a,R l a)->∃A:List α,A.length=L.length/\∀(i:Nat)(a:α),A[i]?=some a->∃l,L[i]?=some l/\R l a
 | [],_=>⟨[],rfl,fun i l h=>by simp at h⟩
 |l::L,h=>by
  obtain⟨a,ha⟩:=h l (by simp);obtain⟨A,h1,h2⟩:=JD L (fun l' hl=>h l' (by simp[hl]));refine⟨a::A,by simp[h1],fun i l' hi=> ?_⟩;cases i with
  |zero=>simp at hi;subst hi;exact⟨l,by simp,ha⟩
  |succ i=>simp at hi;simpa using h2 i l' hi
theorem Rd.sl{T:Type}{L:Lay T}{G:T->Prop}{n:Nat}{t e:TypeId}{k:Nat}{x:Value}(h:Rd enc w base spare held n t [x])(ht:prog.underlying t=some (.slice e))(hk:prog.cellsOf e=k)(hk0:0<k)(hL:L.k=k)
 (he:∀m cs,m<n->Rd enc w base spare held m e cs->∃d,L.R w cs d/\G d):∃ao c,∃l:List T,x=.slice ao l.length c/\Sl L w ao l.length c l/\l.length<=1048576/\∀d∈l,G d:=by
 subst hL;obtain⟨ao,len,cap,C,e1,e2,e3,e4,e5⟩:=h.slice ht hk hk0;obtain⟨A,h1,h2⟩:=JD (R:=fun c d=>L.R w c d/\G d) C (fun c hc=>by
  obtain⟨_,m,hm,hr⟩:=e5 c hc;exact he m c hm hr)
 have hA:A.length=len:=h1.trans e2;subst hA;cases e1;refine⟨ao,cap,A,rfl,⟨rfl,C.flatten,e4,fun i d hd=> ?_⟩,e3,fun d hd=> ?_⟩
 ·obtain⟨c,hc,hr,_⟩:=h2 i d hd
  rw[xt C (fun c hc=>(e5 c hc).1) i c hc];exact hr
 ·obtain⟨i,hi⟩:=List.getElem?_of_mem hd
  obtain⟨c,_,_,hg⟩:=h2 i d hi;exact hg
theorem dU{n:Nat}{x:Value}(h:Rd enc w base spare held n 3 [x]):∃k,x=.int .i64 k/\I64 k:=by
 obtain⟨y,h,_⟩:=h;obtain⟨k,h1,_,h2⟩:=DataW.trod_int underlying3 h;cases h1;exact⟨k,rfl,I64.PN h2⟩
theorem F9{n:Nat}{x:Value}(h:Rd enc w base spare held n 4 [x]):∃b,x=.bool b:=by
 obtain⟨y,h,_⟩:=h;obtain⟨b,h1,_⟩:=DataW.trod_bool underlying4 h;cases h1;exact⟨b,rfl⟩
theorem oW{n:Nat}{x:Value}(h:Rd enc w base spare held n 9 [x]):∃s,x=.string s/\gS s:=by
 obtain⟨y,h,_⟩:=h;obtain⟨s,h1,_,h2⟩:=DataW.trod_string underlying9 h;cases h1;exact⟨s,rfl,Nat.le_trans h2 (by decide)⟩
theorem c3:prog.cellsOf 3=1:=by kernel_rfl
theorem c4:prog.cellsOf 4=1:=by kernel_rfl
theorem c9:prog.cellsOf 9=1:=by kernel_rfl
theorem c22:prog.cellsOf 22=1:=by kernel_rfl
theorem c23:prog.cellsOf 23=1:=by kernel_rfl
theorem c24:prog.cellsOf 24=1:=by kernel_rfl
theorem c25:prog.cellsOf 25=1:=by kernel_rfl
theorem c26:prog.cellsOf 26=1:=by kernel_rfl
theorem c27:prog.cellsOf 27=1:=by kernel_rfl
theorem c28:prog.cellsOf 28=1:=by kernel_rfl
theorem c30:prog.cellsOf 30=8:=by kernel_rfl
theorem c31:prog.cellsOf 31=1:=by kernel_rfl
theorem c32:prog.cellsOf 32=1:=by kernel_rfl
theorem c33:prog.cellsOf 33=1:=by kernel_rfl
theorem c34:prog.cellsOf 34=1:=by kernel_rfl
theorem c35:prog.cellsOf 35=1:=by kernel_rfl
theorem c37:prog.cellsOf 37=13:=by kernel_rfl
theorem c38:prog.cellsOf 38=1:=by kernel_rfl
theorem c40:prog.cellsOf 40=2:=by kernel_rfl
theorem c45:prog.cellsOf 45=1:=by kernel_rfl
theorem c46:prog.cellsOf 46=1:=by kernel_rfl
theorem c48:prog.cellsOf 48=5:=by kernel_rfl
theorem c50:prog.cellsOf 50=4:=by kernel_rfl
theorem c52:prog.cellsOf 52=20:=by kernel_rfl
theorem c53:prog.cellsOf 53=1:=by kernel_rfl
theorem c55:prog.cellsOf 55=30:=by kernel_rfl
theorem c66:prog.cellsOf 66=1:=by kernel_rfl
theorem c74:prog.cellsOf 74=4:=by kernel_rfl
theorem c75:prog.cellsOf 75=1:=by kernel_rfl
theorem c77:prog.cellsOf 77=4:=by kernel_rfl
theorem c80:prog.cellsOf 80=3:=by kernel_rfl
theorem c81:prog.cellsOf 81=1:=by kernel_rfl
theorem c83:prog.cellsOf 83=2:=by kernel_rfl
theorem c96:prog.cellsOf 96=6:=by kernel_rfl
theorem c98:prog.cellsOf 98=9:=by kernel_rfl
theorem ad7:prog.cellsOf 126=6:=by kernel_rfl
theorem ad8:prog.cellsOf 128=3:=by kernel_rfl
theorem c130:prog.cellsOf 130=4:=by kernel_rfl
theorem ad9:prog.cellsOf 132=3:=by kernel_rfl
theorem Ua:prog.cellsOf 134=3:=by kernel_rfl
theorem aea:prog.cellsOf 136=6:=by kernel_rfl
theorem c152:prog.cellsOf 152=2:=by kernel_rfl
theorem c167:prog.cellsOf 167=2:=by kernel_rfl
theorem aeb:prog.cellsOf 283=10:=by kernel_rfl
theorem aec:prog.cellsOf 511=4:=by kernel_rfl
theorem aaM{n:Nat}{cs:zv}(h:Rd enc w base spare held n 3 cs):∃d,(dv).R w cs d/\True:=by
 obtain⟨y,h,_⟩:=h;obtain⟨k,h1,_,h2⟩:=DataW.trod_int underlying3 h;exact⟨k,⟨h1,I64.PN h2⟩,trivial⟩
theorem Ub{n:Nat}{cs:zv}(h:Rd enc w base spare held n 9 cs):∃d,(fC).R w cs d/\True:=by
 obtain⟨y,h,_⟩:=h;obtain⟨s,h1,_,h2⟩:=DataW.trod_string underlying9 h;exact⟨s,⟨h1,Nat.le_trans h2 (by decide)⟩,trivial⟩
theorem Uc(n:Nat):∀cs,Rd enc w base spare held n 48 cs->∃d,iP w cs d:=by
 induction n using Nat.strongRecOn with
 |ind n ih=>
  intro cs h;obtain⟨hl,m,rfl,hf⟩:=h.struct underlying48;rw[c48]at hl
  match cs,hl,hf with
  | [x0,x1,x2,x3,x4],_,hf=>
   obtain⟨v0,rfl,i0⟩:=dU (x:=x0) (hf 0 _ rfl 1 c3);obtain⟨v1,rfl,i1⟩:=dU (x:=x1) (hf 1 _ rfl 1 c3);obtain⟨v2,rfl,i2⟩:=oW (x:=x2) (hf 2 _ rfl 1 c9);obtain⟨v3,rfl,i3⟩:=oW (x:=x3) (hf 3 _ rfl 1 c9);obtain⟨o4,k4,l4,rfl,⟨_,xs,hr,hx⟩,_,_⟩:=Rd.sl (L:=j7) (G:=fun _=>True) (x:=x4) (hf 4 _ rfl 1 c46) underlying46 c48 (by decide) rfl (fun m' cs h1 h=>(ih m' (by omega) cs h).imp fun d h=>⟨h,trivial⟩);exact⟨.mk v0 v1 v2 v3 l4,.mk v0 v1 v2 v3 l4 o4 k4 xs i0 i1 i2 i3 hr hx⟩
theorem Ud{n:Nat}{cs:zv}(h:Rd enc w base spare held n 167 cs):∃d,(zV).R w cs d:=by
 obtain⟨hl,m,rfl,hf⟩:=h.struct underlying167;rw[c167]at hl
 match cs,hl,hf with
 | [x0,x1],_,hf=>
  obtain⟨v0,rfl,i0⟩:=dU (x:=x0) (hf 0 _ rfl 1 c3);obtain⟨v1,rfl,i1⟩:=dU (x:=x1) (hf 1 _ rfl 1 c3);exact⟨⟨v0,v1⟩,⟨rfl,i0,i1⟩⟩
theorem Mw{n:Nat}{cs:zv}(h:Rd enc w base spare held n 134 cs):∃d,(yw).R w cs d:=by
 obtain⟨hl,m,rfl,hf⟩:=h.struct underlying134;rw[Ua]at hl
 match cs,hl,hf with
 | [x0,x1,x2],_,hf=>
  obtain⟨v0,rfl,i0⟩:=dU (x:=x0) (hf 0 _ rfl 1 c3);obtain⟨v1,rfl,i1⟩:=dU (x:=x1) (hf 1 _ rfl 1 c3);obtain⟨v2,rfl,i2⟩:=dU (x:=x2) (hf 2 _ rfl 1 c3);exact⟨⟨v0,v1,v2⟩,⟨rfl,i0,i1,i2⟩⟩
theorem Ue{n:Nat}{cs:zv}(h:Rd enc w base spare held n 74 cs):∃d,(je).R w cs d:=by
 obtain⟨hl,m,rfl,hf⟩:=h.struct underlying74;rw[c74]at hl
 match cs,hl,hf with
 | [x0,x1,x2,x3],_,hf=>
  obtain⟨v0,rfl,i0⟩:=dU (x:=x0) (hf 0 _ rfl 1 c3);obtain⟨v1,rfl,i1⟩:=dU (x:=x1) (hf 1 _ rfl 1 c3);obtain⟨v2,rfl,i2⟩:=dU (x:=x2) (hf 2 _ rfl 1 c3);obtain⟨v3,rfl,i3⟩:=dU (x:=x3) (hf 3 _ rfl 1 c3);exact⟨⟨v0,v1,v2,v3⟩,⟨rfl,i0,i1,i2,i3⟩⟩
theorem aaN{n:Nat}{cs:zv}(h:Rd enc w base spare held n 50 cs):∃d,(um).R w cs d:=by
 obtain⟨hl,m,rfl,hf⟩:=h.struct underlying50;rw[c50]at hl
 match cs,hl,hf with
 | [x0,x1,x2,x3],_,hf=>
  obtain⟨v0,rfl,i0⟩:=dU (x:=x0) (hf 0 _ rfl 1 c3);obtain⟨v1,rfl,i1⟩:=dU (x:=x1) (hf 1 _ rfl 1 c3);obtain⟨v2,rfl,i2⟩:=dU (x:=x2) (hf 2 _ rfl 1 c3);obtain⟨v3,rfl,i3⟩:=dU (x:=x3) (hf 3 _ rfl 1 c3);exact⟨⟨v0,v1,v2,v3⟩,⟨rfl,i0,i1,i2,i3⟩⟩
theorem aaO{n:Nat}{cs:zv}(h:Rd enc w base spare held n 77 cs):∃d,(pM).R w cs d/\d.old.length<=1048576:=by
 obtain⟨hl,m,rfl,hf⟩:=h.struct underlying77;rw[c77]at hl
 match cs,hl,hf with
 | [x0,x1,x2,x3],_,hf=>
  obtain⟨v0,rfl,i0⟩:=dU (x:=x0) (hf 0 _ rfl 1 c3);obtain⟨v1,rfl,i1⟩:=dU (x:=x1) (hf 1 _ rfl 1 c3);obtain⟨o2,k2,l2,rfl,s2,b2,g2⟩:=Rd.sl (L:=je) (G:=(fun _=>True)) (x:=x2) (hf 2 _ rfl 1 c75) underlying75 c74 (by decide) rfl (fun m cs _ h=>(Ue h).imp fun d h=>⟨h,trivial⟩);obtain⟨o3,k3,l3,rfl,s3,b3,g3⟩:=Rd.sl (L:=dv) (G:=(fun _=>True)) (x:=x3) (hf 3 _ rfl 1 c66) underlying66 c3 (by decide) rfl (fun m cs _ h=>aaM h);exact⟨⟨v0,v1,l2,l3⟩,⟨o2,k2,o3,k3,rfl,i0,i1,s2,s3⟩,b3⟩
theorem Xy{n:Nat}{cs:zv}(h:Rd enc w base spare held n 80 cs):∃d,(vG).R w cs d:=by
 obtain⟨hl,m,rfl,hf⟩:=h.struct underlying80;rw[c80]at hl
 match cs,hl,hf with
 | [x0,x1,x2],_,hf=>
  obtain⟨v0,rfl,i0⟩:=dU (x:=x0) (hf 0 _ rfl 1 c3);obtain⟨o1,k1,l1,rfl,s1,b1,g1⟩:=Rd.sl (L:=je) (G:=(fun _=>True)) (x:=x1) (hf 1 _ rfl 1 c75) underlying75 c74 (by decide) rfl (fun m cs _ h=>(Ue h).imp fun d h=>⟨h,trivial⟩);obtain⟨v2,rfl,i2⟩:=dU (x:=x2) (hf 2 _ rfl 1 c3);exact⟨⟨v0,l1,v2⟩,⟨o1,k1,rfl,i0,s1,i2⟩⟩
theorem Cy{n:Nat}{cs:zv}(h:Rd enc w base spare held n 152 cs):∃d,(eY).R w cs d:=by
 obtain⟨hl,m,rfl,hf⟩:=h.struct underlying152;rw[c152]at hl
 match cs,hl,hf with
 | [x0,x1],_,hf=>
  obtain⟨v0,rfl,i0⟩:=oW (x:=x0) (hf 0 _ rfl 1 c9);obtain⟨v1,rfl,i1⟩:=dU (x:=x1) (hf 1 _ rfl 1 c3);exact⟨⟨v0,v1⟩,⟨rfl,i0,i1⟩⟩
theorem aaP{n:Nat}{cs:zv}(h:Rd enc w base spare held n 126 cs):∃d,(mC).R w cs d:=by
 obtain⟨hl,m,rfl,hf⟩:=h.struct underlying126;rw[ad7]at hl
 match cs,hl,hf with
 | [x0,x1,x2,x3,x4,x5],_,hf=>
  obtain⟨v0,rfl,i0⟩:=oW (x:=x0) (hf 0 _ rfl 1 c9);obtain⟨v1,r1⟩:=Uc _ [x1,x2,x3,x4,x5] (hf 1 _ rfl 5 c48);obtain⟨o1,k1,hc1,i1⟩:=r1.opened;simp only[List.cons.injEq,and_true]at hc1;obtain⟨rfl,rfl,rfl,rfl,rfl⟩:=hc1;exact⟨⟨v0,v1⟩,⟨o1,k1,rfl,i0,i1⟩⟩
theorem aaQ{n:Nat}{cs:zv}(h:Rd enc w base spare held n 132 cs):∃d,(nB).R w cs d:=by
 obtain⟨hl,m,rfl,hf⟩:=h.struct underlying132;rw[ad9]at hl
 match cs,hl,hf with
 | [x0,x1,x2],_,hf=>
  obtain⟨v0,rfl,i0⟩:=oW (x:=x0) (hf 0 _ rfl 1 c9);obtain⟨o1,k1,l1,rfl,s1,b1,g1⟩:=Rd.sl (L:=eY) (G:=(fun _=>True)) (x:=x1) (hf 1 _ rfl 1 c35) underlying35 c152 (by decide) rfl (fun m cs _ h=>(Cy h).imp fun d h=>⟨h,trivial⟩);obtain⟨v2,rfl,i2⟩:=dU (x:=x2) (hf 2 _ rfl 1 c3);exact⟨⟨v0,l1,v2⟩,⟨o1,k1,rfl,i0,s1,i2⟩⟩
theorem Xz{n:Nat}{cs:zv}(h:Rd enc w base spare held n 128 cs):∃d,(jV).R w cs d:=by
 obtain⟨hl,m,rfl,hf⟩:=h.struct underlying128;rw[ad8]at hl
 match cs,hl,hf with
 | [x0,x1,x2],_,hf=>
  obtain⟨v0,rfl,i0⟩:=oW (x:=x0) (hf 0 _ rfl 1 c9);obtain⟨v1,rfl⟩:=F9 (x:=x1) (hf 1 _ rfl 1 c4);obtain⟨o2,k2,l2,rfl,s2,b2,g2⟩:=Rd.sl (L:=zV) (G:=(fun _=>True)) (x:=x2) (hf 2 _ rfl 1 c53) underlying53 c167 (by decide) rfl (fun m cs _ h=>(Ud h).imp fun d h=>⟨h,trivial⟩);exact⟨⟨v0,v1,l2⟩,⟨o2,k2,rfl,i0,s2⟩⟩
theorem Ga{n:Nat}{cs:zv}(h:Rd enc w base spare held n 52 cs):∃d,(aw).R w cs d:=by
 obtain⟨hl,m,rfl,hf⟩:=h.struct underlying52;rw[c52]at hl
 match cs,hl,hf with
 | [x0,x1,x2,x3,x4,x5,x6,x7,x8,x9,x10,x11,x12,x13,x14,x15,x16,x17,x18,x19],_,hf=>
  obtain⟨v0,rfl,i0⟩:=oW (x:=x0) (hf 0 _ rfl 1 c9);obtain⟨o1,k1,l1,rfl,s1,b1,g1⟩:=Rd.sl (L:=fC) (G:=(fun _=>True)) (x:=x1) (hf 1 _ rfl 1 c45) underlying45 c9 (by decide) rfl (fun m cs _ h=>Ub h);obtain⟨o2,k2,l2,rfl,s2,b2,g2⟩:=Rd.sl (L:=fC) (G:=(fun _=>True)) (x:=x2) (hf 2 _ rfl 1 c45) underlying45 c9 (by decide) rfl (fun m cs _ h=>Ub h);obtain⟨v3,rfl,i3⟩:=dU (x:=x3) (hf 3 _ rfl 1 c3);obtain⟨v4,rfl,i4⟩:=dU (x:=x4) (hf 4 _ rfl 1 c3);obtain⟨v5,rfl,i5⟩:=dU (x:=x5) (hf 5 _ rfl 1 c3);obtain⟨v6,rfl⟩:=F9 (x:=x6) (hf 6 _ rfl 1 c4);obtain⟨v7,rfl,i7⟩:=dU (x:=x7) (hf 7 _ rfl 1 c3);obtain⟨v8,r8⟩:=Uc _ [x8,x9,x10,x11,x12] (hf 8 _ rfl 5 c48);obtain⟨o8,k8,hc8,i8⟩:=r8.opened;simp only[List.cons.injEq,and_true]at hc8;obtain⟨rfl,rfl,rfl,rfl,rfl⟩:=hc8;obtain⟨v9,r9⟩:=aaN (cs:= [x13,x14,x15,x16]) (hf 9 _ rfl 4 c50);obtain⟨hc9,agB,agC,agD,agE⟩:=r9;simp only[List.cons.injEq,and_true]at hc9;obtain⟨rfl,rfl,rfl,rfl⟩:=hc9;obtain⟨v10,rfl,i10⟩:=dU (x:=x17) (hf 10 _ rfl 1 c3);obtain⟨v11,rfl,i11⟩:=dU (x:=x18) (hf 11 _ rfl 1 c3);obtain⟨v12,rfl,i12⟩:=dU (x:=x19) (hf 12 _ rfl 1 c3);exact⟨⟨v0,l1,l2,v3,v4,v5,v6,v7,v8,v9,v10,v11,v12⟩,⟨o1,k1,o2,k2,o8,k8,rfl,i0,s1,s2,i3,i4,i5,i7,i8,agB,agC,agD,agE,i10,i11,i12⟩⟩
theorem aaR{n:Nat}{cs:zv}(h:Rd enc w base spare held n 130 cs):∃d,(iR).R w cs d:=by
 obtain⟨hl,m,rfl,hf⟩:=h.struct underlying130;rw[c130]at hl
 match cs,hl,hf with
 | [x0,x1,x2,x3],_,hf=>
  obtain⟨v0,rfl,i0⟩:=oW (x:=x0) (hf 0 _ rfl 1 c9);obtain⟨v1,rfl,i1⟩:=dU (x:=x1) (hf 1 _ rfl 1 c3);obtain⟨v2,rfl,i2⟩:=dU (x:=x2) (hf 2 _ rfl 1 c3);obtain⟨o3,k3,l3,rfl,s3,b3,g3⟩:=Rd.sl (L:=zV) (G:=(fun _=>True)) (x:=x3) (hf 3 _ rfl 1 c53) underlying53 c167 (by decide) rfl (fun m cs _ h=>(Ud h).imp fun d h=>⟨h,trivial⟩);exact⟨⟨v0,v1,v2,l3⟩,⟨o3,k3,rfl,i0,i1,i2,s3⟩⟩
theorem XA{n:Nat}{cs:zv}(h:Rd enc w base spare held n 136 cs):∃d,(kM).R w cs d:=by
 obtain⟨hl,m,rfl,hf⟩:=h.struct underlying136;rw[aea]at hl
 match cs,hl,hf with
 | [x0,x1,x2,x3,x4,x5],_,hf=>
  obtain⟨v0,rfl,i0⟩:=oW (x:=x0) (hf 0 _ rfl 1 c9);obtain⟨v1,r1⟩:=Mw (cs:= [x1,x2,x3]) (hf 1 _ rfl 3 Ua);obtain⟨hc1,Uf,Ug,Uh⟩:=r1;simp only[List.cons.injEq,and_true]at hc1;obtain⟨rfl,rfl,rfl⟩:=hc1;obtain⟨v2,rfl,i2⟩:=dU (x:=x4) (hf 2 _ rfl 1 c3);obtain⟨o3,k3,l3,rfl,s3,b3,g3⟩:=Rd.sl (L:=yw) (G:=(fun _=>True)) (x:=x5) (hf 3 _ rfl 1 c28) underlying28 Ua (by decide) rfl (fun m cs _ h=>(Mw h).imp fun d h=>⟨h,trivial⟩);exact⟨⟨v0,v1,v2,l3⟩,⟨o3,k3,rfl,i0,Uf,Ug,Uh,i2,s3⟩⟩
theorem XB{n:Nat}{cs:zv}(h:Rd enc w base spare held n 30 cs):∃d,(bq).R w cs d:=by
 obtain⟨hl,m,rfl,hf⟩:=h.struct underlying30;rw[c30]at hl
 match cs,hl,hf with
 | [x0,x1,x2,x3,x4,x5,x6,x7],_,hf=>
  obtain⟨o0,k0,l0,rfl,s0,b0,g0⟩:=Rd.sl (L:=mC) (G:=(fun _=>True)) (x:=x0) (hf 0 _ rfl 1 c22) underlying22 ad7 (by decide) rfl (fun m cs _ h=>(aaP h).imp fun d h=>⟨h,trivial⟩);obtain⟨o1,k1,l1,rfl,s1,b1,g1⟩:=Rd.sl (L:=nB) (G:=(fun _=>True)) (x:=x1) (hf 1 _ rfl 1 c23) underlying23 ad9 (by decide) rfl (fun m cs _ h=>(aaQ h).imp fun d h=>⟨h,trivial⟩);obtain⟨o2,k2,l2,rfl,s2,b2,g2⟩:=Rd.sl (L:=jV) (G:=(fun _=>True)) (x:=x2) (hf 2 _ rfl 1 c24) underlying24 ad8 (by decide) rfl (fun m cs _ h=>(Xz h).imp fun d h=>⟨h,trivial⟩);obtain⟨o3,k3,l3,rfl,s3,b3,g3⟩:=Rd.sl (L:=aw) (G:=(fun _=>True)) (x:=x3) (hf 3 _ rfl 1 c25) underlying25 c52 (by decide) rfl (fun m cs _ h=>(Ga h).imp fun d h=>⟨h,trivial⟩);obtain⟨o4,k4,l4,rfl,s4,b4,g4⟩:=Rd.sl (L:=iR) (G:=(fun _=>True)) (x:=x4) (hf 4 _ rfl 1 c26) underlying26 c130 (by decide) rfl (fun m cs _ h=>(aaR h).imp fun d h=>⟨h,trivial⟩);obtain⟨o5,k5,l5,rfl,s5,b5,g5⟩:=Rd.sl (L:=kM) (G:=(fun _=>True)) (x:=x5) (hf 5 _ rfl 1 c27) underlying27 aea (by decide) rfl (fun m cs _ h=>(XA h).imp fun d h=>⟨h,trivial⟩);obtain⟨o6,k6,l6,rfl,s6,b6,g6⟩:=Rd.sl (L:=yw) (G:=(fun _=>True)) (x:=x6) (hf 6 _ rfl 1 c28) underlying28 Ua (by decide) rfl (fun m cs _ h=>(Mw h).imp fun d h=>⟨h,trivial⟩);obtain⟨v7,rfl,i7⟩:=dU (x:=x7) (hf 7 _ rfl 1 c3);exact⟨⟨l0,l1,l2,l3,l4,l5,l6,v7⟩,⟨o0,k0,o1,k1,o2,k2,o3,k3,o4,k4,o5,k5,o6,k6,rfl,s0,s1,s2,s3,s4,s5,s6,i7⟩⟩
theorem Ui{n:Nat}{cs:zv}(h:Rd enc w base spare held n 98 cs):∃d,(iD).R w cs d:=by
 obtain⟨hl,m,rfl,hf⟩:=h.struct underlying98;rw[c98]at hl
 match cs,hl,hf with
 | [x0,x1,x2,x3,x4,x5,x6,x7,x8],_,hf=>
  obtain⟨_,m2,rfl,hf2⟩:=Rd.struct (cs:= [x0,x1,x2,x3,x4,x5]) (hf 0 _ rfl 6 c96) underlying96;obtain⟨v0,r0⟩:=Ue (cs:= [x0,x1,x2,x3]) (hf2 0 _ rfl 4 c74);obtain⟨hc0,aaS,aaT,aaU,aaV⟩:=r0;simp only[List.cons.injEq,and_true]at hc0;obtain⟨rfl,rfl,rfl,rfl⟩:=hc0;obtain⟨v1,rfl,i1⟩:=dU (x:=x4) (hf2 1 _ rfl 1 c3);obtain⟨v2,rfl,i2⟩:=dU (x:=x5) (hf2 2 _ rfl 1 c3);obtain⟨v3,rfl,i3⟩:=dU (x:=x6) (hf 1 _ rfl 1 c3);obtain⟨v4,rfl,i4⟩:=dU (x:=x7) (hf 2 _ rfl 1 c3);obtain⟨v5,rfl⟩:=F9 (x:=x8) (hf 3 _ rfl 1 c4);exact⟨⟨v0,v1,v2,v3,v4,v5⟩,⟨rfl,aaS,aaT,aaU,aaV,i1,i2,i3,i4⟩⟩
theorem Uj{n:Nat}{cs:zv}(h:Rd enc w base spare held n 83 cs):∃d,(uP).R w cs d:=by
 obtain⟨hl,m,rfl,hf⟩:=h.struct underlying83;rw[c83]at hl
 match cs,hl,hf with
 | [x0,x1],_,hf=>
  obtain⟨o0,k0,l0,rfl,s0,b0,g0⟩:=Rd.sl (L:=iD) (G:=(fun _=>True)) (x:=x0) (hf 0 _ rfl 1 c81) underlying81 c98 (by decide) rfl (fun m cs _ h=>(Ui h).imp fun d h=>⟨h,trivial⟩);obtain⟨o1,k1,l1,rfl,s1,b1,g1⟩:=Rd.sl (L:=eY) (G:=(fun _=>True)) (x:=x1) (hf 1 _ rfl 1 c35) underlying35 c152 (by decide) rfl (fun m cs _ h=>(Cy h).imp fun d h=>⟨h,trivial⟩);exact⟨⟨l0,l1⟩,⟨o0,k0,o1,k1,rfl,s0,s1⟩⟩
theorem Uk{n:Nat}{cs:zv}(h:Rd enc w base spare held n 40 cs):∃d,(e6).R w cs d:=by
 obtain⟨hl,m,rfl,hf⟩:=h.struct underlying40;rw[c40]at hl
 match cs,hl,hf with
 | [x0,x1],_,hf=>
  obtain⟨v0,rfl,i0⟩:=dU (x:=x0) (hf 0 _ rfl 1 c3);obtain⟨o1,k1,l1,rfl,s1,b1,g1⟩:=Rd.sl (L:=uP) (G:=(fun _=>True)) (x:=x1) (hf 1 _ rfl 1 c38) underlying38 c83 (by decide) rfl (fun m cs _ h=>(Uj h).imp fun d h=>⟨h,trivial⟩);exact⟨⟨v0,l1⟩,⟨o1,k1,rfl,i0,s1⟩⟩
theorem Pe{n:Nat}{cs:zv}(h:Rd enc w base spare held n 283 cs):∃d,(lI).R w cs d:=by
 obtain⟨hl,m,rfl,hf⟩:=h.struct underlying283;rw[aeb]at hl
 match cs,hl,hf with
 | [x0,x1,x2,x3,x4,x5,x6,x7,x8,x9],_,hf=>
  obtain⟨v0,rfl,i0⟩:=dU (x:=x0) (hf 0 _ rfl 1 c3);obtain⟨v1,r1⟩:=Ui (cs:= [x1,x2,x3,x4,x5,x6,x7,x8,x9]) (hf 1 _ rfl 9 c98);obtain⟨hc1,Uf,Ug,Uh,agF,agG,agH,agI,agJ⟩:=r1;simp only[List.cons.injEq,and_true]at hc1;obtain⟨rfl,rfl,rfl,rfl,rfl,rfl,rfl,rfl,rfl⟩:=hc1;exact⟨⟨v0,v1⟩,⟨rfl,i0,Uf,Ug,Uh,agF,agG,agH,agI,agJ⟩⟩
theorem aaW{n:Nat}{cs:zv}(h:Rd enc w base spare held n 511 cs):∃d,(PU).R w cs d:=by
 obtain⟨hl,m,rfl,hf⟩:=h.struct underlying511;rw[aec]at hl
 match cs,hl,hf with
 | [x0,x1,x2,x3],_,hf=>
  obtain⟨v0,rfl,i0⟩:=dU (x:=x0) (hf 0 _ rfl 1 c3);obtain⟨v1,r1⟩:=Mw (cs:= [x1,x2,x3]) (hf 1 _ rfl 3 Ua);obtain⟨hc1,Uf,Ug,Uh⟩:=r1;simp only[List.cons.injEq,and_true]at hc1;obtain⟨rfl,rfl,rfl⟩:=hc1;exact⟨⟨v0,v1⟩,⟨rfl,i0,Uf,Ug,Uh⟩⟩
theorem Mx{n:Nat}{cs:zv}(h:Rd enc w base spare held n 37 cs):∃d,(gg).R w cs d/\∀x∈d.land,x.old.length<=1048576:=by
 obtain⟨hl,m,rfl,hf⟩:=h.struct underlying37;rw[c37]at hl
 match cs,hl,hf with
 | [x0,x1,x2,x3,x4,x5,x6,x7,x8,x9,x10,x11,x12],_,hf=>
  obtain⟨v0,r0⟩:=XB (cs:= [x0,x1,x2,x3,x4,x5,x6,x7]) (hf 0 _ rfl 8 c30);obtain⟨agK,agL,agM,agN,agO,agP,agQ,agR,agS,agT,aed,aee,aef,aeg,hc0,aaS,aaT,aaU,aaV,agU,agV,agW,agX⟩:=r0;simp only[List.cons.injEq,and_true]at hc0;obtain⟨rfl,rfl,rfl,rfl,rfl,rfl,rfl,rfl⟩:=hc0;obtain⟨o1,k1,l1,rfl,s1,b1,g1⟩:=Rd.sl (L:=pM) (G:=(fun d:Lot=>d.old.length<=1048576)) (x:=x8) (hf 1 _ rfl 1 c31) underlying31 c77 (by decide) rfl (fun m cs _ h=>aaO h);obtain⟨o2,k2,l2,rfl,s2,b2,g2⟩:=Rd.sl (L:=vG) (G:=(fun _=>True)) (x:=x9) (hf 2 _ rfl 1 c32) underlying32 c80 (by decide) rfl (fun m cs _ h=>(Xy h).imp fun d h=>⟨h,trivial⟩);obtain⟨o3,k3,l3,rfl,s3,b3,g3⟩:=Rd.sl (L:=PU) (G:=(fun _=>True)) (x:=x10) (hf 3 _ rfl 1 c33) underlying33 aec (by decide) rfl (fun m cs _ h=>(aaW h).imp fun d h=>⟨h,trivial⟩);obtain⟨o4,k4,l4,rfl,s4,b4,g4⟩:=Rd.sl (L:=lI) (G:=(fun _=>True)) (x:=x11) (hf 4 _ rfl 1 c34) underlying34 aeb (by decide) rfl (fun m cs _ h=>(Pe h).imp fun d h=>⟨h,trivial⟩);obtain⟨o5,k5,l5,rfl,s5,b5,g5⟩:=Rd.sl (L:=eY) (G:=(fun _=>True)) (x:=x12) (hf 5 _ rfl 1 c35) underlying35 c152 (by decide) rfl (fun m cs _ h=>(Cy h).imp fun d h=>⟨h,trivial⟩);exact⟨⟨v0,l1,l2,l3,l4,l5⟩,⟨agK,agL,agM,agN,agO,agP,agQ,agR,agS,agT,aed,aee,aef,aeg,o1,k1,o2,k2,o3,k3,o4,k4,o5,k5,rfl,aaS,aaT,aaU,aaV,agU,agV,agW,agX,s1,s2,s3,s4,s5⟩,g1⟩
theorem XC{n:Nat}{cs:zv}(h:Rd enc w base spare held n 55 cs):∃d,(cY).R w cs d:=by
 obtain⟨hl,m,rfl,hf⟩:=h.struct underlying55;rw[c55]at hl
 match cs,hl,hf with
 | [x0,x1,x2,x3,x4,x5,x6,x7,x8,x9,x10,x11,x12,x13,x14,x15,x16,x17,x18,x19,x20,x21,x22,x23,x24,x25,x26,x27,x28,x29],_,hf=>
  obtain⟨v0,rfl,i0⟩:=dU (x:=x0) (hf 0 _ rfl 1 c3);obtain⟨v1,rfl,i1⟩:=oW (x:=x1) (hf 1 _ rfl 1 c9);obtain⟨v2,rfl,i2⟩:=oW (x:=x2) (hf 2 _ rfl 1 c9);obtain⟨v3,rfl,i3⟩:=dU (x:=x3) (hf 3 _ rfl 1 c3);obtain⟨v4,r4⟩:=Ga (cs:= [x4,x5,x6,x7,x8,x9,x10,x11,x12,x13,x14,x15,x16,x17,x18,x19,x20,x21,x22,x23]) (hf 4 _ rfl 20 c52);obtain⟨agY,agZ,ag0,ag1,ag2,ag3,hc4,ag4,ag5,ag6,ag7,ag8,ag9,aha,ahb,ahc,ahd,aeh,aei,aej,aek,ael⟩:=r4;simp only[List.cons.injEq,and_true]at hc4;obtain⟨rfl,rfl,rfl,rfl,rfl,rfl,rfl,rfl,rfl,rfl,rfl,rfl,rfl,rfl,rfl,rfl,rfl,rfl,rfl,rfl⟩:=hc4;obtain⟨v5,r5⟩:=Uc _ [x24,x25,x26,x27,x28] (hf 5 _ rfl 5 c48);obtain⟨o5,k5,hc5,i5⟩:=r5.opened;simp only[List.cons.injEq,and_true]at hc5;obtain⟨rfl,rfl,rfl,rfl,rfl⟩:=hc5;obtain⟨o6,k6,l6,rfl,s6,b6,g6⟩:=Rd.sl (L:=zV) (G:=(fun _=>True)) (x:=x29) (hf 6 _ rfl 1 c53) underlying53 c167 (by decide) rfl (fun m cs _ h=>(Ud h).imp fun d h=>⟨h,trivial⟩);exact⟨⟨v0,v1,v2,v3,v4,v5,l6⟩,⟨agY,agZ,ag0,ag1,ag2,ag3,o5,k5,o6,k6,rfl,i0,i1,i2,i3,ag4,ag5,ag6,ag7,ag8,ag9,aha,ahb,ahc,ahd,aeh,aei,aej,aek,ael,i5,s6⟩⟩
end
end
end Go.Proofs.YtomgpelfmgkknaaGreatDoor
