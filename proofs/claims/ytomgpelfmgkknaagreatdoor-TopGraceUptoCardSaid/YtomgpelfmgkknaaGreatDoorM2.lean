/- Lemmas for the law. No conditions. -/
import Derived.Test.YtomgpelfmgkknaaGreatDoorRows
import Derived.WalkKit
import Derived.WalkSpells
import Derived.WalkLawsBesides
import Derived.Deep.QuietTactic
import Derived.BigQuiet
import Derived.Lib.Hide
import Derived.Laws.AppendOwnNone
import Derived.Deep.Slices
import Derived.Deep.Fields
import Derived.ChangeSame
import Derived.Deep.RegionHeld3
import Derived.ProofKit
import Derived.OpenShut
import Derived.ShutString
import Derived.Deep.WholeRow
import Derived.Maps.OwnOps
import Derived.Maps.OwnSet
import Derived.LoopTactic
import Derived.Lib.Strings
import Derived.Lib.IndexBytes
import Derived.Test.YtomgpelfmgkknaaGreatDoorM1
import Derived.OwnWalk
import Derived.LoopN
namespace Go.Proofs.YtomgpelfmgkknaaGreatDoor
open Go.RowKit Go.Maps
open Go.Proofs.Tryz
set_option maxRecDepth 100000
set_option maxHeartbeats 40000000
set_option linter.unusedVariables false
set_option linter.unusedSimpArgs false
abbrev zv:=List Value
section
structure Ex where
 bs:Array Obj
 dr:Nat
instance :Nonempty Ex:=⟨⟨#[],0⟩⟩
def av(w:World)(x:Ex):World:={w with heap:=w.heap++x.bs,drawn:=x.dr}
section
variable (w:World)(x y:Ex)
@[simp, go_sem] theorem aa8:(av w x).heap.size=w.heap.size+x.bs.size:=by simp[av]
@[simp, go_sem] theorem aa9:(av w x).tape=w.tape:=rfl
theorem iQ(k:Nat)(h:k<w.heap.size):(av w x).heap[k]?=w.heap[k]?:=by
 simp only[av,Array.getElem?_append];rw[if_pos h]
@[go_sem] theorem Du(n i:Nat)(h:n<w.heap.size):(av w x).cell? ⟨n,i,none⟩=w.cell? ⟨n,i,none⟩:=by
 simp only[World.cell?,iQ w x n h]
@[go_sem] theorem GK(n i:Nat)(h:n<w.heap.size):(av w x).frozen? ⟨n,i,none⟩=w.frozen? ⟨n,i,none⟩:=by
 simp only[World.frozen?,iQ w x n h]
@[go_sem] theorem qE(n i:Nat)(v:Value)(h:n<w.heap.size):(av w x).setCell ⟨n,i,none⟩ v=av (w.setCell ⟨n,i,none⟩ v) x:=by
 unfold World.setCell av;congr 1;apply Array.ext_getElem?;intro k;simp only[Array.getElem?_modify,Array.getElem?_append,Array.size_modify];by_cases hk:k<w.heap.size
 ·simp only[if_pos hk]
 ·have hn: ¬n=k:=by omega
  simp only[if_neg hk,if_neg hn]
@[go_sem] theorem au:av w.drew x=av w x:=rfl
@[go_sem] theorem ai:(av w x).drew=av w ⟨x.bs,x.dr+1⟩:=rfl
@[go_sem] theorem Ur(n:Nat):(av w x).drewN n=av w ⟨x.bs,x.dr+n⟩:=rfl
theorem il:av (av w x) y=av w ⟨x.bs++y.bs,y.dr⟩:=by simp[av,Array.append_assoc]
def Ex.and(x y:Ex):Ex:=⟨x.bs++y.bs,y.dr⟩
@[simp, go_sem] theorem UJ(n:Nat)(x y:Ex):n+(x.and y).bs.size=n+x.bs.size+y.bs.size:=by simp[Ex.and,Nat.add_assoc]
@[go_sem] theorem bf:av (av w x) y=av w (x.and y):=il w x y
@[go_sem] theorem XF(a b c:Nat)(h:a<b):(a<b+c)=True:=eq_true (by omega)
@[go_sem] theorem UK(a b c1 c2:Nat)(h:a<b):(a<b+c1+c2)=True:=eq_true (by omega)
@[go_sem] theorem UL(a b c1 c2 c3:Nat)(h:a<b):(a<b+c1+c2+c3)=True:=eq_true (by omega)
@[go_sem] theorem UM(a b c1 c2 c3 c4:Nat)(h:a<b):(a<b+c1+c2+c3+c4)=True:=eq_true (by omega)
@[go_sem] theorem UN(a b c1 c2 c3 c4 c5:Nat)(h:a<b):(a<b+c1+c2+c3+c4+c5)=True:=eq_true (by omega)
@[go_sem] theorem UO(a b c1 c2 c3 c4 c5 c6:Nat)(h:a<b):(a<b+c1+c2+c3+c4+c5+c6)=True:=eq_true (by omega)
@[go_sem] theorem UQ(a b c1 c2 c3 c4 c5 c6 c7:Nat)(h:a<b):(a<b+c1+c2+c3+c4+c5+c6+c7)=True:=eq_true (by omega)
@[go_sem] theorem UR(a b c1 c2 c3 c4 c5 c6 c7 c8:Nat)(h:a<b):(a<b+c1+c2+c3+c4+c5+c6+c7+c8)=True:=eq_true (by omega)
@[go_sem] theorem UT(a b c1 c2 c3 c4 c5 c6 c7 c8 c9:Nat)(h:a<b):(a<b+c1+c2+c3+c4+c5+c6+c7+c8+c9)=True:=eq_true (by omega)
@[go_sem] theorem Us(a b c1 c2 c3 c4 c5 c6 c7 c8 c9 c10:Nat)(h:a<b):(a<b+c1+c2+c3+c4+c5+c6+c7+c8+c9+c10)=True:=eq_true (by omega)
@[go_sem] theorem Ut(a b c1 c2 c3 c4 c5 c6 c7 c8 c9 c10 c11:Nat)(h:a<b):(a<b+c1+c2+c3+c4+c5+c6+c7+c8+c9+c10+c11)=True:=eq_true (by omega)
@[go_sem] theorem Uu(a b c1 c2 c3 c4 c5 c6 c7 c8 c9 c10 c11 c12:Nat)(h:a<b):(a<b+c1+c2+c3+c4+c5+c6+c7+c8+c9+c10+c11+c12)=True:=eq_true (by omega)
@[go_sem] theorem UU(a c1:Nat):(a<a+1+c1)=True:=eq_true (by omega)
@[go_sem] theorem UW(a c1 c2:Nat):(a<a+1+c1+c2)=True:=eq_true (by omega)
@[go_sem] theorem UX(a c1 c2 c3:Nat):(a<a+1+c1+c2+c3)=True:=eq_true (by omega)
@[go_sem] theorem UY(a c1 c2 c3 c4:Nat):(a<a+1+c1+c2+c3+c4)=True:=eq_true (by omega)
@[go_sem] theorem UZ(a c1 c2 c3 c4 c5:Nat):(a<a+1+c1+c2+c3+c4+c5)=True:=eq_true (by omega)
@[go_sem] theorem U3(a c1 c2 c3 c4 c5 c6:Nat):(a<a+1+c1+c2+c3+c4+c5+c6)=True:=eq_true (by omega)
@[go_sem] theorem U4(a c1 c2 c3 c4 c5 c6 c7:Nat):(a<a+1+c1+c2+c3+c4+c5+c6+c7)=True:=eq_true (by omega)
@[go_sem] theorem U5(a c1 c2 c3 c4 c5 c6 c7 c8:Nat):(a<a+1+c1+c2+c3+c4+c5+c6+c7+c8)=True:=eq_true (by omega)
@[go_sem] theorem U6(a c1 c2 c3 c4 c5 c6 c7 c8 c9:Nat):(a<a+1+c1+c2+c3+c4+c5+c6+c7+c8+c9)=True:=eq_true (by omega)
@[go_sem] theorem Uv(a c1 c2 c3 c4 c5 c6 c7 c8 c9 c10:Nat):(a<a+1+c1+c2+c3+c4+c5+c6+c7+c8+c9+c10)=True:=eq_true (by omega)
@[go_sem] theorem Uw(a c1 c2 c3 c4 c5 c6 c7 c8 c9 c10 c11:Nat):(a<a+1+c1+c2+c3+c4+c5+c6+c7+c8+c9+c10+c11)=True:=eq_true (by omega)
@[go_sem] theorem Ux(a c1 c2 c3 c4 c5 c6 c7 c8 c9 c10 c11 c12:Nat):(a<a+1+c1+c2+c3+c4+c5+c6+c7+c8+c9+c10+c11+c12)=True:=eq_true (by omega)
theorem cF:av w ⟨#[],w.drawn⟩=w:=by simp[av]
theorem PH(o:Obj):w.alloc o=av w ⟨#[o],w.drawn⟩:=by
 show({w with heap:=w.heap.push o}:World)={w with heap:=w.heap++ #[o],drawn:=w.drawn};rw[Array.push_eq_append]
theorem dx:w.drew=av w ⟨#[],w.drawn+1⟩:=by
 show({w with drawn:=w.drawn+1}:World)={w with heap:=w.heap++ #[],drawn:=w.drawn+1};rw[Array.append_empty]
end
section
variable (w:World)(x:Ex)(c:Array Value)(t:TypeId)(n i:Nat)(v:Value)
def U7(w:World)(x:Ex)(n i:Nat):Option Value:=(av w x).cell? ⟨n,i,none⟩
def MB(w:World)(x:Ex)(n i:Nat):Bool:=(av w x).frozen? ⟨n,i,none⟩
def YO(w:World)(x:Ex)(n i:Nat)(v:Value):World:=(av w x).setCell ⟨n,i,none⟩ v
@[go_sem low] theorem Uy:(w.alloc (.cells c t)).cell? ⟨n,i,none⟩=if n<w.heap.size then w.cell? ⟨n,i,none⟩else if n=w.heap.size then c[i]? else none:=by
 split
 ·rename_i h;exact World.cell?_alloc_lt w _ ⟨n,i,none⟩ h
 ·split
  ·rename_i h;subst h;exact World.cell?_alloc_new w c t i
  ·simp only[World.alloc,World.cell?,Array.getElem?_push]
   rw[if_neg (by omega),Array.getElem?_eq_none (by omega)]
@[go_sem low] theorem Pm:(w.alloc (.cells c t)).frozen? ⟨n,i,none⟩=if n<w.heap.size then w.frozen? ⟨n,i,none⟩else false:=by
 split
 ·rename_i h;exact World.frozen?_alloc_past _ n i h
 ·by_cases h2:n=w.heap.size
  ·subst h2;exact World.frozen?_alloc_new w c t i
  ·simp only[World.alloc,World.frozen?,Array.getElem?_push]
   rw[if_neg (by omega),Array.getElem?_eq_none (by omega)]
@[go_sem low] theorem MC:(w.alloc (.cells c t)).setCell ⟨n,i,none⟩ v=if n<w.heap.size then(w.setCell ⟨n,i,none⟩ v).alloc (.cells c t)else if n=w.heap.size then w.alloc (.cells (c.setIfInBounds i v) t)else w.alloc (.cells c t):=by
 split
 ·rename_i h;exact World.setCell_alloc_past _ n i v h
 ·split
  ·rename_i h;exact World.setCell_alloc_at c t n i v h
  ·unfold World.setCell World.alloc
   congr 1;apply Array.ext_getElem?;intro k;rw[Array.getElem?_modify];split
   ·rename_i h;subst h;rw[Array.getElem?_eq_none (by simp;omega)];rfl
   ·rfl
@[go_sem low] theorem U8:(av w x).cell? ⟨n,i,none⟩=if n<w.heap.size then w.cell? ⟨n,i,none⟩else U7 w x n i:=by
 split
 ·rename_i h;exact Du w x n i h
 ·rfl
@[go_sem low] theorem PI:(av w x).frozen? ⟨n,i,none⟩=if n<w.heap.size then w.frozen? ⟨n,i,none⟩else MB w x n i:=by
 split
 ·rename_i h;exact GK w x n i h
 ·rfl
@[go_sem low] theorem Pn:(av w x).setCell ⟨n,i,none⟩ v=if n<w.heap.size then av (w.setCell ⟨n,i,none⟩ v) x else YO w x n i v:=by
 split
 ·rename_i h;exact qE w x n i v h
 ·rfl
end
def af(w w':World):Prop:= ∃x,w'=av w x
theorem af.refl(w:World):af w w:=⟨_,(cF w).symm⟩
theorem af.trans{a b c:World}:af a b->af b c->af a c
 |⟨x,hx⟩,⟨y,hy⟩=>⟨_,by rw[hy,hx,il]⟩
theorem af.alloc{a w:World}(h:af a w)(o:Obj):af a (w.alloc o):=h.trans ⟨_,PH w o⟩
theorem af.drew{a w:World}(h:af a w):af a w.drew:=h.trans ⟨_,dx w⟩
theorem af.drewN{a w:World}(h:af a w)(n:Nat):af a (w.drewN n):=h.trans ⟨⟨#[],w.drawn+n⟩,by
 show({w with drawn:=w.drawn+n}:World)={w with heap:=w.heap++ #[],drawn:=w.drawn+n};rw[Array.append_empty]⟩
theorem af.av{a w:World}(h:af a w)(x:Ex):af a (av w x):=h.trans ⟨x,rfl⟩
theorem af.YP{a w:World}{x:Ex}(h:af a (Go.Proofs.YtomgpelfmgkknaaGreatDoor.av w x))(y:Ex):af a (Go.Proofs.YtomgpelfmgkknaaGreatDoor.av w (x.and y)):=h.trans ⟨y,(bf w x y).symm⟩
theorem ae{a b:World}(h:af a b:=by repeat (first|exact af.refl _|apply af.YP|apply af.alloc|apply af.av|apply af.drew|apply af.drewN)):af a b:=h
theorem af.below{w w':World}(h:af w w'):Below w.heap.size w w':=by
 obtain⟨x,rfl⟩:=h;exact⟨rfl,rfl,rfl,by simp,fun k hk=>iQ w x k hk⟩
theorem af.of_below{w w':World}(h:Below w.heap.size w w'):af w w':=by
 refine⟨⟨w'.heap.extract w.heap.size w'.heap.size,w'.drawn⟩,?_⟩;have hb:=h.block;have hs:=h.size;have ho:=h.os;have ht:=h.tape;have hp:=h.output;obtain⟨hp',tp',dr',os',out'⟩:=w';simp only[Go.Proofs.YtomgpelfmgkknaaGreatDoor.av]at*;subst ho ht hp;congr 1;apply Array.ext_getElem?;intro k;rw[Array.getElem?_append];by_cases hk:k<w.heap.size
 ·rw[if_pos hk];exact hb k hk
 ·rw[if_neg hk,Array.getElem?_extract]
  by_cases h2:k<hp'.size
  ·rw[if_pos (by omega)]
   congr 1;omega
  ·rw[if_neg (by omega),Array.getElem?_eq_none (by omega)]
section
variable {P:Program}{ops:Array Oper}
theorem vE{id:Nat}{Q:Exit->Act->World->Prop}{a:Act}{w:World}{l:List Oper}(hm:P.follows .mixedOrders=true)(hB:Region.lexB .any l.toArray=true)
 (h:wpQuiet P l.toArray (fun w'=> ∃x,w'=av w x) (fun a'=> ∀w',(∃x,w'=av w x)->Q .normal a' w') l a):(Code.region id l.toArray true).wp P Q a w:=
 wp_region_quiet (C:=fun w'=> ∃x,w'=av w x) hm hB ⟨_,dx w⟩ (by simpa using h)
theorem uN{id:Nat}{Q:Exit->Act->World->Prop}{a:Act}{w:World}{x0:Ex}{l:List Oper}(hm:P.follows .mixedOrders=true)(hB:Region.lexB .any l.toArray=true)
 (h:wpQuiet P l.toArray (fun w'=> ∃x,w'=av w x) (fun a'=> ∀w',(∃x,w'=av w x)->Q .normal a' w') l a):(Code.region id l.toArray true).wp P Q a (av w x0):=
 wp_region_quiet (C:=fun w'=> ∃x,w'=av w x) hm hB ⟨⟨x0.bs,x0.dr+1⟩,rfl⟩ (by simpa using h)
theorem af.cell{w w':World}{a:Addr}{v:Value}(h:af w w')(hc:w.cell? a=some v):w'.cell? a=some v:=(h.below.cell (World.block_lt_of_cell? w a hc)).trans hc
theorem bI{c:Code}{Q:Exit->Act->World->Prop}{a:Act}{w:World}(h:∀W,W=w->c.wp P Q a W):c.wp P Q a w:=h w rfl
theorem Calls.dJ{f:FuncId}{args:Array Value}{w:World}{x:Ex}{v:Value}
 (h:Calls P f args (av w x) fun e w'=>e=.returned v/\af (av w x) w'):Calls P f args (av w x) fun e w''=>e=.returned v/\∃y,w''=av w y:=
 h.mono fun _ _⟨he,hx⟩=>⟨he,af.trans ⟨x,rfl⟩ hx⟩
theorem eJ{id:Nat}{Q:Exit->Act->World->Prop}{a:Act}{w:World}{l:List Oper}
 (h:wpQuiet P l.toArray (fun w'=> ∃x,w'=av w x) (fun a'=> ∀w',(∃x,w'=av w x)->Q .normal a' w') l a) (hm:P.follows .mixedOrders=true:=by kernel_rfl) (hB:Region.lexB .any l.toArray=true:=by kernel_rfl):(Code.region id l.toArray true).wp P Q a w:=
 vE hm hB h
theorem eK{id:Nat}{Q:Exit->Act->World->Prop}{a:Act}{w:World}{x0:Ex}{l:List Oper}
 (h:wpQuiet P l.toArray (fun w'=> ∃x,w'=av w x) (fun a'=> ∀w',(∃x,w'=av w x)->Q .normal a' w') l a) (hm:P.follows .mixedOrders=true:=by kernel_rfl) (hB:Region.lexB .any l.toArray=true:=by kernel_rfl):(Code.region id l.toArray true).wp P Q a (av w x0):=
 uN hm hB h
theorem eM{ops:Array Oper}{C:World->Prop}{a:Act}{w:World}{K:Act->World->Prop}(h:∀x,K a (av w x)):wpQuiet P ops C (fun a'=> ∀w',(∃x,w'=av w x)->K a' w') [] a:=
 wpQuiet_nil fun _⟨x,hx⟩=>by rw[hx];exact h x
theorem ag{f:FuncId}{args:Array Value}{w:World}{R R':Ending->World->Prop}(h:Calls P f args w R)(hr:∀e w',R e w'->R' e w'):Calls P f args w R':=h.mono hr
end
abbrev cX(v:Value)(w:World):Ending->World->Prop:=fun e w'=>e=.returned v/\af w w'
theorem aa{p:Prop}(h:p):Hid p:=h
theorem _root_.Go.RowKit.Hid.zo{p:Prop}(h:Hid p):p:=h
theorem bP{w:World}{a:Addr}{u:Value}(h:w.cell? a=some u):a.block<w.heap.size:=World.block_lt_of_cell? w a h
theorem bw{T:Type}{l:List T}{i:Nat}{a:T}(h:l[i]?=some a):∃h:i<l.length,l[i]=a:=List.getElem?_eq_some_iff.1 h
theorem jE{p:Prop} [Decidable p] (h: ¬p):decide p=false:=decide_eq_false h
theorem zdt{p:Prop} [Decidable p] (h:p):decide p=true:=decide_eq_true h
theorem dQ{T:Type}{l:List T}{i:Nat}(h:l.length<=i):l.take i=l:=List.take_of_length_le h
theorem gH{T:Type}{l:List T}{i:Nat}{a:T}(h:l[i]?=some a):a∈l:=List.mem_of_getElem? h
theorem dG{T:Type}{a b:List T}:(a++b).length=a.length+b.length:=List.length_append
theorem fZ{T:Type}{l:List T}{i:Nat}(h:i<l.length):l[i]?=some l[i]:=List.getElem?_eq_getElem h
theorem eh:(∀{α β:Type}(f:α->β)(a:α)(l:List α),List.map f (a::l)=f a::List.map f l)/\(∀{α β:Type}(f:α->β),List.map f []= [])/\(∀{α:Type}(a d:α),(some a).getD d=a)/\(∀{α:Type}(l:List α)(i:Nat),l.toArray[i]?=l[i]?)/\(∀{α:Type}(a:α)(l:List α),(a::l)[0]?=some a)/\(∀{α:Type}(a:α)(l:List α)(i:Nat),(a::l)[i+1]?=l[i]?):=
 ⟨fun _ _ _=>rfl,fun _=>rfl,fun _ _=>rfl,fun _ _=>by simp,fun _ _=>rfl,fun _ _ _=>rfl⟩
end
section
def fB(S:Nat->Prop)(k:Nat)(w:World)(v:Value)(n:Nat)(xs:zv):Prop:=
 xs.length=n*k/\∃ao cap,v=.slice ao n cap/\n<=cap/\cap<=maxLen/\(ao=none->cap=0)/\
  (0<n->∃b off,ao=some ⟨b,off,none⟩/\S b/\b<w.heap.size/\∀t c,xs[t]?=some c->w.cell? ⟨b,off+t,none⟩=some c)
section
variable {S:Nat->Prop}{k:Nat}{w w':World}{v:Value}{n:Nat}{xs:zv}
theorem fB.Ev(h:fB S k w v n xs)(hs:w.heap.size<=w'.heap.size)(hc:∀b,v.ownBlock=some b->S b->b<w.heap.size->w'.heap[b]?=w.heap[b]?):fB S k w' v n xs:=by
 obtain⟨h1,ao,cap,rfl,h2,h3,h4,h5⟩:=h;refine⟨h1,ao,cap,rfl,h2,h3,h4,fun hn=> ?_⟩;obtain⟨b,off,rfl,hS,hb,hx⟩:=h5 hn;refine⟨b,off,rfl,hS,by omega,fun t c ht=> ?_⟩;rw[World.cell?_of_block (hc b rfl hS hb)];exact hx t c ht
theorem fB.mono{S':Nat->Prop}(h:fB S k w v n xs)(hS:∀b,S b->S' b):fB S' k w v n xs:=by
 obtain⟨h1,ao,cap,rfl,h2,h3,h4,h5⟩:=h;refine⟨h1,ao,cap,rfl,h2,h3,h4,fun hn=> ?_⟩;obtain⟨b,off,rfl,hb,hx⟩:=h5 hn;exact⟨b,off,rfl,hS b hb,hx⟩
theorem fB.exts(h:fB S k w v n xs)(he:af w w'):fB S k w' v n xs:=
 h.Ev he.below.size (fun b _ _ hb=>he.below.block b hb)
theorem fB.grown{row:Option Nat}(h:fB S k w v n xs)(hg:w.grownBy w' row)(hne:v.ownBlock=none∨v.ownBlock≠row):fB S k w' v n xs:=
 h.Ev hg.size (fun b hb _ hlt=>hg.block b hlt (by
  rcases hne with h0|h0
  ·rw[h0]at hb;cases hb
  ·rw[<-hb];exact h0))
theorem fB.len(h:fB S k w v n xs):xs.length=n*k:=h.1
theorem fB.nle(h:fB S k w v n xs):n<=maxLen:=by
 obtain⟨_,ao,cap,rfl,h2,h3,_⟩:=h;omega
theorem fB.ku{base:Nat}{e:TypeId}(h:w.ownsRow base e k v n xs):fB (fun b=>base<=b) k w v n xs:=by
 obtain⟨h1,h2|⟨g,cap,cur,rfl,hb,hg,h3,h4,h5,h6⟩⟩:=h
 ·obtain⟨rfl,rfl⟩:=h2
  exact⟨h1,none,0,rfl,Nat.le_refl _,Nat.zero_le _,fun _=>rfl,fun h=>by omega⟩
 ·refine⟨h1,some ⟨g,0,none⟩,cap,rfl,h3,h4,(fun h=>by cases h),fun hn=>⟨g,0,rfl,hb,(Array.getElem?_eq_some_iff.1 hg).1,fun t c ht=> ?_⟩⟩
  have hg':w.heap[g]?=some (.cells cur e (0,0)):=hg;simp only[World.cell?,hg',Nat.zero_add];rw[<-h6,List.getElem?_take]at ht;split at ht
  ·simpa using ht
  ·cases ht
theorem fB.nil(S:Nat->Prop)(k:Nat)(w:World):fB S k w (.slice none 0 0) 0 []:=
 ⟨by simp,none,0,rfl,Nat.le_refl _,Nat.zero_le _,fun _=>rfl,fun h=>by omega⟩
theorem aF{row:Option Nat}{W:World}(he:af W w)(hg:w.grownBy w' row)(hr:∀b,row=some b->W.heap.size<=b):af W w':=by
 apply af.of_below;exact he.below.grown hg he.below.size hr
end
theorem er{w w':World}(h:af w w')(row:Option Nat):w.grownBy w' row:=
 ⟨h.below.os,h.below.tape,h.below.output,h.below.size,fun b hb _=>h.below.block b hb⟩
theorem eX{w w':World}{base:Nat}{e:TypeId}{k n:Nat}{v:Value}{xs:zv}(h:w.ownsRow base e k v n xs)(he:af w w'):w'.ownsRow base e k v n xs:=
 h.kept (er he none) (by cases hv:v.ownBlock<;>simp)
def Keeps(B:Nat)(w w':World):Prop:=w.heap.size<=w'.heap.size/\∀b,B<=b->b<w.heap.size->w'.heap[b]?=w.heap[b]?
theorem Keeps.refl(B:Nat)(w:World):Keeps B w w:=⟨Nat.le_refl _,fun _ _ _=>rfl⟩
theorem Keeps.trans{B:Nat}{a b c:World}(h:Keeps B a b)(h':Keeps B b c):Keeps B a c:=
 ⟨Nat.le_trans h.1 h'.1,fun k hk hlt=>(h'.2 k hk (Nat.lt_of_lt_of_le hlt h.1)).trans (h.2 k hk hlt)⟩
theorem Keeps.exts{B:Nat}{a b c:World}(h:Keeps B a b)(h':af b c):Keeps B a c:=
 h.trans ⟨h'.below.size,fun k _ hlt=>h'.below.block k hlt⟩
theorem Keeps.base{B:Nat}{a b:World}{x:Ex}(ha:a.heap.size=B)(hb:b.heap.size=B):Keeps B (av a x) (av b x):=by
 refine⟨by simp[ha,hb],fun k hk hlt=> ?_⟩;simp only[av,Array.getElem?_append];rw[if_neg (by omega),if_neg (by omega),ha,hb]
theorem Keeps.alloc{B:Nat}{a b:World}(h:Keeps B a b)(o:Obj):Keeps B a (b.alloc o):=h.exts ((af.refl _).alloc o)
theorem Keeps.av{B:Nat}{a b:World}(h:Keeps B a b)(x:Ex):Keeps B a (Go.Proofs.YtomgpelfmgkknaaGreatDoor.av b x):=h.exts ((af.refl _).av x)
theorem Keeps.YP{B:Nat}{a b:World}{x:Ex}(h:Keeps B a (Go.Proofs.YtomgpelfmgkknaaGreatDoor.av b x))(y:Ex):Keeps B a (Go.Proofs.YtomgpelfmgkknaaGreatDoor.av b (x.and y)):=h.exts ((af.refl _).YP y)
theorem fB.keeps{B:Nat}{k:Nat}{w w':World}{v:Value}{n:Nat}{xs:zv}(h:fB (fun b=>B<=b) k w v n xs)(he:Keeps B w w'):fB (fun b=>B<=b) k w' v n xs:=
 h.Ev he.1 (fun b _ hS hb=>he.2 b hS hb)
def Alike(B:Nat)(a b:World):Prop:=a.heap.size=b.heap.size/\∀k,B<=k->b.heap[k]?=a.heap[k]?
theorem Alike.base{B:Nat}{a b:World}(ha:a.heap.size=B)(hb:b.heap.size=B):Alike B a b:=
 ⟨by omega,fun k hk=>by rw[Array.getElem?_eq_none (by omega),Array.getElem?_eq_none (by omega)]⟩
theorem Alike.alloc{B:Nat}{a b:World}(h:Alike B a b)(o:Obj):Alike B (a.alloc o) (b.alloc o):=by
 refine⟨by simp[h.1],fun k hk=> ?_⟩;simp only[World.alloc,Array.getElem?_push,h.1,h.2 k hk]
theorem Alike.av{B:Nat}{a b:World}{x y:Ex}(h:Alike B a b)(hx:x.bs=y.bs):Alike B (Go.Proofs.YtomgpelfmgkknaaGreatDoor.av a x) (Go.Proofs.YtomgpelfmgkknaaGreatDoor.av b y):=by
 refine⟨by simp[h.1,hx],fun k hk=> ?_⟩;simp only[Go.Proofs.YtomgpelfmgkknaaGreatDoor.av,Array.getElem?_append,h.1,hx,h.2 k hk]
theorem Alike.keeps{B:Nat}{a b:World}(h:Alike B a b):Keeps B a b:=⟨Nat.le_of_eq h.1,fun k hk _=>h.2 k hk⟩
theorem Keeps.drew{B:Nat}{a b:World}(h:Keeps B a b):Keeps B a b.drew:=h.exts ((af.refl _).drew)
theorem fB.up{k n B B':Nat}{w:World}{v:Value}{xs:zv}(h:fB (fun b=>B<=b) k w v n xs)(he:B'<=B):fB (fun b=>B'<=b) k w v n xs:=h.mono fun _ hb=>Nat.le_trans he hb
theorem fB.from{k n:Nat}{w0 W w:World}{v:Value}{xs:zv}(h:fB (fun b=>W.heap.size<=b) k w v n xs)(he:af w0 W):fB (fun b=>w0.heap.size<=b) k w v n xs:=h.mono fun _ hb=>Nat.le_trans he.below.size hb
theorem mX{k:Nat}:∀(L:List (List Value)),(∀l∈L,l.length=k)->L.flatten.length=L.length*k
 | [],_=>by simp
 |l::L,h=>by
  rw[List.flatten_cons,dG,mX L (fun l' hl=>h l' (by simp[hl])),h l (by simp),List.length_cons,Nat.add_mul];omega
theorem qF{k:Nat}:∀(L:List (List Value)),(∀l∈L,l.length=k)->∀(i j:Nat),j<k->L.flatten[i*k+j]?=(L[i]?).bind (·[j]?)
 | [],_,i,j,_=>by simp
 |l::L,h,0,j,hj=>by
  have:=h l (by simp);rw[List.flatten_cons,List.getElem?_append_left (by omega)];simp
 |l::L,h,i+1,j,hj=>by
  have hl:=h l (by simp);rw[List.flatten_cons,List.getElem?_append_right (by rw[hl,Nat.add_mul];omega),hl];have:(i+1)*k+j - k=i*k+j:=by rw[Nat.add_mul];omega
  rw[this,qF L (fun l' hl'=>h l' (by simp[hl'])) i j hj];simp
end
@[go_sem] theorem PJ(w:World):af w w=True:=eq_true (af.refl w)
@[go_sem] theorem PK(w:World)(x:Ex):af w (av w x)=True:=eq_true ⟨x,rfl⟩
@[go_sem] theorem Po(a w:World)(o:Obj)(h:af a w):af a (w.alloc o)=True:=eq_true (h.alloc o)
@[go_sem] theorem PL(a w:World)(h:af a w):af a w.drew=True:=eq_true h.drew
theorem pL{w W:World}{a:Addr}{v:Value}(h:af w W)(hc:w.cell? a=some v):∀w',af W w'->w'.cell? a=some v:=fun _ hw=>af.cell (h.trans hw) hc
@[go_sem] theorem PM(a w:World)(x:Ex)(h:af a w):af a (av w x)=True:=eq_true (h.av x)
@[go_sem] theorem Pq(w:World)(o:Obj)(x:Ex):af w (av (w.alloc o) x)=True:=eq_true (((af.refl w).alloc o).av x)
theorem fB.lt{S:Nat->Prop}{k n:Nat}{w:World}{v:Value}{xs:zv}(h:fB S k w v n xs):fB (fun b=>b<w.heap.size) k w v n xs:=by
 obtain⟨h1,ao,cap,rfl,h2,h3,h4,h5⟩:=h;refine⟨h1,ao,cap,rfl,h2,h3,h4,fun hn=> ?_⟩;obtain⟨b,off,rfl,hS,hb,hx⟩:=h5 hn;exact⟨b,off,rfl,hb,hb,hx⟩
def fk(e:TypeId)(w:World)(v:Value):Prop:= ∀b,v.ownBlock=some b->∃c,w.heap[b]?=some (.cells c e (0,0))
theorem fk.ku{base k n:Nat}{e:TypeId}{w:World}{v:Value}{xs:zv}(h:w.ownsRow base e k v n xs):fk e w v:=by
 intro b hb;obtain⟨_,⟨rfl,_⟩|⟨g,cap,cur,rfl,_,hg,_⟩⟩:=h
 ·cases hb
 ·cases hb
  exact⟨cur,hg⟩
theorem fk.exts{e:TypeId}{w w':World}{v:Value}(h:fk e w v)(he:af w w'):fk e w' v:=fun b hb=>by
 obtain⟨c,hc⟩:=h b hb;exact⟨c,(he.below.block b (Array.getElem?_eq_some_iff.1 hc).1).trans hc⟩
theorem fk.ne{e e':TypeId}{w:World}{v v':Value}(h:fk e w v)(h':fk e' w v')(hne:e≠e'):v.ownBlock=none∨v.ownBlock≠v'.ownBlock:=by
 cases hv:v.ownBlock with
 |none=>exact .inl rfl
 |some b=>
  right;intro heq;obtain⟨c,hc⟩:=h b hv;obtain⟨c',hc'⟩:=h' b heq.symm;rw[hc]at hc';simp at hc';exact hne hc'.2
theorem fk.grown{e:TypeId}{w w':World}{v:Value}{row:Option Nat}(h:fk e w v)(hg:w.grownBy w' row)(hne:v.ownBlock=none∨v.ownBlock≠row):fk e w' v:=fun b hb=>by
 obtain⟨c,hc⟩:=h b hb;refine⟨c,(hg.block b (Array.getElem?_eq_some_iff.1 hc).1 ?_).trans hc⟩;rcases hne with h0|h0
 ·rw[h0]at hb;cases hb
 ·rw[<-hb];exact h0
section
open Go.ChangeShapes Go.WideShapes Go.ChangeAt Go.RowKit
theorem own:ownKnob prog.godebug=none:=by kernel_rfl
def I64(n:Int):Prop:= -9223372036854775808<=n/\n<=9223372036854775807
theorem I64.PN{x:Int}(h:(Lit.int .i64 x).wf=true):I64 x:=by
 simp[Lit.wf,IntKind.min,IntKind.max,IntKind.signed,IntKind.bits]at h;exact⟨by omega,by omega⟩
theorem laidOut:laidOutB prog=true:=by kernel_rfl
section
variable {H:Type}{enc:TypeId×Value->H}{P:Program}
theorem ux(hl:laidOutB P=true){W W':World}(hb:Below W.heap.size W W'):∀{ts:List TypeId}{vs:zv}{ds:List (DataW H)}{ps:List MemPlace},
 (∀t∈ts,P.readableRec t=true/\t<P.types.size)->DataW.TrodAll enc P W 0 (fun _=>true) true ts vs ds ps->(∀x∈ps,x.block<W.heap.size)->
 DataW.TrodAll enc P W' 0 (fun b=>decide (b<W.heap.size)) true ts vs ds ps
 | [],[],[],_,_,h,_=>h
 |t::ts,v::vs,d::ds,ps,ht,h,hlt=>by
  obtain⟨p,q,h1,h2,rfl⟩:=h;refine⟨p,q,?_,?_,rfl⟩
  ·exact Below.trod hl (ht t (by simp)).1 (ht t (by simp)).2 h1 hb (fun x hx=>hlt x (by simp[hx]))
  ·exact ux hl hb (fun t' ht'=>ht t' (by simp[ht'])) h2 (fun x hx=>hlt x (by simp[hx]))
theorem GL{f:Func}{s:ChangeSpec}{W W':World}{args:Array Value}{ds gs:List (DataW H)}{before:List MemPlace}{T:TypeId}
 (hl:laidOutB P=true) (hT:P.underlying T=some .bool) (hf:f.resultTypes=#[T]) (hvars:s.vars= [])
 (hts:∀t∈f.params.toList,P.readableRec t=true/\t<P.types.size)
 (hW:DataW.Whole enc P f.params.toList s.vars false W args.toList ds gs before)
 (hfn:s.fn H (ds++gs)={results:= [.lit (.bool true)],args:=ds,vars:= []}) (hx:af W W'):
 s.post enc P f false true false false W args (.bool true) W':=by
 have hb:=hx.below;have hlt:∀p∈before,p.block<W.heap.size:=fun p hp=>hW.lt p hp
 have hW':=hW;obtain⟨p,q,hA,hV,rfl,_,_⟩:=hW;rw[hvars]at hV;obtain⟨rfl,rfl⟩:=trodVars_none hV;simp only[List.append_nil]at hW' hlt;refine⟨ds,[],p,[],p,[],hW',?_,?_,?_,?_,fun h=>by cases h⟩
 ·rw[hfn,hf]
  exact trodAll_mk1 (shut_bool hT true)
 ·rw[hfn]
  exact ux hl hb hts hA hlt
 ·rw[hfn,hvars]
  rfl
 ·exact hb.frame _
end
end
section
structure Lay(T:Type) where
 k:Nat
 R:World->zv->T->Prop
 len:∀{w:World}{c:zv}{d:T},R w c d->c.length=k
 exts:∀{w w':World}{c:zv}{d:T},R w c d->af w w'->R w' c d
 one:∀{w:World}{c:zv}{d:T},R w c d->∀u∈c,u.oneCell'=true
def Sl{T:Type}(L:Lay T)(w:World)(ao:Option Addr)(n c:Nat)(l:List T):Prop:=
 l.length=n/\∃xs,fB (fun _=>True) L.k w (.slice ao n c) n xs/\∀i d,l[i]?=some d->L.R w ((xs.drop (i*L.k)).take L.k) d
def SlV{T:Type}(L:Lay T)(w:World)(v:Value)(l:List T):Prop:= ∃ao c,v=.slice ao l.length c/\Sl L w ao l.length c l
section
variable {T:Type}{L:Lay T}{w w':World}{ao:Option Addr}{n c:Nat}{l:List T}{v:Value}
theorem Sl.exts(h:Sl L w ao n c l)(he:af w w'):Sl L w' ao n c l:=by
 obtain⟨h1,xs,h2,h3⟩:=h;exact⟨h1,xs,h2.exts he,fun i d hd=>L.exts (h3 i d hd) he⟩
theorem Sl.toV(h:Sl L w ao n c l):SlV L w (.slice ao n c) l:=by
 obtain⟨h1,h2⟩:=h;subst h1;exact⟨ao,c,rfl,rfl,h2⟩
theorem Sl.nle(h:Sl L w ao n c l):n<=maxLen:=by
 obtain⟨_,xs,h2,_⟩:=h;exact h2.nle
theorem Sl.nil(L:Lay T)(w:World):Sl L w none 0 0 []:=⟨rfl,[],fB.nil _ _ _,fun i d hd=>by simp at hd⟩
theorem Sl.at(h:Sl L w ao n c l){i:Nat}{d:T}(hd:l[i]?=some d):
 ∃b off cs,ao=some ⟨b,off,none⟩/\b<w.heap.size/\L.R w cs d/\∀j u,cs[j]?=some u->w.cell? ⟨b,off+(i*L.k+j),none⟩=some u:=by
 obtain⟨h1,xs,h2,h3⟩:=h;have hi:i<n:=by
  have:=(bw hd).1;omega
 obtain⟨q1,zx,cap2,hv,q2,q3,q4,q5⟩:=h2;simp only[Value.slice.injEq,true_and]at hv;obtain⟨rfl,rfl⟩:=hv;obtain⟨b,off,rfl,_,hb,hc⟩:=q5 (by omega);refine⟨b,off,_,rfl,hb,h3 i d hd,fun j u hu=> ?_⟩;rw[List.getElem?_take]at hu;split at hu
 ·rw[List.getElem?_drop]at hu
  exact hc _ _ hu
 ·cases hu
theorem Sl.ones(h:Sl L w ao n c l):∃xs,fB (fun _=>True) L.k w (.slice ao n c) n xs/\(∀i d,l[i]?=some d->L.R w ((xs.drop (i*L.k)).take L.k) d)/\∀u∈xs,u.oneCell'=true:=by
 obtain⟨h1,xs,h2,h3⟩:=h;refine⟨xs,h2,h3,fun u hu=> ?_⟩;obtain⟨t,ht⟩:=List.getElem?_of_mem hu;have hlt:=(bw ht).1;have hk:0<L.k:=by
  rcases Nat.eq_zero_or_pos L.k with h0|h0
  ·rw[h2.len,h0]at hlt
   omega
  ·exact h0
 have hi:t / L.k<n:=by
  rw[Nat.div_lt_iff_lt_mul hk];rw[h2.len]at hlt;exact hlt
 have hd:l[t / L.k]?=some l[t / L.k]:=fZ (by rw[h1];exact hi);refine L.one (h3 _ _ hd) u (gH (i:=t%L.k) ?_);rw[List.getElem?_take,if_pos (Nat.mod_lt _ hk),List.getElem?_drop];rw[show t / L.k*L.k+t%L.k=t by rw[Nat.mul_comm];exact Nat.div_add_mod t L.k];exact ht
theorem Sl.ex(h:Sl L w ao n c l){i:Nat}(hi:i<n):∃d,l[i]?=some d:=⟨_,fZ (by rw[h.1];exact hi)⟩
end
end
theorem eC{w:World}{base n k:Nat}{e:TypeId}{v:Value}{xs:zv}(h:w.ownsRow base e k v n xs):∃ao c,v=.slice ao n c:=by
 obtain⟨_,⟨rfl,rfl⟩|⟨g,cap,cur,rfl,_⟩⟩:=h
 ·exact⟨_,_,rfl⟩
 ·exact⟨_,_,rfl⟩
theorem jU{P:Program}{w:World}{ops:Array Oper}{rest:List Oper}{o:Oper}{a:Act}{Q:Exit->Act->World->Prop}(hgd:o.guard=none)(s x:Operand)(t:TypeId)
 (ho:o.op=.call {callee:=.builtin .append,args:=#[s,x],argTypes:=#[t,t]})
 (base:Nat) (e:TypeId) (i:TypeInfo) (z:Value) (size bytes:Nat) (ht:P.underlying t=some (.slice e)) (hi:P.info? e=some i) (hz:i.zero=some z)
 (hsize:i.size=size) (hby:i.bytes=bytes) (hzs:z.cells.size=size) (hsz:0<size)
 (v:Value) (n:Nat) (xs:zv) (hs:a.eval s=v) (hown:w.ownsRow base e size v n xs)
 (ao:Option Addr) (m c:Nat) (news:zv) (hx:a.eval x=.slice ao m c) {S:Nat->Prop} (hrow:fB S size w (.slice ao m c) m news) (h1:∀u∈news,u.oneCell'=true)
 (h63:n+m<=maxLen) (hbytes:(n+m)*bytes<=140737488355328) (hbase:base<=w.heap.size)
 (h:∀ao' c' w',w'.ownsRow base e size (.slice ao' (n+m) c') (n+m) (xs++news)->w.grownBy w' v.ownBlock->wpList P ops Q rest (a.put o.dst (.slice ao' (n+m) c')) w'):wpList P ops Q (o::rest) a w:=by
 obtain⟨hl,zx,cap2,hv,h2,h3,h4,h5⟩:=hrow;simp only[Value.slice.injEq,true_and]at hv;obtain⟨rfl,rfl⟩:=hv;cases ao with
 |none=>
  have hc:=h4 rfl;subst hc;obtain rfl:m=0:=by omega
  obtain rfl:news= []:=List.eq_nil_of_length_eq_zero (by simpa using hl);obtain⟨ao',c',hv⟩:=eC hown;refine wpList_append_own_none hgd s x t ho base e i size ht hi v n xs hs hown hx ?_;have:=h ao' c' w (by rw[List.append_nil,Nat.add_zero,<-hv];exact hown) (er (af.refl w) _);rw[Nat.add_zero,<-hv]at this;exact this
 |some ad=>
  refine wpList_append_own w hgd s x t ho base e i z size bytes ht hi hz hsize hby hzs hsz v n xs hs hown ad m c news hx hl (fun j u hj=> ?_) h1 h63 hbytes hbase (fun v' w' h2 h3 _=> ?_)
  ·have hm:0<m:=by
    have:=(bw hj).1;rw[hl]at this;exact Nat.pos_of_ne_zero (fun h0=>by subst h0;simp at this)
   obtain⟨b,off,hab,_,_,hc⟩:=h5 hm;cases hab;rw[Addr.add_lit];exact hc j u hj
  ·obtain⟨ao',c',rfl⟩:=eC h2
   exact h ao' c' w' h2 h3
section
def aq{T:Type}(L:Lay T)(base:Nat)(e:TypeId)(w:World)(v:Value)(l:List T):Prop:=
 ∃xs,w.ownsRow base e L.k v l.length xs/\∀i d,l[i]?=some d->L.R w ((xs.drop (i*L.k)).take L.k) d
section
variable {T:Type}{L:Lay T}{base:Nat}{e:TypeId}{w w':World}{ao:Option Addr}{n c:Nat}{l:List T}{v:Value}
theorem aq.sl(h:aq L base e w (.slice ao n c) l)(hn:l.length=n):Sl L w ao n c l:=by
 obtain⟨xs,h1,h2⟩:=h;subst hn;exact⟨rfl,xs,(fB.ku h1).mono fun _ _=>trivial,h2⟩
theorem aq.exts(h:aq L base e w v l)(he:af w w'):aq L base e w' v l:=by
 obtain⟨xs,h1,h2⟩:=h;exact⟨xs,eX h1 he,fun i d hd=>L.exts (h2 i d hd) he⟩
theorem aq.made(L:Lay T)(base:Nat)(e:TypeId)(w:World):aq L base e w (.slice none 0 0) []:=⟨[],World.ownsRow_nil _ _ _ _,fun i d hd=>by simp at hd⟩
theorem aq.snoc{xs cs:zv}{x:T}(h:w'.ownsRow base e L.k v (l.length+1) (xs++cs))(hl:xs.length=l.length*L.k)(h1:∀i d,l[i]?=some d->L.R w' ((xs.drop (i*L.k)).take L.k) d)(hx:L.R w' cs x):aq L base e w' v (l++ [x]):=by
 refine⟨xs++cs,by rw[dG];exact h,fun i d hd=> ?_⟩;have hc:=L.len hx;rcases Nat.lt_or_ge i l.length with hi|hi
 ·rw[List.getElem?_append_left hi]at hd
  have hle:(i+1)*L.k<=xs.length:=by rw[hl];exact Nat.mul_le_mul_right _ hi
  rw[Nat.add_mul,Nat.one_mul]at hle;have:((xs++cs).drop (i*L.k)).take L.k=(xs.drop (i*L.k)).take L.k:=by
   rw[List.drop_append_of_le_length (by omega),List.take_append_of_le_length (by rw[List.length_drop];omega)]
  rw[this];exact h1 i d hd
 ·have hi2:i=l.length:=by
   have:=(bw hd).1;simp at this;omega
  subst hi2;simp at hd;subst hd;rw[<-hl,List.drop_left,dQ (by omega)];exact hx
theorem cm{k:Nat}{xs:zv}(h:w.ownsRow base e k v n xs):∀b,v.ownBlock=some b->base<=b:=by
 intro b hb;obtain⟨_,h2|⟨g,cap,cur,rfl,hg,_⟩⟩:=h
 ·obtain⟨rfl,_⟩:=h2
  cases hb
 ·cases hb
  exact hg
theorem JO{W:World}{b:Nat}{u:Value}(h:W.cell? ⟨b,0,none⟩=some u):∀(j:Nat)(x:Value),[u][j]?=some x->W.cell? ((⟨b,0,none⟩:Addr).add j)=some x:=by
 intro j x hj
 match j,hj with
 |0,hj=>
  simp at hj;subst hj;rw[Addr.add_lit];exact h
end
end
def nZ{T:Type}(p:T->Bool)(l:List T):Int:=match l.findIdx? p with|some i=>(i:Int)|none=> -1
theorem nR{T:Type}{p:T->Bool}{l:List T}(h:∀(j:Nat)(d:T),l[j]?=some d->p d=false):nZ p l= -1:=by
 unfold nZ;rw[List.findIdx?_eq_none_iff.2 fun x hx=>by
  obtain⟨j,hj⟩:=List.getElem?_of_mem hx;exact h j x hj]
theorem vF{T:Type}{p:T->Bool}{l:List T}{k:Nat}{d:T}(hd:l[k]?=some d)(hp:p d=true)(h:∀(j:Nat)(x:T),j<k->l[j]?=some x->p x=false):nZ p l=k:=by
 unfold nZ;have:l.findIdx? p=some k:=by
  obtain⟨hk,e⟩:=bw hd;rw[List.findIdx?_eq_some_iff_getElem];exact⟨hk,by rw[e];exact hp,fun j hj=>by rw[h j _ hj (fZ (by omega))];simp⟩
 rw[this]
theorem n9{T:Type}(p:T->Bool)(l:List T):decide ((0:Int)<=nZ p l)=l.any p:=by
 unfold nZ;cases h:l.findIdx? p with
 |none=>
  rw[List.findIdx?_eq_none_iff]at h;have:l.any p=false:=by
   rw[List.any_eq_false];intro x hx;rw[h x hx];simp
  rw[this];rfl
 |some i=>
  rw[List.findIdx?_eq_some_iff_getElem]at h;obtain⟨hi,hp,_⟩:=h;have:l.any p=true:=List.any_eq_true.2 ⟨_,List.getElem_mem hi,hp⟩;rw[this];simp
def Enters(f:FuncId):Prop:= ∀(a:Array Value)(w:World),(callFunc f a).run prog w=.ok (.enter f a) w
def gS(s:ByteArray):Prop:=s.size<=9223372036854775807
inductive Xp where
 |mk (op num:Int) (str key:ByteArray) (args:List Xp)
def Xp.op:Xp->Int| .mk a _ _ _ _=>a
def Xp.num:Xp->Int| .mk _ a _ _ _=>a
def Xp.str:Xp->ByteArray| .mk _ _ a _ _=>a
def Xp.key:Xp->ByteArray| .mk _ _ _ a _=>a
def Xp.args:Xp->List Xp| .mk _ _ _ _ a=>a
instance :Inhabited Xp:=⟨.mk 0 0 ⟨#[]⟩ ⟨#[]⟩ []⟩
inductive iP(w:World):zv->Xp->Prop where
 |mk (op num:Int) (str key:ByteArray) (args:List Xp) (ao:Option Addr) (c:Nat) (xs:zv) (h1:I64 op) (h2:I64 num) (h3:gS str) (h4:gS key) (hr:fB (fun _=>True) 5 w (.slice ao args.length c) args.length xs)
  (h:∀i x,args[i]?=some x->iP w ((xs.drop (i*5)).take 5) x):iP w [.int .i64 op,.int .i64 num,.string str,.string key,.slice ao args.length c] (.mk op num str key args)
theorem iP.exts{w w':World}{c:zv}{d:Xp}(h:iP w c d)(he:af w w'):iP w' c d:=by
 induction h with
 |mk op num str key args ao c xs h1 h2 h3 h4 hr h ih=>exact .mk op num str key args ao c xs h1 h2 h3 h4 (hr.exts he) ih
theorem iP.len{w:World}{c:zv}{d:Xp}(h:iP w c d):c.length=5:=by
 cases h;rfl
theorem iP.one{w:World}{c:zv}{d:Xp}(h:iP w c d):∀u∈c,u.oneCell'=true:=by
 cases h;simp[Value.oneCell']
def j7:Lay Xp:=⟨5,iP,iP.len,iP.exts,iP.one⟩
def yv(w:World)(ao:Option Addr)(c:Nat)(e:Xp):Prop:=I64 e.op/\I64 e.num/\gS e.str/\gS e.key/\Sl j7 w ao e.args.length c e.args
theorem yv.exts{w w':World}{ao:Option Addr}{c:Nat}{e:Xp}(h:yv w ao c e)(he:af w w'):yv w' ao c e:=⟨h.1,h.2.1,h.2.2.1,h.2.2.2.1,h.2.2.2.2.exts he⟩
theorem iP.opened{w:World}{cs:zv}{e:Xp}(h:iP w cs e):∃ao c,cs= [.int .i64 e.op,.int .i64 e.num,.string e.str,.string e.key,.slice ao e.args.length c]/\yv w ao c e:=by
 cases h with
 |mk op num str key args ao c xs h1 h2 h3 h4 hr h=>exact⟨ao,c,rfl,h1,h2,h3,h4,rfl,xs,hr,h⟩
theorem yv.shut{w:World}{ao:Option Addr}{c:Nat}{e:Xp}(h:yv w ao c e):iP w [.int .i64 e.op,.int .i64 e.num,.string e.str,.string e.key,.slice ao e.args.length c] e:=by
 obtain⟨op,num,str,key,args⟩:=e;obtain⟨h1,h2,h3,h4,_,xs,hr,h⟩:=h;exact .mk op num str key args ao c xs h1 h2 h3 h4 hr h
def dv:Lay Int:=⟨1,fun _ c d=>c= [.int .i64 d]/\I64 d,fun h=>by rw[h.1];rfl,fun h _=>h,fun h=>by rw[h.1];simp[Value.oneCell']⟩
def fC:Lay ByteArray:=⟨1,fun _ c d=>c= [.string d]/\gS d,fun h=>by rw[h.1];rfl,fun h _=>h,fun h=>by rw[h.1];simp[Value.oneCell']⟩
theorem dV{w:World}{ao:Option Addr}{n c:Nat}{l:List Int}(h:Sl dv w ao n c l){i:Nat}{d:Int}(hd:l[i]?=some d):∃b off,ao=some ⟨b,off,none⟩/\b<w.heap.size/\w.cell? ⟨b,off+i,none⟩=some (.int .i64 d)/\I64 d:=by
 obtain⟨b,off,cs,rfl,hb,⟨rfl,hi⟩,hc⟩:=h.at hd;have:=hc 0 _ rfl;exact⟨b,off,rfl,hb,by simpa[dv]using this,hi⟩
theorem lH{w:World}{ao:Option Addr}{n c:Nat}{l:List ByteArray}(h:Sl fC w ao n c l){i:Nat}{d:ByteArray}(hd:l[i]?=some d):∃b off,ao=some ⟨b,off,none⟩/\b<w.heap.size/\w.cell? ⟨b,off+i,none⟩=some (.string d)/\gS d:=by
 obtain⟨b,off,cs,rfl,hb,⟨rfl,hi⟩,hc⟩:=h.at hd;have:=hc 0 _ rfl;exact⟨b,off,rfl,hb,by simpa[fC]using this,hi⟩
structure Pt where
 x:Int
 y:Int
def PtR(w:World)(cs:zv)(d:Pt):Prop:=cs= [.int .i64 d.x,.int .i64 d.y]/\I64 d.x/\I64 d.y
def zV:Lay Pt:=⟨2,PtR,fun h=>by obtain⟨rfl,_⟩:=h;rfl,fun h he=>by obtain⟨rfl,q0,q1⟩:=h;exact⟨rfl,q0,q1⟩,fun h=>by obtain⟨rfl,_⟩:=h;simp[Value.oneCell']⟩
theorem PO{w:World}{ao:Option Addr}{n c:Nat}{l:List Pt}(h:Sl zV w ao n c l){i:Nat}{d:Pt}(hd:l[i]?=some d):∃b off,ao=some ⟨b,off,none⟩/\b<w.heap.size/\w.cell? ⟨b,off+i*2,none⟩=some (.int .i64 d.x)/\w.cell? ⟨b,off+i*2+1,none⟩=some (.int .i64 d.y)/\I64 d.x/\I64 d.y:=by
 obtain⟨b,off,cs,rfl,hb,hR,hc⟩:=h.at hd;obtain⟨rfl,q0,q1⟩:=hR;exact⟨b,off,rfl,hb,hc 0 _ rfl,hc 1 _ rfl,q0,q1⟩
structure P3 where
 x:Int
 y:Int
 z:Int
def P3R(w:World)(cs:zv)(d:P3):Prop:=cs= [.int .i64 d.x,.int .i64 d.y,.int .i64 d.z]/\I64 d.x/\I64 d.y/\I64 d.z
def yw:Lay P3:=⟨3,P3R,fun h=>by obtain⟨rfl,_⟩:=h;rfl,fun h he=>by obtain⟨rfl,q0,q1,q2⟩:=h;exact⟨rfl,q0,q1,q2⟩,fun h=>by obtain⟨rfl,_⟩:=h;simp[Value.oneCell']⟩
structure Rc where
 x0:Int
 y0:Int
 x1:Int
 y1:Int
def RcR(w:World)(cs:zv)(d:Rc):Prop:=cs= [.int .i64 d.x0,.int .i64 d.y0,.int .i64 d.x1,.int .i64 d.y1]/\I64 d.x0/\I64 d.y0/\I64 d.x1/\I64 d.y1
def je:Lay Rc:=⟨4,RcR,fun h=>by obtain⟨rfl,_⟩:=h;rfl,fun h he=>by obtain⟨rfl,q0,q1,q2,q3⟩:=h;exact⟨rfl,q0,q1,q2,q3⟩,fun h=>by obtain⟨rfl,_⟩:=h;simp[Value.oneCell']⟩
theorem YQ{w:World}{ao:Option Addr}{n c:Nat}{l:List Rc}(h:Sl je w ao n c l){i:Nat}{d:Rc}(hd:l[i]?=some d):∃b off,ao=some ⟨b,off,none⟩/\b<w.heap.size/\w.cell? ⟨b,off+i*4,none⟩=some (.int .i64 d.x0)/\w.cell? ⟨b,off+i*4+1,none⟩=some (.int .i64 d.y0)/\w.cell? ⟨b,off+i*4+2,none⟩=some (.int .i64 d.x1)/\w.cell? ⟨b,off+i*4+3,none⟩=some (.int .i64 d.y1)/\I64 d.x0/\I64 d.y0/\I64 d.x1/\I64 d.y1:=by
 obtain⟨b,off,cs,rfl,hb,hR,hc⟩:=h.at hd;obtain⟨rfl,q0,q1,q2,q3⟩:=hR;exact⟨b,off,rfl,hb,hc 0 _ rfl,hc 1 _ rfl,hc 2 _ rfl,hc 3 _ rfl,q0,q1,q2,q3⟩
structure Sb where
 z0:Int
 z1:Int
 area:List Rc
def SbR(w:World)(cs:zv)(d:Sb):Prop:= ∃(eE:Option Addr)(eF:Nat),cs= [.int .i64 d.z0,.int .i64 d.z1,.slice eE d.area.length eF]/\I64 d.z0/\I64 d.z1/\Sl je w eE d.area.length eF d.area
def Pr:Lay Sb:=⟨3,SbR,fun h=>by obtain⟨_,_,rfl,_⟩:=h;rfl,fun h he=>by obtain⟨eE,eF,rfl,q0,q1,q2⟩:=h;exact⟨eE,eF,rfl,q0,q1,q2.exts he⟩,fun h=>by obtain⟨_,_,rfl,_⟩:=h;simp[Value.oneCell']⟩
structure Dv where
 side:Int
 base:Int
 num:Int
 den:Int
def aeJ(w:World)(cs:zv)(d:Dv):Prop:=cs= [.int .i64 d.side,.int .i64 d.base,.int .i64 d.num,.int .i64 d.den]/\I64 d.side/\I64 d.base/\I64 d.num/\I64 d.den
def um:Lay Dv:=⟨4,aeJ,fun h=>by obtain⟨rfl,_⟩:=h;rfl,fun h he=>by obtain⟨rfl,q0,q1,q2,q3⟩:=h;exact⟨rfl,q0,q1,q2,q3⟩,fun h=>by obtain⟨rfl,_⟩:=h;simp[Value.oneCell']⟩
structure Lot where
 id:Int
 owner:Int
 area:List Rc
 old:List Int
def aeK(w:World)(cs:zv)(d:Lot):Prop:= ∃(eE:Option Addr)(eF:Nat)(nz:Option Addr)(nA:Nat),cs= [.int .i64 d.id,.int .i64 d.owner,.slice eE d.area.length eF,.slice nz d.old.length nA]/\I64 d.id/\I64 d.owner/\Sl je w eE d.area.length eF d.area/\Sl dv w nz d.old.length nA d.old
def pM:Lay Lot:=⟨4,aeK,fun h=>by obtain⟨_,_,_,_,rfl,_⟩:=h;rfl,fun h he=>by obtain⟨eE,eF,nz,nA,rfl,q0,q1,q2,q3⟩:=h;exact⟨eE,eF,nz,nA,rfl,q0,q1,q2.exts he,q3.exts he⟩,fun h=>by obtain⟨_,_,_,_,rfl,_⟩:=h;simp[Value.oneCell']⟩
theorem U9{w:World}{ao:Option Addr}{n c:Nat}{l:List Lot}(h:Sl pM w ao n c l){i:Nat}{d:Lot}(hd:l[i]?=some d):∃b off eE eF nz nA,ao=some ⟨b,off,none⟩/\b<w.heap.size/\w.cell? ⟨b,off+i*4,none⟩=some (.int .i64 d.id)/\w.cell? ⟨b,off+i*4+1,none⟩=some (.int .i64 d.owner)/\w.cell? ⟨b,off+i*4+2,none⟩=some (.slice eE d.area.length eF)/\w.cell? ⟨b,off+i*4+3,none⟩=some (.slice nz d.old.length nA)/\I64 d.id/\I64 d.owner/\Sl je w eE d.area.length eF d.area/\Sl dv w nz d.old.length nA d.old:=by
 obtain⟨b,off,cs,rfl,hb,hR,hc⟩:=h.at hd;obtain⟨eE,eF,nz,nA,rfl,q0,q1,q2,q3⟩:=hR;exact⟨b,off,eE,eF,nz,nA,rfl,hb,hc 0 _ rfl,hc 1 _ rfl,hc 2 _ rfl,hc 3 _ rfl,q0,q1,q2,q3⟩
structure uO where
 lot:Int
 area:List Rc
 top:Int
def abO(w:World)(cs:zv)(d:uO):Prop:= ∃(eE:Option Addr)(eF:Nat),cs= [.int .i64 d.lot,.slice eE d.area.length eF,.int .i64 d.top]/\I64 d.lot/\Sl je w eE d.area.length eF d.area/\I64 d.top
def vG:Lay uO:=⟨3,abO,fun h=>by obtain⟨_,_,rfl,_⟩:=h;rfl,fun h he=>by obtain⟨eE,eF,rfl,q0,q1,q2⟩:=h;exact⟨eE,eF,rfl,q0,q1.exts he,q2⟩,fun h=>by obtain⟨_,_,rfl,_⟩:=h;simp[Value.oneCell']⟩
theorem PQ{w:World}{ao:Option Addr}{n c:Nat}{l:List uO}(h:Sl vG w ao n c l){i:Nat}{d:uO}(hd:l[i]?=some d):∃b off eE eF,ao=some ⟨b,off,none⟩/\b<w.heap.size/\w.cell? ⟨b,off+i*3,none⟩=some (.int .i64 d.lot)/\w.cell? ⟨b,off+i*3+1,none⟩=some (.slice eE d.area.length eF)/\w.cell? ⟨b,off+i*3+2,none⟩=some (.int .i64 d.top)/\I64 d.lot/\Sl je w eE d.area.length eF d.area/\I64 d.top:=by
 obtain⟨b,off,cs,rfl,hb,hR,hc⟩:=h.at hd;obtain⟨eE,eF,rfl,q0,q1,q2⟩:=hR;exact⟨b,off,eE,eF,rfl,hb,hc 0 _ rfl,hc 1 _ rfl,hc 2 _ rfl,q0,q1,q2⟩
structure Entry where
 name:ByteArray
 n:Int
def YR(w:World)(cs:zv)(d:Entry):Prop:=cs= [.string d.name,.int .i64 d.n]/\gS d.name/\I64 d.n
def eY:Lay Entry:=⟨2,YR,fun h=>by obtain⟨rfl,_⟩:=h;rfl,fun h he=>by obtain⟨rfl,q0,q1⟩:=h;exact⟨rfl,q0,q1⟩,fun h=>by obtain⟨rfl,_⟩:=h;simp[Value.oneCell']⟩
theorem xy{w:World}{ao:Option Addr}{n c:Nat}{l:List Entry}(h:Sl eY w ao n c l){i:Nat}{d:Entry}(hd:l[i]?=some d):∃b off,ao=some ⟨b,off,none⟩/\b<w.heap.size/\w.cell? ⟨b,off+i*2,none⟩=some (.string d.name)/\w.cell? ⟨b,off+i*2+1,none⟩=some (.int .i64 d.n)/\gS d.name/\I64 d.n:=by
 obtain⟨b,off,cs,rfl,hb,hR,hc⟩:=h.at hd;obtain⟨rfl,q0,q1⟩:=hR;exact⟨b,off,rfl,hb,hc 0 _ rfl,hc 1 _ rfl,q0,q1⟩
structure Def where
 name:ByteArray
 body:Xp
def aeL(w:World)(cs:zv)(d:Def):Prop:= ∃(eO:Option Addr)(eP:Nat),cs= [.string d.name,.int .i64 d.body.op,.int .i64 d.body.num,.string d.body.str,.string d.body.key,.slice eO d.body.args.length eP]/\gS d.name/\yv w eO eP d.body
def mC:Lay Def:=⟨6,aeL,fun h=>by obtain⟨_,_,rfl,_⟩:=h;rfl,fun h he=>by obtain⟨eO,eP,rfl,q0,q1⟩:=h;exact⟨eO,eP,rfl,q0,q1.exts he⟩,fun h=>by obtain⟨_,_,rfl,_⟩:=h;simp[Value.oneCell']⟩
theorem Ew{w:World}{ao:Option Addr}{n c:Nat}{l:List Def}(h:Sl mC w ao n c l){i:Nat}{d:Def}(hd:l[i]?=some d):∃b off eO eP,ao=some ⟨b,off,none⟩/\b<w.heap.size/\w.cell? ⟨b,off+i*6,none⟩=some (.string d.name)/\w.cell? ⟨b,off+i*6+1,none⟩=some (.int .i64 d.body.op)/\w.cell? ⟨b,off+i*6+2,none⟩=some (.int .i64 d.body.num)/\w.cell? ⟨b,off+i*6+3,none⟩=some (.string d.body.str)/\w.cell? ⟨b,off+i*6+4,none⟩=some (.string d.body.key)/\w.cell? ⟨b,off+i*6+5,none⟩=some (.slice eO d.body.args.length eP)/\gS d.name/\yv w eO eP d.body:=by
 obtain⟨b,off,cs,rfl,hb,hR,hc⟩:=h.at hd;obtain⟨eO,eP,rfl,q0,q1⟩:=hR;exact⟨b,off,eO,eP,rfl,hb,hc 0 _ rfl,hc 1 _ rfl,hc 2 _ rfl,hc 3 _ rfl,hc 4 _ rfl,hc 5 _ rfl,q0,q1⟩
structure xz where
 name:ByteArray
 rows:List Entry
 els:Int
def aeM(w:World)(cs:zv)(d:xz):Prop:= ∃(iF:Option Addr)(iG:Nat),cs= [.string d.name,.slice iF d.rows.length iG,.int .i64 d.els]/\gS d.name/\Sl eY w iF d.rows.length iG d.rows/\I64 d.els
def nB:Lay xz:=⟨3,aeM,fun h=>by obtain⟨_,_,rfl,_⟩:=h;rfl,fun h he=>by obtain⟨iF,iG,rfl,q0,q1,q2⟩:=h;exact⟨iF,iG,rfl,q0,q1.exts he,q2⟩,fun h=>by obtain⟨_,_,rfl,_⟩:=h;simp[Value.oneCell']⟩
theorem Va{w:World}{ao:Option Addr}{n c:Nat}{l:List xz}(h:Sl nB w ao n c l){i:Nat}{d:xz}(hd:l[i]?=some d):∃b off iF iG,ao=some ⟨b,off,none⟩/\b<w.heap.size/\w.cell? ⟨b,off+i*3,none⟩=some (.string d.name)/\w.cell? ⟨b,off+i*3+1,none⟩=some (.slice iF d.rows.length iG)/\w.cell? ⟨b,off+i*3+2,none⟩=some (.int .i64 d.els)/\gS d.name/\Sl eY w iF d.rows.length iG d.rows/\I64 d.els:=by
 obtain⟨b,off,cs,rfl,hb,hR,hc⟩:=h.at hd;obtain⟨iF,iG,rfl,q0,q1,q2⟩:=hR;exact⟨b,off,iF,iG,rfl,hb,hc 0 _ rfl,hc 1 _ rfl,hc 2 _ rfl,q0,q1,q2⟩
structure Zone where
 name:ByteArray
 over:Bool
 corners:List Pt
def abP(w:World)(cs:zv)(d:Zone):Prop:= ∃(aV:Option Addr)(aW:Nat),cs= [.string d.name,.bool d.over,.slice aV d.corners.length aW]/\gS d.name/\Sl zV w aV d.corners.length aW d.corners
def jV:Lay Zone:=⟨3,abP,fun h=>by obtain⟨_,_,rfl,_⟩:=h;rfl,fun h he=>by obtain⟨aV,aW,rfl,q0,q1⟩:=h;exact⟨aV,aW,rfl,q0,q1.exts he⟩,fun h=>by obtain⟨_,_,rfl,_⟩:=h;simp[Value.oneCell']⟩
theorem Ak{w:World}{ao:Option Addr}{n c:Nat}{l:List Zone}(h:Sl jV w ao n c l){i:Nat}{d:Zone}(hd:l[i]?=some d):∃b off aV aW,ao=some ⟨b,off,none⟩/\b<w.heap.size/\w.cell? ⟨b,off+i*3,none⟩=some (.string d.name)/\w.cell? ⟨b,off+i*3+1,none⟩=some (.bool d.over)/\w.cell? ⟨b,off+i*3+2,none⟩=some (.slice aV d.corners.length aW)/\gS d.name/\Sl zV w aV d.corners.length aW d.corners:=by
 obtain⟨b,off,cs,rfl,hb,hR,hc⟩:=h.at hd;obtain⟨aV,aW,rfl,q0,q1⟩:=hR;exact⟨b,off,aV,aW,rfl,hb,hc 0 _ rfl,hc 1 _ rfl,hc 2 _ rfl,q0,q1⟩
structure Rule where
 name:ByteArray
 zones:List ByteArray
 exc:List ByteArray
 start:Int
 stop:Int
 bM:Int
 vary:Bool
 kind:Int
 test:Xp
 ah:Dv
 uses:Int
 other:Int
 n:Int
def abQ(w:World)(cs:zv)(d:Rule):Prop:= ∃(cu:Option Addr)(cy:Nat)(fW:Option Addr)(fX:Nat)(fq:Option Addr)(fu:Nat),cs= [.string d.name,.slice cu d.zones.length cy,.slice fW d.exc.length fX,.int .i64 d.start,.int .i64 d.stop,.int .i64 d.bM,.bool d.vary,.int .i64 d.kind,.int .i64 d.test.op,.int .i64 d.test.num,.string d.test.str,.string d.test.key,.slice fq d.test.args.length fu,.int .i64 d.ah.side,.int .i64 d.ah.base,.int .i64 d.ah.num,.int .i64 d.ah.den,.int .i64 d.uses,.int .i64 d.other,.int .i64 d.n]/\gS d.name/\Sl fC w cu d.zones.length cy d.zones/\Sl fC w fW d.exc.length fX d.exc/\I64 d.start/\I64 d.stop/\I64 d.bM/\I64 d.kind/\yv w fq fu d.test/\I64 d.ah.side/\I64 d.ah.base/\I64 d.ah.num/\I64 d.ah.den/\I64 d.uses/\I64 d.other/\I64 d.n
def aw:Lay Rule:=⟨20,abQ,fun h=>by obtain⟨_,_,_,_,_,_,rfl,_⟩:=h;rfl,fun h he=>by obtain⟨cu,cy,fW,fX,fq,fu,rfl,q0,q1,q2,q3,q4,q5,q6,q7,q8,q9,q10,q11,q12,q13,pV⟩:=h;exact⟨cu,cy,fW,fX,fq,fu,rfl,q0,q1.exts he,q2.exts he,q3,q4,q5,q6,q7.exts he,q8,q9,q10,q11,q12,q13,pV⟩,fun h=>by obtain⟨_,_,_,_,_,_,rfl,_⟩:=h;simp[Value.oneCell']⟩
theorem PR{w:World}{ao:Option Addr}{n c:Nat}{l:List Rule}(h:Sl aw w ao n c l){i:Nat}{d:Rule}(hd:l[i]?=some d):∃b off cu cy fW fX fq fu,ao=some ⟨b,off,none⟩/\b<w.heap.size/\w.cell? ⟨b,off+i*20,none⟩=some (.string d.name)/\w.cell? ⟨b,off+i*20+1,none⟩=some (.slice cu d.zones.length cy)/\w.cell? ⟨b,off+i*20+2,none⟩=some (.slice fW d.exc.length fX)/\w.cell? ⟨b,off+i*20+3,none⟩=some (.int .i64 d.start)/\w.cell? ⟨b,off+i*20+4,none⟩=some (.int .i64 d.stop)/\w.cell? ⟨b,off+i*20+5,none⟩=some (.int .i64 d.bM)/\w.cell? ⟨b,off+i*20+6,none⟩=some (.bool d.vary)/\w.cell? ⟨b,off+i*20+7,none⟩=some (.int .i64 d.kind)/\w.cell? ⟨b,off+i*20+8,none⟩=some (.int .i64 d.test.op)/\w.cell? ⟨b,off+i*20+9,none⟩=some (.int .i64 d.test.num)/\w.cell? ⟨b,off+i*20+10,none⟩=some (.string d.test.str)/\w.cell? ⟨b,off+i*20+11,none⟩=some (.string d.test.key)/\w.cell? ⟨b,off+i*20+12,none⟩=some (.slice fq d.test.args.length fu)/\w.cell? ⟨b,off+i*20+13,none⟩=some (.int .i64 d.ah.side)/\w.cell? ⟨b,off+i*20+14,none⟩=some (.int .i64 d.ah.base)/\w.cell? ⟨b,off+i*20+15,none⟩=some (.int .i64 d.ah.num)/\w.cell? ⟨b,off+i*20+16,none⟩=some (.int .i64 d.ah.den)/\w.cell? ⟨b,off+i*20+17,none⟩=some (.int .i64 d.uses)/\w.cell? ⟨b,off+i*20+18,none⟩=some (.int .i64 d.other)/\w.cell? ⟨b,off+i*20+19,none⟩=some (.int .i64 d.n)/\gS d.name/\Sl fC w cu d.zones.length cy d.zones/\Sl fC w fW d.exc.length fX d.exc/\I64 d.start/\I64 d.stop/\I64 d.bM/\I64 d.kind/\yv w fq fu d.test/\I64 d.ah.side/\I64 d.ah.base/\I64 d.ah.num/\I64 d.ah.den/\I64 d.uses/\I64 d.other/\I64 d.n:=by
 obtain⟨b,off,cs,rfl,hb,hR,hc⟩:=h.at hd;obtain⟨cu,cy,fW,fX,fq,fu,rfl,q0,q1,q2,q3,q4,q5,q6,q7,q8,q9,q10,q11,q12,q13,pV⟩:=hR;exact⟨b,off,cu,cy,fW,fX,fq,fu,rfl,hb,hc 0 _ rfl,hc 1 _ rfl,hc 2 _ rfl,hc 3 _ rfl,hc 4 _ rfl,hc 5 _ rfl,hc 6 _ rfl,hc 7 _ rfl,hc 8 _ rfl,hc 9 _ rfl,hc 10 _ rfl,hc 11 _ rfl,hc 12 _ rfl,hc 13 _ rfl,hc 14 _ rfl,hc 15 _ rfl,hc 16 _ rfl,hc 17 _ rfl,hc 18 _ rfl,hc 19 _ rfl,q0,q1,q2,q3,q4,q5,q6,q7,q8,q9,q10,q11,q12,q13,pV⟩
structure Cap where
 name:ByteArray
 load:Int
 limit:Int
 corners:List Pt
def aeN(w:World)(cs:zv)(d:Cap):Prop:= ∃(aV:Option Addr)(aW:Nat),cs= [.string d.name,.int .i64 d.load,.int .i64 d.limit,.slice aV d.corners.length aW]/\gS d.name/\I64 d.load/\I64 d.limit/\Sl zV w aV d.corners.length aW d.corners
def iR:Lay Cap:=⟨4,aeN,fun h=>by obtain⟨_,_,rfl,_⟩:=h;rfl,fun h he=>by obtain⟨aV,aW,rfl,q0,q1,q2,q3⟩:=h;exact⟨aV,aW,rfl,q0,q1,q2,q3.exts he⟩,fun h=>by obtain⟨_,_,rfl,_⟩:=h;simp[Value.oneCell']⟩
theorem Vb{w:World}{ao:Option Addr}{n c:Nat}{l:List Cap}(h:Sl iR w ao n c l){i:Nat}{d:Cap}(hd:l[i]?=some d):∃b off aV aW,ao=some ⟨b,off,none⟩/\b<w.heap.size/\w.cell? ⟨b,off+i*4,none⟩=some (.string d.name)/\w.cell? ⟨b,off+i*4+1,none⟩=some (.int .i64 d.load)/\w.cell? ⟨b,off+i*4+2,none⟩=some (.int .i64 d.limit)/\w.cell? ⟨b,off+i*4+3,none⟩=some (.slice aV d.corners.length aW)/\gS d.name/\I64 d.load/\I64 d.limit/\Sl zV w aV d.corners.length aW d.corners:=by
 obtain⟨b,off,cs,rfl,hb,hR,hc⟩:=h.at hd;obtain⟨aV,aW,rfl,q0,q1,q2,q3⟩:=hR;exact⟨b,off,aV,aW,rfl,hb,hc 0 _ rfl,hc 1 _ rfl,hc 2 _ rfl,hc 3 _ rfl,q0,q1,q2,q3⟩
structure View where
 name:ByteArray
 eye:P3
 least:Int
 targets:List P3
def abR(w:World)(cs:zv)(d:View):Prop:= ∃(fl:Option Addr)(fo:Nat),cs= [.string d.name,.int .i64 d.eye.x,.int .i64 d.eye.y,.int .i64 d.eye.z,.int .i64 d.least,.slice fl d.targets.length fo]/\gS d.name/\I64 d.eye.x/\I64 d.eye.y/\I64 d.eye.z/\I64 d.least/\Sl yw w fl d.targets.length fo d.targets
def kM:Lay View:=⟨6,abR,fun h=>by obtain⟨_,_,rfl,_⟩:=h;rfl,fun h he=>by obtain⟨fl,fo,rfl,q0,q1,q2,q3,q4,q5⟩:=h;exact⟨fl,fo,rfl,q0,q1,q2,q3,q4,q5.exts he⟩,fun h=>by obtain⟨_,_,rfl,_⟩:=h;simp[Value.oneCell']⟩
theorem PT{w:World}{ao:Option Addr}{n c:Nat}{l:List View}(h:Sl kM w ao n c l){i:Nat}{d:View}(hd:l[i]?=some d):∃b off fl fo,ao=some ⟨b,off,none⟩/\b<w.heap.size/\w.cell? ⟨b,off+i*6,none⟩=some (.string d.name)/\w.cell? ⟨b,off+i*6+1,none⟩=some (.int .i64 d.eye.x)/\w.cell? ⟨b,off+i*6+2,none⟩=some (.int .i64 d.eye.y)/\w.cell? ⟨b,off+i*6+3,none⟩=some (.int .i64 d.eye.z)/\w.cell? ⟨b,off+i*6+4,none⟩=some (.int .i64 d.least)/\w.cell? ⟨b,off+i*6+5,none⟩=some (.slice fl d.targets.length fo)/\gS d.name/\I64 d.eye.x/\I64 d.eye.y/\I64 d.eye.z/\I64 d.least/\Sl yw w fl d.targets.length fo d.targets:=by
 obtain⟨b,off,cs,rfl,hb,hR,hc⟩:=h.at hd;obtain⟨fl,fo,rfl,q0,q1,q2,q3,q4,q5⟩:=hR;exact⟨b,off,fl,fo,rfl,hb,hc 0 _ rfl,hc 1 _ rfl,hc 2 _ rfl,hc 3 _ rfl,hc 4 _ rfl,hc 5 _ rfl,q0,q1,q2,q3,q4,q5⟩
structure Plan where
 defs:List Def
 tables:List xz
 zones:List Zone
 rules:List Rule
 caps:List Cap
 views:List View
 eA:List P3
 hours:Int
def LB(w:World)(cs:zv)(d:Plan):Prop:= ∃(vH:Option Addr)(vI:Nat)(qG:Option Addr)(qH:Nat)(cu:Option Addr)(cy:Nat)(tj:Option Addr)(tk:Nat)(vJ:Option Addr)(vK:Nat)(tq:Option Addr)(tu:Nat)(zW:Option Addr)(zX:Nat),cs= [.slice vH d.defs.length vI,.slice qG d.tables.length qH,.slice cu d.zones.length cy,.slice tj d.rules.length tk,.slice vJ d.caps.length vK,.slice tq d.views.length tu,.slice zW d.eA.length zX,.int .i64 d.hours]/\Sl mC w vH d.defs.length vI d.defs/\Sl nB w qG d.tables.length qH d.tables/\Sl jV w cu d.zones.length cy d.zones/\Sl aw w tj d.rules.length tk d.rules/\Sl iR w vJ d.caps.length vK d.caps/\Sl kM w tq d.views.length tu d.views/\Sl yw w zW d.eA.length zX d.eA/\I64 d.hours
def bq:Lay Plan:=⟨8,LB,fun h=>by obtain⟨_,_,_,_,_,_,_,_,_,_,_,_,_,_,rfl,_⟩:=h;rfl,fun h he=>by obtain⟨vH,vI,qG,qH,cu,cy,tj,tk,vJ,vK,tq,tu,zW,zX,rfl,q0,q1,q2,q3,q4,q5,q6,q7⟩:=h;exact⟨vH,vI,qG,qH,cu,cy,tj,tk,vJ,vK,tq,tu,zW,zX,rfl,q0.exts he,q1.exts he,q2.exts he,q3.exts he,q4.exts he,q5.exts he,q6.exts he,q7⟩,fun h=>by obtain⟨_,_,_,_,_,_,_,_,_,_,_,_,_,_,rfl,_⟩:=h;simp[Value.oneCell']⟩
structure gR where
 base:Rc
 z0:Int
 z1:Int
 use:Int
 units:Int
 extra:Bool
def aeO(w:World)(cs:zv)(d:gR):Prop:=cs= [.int .i64 d.base.x0,.int .i64 d.base.y0,.int .i64 d.base.x1,.int .i64 d.base.y1,.int .i64 d.z0,.int .i64 d.z1,.int .i64 d.use,.int .i64 d.units,.bool d.extra]/\I64 d.base.x0/\I64 d.base.y0/\I64 d.base.x1/\I64 d.base.y1/\I64 d.z0/\I64 d.z1/\I64 d.use/\I64 d.units
def iD:Lay gR:=⟨9,aeO,fun h=>by obtain⟨rfl,_⟩:=h;rfl,fun h he=>by obtain⟨rfl,q0,q1,q2,q3,q4,q5,q6,q7⟩:=h;exact⟨rfl,q0,q1,q2,q3,q4,q5,q6,q7⟩,fun h=>by obtain⟨rfl,_⟩:=h;simp[Value.oneCell']⟩
structure Phase where
 cA:List gR
 gives:List Entry
def YS(w:World)(cs:zv)(d:Phase):Prop:= ∃(iH:Option Addr)(iI:Nat)(kx:Option Addr)(kz:Nat),cs= [.slice iH d.cA.length iI,.slice kx d.gives.length kz]/\Sl iD w iH d.cA.length iI d.cA/\Sl eY w kx d.gives.length kz d.gives
def uP:Lay Phase:=⟨2,YS,fun h=>by obtain⟨_,_,_,_,rfl,_⟩:=h;rfl,fun h he=>by obtain⟨iH,iI,kx,kz,rfl,q0,q1⟩:=h;exact⟨iH,iI,kx,kz,rfl,q0.exts he,q1.exts he⟩,fun h=>by obtain⟨_,_,_,_,rfl,_⟩:=h;simp[Value.oneCell']⟩
theorem MD{w:World}{ao:Option Addr}{n c:Nat}{l:List Phase}(h:Sl uP w ao n c l){i:Nat}{d:Phase}(hd:l[i]?=some d):∃b off iH iI kx kz,ao=some ⟨b,off,none⟩/\b<w.heap.size/\w.cell? ⟨b,off+i*2,none⟩=some (.slice iH d.cA.length iI)/\w.cell? ⟨b,off+i*2+1,none⟩=some (.slice kx d.gives.length kz)/\Sl iD w iH d.cA.length iI d.cA/\Sl eY w kx d.gives.length kz d.gives:=by
 obtain⟨b,off,cs,rfl,hb,hR,hc⟩:=h.at hd;obtain⟨iH,iI,kx,kz,rfl,q0,q1⟩:=hR;exact⟨b,off,iH,iI,kx,kz,rfl,hb,hc 0 _ rfl,hc 1 _ rfl,q0,q1⟩
structure rW where
 lot:Int
 phases:List Phase
def aeP(w:World)(cs:zv)(d:rW):Prop:= ∃(cQ:Option Addr)(cR:Nat),cs= [.int .i64 d.lot,.slice cQ d.phases.length cR]/\I64 d.lot/\Sl uP w cQ d.phases.length cR d.phases
def e6:Lay rW:=⟨2,aeP,fun h=>by obtain⟨_,_,rfl,_⟩:=h;rfl,fun h he=>by obtain⟨cQ,cR,rfl,q0,q1⟩:=h;exact⟨cQ,cR,rfl,q0,q1.exts he⟩,fun h=>by obtain⟨_,_,rfl,_⟩:=h;simp[Value.oneCell']⟩
structure Placed where
 lot:Int
 fU:gR
def Vc(w:World)(cs:zv)(d:Placed):Prop:=cs= [.int .i64 d.lot,.int .i64 d.fU.base.x0,.int .i64 d.fU.base.y0,.int .i64 d.fU.base.x1,.int .i64 d.fU.base.y1,.int .i64 d.fU.z0,.int .i64 d.fU.z1,.int .i64 d.fU.use,.int .i64 d.fU.units,.bool d.fU.extra]/\I64 d.lot/\I64 d.fU.base.x0/\I64 d.fU.base.y0/\I64 d.fU.base.x1/\I64 d.fU.base.y1/\I64 d.fU.z0/\I64 d.fU.z1/\I64 d.fU.use/\I64 d.fU.units
def lI:Lay Placed:=⟨10,Vc,fun h=>by obtain⟨rfl,_⟩:=h;rfl,fun h he=>by obtain⟨rfl,q0,q1,q2,q3,q4,q5,q6,q7,q8⟩:=h;exact⟨rfl,q0,q1,q2,q3,q4,q5,q6,q7,q8⟩,fun h=>by obtain⟨rfl,_⟩:=h;simp[Value.oneCell']⟩
structure Win where
 lot:Int
 spot:P3
def aeQ(w:World)(cs:zv)(d:Win):Prop:=cs= [.int .i64 d.lot,.int .i64 d.spot.x,.int .i64 d.spot.y,.int .i64 d.spot.z]/\I64 d.lot/\I64 d.spot.x/\I64 d.spot.y/\I64 d.spot.z
def PU:Lay Win:=⟨4,aeQ,fun h=>by obtain⟨rfl,_⟩:=h;rfl,fun h he=>by obtain⟨rfl,q0,q1,q2,q3⟩:=h;exact⟨rfl,q0,q1,q2,q3⟩,fun h=>by obtain⟨rfl,_⟩:=h;simp[Value.oneCell']⟩
structure mD where
 plan:Plan
 land:List Lot
 dH:List uO
 wins:List Win
 built:List Placed
 base:List Entry
def abS(w:World)(cs:zv)(d:mD):Prop:= ∃(mN:Option Addr)(mO:Nat)(kQ:Option Addr)(kR:Nat)(lJ:Option Addr)(lK:Nat)(lL:Option Addr)(lM:Nat)(mP:Option Addr)(mQ:Nat)(lN:Option Addr)(lO:Nat)(nC:Option Addr)(nD:Nat)(vL:Option Addr)(vM:Nat)(tx:Option Addr)(tz:Nat)(vN:Option Addr)(vO:Nat)(tA:Option Addr)(tB:Nat)(vP:Option Addr)(vQ:Nat),cs= [.slice mN d.plan.defs.length mO,.slice kQ d.plan.tables.length kR,.slice lJ d.plan.zones.length lK,.slice lL d.plan.rules.length lM,.slice mP d.plan.caps.length mQ,.slice lN d.plan.views.length lO,.slice nC d.plan.eA.length nD,.int .i64 d.plan.hours,.slice vL d.land.length vM,.slice tx d.dH.length tz,.slice vN d.wins.length vO,.slice tA d.built.length tB,.slice vP d.base.length vQ]/\Sl mC w mN d.plan.defs.length mO d.plan.defs/\Sl nB w kQ d.plan.tables.length kR d.plan.tables/\Sl jV w lJ d.plan.zones.length lK d.plan.zones/\Sl aw w lL d.plan.rules.length lM d.plan.rules/\Sl iR w mP d.plan.caps.length mQ d.plan.caps/\Sl kM w lN d.plan.views.length lO d.plan.views/\Sl yw w nC d.plan.eA.length nD d.plan.eA/\I64 d.plan.hours/\Sl pM w vL d.land.length vM d.land/\Sl vG w tx d.dH.length tz d.dH/\Sl PU w vN d.wins.length vO d.wins/\Sl lI w tA d.built.length tB d.built/\Sl eY w vP d.base.length vQ d.base
def gg:Lay mD:=⟨13,abS,fun h=>by obtain⟨_,_,_,_,_,_,_,_,_,_,_,_,_,_,_,_,_,_,_,_,_,_,_,_,rfl,_⟩:=h;rfl,fun h he=>by obtain⟨mN,mO,kQ,kR,lJ,lK,lL,lM,mP,mQ,lN,lO,nC,nD,vL,vM,tx,tz,vN,vO,tA,tB,vP,vQ,rfl,q0,q1,q2,q3,q4,q5,q6,q7,q8,q9,q10,q11,q12⟩:=h;exact⟨mN,mO,kQ,kR,lJ,lK,lL,lM,mP,mQ,lN,lO,nC,nD,vL,vM,tx,tz,vN,vO,tA,tB,vP,vQ,rfl,q0.exts he,q1.exts he,q2.exts he,q3.exts he,q4.exts he,q5.exts he,q6.exts he,q7,q8.exts he,q9.exts he,q10.exts he,q11.exts he,q12.exts he⟩,fun h=>by obtain⟨_,_,_,_,_,_,_,_,_,_,_,_,_,_,_,_,_,_,_,_,_,_,_,_,rfl,_⟩:=h;simp[Value.oneCell']⟩
structure fN where
 kind:Int
 name:ByteArray
 key:ByteArray
 n:Int
 rule:Rule
 body:Xp
 corners:List Pt
def abT(w:World)(cs:zv)(d:fN):Prop:= ∃(fP:Option Addr)(fQ:Nat)(gT:Option Addr)(gU:Nat)(gy:Option Addr)(gz:Nat)(eO:Option Addr)(eP:Nat)(aV:Option Addr)(aW:Nat),cs= [.int .i64 d.kind,.string d.name,.string d.key,.int .i64 d.n,.string d.rule.name,.slice fP d.rule.zones.length fQ,.slice gT d.rule.exc.length gU,.int .i64 d.rule.start,.int .i64 d.rule.stop,.int .i64 d.rule.bM,.bool d.rule.vary,.int .i64 d.rule.kind,.int .i64 d.rule.test.op,.int .i64 d.rule.test.num,.string d.rule.test.str,.string d.rule.test.key,.slice gy d.rule.test.args.length gz,.int .i64 d.rule.ah.side,.int .i64 d.rule.ah.base,.int .i64 d.rule.ah.num,.int .i64 d.rule.ah.den,.int .i64 d.rule.uses,.int .i64 d.rule.other,.int .i64 d.rule.n,.int .i64 d.body.op,.int .i64 d.body.num,.string d.body.str,.string d.body.key,.slice eO d.body.args.length eP,.slice aV d.corners.length aW]/\I64 d.kind/\gS d.name/\gS d.key/\I64 d.n/\gS d.rule.name/\Sl fC w fP d.rule.zones.length fQ d.rule.zones/\Sl fC w gT d.rule.exc.length gU d.rule.exc/\I64 d.rule.start/\I64 d.rule.stop/\I64 d.rule.bM/\I64 d.rule.kind/\yv w gy gz d.rule.test/\I64 d.rule.ah.side/\I64 d.rule.ah.base/\I64 d.rule.ah.num/\I64 d.rule.ah.den/\I64 d.rule.uses/\I64 d.rule.other/\I64 d.rule.n/\yv w eO eP d.body/\Sl zV w aV d.corners.length aW d.corners
def cY:Lay fN:=⟨30,abT,fun h=>by obtain⟨_,_,_,_,_,_,_,_,_,_,rfl,_⟩:=h;rfl,fun h he=>by obtain⟨fP,fQ,gT,gU,gy,gz,eO,eP,aV,aW,rfl,q0,q1,q2,q3,q4,q5,q6,q7,q8,q9,q10,q11,q12,q13,pV,JP,q16,ME,MF,LC,JQ⟩:=h;exact⟨fP,fQ,gT,gU,gy,gz,eO,eP,aV,aW,rfl,q0,q1,q2,q3,q4,q5.exts he,q6.exts he,q7,q8,q9,q10,q11.exts he,q12,q13,pV,JP,q16,ME,MF,LC.exts he,JQ.exts he⟩,fun h=>by obtain⟨_,_,_,_,_,_,_,_,_,_,rfl,_⟩:=h;simp[Value.oneCell']⟩
structure Span where
 lo:Int
 hi:Int
def abU(w:World)(cs:zv)(d:Span):Prop:=cs= [.int .i64 d.lo,.int .i64 d.hi]/\I64 d.lo/\I64 d.hi
def eQ:Lay Span:=⟨2,abU,fun h=>by obtain⟨rfl,_⟩:=h;rfl,fun h he=>by obtain⟨rfl,q0,q1⟩:=h;exact⟨rfl,q0,q1⟩,fun h=>by obtain⟨rfl,_⟩:=h;simp[Value.oneCell']⟩
theorem Al{w:World}{ao:Option Addr}{n c:Nat}{l:List Span}(h:Sl eQ w ao n c l){i:Nat}{d:Span}(hd:l[i]?=some d):∃b off,ao=some ⟨b,off,none⟩/\b<w.heap.size/\w.cell? ⟨b,off+i*2,none⟩=some (.int .i64 d.lo)/\w.cell? ⟨b,off+i*2+1,none⟩=some (.int .i64 d.hi)/\I64 d.lo/\I64 d.hi:=by
 obtain⟨b,off,cs,rfl,hb,hR,hc⟩:=h.at hd;obtain⟨rfl,q0,q1⟩:=hR;exact⟨b,off,rfl,hb,hc 0 _ rfl,hc 1 _ rfl,q0,q1⟩
structure Strip where
 x0:Int
 x1:Int
 column:List Span
def YT(w:World)(cs:zv)(d:Strip):Prop:= ∃(ju:Option Addr)(jv:Nat),cs= [.int .i64 d.x0,.int .i64 d.x1,.slice ju d.column.length jv]/\I64 d.x0/\I64 d.x1/\Sl eQ w ju d.column.length jv d.column
def stripL:Lay Strip:=⟨3,YT,fun h=>by obtain⟨_,_,rfl,_⟩:=h;rfl,fun h he=>by obtain⟨ju,jv,rfl,q0,q1,q2⟩:=h;exact⟨ju,jv,rfl,q0,q1,q2.exts he⟩,fun h=>by obtain⟨_,_,rfl,_⟩:=h;simp[Value.oneCell']⟩
theorem nS{w:World}{ao:Option Addr}{n c:Nat}{l:List Strip}(h:Sl stripL w ao n c l){i:Nat}{d:Strip}(hd:l[i]?=some d):∃b off ju jv,ao=some ⟨b,off,none⟩/\b<w.heap.size/\w.cell? ⟨b,off+i*3,none⟩=some (.int .i64 d.x0)/\w.cell? ⟨b,off+i*3+1,none⟩=some (.int .i64 d.x1)/\w.cell? ⟨b,off+i*3+2,none⟩=some (.slice ju d.column.length jv)/\I64 d.x0/\I64 d.x1/\Sl eQ w ju d.column.length jv d.column:=by
 obtain⟨b,off,cs,rfl,hb,hR,hc⟩:=h.at hd;obtain⟨ju,jv,rfl,q0,q1,q2⟩:=hR;exact⟨b,off,ju,jv,rfl,hb,hc 0 _ rfl,hc 1 _ rfl,hc 2 _ rfl,q0,q1,q2⟩
structure Side where
 a:Pt
 b:Pt
def abV(w:World)(cs:zv)(d:Side):Prop:=cs= [.int .i64 d.a.x,.int .i64 d.a.y,.int .i64 d.b.x,.int .i64 d.b.y]/\I64 d.a.x/\I64 d.a.y/\I64 d.b.x/\I64 d.b.y
def XG:Lay Side:=⟨4,abV,fun h=>by obtain⟨rfl,_⟩:=h;rfl,fun h he=>by obtain⟨rfl,q0,q1,q2,q3⟩:=h;exact⟨rfl,q0,q1,q2,q3⟩,fun h=>by obtain⟨rfl,_⟩:=h;simp[Value.oneCell']⟩
structure Tok where
 kind:Int
 text:ByteArray
 n:Int
 pos:Int
def aeR(w:World)(cs:zv)(d:Tok):Prop:=cs= [.int .i64 d.kind,.string d.text,.int .i64 d.n,.int .i64 d.pos]/\I64 d.kind/\gS d.text/\I64 d.n/\I64 d.pos
def vR:Lay Tok:=⟨4,aeR,fun h=>by obtain⟨rfl,_⟩:=h;rfl,fun h he=>by obtain⟨rfl,q0,q1,q2,q3⟩:=h;exact⟨rfl,q0,q1,q2,q3⟩,fun h=>by obtain⟨rfl,_⟩:=h;simp[Value.oneCell']⟩
theorem tC{w:World}{ao:Option Addr}{n c:Nat}{l:List Tok}(h:Sl vR w ao n c l){i:Nat}{d:Tok}(hd:l[i]?=some d):∃b off,ao=some ⟨b,off,none⟩/\b<w.heap.size/\w.cell? ⟨b,off+i*4,none⟩=some (.int .i64 d.kind)/\w.cell? ⟨b,off+i*4+1,none⟩=some (.string d.text)/\w.cell? ⟨b,off+i*4+2,none⟩=some (.int .i64 d.n)/\w.cell? ⟨b,off+i*4+3,none⟩=some (.int .i64 d.pos)/\I64 d.kind/\gS d.text/\I64 d.n/\I64 d.pos:=by
 obtain⟨b,off,cs,rfl,hb,hR,hc⟩:=h.at hd;obtain⟨rfl,q0,q1,q2,q3⟩:=hR;exact⟨b,off,rfl,hb,hc 0 _ rfl,hc 1 _ rfl,hc 2 _ rfl,hc 3 _ rfl,q0,q1,q2,q3⟩
section
def rowOf(w:World)(b:Nat):Array Value:=match w.heap[b]? with|some (.cells c _ _)=>c|_=> #[]
def isRow(w:World)(b n:Nat):Prop:= ∃c t,w.heap[b]?=some (.cells c t (0,0))/\c.size=n
section
variable (w:World)(x:Ex)(c c':Array Value)(t:TypeId)(n k:Nat)
theorem gI{w:World}{b:Nat}{c:Array Value}{t:TypeId}{fr:Nat×Nat}(h:w.heap[b]?=some (.cells c t fr)):rowOf w b=c:=by unfold rowOf;rw[h]
theorem mR(o:Obj):(w.alloc o).heap[n]?=if n<w.heap.size then w.heap[n]? else if n=w.heap.size then some o else none:=by
 show(w.heap.push o)[n]?=_;rw[Array.getElem?_push];by_cases h:n=w.heap.size
 ·rw[if_pos h,if_neg (by omega),if_pos h]
 ·rw[if_neg h]
  by_cases h2:n<w.heap.size
  ·rw[if_pos h2]
  ·rw[if_neg h2,if_neg h]
   exact Array.getElem?_eq_none (by omega)
@[go_sem] theorem XH:rowOf (w.alloc (.cells c t)) n=if n<w.heap.size then rowOf w n else if n=w.heap.size then c else#[]:=by
 unfold rowOf;rw[mR];by_cases h:n<w.heap.size
 ·rw[if_pos h,if_pos h]
 ·rw[if_neg h,if_neg h]
  by_cases h2:n=w.heap.size
  ·rw[if_pos h2,if_pos h2]
  ·rw[if_neg h2,if_neg h2]
@[go_sem] theorem XI:isRow (w.alloc (.cells c t)) n k=if n<w.heap.size then isRow w n k else if n=w.heap.size then c.size=k else False:=by
 unfold isRow;rw[mR];by_cases h:n<w.heap.size
 ·rw[if_pos h,if_pos h]
 ·rw[if_neg h,if_neg h]
  by_cases h2:n=w.heap.size
  ·rw[if_pos h2,if_pos h2]
   apply propext;constructor
   ·rintro ⟨_,_,h,rfl⟩
    simp only[Option.some.injEq,Obj.cells.injEq]at h;rw[h.1]
   ·intro h
    exact⟨c,t,rfl,h⟩
  ·rw[if_neg h2,if_neg h2]
   apply propext;constructor
   ·rintro ⟨_,_,h,_⟩
    cases h
   ·intro h
    exact h.elim
def YU(w:World)(x:Ex)(n:Nat):Array Value:=rowOf (av w x) n
def PV(w:World)(x:Ex)(n k:Nat):Prop:=isRow (av w x) n k
def MG(w:World)(x:Ex)(n:Nat)(c:Array Value):World:=(av w x).setRow n c
@[go_sem] theorem JR:rowOf (av w x) n=if n<w.heap.size then rowOf w n else YU w x n:=by
 split
 ·rename_i h
  unfold rowOf;rw[iQ w x n h]
 ·rfl
@[go_sem] theorem YV:isRow (av w x) n k=if n<w.heap.size then isRow w n k else PV w x n k:=by
 split
 ·rename_i h
  unfold isRow;rw[iQ w x n h]
 ·rfl
@[go_sem] theorem YW:rowOf w.drew n=rowOf w n:=rfl
@[go_sem] theorem YX:isRow w.drew n k=isRow w n k:=rfl
@[go_sem] theorem Ey:(w.alloc (.cells c t)).setRow n c'=if n<w.heap.size then(w.setRow n c').alloc (.cells c t)else if n=w.heap.size then w.alloc (.cells c' t)else w.alloc (.cells c t):=by
 split
 ·rename_i h
  simp only[World.setRow,World.alloc];congr 1;apply Array.ext_getElem?;intro i;simp only[Array.getElem?_modify,Array.getElem?_push,Array.size_modify];by_cases hi:i=w.heap.size
  ·subst hi
   simp[show ¬n=w.heap.size by omega]
  ·simp[hi]
 ·split
  ·rename_i h
   subst h;exact World.setRow_alloc_new w c c' t
  ·simp only[World.setRow,World.alloc]
   congr 1;apply Array.ext_getElem?;intro i;rw[Array.getElem?_modify];split
   ·rename_i h
    subst h;rw[Array.getElem?_eq_none (by simp;omega)];rfl
   ·rfl
@[go_sem] theorem yx:(av w x).setRow n c=if n<w.heap.size then av (w.setRow n c) x else MG w x n c:=by
 split
 ·rename_i h
  unfold World.setRow av;congr 1;apply Array.ext_getElem?;intro i;simp only[Array.getElem?_modify,Array.getElem?_append,Array.size_modify];by_cases hk:i<w.heap.size
  ·simp only[if_pos hk]
  ·have hn: ¬n=i:=by omega
   simp only[if_neg hk,if_neg hn]
 ·rfl
@[go_sem] theorem XJ:w.drew.setRow n c=(w.setRow n c).drew:=rfl
@[simp, go_sem] theorem setRow_size:(w.setRow n c).heap.size=w.heap.size:=by simp[World.setRow]
end
end
def lj{T:Type}(e:T->T->Bool):List T->List T->Bool
 | [],[]=>true
 |a::l,b::m=>e a b&&lj e l m
 |_,_=>false
theorem vS{T:Type}{e:T->T->Bool}:∀{l m:List T},l.length≠m.length->lj e l m=false
 | [],[],h=>absurd rfl h
 | [],b::m,_=>rfl
 |a::l,[],_=>rfl
 |a::l,b::m,h=>by
  show(e a b&&lj e l m)=false;rw[vS fun q=>h (by simp[q])];simp
theorem vT{T:Type}{e:T->T->Bool}:∀{l m:List T},l.length=m.length->(∀(j:Nat)(x y:T),l[j]?=some x->m[j]?=some y->e x y=true)->lj e l m=true
 | [],[],_,_=>rfl
 | [],b::m,h,_=>by simp at h
 |a::l,[],h,_=>by simp at h
 |a::l,b::m,h,q=>by
  show(e a b&&lj e l m)=true;rw[q 0 a b rfl rfl,vT (by simpa using h) fun j x y hx hy=>q (j+1) x y (by simpa using hx) (by simpa using hy)];rfl
theorem tD{T:Type}{e:T->T->Bool}:∀{l m:List T}{k:Nat}{x y:T},l[k]?=some x->m[k]?=some y->e x y=false->lj e l m=false
 | [],_,k,x,y,h,_,_=>by simp at h
 |a::l,[],k,x,y,_,h,_=>by simp at h
 |a::l,b::m,0,x,y,h1,h2,h=>by
  simp at h1 h2;subst h1 h2;show(e a b&&lj e l m)=false;rw[h];rfl
 |a::l,b::m,k+1,x,y,h1,h2,h=>by
  show(e a b&&lj e l m)=false;rw[tD (k:=k) (by simpa using h1) (by simpa using h2) h];simp
def rcE(a b:Rc):Bool:=((a.x0==b.x0)&&((a.y0==b.y0)&&((a.x1==b.x1)&&(a.y1==b.y1))))
def Vd(a b:Pt):Bool:=((a.x==b.x)&&(a.y==b.y))
def Y0(a b:P3):Bool:=((a.x==b.x)&&((a.y==b.y)&&(a.z==b.z)))
def Am(a b:Span):Bool:=((a.lo==b.lo)&&(a.hi==b.hi))
def Ao(a b:Entry):Bool:=((a.name.toList==b.name.toList)&&(a.n==b.n))
def pN(a b:ByteArray):Bool:=a.toList==b.toList
def Ap(a b:Int):Bool:=a==b
theorem mF:Keyed prog 9:=string_keyed underlying9
theorem ab2(w:World):(zeroValue 4).run prog w=.ok (.bool false) w:=by kernel_rfl
theorem uT{H:Type}{e:TypeId}(he:prog.underlying e=some .bool){v:Value}{z:DataW H×List MemPlace}(h:plainElem prog e v=some z):∃x,v=.bool x/\z=(.lit (.bool x),[]):=by
 unfold plainElem at h;split at h
 ·cases h
  exact⟨_,rfl,rfl⟩
 ·rename_i h1
  rw[he]at h1;cases h1
 ·rename_i h1
  rw[he]at h1;cases h1
 ·cases h
def iT(w:World)(k:TypeId)(b n:Nat)(f:Lit->Bool):Prop:= ∃D:DataW Unit,w.ownsMap prog k (plainElem prog 4) b n D/\∀l,D.atKey l (.lit (.bool false))=.lit (.bool (f l))
open Classical in
noncomputable def xC(f:Lit->Bool)(kl:Lit)(x:Bool):Lit->Bool:=fun l=>if l=kl then x else f l
theorem tF(f:Lit->Bool)(kl:Lit)(x:Bool):xC f kl x kl=x:=by simp[xC]
theorem om(f:Lit->Bool){kl l:Lit}(x:Bool)(h:l≠kl):xC f kl x l=f l:=by simp[xC,h]
theorem iT.made(w:World)(k:TypeId):iT (w.alloc (.map #[] 0)) k w.heap.size 0 fun _=>false:=⟨_,World.ownsMap_made _ _ _ _,fun l=>rfl⟩
theorem iT.kept{w w':World}{k:TypeId}{b n:Nat}{f:Lit->Bool}{row:Option Nat}(h:iT w k b n f)(hg:w.grownBy w' row)(hne:some b≠row):iT w' k b n f:=by
 obtain⟨D,h1,h2⟩:=h;exact⟨D,h1.kept hg hne,h2⟩
theorem iT.exts{w w':World}{k:TypeId}{b n:Nat}{f:Lit->Bool}(h:iT w k b n f)(he:af w w'):iT w' k b n f:=h.kept (er he none) (by simp)
theorem iT.lt{w:World}{k:TypeId}{b n:Nat}{f:Lit->Bool}(h:iT w k b n f):b<w.heap.size:=by
 obtain⟨D,h1,_⟩:=h;exact h1.lt
theorem iT.look{w:World}{k t b n:Nat}{f:Lit->Bool}{key:Value}{kl:Lit}(h:iT w k b n f)(K:Keyed prog k)(ht:prog.underlying t=some (.map k 4))(hkey:keyOf prog k key=some kl):(Instr.lookup t (.map (some b)) key false).run prog w=.ok (.bool (f kl)) w:=by
 obtain⟨D,h1,h2⟩:=h;obtain⟨v,ps,hrun,hv⟩:=h1.lookup K ht (ab2 w) (plainElem_bool underlying4 false) hkey;obtain⟨x,rfl,hx⟩:=uT underlying4 hv;rw[hrun];have:=h2 kl;simp only[Prod.mk.injEq]at hx;rw[hx.1]at this;cases this;rfl
theorem iT.put{w:World}{k t b n:Nat}{f:Lit->Bool}{key:Value}{kl:Lit}(h:iT w k b n f)(K:Keyed prog k)(ht:prog.underlying t=some (.map k 4))(hn:n<maxLen)(hkey:keyOf prog k key=some kl)(hk:WideAt.IsKeyLit kl)(x:Bool):∃w',(Instr.mapUpdate t (.map (some b)) key (.bool x)).run prog w=.ok () w'/\iT w' k b (n+1) (xC f kl x)/\w.grownBy w' (some b):=by
 obtain⟨D,h1,h2⟩:=h;obtain⟨w',r1,r2,r3⟩:=h1.update K ht hn hkey (plainElem_bool underlying4 x);refine⟨w',r1,⟨_,r2,fun l=> ?_⟩,r3⟩;by_cases hl:l=kl
 ·subst hl
  rw[tF];exact atKey_put_same h1.isMap hk _ _
 ·rw[om f x hl,atKey_put_other hl]
  exact h2 l
theorem lq{w:World}{ops:Array Oper}{rest:List Oper}{o:Oper}{a:Act}{Q:Exit->Act->World->Prop}
 (hg:o.guard=none) (m x v:Operand) (t k:TypeId) (hop:o.op=Op.mapUpdate t m x v) (K:Keyed prog k) (ht:prog.underlying t=some (.map k 4)) (b n:Nat) (f:Lit->Bool)
 (hm:a.eval m=.map (some b)) (hown:iT w k b n f) (hn:n<maxLen) (key:Value) (y:Bool) (kl:Lit) (hx:a.eval x=key) (hv:a.eval v=.bool y) (hkey:keyOf prog k key=some kl) (hk:WideAt.IsKeyLit kl)
 (hK:∀w',iT w' k b (n+1) (xC f kl y)->w.grownBy w' (some b)->wpList prog ops Q rest (a.put o.dst undef) w'):
 wpList prog ops Q (o::rest) a w:=by
 refine wpList_plain hg fun K' hK'=> ?_
 obtain⟨w',hrun,r1,r2⟩:=hown.put K ht hn hkey hk y;unfold Oper.wp;simp[execOp,hop,hm,hx,hv,hrun,Result.andThen];exact hK' _ _ (hK w' r1 r2)
theorem Qi:(prog.info? 126).map (fun i=>(i.zero,i.size,i.bytes))=some (some (.agg #[.string ByteArray.empty,.int .i64 0,.int .i64 0,.string ByteArray.empty,.string ByteArray.empty,.slice none 0 0]),6,88):=by kernel_rfl
theorem Qj:(prog.info? 132).map (fun i=>(i.zero,i.size,i.bytes))=some (some (.agg #[.string ByteArray.empty,.slice none 0 0,.int .i64 0]),3,48):=by kernel_rfl
theorem MX:(prog.info? 128).map (fun i=>(i.zero,i.size,i.bytes))=some (some (.agg #[.string ByteArray.empty,.bool false,.slice none 0 0]),3,48):=by kernel_rfl
theorem qh:(prog.info? 52).map (fun i=>(i.zero,i.size,i.bytes))=some (some (.agg #[.string ByteArray.empty,.slice none 0 0,.slice none 0 0,.int .i64 0,.int .i64 0,.int .i64 0,.bool false,.int .i64 0,.int .i64 0,.int .i64 0,.string ByteArray.empty,.string ByteArray.empty,.slice none 0 0,.int .i64 0,.int .i64 0,.int .i64 0,.int .i64 0,.int .i64 0,.int .i64 0,.int .i64 0]),20,232):=by kernel_rfl
theorem Qk:(prog.info? 130).map (fun i=>(i.zero,i.size,i.bytes))=some (some (.agg #[.string ByteArray.empty,.int .i64 0,.int .i64 0,.slice none 0 0]),4,56):=by kernel_rfl
theorem MZ:(prog.info? 136).map (fun i=>(i.zero,i.size,i.bytes))=some (some (.agg #[.string ByteArray.empty,.int .i64 0,.int .i64 0,.int .i64 0,.int .i64 0,.slice none 0 0]),6,72):=by kernel_rfl
theorem LL:(prog.info? 134).map (fun i=>(i.zero,i.size,i.bytes))=some (some (.agg #[.int .i64 0,.int .i64 0,.int .i64 0]),3,24):=by kernel_rfl
theorem AK:(prog.info? 152).map (fun i=>(i.zero,i.size,i.bytes))=some (some (.agg #[.string ByteArray.empty,.int .i64 0]),2,24):=by kernel_rfl
theorem Vo:(prog.info? 167).map (fun i=>(i.zero,i.size,i.bytes))=some (some (.agg #[.int .i64 0,.int .i64 0]),2,16):=by kernel_rfl
theorem sk:(prog.info? 9).map (fun i=>(i.zero,i.size,i.bytes))=some (some (.string ByteArray.empty),1,16):=by kernel_rfl
theorem wk:(prog.info? 74).map (fun i=>(i.zero,i.size,i.bytes))=some (some (.agg #[.int .i64 0,.int .i64 0,.int .i64 0,.int .i64 0]),4,32):=by kernel_rfl
theorem na:(prog.info? 3).map (fun i=>(i.zero,i.size,i.bytes))=some (some (.int .i64 0),1,8):=by kernel_rfl
theorem Ql:(prog.info? 121).map (fun i=>(i.zero,i.size,i.bytes))=some (some (.agg #[.int .i64 0,.string ByteArray.empty,.int .i64 0,.int .i64 0]),4,40):=by kernel_rfl
theorem AL:(prog.info? 98).map (fun i=>(i.zero,i.size,i.bytes))=some (some (.agg #[.int .i64 0,.int .i64 0,.int .i64 0,.int .i64 0,.int .i64 0,.int .i64 0,.int .i64 0,.int .i64 0,.bool false]),9,72):=by kernel_rfl
theorem Vp:(prog.info? 48).map (fun i=>(i.zero,i.size,i.bytes))=some (some (.agg #[.int .i64 0,.int .i64 0,.string ByteArray.empty,.string ByteArray.empty,.slice none 0 0]),5,72):=by kernel_rfl
theorem tI:(prog.info? 406).map (fun i=>(i.zero,i.size,i.bytes))=some (some (.agg #[.int .i64 0,.int .i64 0]),2,16):=by kernel_rfl
theorem JY:(prog.info? 389).map (fun i=>(i.zero,i.size,i.bytes))=some (some (.agg #[.int .i64 0,.int .i64 0,.slice none 0 0]),3,40):=by kernel_rfl
theorem M0:(prog.info? 55).map (fun i=>(i.zero,i.size,i.bytes))=some (some (.agg #[.int .i64 0,.string ByteArray.empty,.string ByteArray.empty,.int .i64 0,.string ByteArray.empty,.slice none 0 0,.slice none 0 0,.int .i64 0,.int .i64 0,.int .i64 0,.bool false,.int .i64 0,.int .i64 0,.int .i64 0,.string ByteArray.empty,.string ByteArray.empty,.slice none 0 0,.int .i64 0,.int .i64 0,.int .i64 0,.int .i64 0,.int .i64 0,.int .i64 0,.int .i64 0,.int .i64 0,.int .i64 0,.string ByteArray.empty,.string ByteArray.empty,.slice none 0 0,.slice none 0 0]),30,376):=by kernel_rfl
def kj(n:Int):Bool:=n==32||(n==9||n==10)
def fY(n:Int):Bool:=decide (97<=n)&&decide (n<=122)
def eD(n:Int):Bool:=decide (48<=n)&&decide (n<=57)
def gP(n:Int):Bool:=fY n||eD n
theorem LV(n:Int)(w:World):Calls prog 124 #[.int .u8 n] w fun e w'=>e=.returned (.bool (kj n))/\w=w':=by
 by_cases h1:n=32
 ·subst h1
  go_enter func124,ntmps124;go_wp2;go_ret;exact⟨rfl,rfl⟩
 ·have b1:(n==32)=false:=by simpa using h1
  have hr:kj n=(n==9||n==10):=by simp[kj,b1]
  by_cases h2:n=9
  ·subst h2
   go_enter func124,ntmps124;go_wp2;go_ret;exact⟨rfl,rfl⟩
  ·have b2:(n==9)=false:=by simpa using h2
   have HR:=aa (show kj n=(n==10)by rw[hr,b2];rfl);clear hr;go_enter func124,ntmps124;go_wp2;go_ret;exact⟨by rw[HR.zo];rfl,rfl⟩
theorem Rf(n:Int)(w:World):Calls prog 208 #[.int .u8 n] w fun e w'=>e=.returned (.bool (fY n))/\w=w':=by
 by_cases h1:97<=n
 ·by_cases h2:n<=122
  ·have HR:=aa (show fY n=true by simp[fY,h1,h2])
   go_enter func208,ntmps208;go_wp2;go_ret;exact⟨by rw[HR.zo];rfl,rfl⟩
  ·have HR:=aa (show fY n=false by simp[fY,h2])
   have b2:decide (n<=122)=false:=by simpa using h2
   go_enter func208,ntmps208;go_wp2;go_ret;exact⟨by rw[HR.zo];rfl,rfl⟩
 ·have HR:=aa (show fY n=false by simp[fY,h1])
  have b1:decide (97<=n)=false:=by simpa using h1
  go_enter func208,ntmps208;go_wp2;go_ret;exact⟨by rw[HR.zo];rfl,rfl⟩
theorem eW(n:Int)(w:World)(b:Bool)(h:fY n=b):Calls prog 208 #[.int .u8 n] w fun e w'=>e=.returned (.bool b)/\w=w':=by
 subst h;exact Rf n w
theorem EO(n:Int)(w:World):Calls prog 210 #[.int .u8 n] w fun e w'=>e=.returned (.bool (eD n))/\w=w':=by
 by_cases h1:48<=n
 ·by_cases h2:n<=57
  ·have HR:=aa (show eD n=true by simp[eD,h1,h2])
   go_enter func210,ntmps210;go_wp2;go_ret;exact⟨by rw[HR.zo];rfl,rfl⟩
  ·have HR:=aa (show eD n=false by simp[eD,h2])
   have b2:decide (n<=57)=false:=by simpa using h2
   go_enter func210,ntmps210;go_wp2;go_ret;exact⟨by rw[HR.zo];rfl,rfl⟩
 ·have HR:=aa (show eD n=false by simp[eD,h1])
  have b1:decide (48<=n)=false:=by simpa using h1
  go_enter func210,ntmps210;go_wp2;go_ret;exact⟨by rw[HR.zo];rfl,rfl⟩
theorem jb(n:Int)(w:World)(b:Bool)(h:eD n=b):Calls prog 210 #[.int .u8 n] w fun e w'=>e=.returned (.bool b)/\w=w':=by
 subst h;exact EO n w
theorem Rg(n:Int)(w:World):Calls prog 282 #[.int .u8 n] w fun e w'=>e=.returned (.bool (gP n))/\w=w':=by
 cases h1:fY n with
 |true=>
  have HR:=aa (show gP n=true by simp[gP,h1]);have H1:=aa h1;have H2:=aa (show eD n=eD n from rfl);clear h1;go_enter func282,ntmps282;go_wp2_with (first|(go_at_call 208;refine(eW _ _ _ H1.zo).mono ?_;rintro e w' ⟨rfl,rfl⟩)|(go_at_call 210;refine(jb _ _ _ H2.zo).mono ?_;rintro e w' ⟨rfl,rfl⟩))
  go_ret;exact⟨by rw[HR.zo];rfl,rfl⟩
 |false=>
  cases h2:eD n with
  |true=>
   have HR:=aa (show gP n=true by simp[gP,h2]);have H1:=aa h1;have H2:=aa h2;clear h1 h2;go_enter func282,ntmps282;go_wp2_with (first|(go_at_call 208;refine(eW _ _ _ H1.zo).mono ?_;rintro e w' ⟨rfl,rfl⟩)|(go_at_call 210;refine(jb _ _ _ H2.zo).mono ?_;rintro e w' ⟨rfl,rfl⟩))
   go_ret;exact⟨by rw[HR.zo];rfl,rfl⟩
  |false=>
   have HR:=aa (show gP n=false by simp[gP,h1,h2]);have H1:=aa h1;have H2:=aa h2;clear h1 h2;go_enter func282,ntmps282;go_wp2_with (first|(go_at_call 208;refine(eW _ _ _ H1.zo).mono ?_;rintro e w' ⟨rfl,rfl⟩)|(go_at_call 210;refine(jb _ _ _ H2.zo).mono ?_;rintro e w' ⟨rfl,rfl⟩))
   go_ret;exact⟨by rw[HR.zo];rfl,rfl⟩
theorem Rh(n:Int)(w:World):Calls prog 209 #[.int .u8 n] w fun e w'=>e=.returned (.bool (gP n))/\w=w':=by
 cases h1:fY n with
 |true=>
  have HR:=aa (show gP n=true by simp[gP,h1]);have H1:=aa h1;have H2:=aa (show eD n=eD n from rfl);clear h1;go_enter func209,ntmps209;go_wp2_with (first|(go_at_call 208;refine(eW _ _ _ H1.zo).mono ?_;rintro e w' ⟨rfl,rfl⟩)|(go_at_call 210;refine(jb _ _ _ H2.zo).mono ?_;rintro e w' ⟨rfl,rfl⟩))
  go_ret;exact⟨by rw[HR.zo];rfl,rfl⟩
 |false=>
  cases h2:eD n with
  |true=>
   have HR:=aa (show gP n=true by simp[gP,h2]);have H1:=aa h1;have H2:=aa h2;clear h1 h2;go_enter func209,ntmps209;go_wp2_with (first|(go_at_call 208;refine(eW _ _ _ H1.zo).mono ?_;rintro e w' ⟨rfl,rfl⟩)|(go_at_call 210;refine(jb _ _ _ H2.zo).mono ?_;rintro e w' ⟨rfl,rfl⟩))
   go_ret;exact⟨by rw[HR.zo];rfl,rfl⟩
  |false=>
   have HR:=aa (show gP n=false by simp[gP,h1,h2]);have H1:=aa h1;have H2:=aa h2;clear h1 h2;go_enter func209,ntmps209;go_wp2_with (first|(go_at_call 208;refine(eW _ _ _ H1.zo).mono ?_;rintro e w' ⟨rfl,rfl⟩)|(go_at_call 210;refine(jb _ _ _ H2.zo).mono ?_;rintro e w' ⟨rfl,rfl⟩))
   go_ret;exact⟨by rw[HR.zo];rfl,rfl⟩
def fV(p:Int->Bool)(l:List UInt8):Nat:=(l.takeWhile fun c=>p c.toNat).length
theorem Bj(p:Int->Bool)(l:List UInt8):fV p l<=l.length:=by
 unfold fV;exact(List.takeWhile_prefix _).length_le
theorem l9{p:Int->Bool}:∀{l:List UInt8}{k:Nat},(∀i,i<k->∃c,l[i]?=some c/\p c.toNat=true)->(∀c,l[k]?=some c->p c.toNat=false)->fV p l=k
 | [],0,_,_=>rfl
 | [],k+1,h,_=>by obtain⟨c,hc,_⟩:=h 0 (by omega);simp at hc
 |a::l,0,_,h=>by
  have:=h a (by simp);simp[fV,List.takeWhile_cons,this]
 |a::l,k+1,h,h'=>by
  obtain⟨c,hc,hp⟩:=h 0 (by omega);simp at hc;subst hc;have ih:=l9 (p:=p) (l:=l) (k:=k) (fun i hi=>by simpa using h (i+1) (by omega)) (fun c hc=>h' c (by simpa using hc));unfold fV at ih ⊢;rw[List.takeWhile_cons,if_pos hp,List.length_cons,ih]
theorem wF(s:ByteArray)(w:World)(hs:s.size<=9223372036854775807):Calls prog 123 #[.string s,.func (.func 124) #[] #[]] w fun e w'=>e=.returned (.int .i64 (fV kj s.data.toList))/\w=w':=by
 go_enter func123,ntmps123;go_wp2;go_loop [5] (fun i=> ∃k:Nat,k<=s.size/\i=.int .i64 k/\∀j,j<k->∃c,s.data.toList[j]?=some c/\kj c.toNat=true) (fun i=>s.size - (intOf i).toNat)
 case atStart=>exact⟨0,by omega,rfl,fun j hj=>by omega⟩
 case round=>
  obtain⟨k,hk,rfl,hin⟩:=hrel;have rG:=aa hin;clear hin;by_cases hlt:k<s.size
  ·have hc:s.data.toList[k]?=some s[k]:=by rw[fZ (by simpa using hlt)];rfl
   have HC:=aa hc;clear hc;cases hp:kj (s[k].toNat:Int)with
   |true=>
    have HP:=aa hp;clear hp;go_wp2_with (go_at_call 124;refine(LV _ _).mono ?_;rintro e w' ⟨rfl,rfl⟩;rw[HP.zo])
    go_round
    case rel=>
     refine⟨k+1,by omega,by go_num,fun j hj=> ?_⟩;by_cases hjk:j<k
     ·exact rG.zo j hjk
     ·obtain rfl:j=k:=by omega
      exact⟨_,HC.zo,HP.zo⟩
    case measure=>simp[intOf];omega
   |false=>
    have HP:=aa hp;have HR:=aa (l9 (p:=kj) rG.zo (fun c hc=>by rw[HC.zo]at hc;cases hc;exact hp));clear hp;go_wp2_with (go_at_call 124;refine(LV _ _).mono ?_;rintro e w' ⟨rfl,rfl⟩;rw[HP.zo])
    go_ret;exact⟨by rw[HR.zo];rfl,rfl⟩
  ·obtain rfl:k=s.size:=by omega
   have HR:=aa (l9 (p:=kj) (l:=s.data.toList) rG.zo (fun c hc=>by rw[List.getElem?_eq_none (by simp)]at hc;cases hc));go_wp2;go_ret;exact⟨by rw[HR.zo];rfl,rfl⟩
theorem ma(s:ByteArray)(w:World)(hs:s.size<=9223372036854775807):Calls prog 123 #[.string s,.func (.func 210) #[] #[]] w fun e w'=>e=.returned (.int .i64 (fV eD s.data.toList))/\w=w':=by
 go_enter func123,ntmps123;go_wp2;go_loop [5] (fun i=> ∃k:Nat,k<=s.size/\i=.int .i64 k/\∀j,j<k->∃c,s.data.toList[j]?=some c/\eD c.toNat=true) (fun i=>s.size - (intOf i).toNat)
 case atStart=>exact⟨0,by omega,rfl,fun j hj=>by omega⟩
 case round=>
  obtain⟨k,hk,rfl,hin⟩:=hrel;have rG:=aa hin;clear hin;by_cases hlt:k<s.size
  ·have hc:s.data.toList[k]?=some s[k]:=by rw[fZ (by simpa using hlt)];rfl
   have HC:=aa hc;clear hc;cases hp:eD (s[k].toNat:Int)with
   |true=>
    have HP:=aa hp;clear hp;go_wp2_with (go_at_call 210;refine(EO _ _).mono ?_;rintro e w' ⟨rfl,rfl⟩;rw[HP.zo])
    go_round
    case rel=>
     refine⟨k+1,by omega,by go_num,fun j hj=> ?_⟩;by_cases hjk:j<k
     ·exact rG.zo j hjk
     ·obtain rfl:j=k:=by omega
      exact⟨_,HC.zo,HP.zo⟩
    case measure=>simp[intOf];omega
   |false=>
    have HP:=aa hp;have HR:=aa (l9 (p:=eD) rG.zo (fun c hc=>by rw[HC.zo]at hc;cases hc;exact hp));clear hp;go_wp2_with (go_at_call 210;refine(EO _ _).mono ?_;rintro e w' ⟨rfl,rfl⟩;rw[HP.zo])
    go_ret;exact⟨by rw[HR.zo];rfl,rfl⟩
  ·obtain rfl:k=s.size:=by omega
   have HR:=aa (l9 (p:=eD) (l:=s.data.toList) rG.zo (fun c hc=>by rw[List.getElem?_eq_none (by simp)]at hc;cases hc));go_wp2;go_ret;exact⟨by rw[HR.zo];rfl,rfl⟩
theorem mV(s:ByteArray)(w:World)(hs:s.size<=9223372036854775807):Calls prog 123 #[.string s,.func (.func 282) #[] #[]] w fun e w'=>e=.returned (.int .i64 (fV gP s.data.toList))/\w=w':=by
 go_enter func123,ntmps123;go_wp2;go_loop [5] (fun i=> ∃k:Nat,k<=s.size/\i=.int .i64 k/\∀j,j<k->∃c,s.data.toList[j]?=some c/\gP c.toNat=true) (fun i=>s.size - (intOf i).toNat)
 case atStart=>exact⟨0,by omega,rfl,fun j hj=>by omega⟩
 case round=>
  obtain⟨k,hk,rfl,hin⟩:=hrel;have rG:=aa hin;clear hin;by_cases hlt:k<s.size
  ·have hc:s.data.toList[k]?=some s[k]:=by rw[fZ (by simpa using hlt)];rfl
   have HC:=aa hc;clear hc;cases hp:gP (s[k].toNat:Int)with
   |true=>
    have HP:=aa hp;clear hp;go_wp2_with (go_at_call 282;refine(Rg _ _).mono ?_;rintro e w' ⟨rfl,rfl⟩;rw[HP.zo])
    go_round
    case rel=>
     refine⟨k+1,by omega,by go_num,fun j hj=> ?_⟩;by_cases hjk:j<k
     ·exact rG.zo j hjk
     ·obtain rfl:j=k:=by omega
      exact⟨_,HC.zo,HP.zo⟩
    case measure=>simp[intOf];omega
   |false=>
    have HP:=aa hp;have HR:=aa (l9 (p:=gP) rG.zo (fun c hc=>by rw[HC.zo]at hc;cases hc;exact hp));clear hp;go_wp2_with (go_at_call 282;refine(Rg _ _).mono ?_;rintro e w' ⟨rfl,rfl⟩;rw[HP.zo])
    go_ret;exact⟨by rw[HR.zo];rfl,rfl⟩
  ·obtain rfl:k=s.size:=by omega
   have HR:=aa (l9 (p:=gP) (l:=s.data.toList) rG.zo (fun c hc=>by rw[List.getElem?_eq_none (by simp)]at hc;cases hc));go_wp2;go_ret;exact⟨by rw[HR.zo];rfl,rfl⟩
theorem CU(s:ByteArray)(w:World)(hs:s.size<=9223372036854775807):Calls prog 123 #[.string s,.func (.func 209) #[] #[]] w fun e w'=>e=.returned (.int .i64 (fV gP s.data.toList))/\w=w':=by
 go_enter func123,ntmps123;go_wp2;go_loop [5] (fun i=> ∃k:Nat,k<=s.size/\i=.int .i64 k/\∀j,j<k->∃c,s.data.toList[j]?=some c/\gP c.toNat=true) (fun i=>s.size - (intOf i).toNat)
 case atStart=>exact⟨0,by omega,rfl,fun j hj=>by omega⟩
 case round=>
  obtain⟨k,hk,rfl,hin⟩:=hrel;have rG:=aa hin;clear hin;by_cases hlt:k<s.size
  ·have hc:s.data.toList[k]?=some s[k]:=by rw[fZ (by simpa using hlt)];rfl
   have HC:=aa hc;clear hc;cases hp:gP (s[k].toNat:Int)with
   |true=>
    have HP:=aa hp;clear hp;go_wp2_with (go_at_call 209;refine(Rh _ _).mono ?_;rintro e w' ⟨rfl,rfl⟩;rw[HP.zo])
    go_round
    case rel=>
     refine⟨k+1,by omega,by go_num,fun j hj=> ?_⟩;by_cases hjk:j<k
     ·exact rG.zo j hjk
     ·obtain rfl:j=k:=by omega
      exact⟨_,HC.zo,HP.zo⟩
    case measure=>simp[intOf];omega
   |false=>
    have HP:=aa hp;have HR:=aa (l9 (p:=gP) rG.zo (fun c hc=>by rw[HC.zo]at hc;cases hc;exact hp));clear hp;go_wp2_with (go_at_call 209;refine(Rh _ _).mono ?_;rintro e w' ⟨rfl,rfl⟩;rw[HP.zo])
    go_ret;exact⟨by rw[HR.zo];rfl,rfl⟩
  ·obtain rfl:k=s.size:=by omega
   have HR:=aa (l9 (p:=gP) (l:=s.data.toList) rG.zo (fun c hc=>by rw[List.getElem?_eq_none (by simp)]at hc;cases hc));go_wp2;go_ret;exact⟨by rw[HR.zo];rfl,rfl⟩
def uE:List UInt8->Int|c::_=>c.toNat| []=>0
def nw(l:List UInt8):Bool:= !l.isEmpty&&(fY (uE l)&&(decide (l.length<=20)&&decide (fV gP l=l.length)))
theorem tT{s:ByteArray}(h:0<s.size):uE s.data.toList=(s[0].toNat:Int):=by
 have hc:s.data.toList[0]?=some s[0]:=by rw[fZ (by simpa using h)];rfl
 cases hl:s.data.toList with
 |nil=>rw[hl]at hc;simp at hc
 |cons c l=>rw[hl]at hc;simp at hc;simp[uE,hc]
theorem LW{s:ByteArray}(h:0<s.size):s.data.toList.isEmpty=false:=by
 cases hl:s.data.toList with
 |nil=>
  have h2:s.data.toList.length=s.size:=by simp
  rw[hl]at h2;simp only[List.length_nil]at h2;omega
 |cons c l=>rfl
theorem oD(s:ByteArray):s.data.toList.length=s.size:=by simp
theorem Zw{s:ByteArray}(h:s.size=0):s=⟨#[]⟩:=by
 obtain⟨d⟩:=s;have:d.size=0:=h;rw[Array.eq_empty_of_size_eq_zero this]
theorem NC{s:ByteArray}(h:0<s.size):s.toList.isEmpty=false:=by
 rw[Lib.toList_data];exact LW h
theorem Kk(s:ByteArray)(w:World)(hs:s.size<=9223372036854775807):Calls prog 191 #[.string s] w fun e w'=>e=.returned (.bool (nw s.data.toList))/\w=w':=by
 by_cases h0:0<s.size
 ·have e0:=NC h0
  have hh:=tT h0;have hne:=LW h0;have hlen:=oD s;cases hl:fY (s[0].toNat:Int)with
  |false=>
   have HL:=aa hl;have HR:=aa (show nw s.data.toList=false by simp[nw,hh,hl]);clear hl hh hne hlen;go_enter func191,ntmps191;go_wp2_with (first|(go_at_call 208;refine(eW _ _ _ HL.zo).mono ?_;rintro e w' ⟨rfl,rfl⟩)|(go_at_call 123;refine(mV _ _ hs).mono ?_;rintro e w' ⟨rfl,rfl⟩))
   go_ret;exact⟨by rw[HR.zo];rfl,rfl⟩
  |true=>
   have HL:=aa hl;by_cases h2:s.size<=20
   ·have b2:decide ((20:Int)<(s.size:Int))=false:=by simp;omega
    have HR:=aa (show nw s.data.toList=decide ((fV gP s.data.toList:Int)=(s.size:Int))by
     simp only[nw,hne,hh,hl,hlen,h2,decide_true,Bool.true_and,Bool.not_false];congr 1;apply propext;omega)
    clear hl hh hne hlen;go_enter func191,ntmps191;go_wp2_with (first|(go_at_call 208;refine(eW _ _ _ HL.zo).mono ?_;rintro e w' ⟨rfl,rfl⟩)|(go_at_call 123;refine(mV _ _ hs).mono ?_;rintro e w' ⟨rfl,rfl⟩))
    go_ret;exact⟨by rw[HR.zo];rfl,rfl⟩
   ·have b2:decide ((20:Int)<(s.size:Int))=true:=by simp;omega
    have HR:=aa (show nw s.data.toList=false by simp[nw,hlen,h2]);clear hl hh hne hlen;go_enter func191,ntmps191;go_wp2_with (first|(go_at_call 208;refine(eW _ _ _ HL.zo).mono ?_;rintro e w' ⟨rfl,rfl⟩)|(go_at_call 123;refine(mV _ _ hs).mono ?_;rintro e w' ⟨rfl,rfl⟩))
    go_ret;exact⟨by rw[HR.zo];rfl,rfl⟩
 ·obtain rfl:=Zw (s:=s) (by omega)
  have HL:=aa (show fY 0=fY 0 from rfl);have HR:=aa (show nw ([]:List UInt8)=false from rfl);go_enter func191,ntmps191;go_wp2_with (first|(go_at_call 208;refine(eW _ _ _ HL.zo).mono ?_;rintro e w' ⟨rfl,rfl⟩)|(go_at_call 123;refine(mV _ _ hs).mono ?_;rintro e w' ⟨rfl,rfl⟩))
  go_ret;exact⟨by rw[HR.zo];rfl,rfl⟩
def Gl(w:World):Prop:= ∃m,w.cell? ⟨2,0,none⟩=some (.int .i64 m)
theorem Gl.exts{w w':World}(h:Gl w)(he:af w w'):Gl w':=by
 obtain⟨m,hm⟩:=h;exact⟨m,af.cell he hm⟩
def resv:ByteArray:=⟨#[32,97,110,100,32,97,112,97,114,116,32,98,97,115,101,32,99,97,112,32,100,101,102,105,110,101,32,101,108,115,101,32,101,120,99,101,112,116,32,102,114,111,109,32,103,114,97,99,101,32,104,111,117,114,115,32,105,102,32,105,110,32,108,101,97,115,116,32,110,111,116,32,111,114,32,111,118,101,114,108,97,121,32,112,108,97,110,101,32,114,117,108,101,32,115,108,111,112,101,32,115,117,110,32,116,97,98,108,101,32,116,104,101,110,32,117,110,116,105,108,32,117,115,101,115,32,118,97,114,121,32,118,105,101,119,32,122,111,110,101,32]⟩
def nameB(s:ByteArray):Bool:=nw s.data.toList&& !Lib.contains resv.data.toList (((⟨#[32]⟩:ByteArray)++s++(⟨#[32]⟩:ByteArray)).data.toList)
theorem Ri{l:List UInt8}(h:nw l=true):l.length<=20:=by
 simp[nw]at h;exact h.2.2.1
theorem kI(s:ByteArray)(w:World)(hg:Gl w)(hs:gS s):Calls prog 93 #[.string s] w fun e w'=>e=.returned (.bool (nameB s))/\w=w':=by
 have hs2:=hs;unfold gS at hs2;cases q:nw s.data.toList with
 |false=>
  have e1:nameB s=false:=by simp[nameB,q]
  rw[e1];have Q:=aa q;clear q hs e1;go_enter func93,ntmps93;go_wp2_with (go_at_call 191;refine(Kk s _ hs2).mono ?_;rintro e w' ⟨rfl,rfl⟩;rw[Q.zo])
  go_ret;exact⟨rfl,rfl⟩
 |true=>
  have hl:=Ri q;rw[oD]at hl;have b1: ¬9223372036854775807<1+s.size:=by omega
  have b2: ¬9223372036854775807<1+s.size+1:=by omega
  obtain⟨r,hr⟩:∃r,Lib.contains resv.data.toList (((⟨#[32]⟩:ByteArray)++s++(⟨#[32]⟩:ByteArray)).data.toList)=r:=⟨_,rfl⟩;have e1:nameB s= !r:=by simp only[nameB,q,hr];rfl
  rw[e1];have Q:=aa q;have R:=aa hr;obtain⟨m,hm⟩:=hg;clear q hs e1 hl hr;go_enter func93,ntmps93;go_wp2_with (first|(go_at_call 191;refine(Kk s _ hs2).mono ?_;rintro e w' ⟨rfl,rfl⟩;rw[Q.zo])|(go_at_call 192;refine(Tryz.strings_Contains resv _ m _ (by decide) hm).mono ?_;rintro e w' ⟨rfl,rfl⟩;rw[R.zo]))
  go_ret;exact⟨rfl,rfl⟩
theorem gF(s:ByteArray)(w:World)(hg:Gl w)(hs:gS s):Calls prog 93 #[.string s] w fun e w'=>e=.returned (.bool (nameB s))/\af w w':=
 (kI s w hg hs).mono fun e w'⟨h1,h2⟩=>⟨h1,h2▸af.refl _⟩
def jd(f st e k b:Nat):Prop:=prog.underlying st=some (.slice e)->(∃z,(prog.info? e).map (fun i=>(i.zero,i.size,i.bytes))=some (some z,k,b)/\z.cells.size=k)->∀(v:Value)(n:Nat)(xs:zv)(w:World){S:Nat->Prop},fB S k w v n xs->(∀u∈xs,u.oneCell'=true)->n*b<=140737488355328->Calls prog f #[v] w fun r w'=> ∃v',r=.returned v'/\af w w'/\w'.ownsRow w.heap.size e k v' n xs
theorem nk:jd 60 22 126 6 88/\jd 61 23 132 3 48/\jd 62 24 128 3 48/\jd 63 25 52 20 232/\jd 64 26 130 4 56/\jd 65 27 136 6 72/\jd 66 28 134 3 24/\jd 68 35 152 2 24/\jd 69 53 167 2 16/\jd 70 45 9 1 16/\jd 231 75 74 4 32/\jd 232 66 3 1 8/\jd 144 107 121 4 40:=by
 refine⟨?_,?_,?_,?_,?_,?_,?_,?_,?_,?_,?_,?_,?_⟩<;>unfold jd<;>intro hu ⟨z,hz,hzk⟩ v n xs w S h h1 hb
 all_goals
  obtain⟨i0,hi,hz0,hz1,hz2⟩:=info_parts hz;have afe:=h.nle;have hlen:=h.len;obtain⟨_,ao,cap,rfl,h2,h3,h4,h5⟩:=id h;cases ao with
  |none=>
   have hc:=h4 rfl;subst hc;obtain rfl:n=0:=by omega
   obtain rfl:xs= []:=List.eq_nil_of_length_eq_zero (by simpa using hlen);have e:=fun w=>Lib.run_eql_slice_nil (P:=prog) w _ _ none 0 0 0 0 hu
   first|go_enter func60,ntmps60|go_enter func61,ntmps61|go_enter func62,ntmps62|go_enter func63,ntmps63|go_enter func64,ntmps64|go_enter func65,ntmps65|go_enter func66,ntmps66|go_enter func68,ntmps68|go_enter func69,ntmps69|go_enter func70,ntmps70|go_enter func231,ntmps231|go_enter func232,ntmps232|go_enter func144,ntmps144
   go_wp2;go_ret;exact⟨_,rfl,af.refl _,World.ownsRow_nil _ _ _ _⟩
  |some a=>
   have e:=fun w=>Lib.run_eql_slice_nil (P:=prog) w _ _ (some a) n cap 0 0 hu
   have hx:∀(E:Obj) j u,xs[j]?=some u->(w.alloc E).cell? (a.add j)=some u:=by
    intro E j u hj;have hn:0<n:=by
     have:=(bw hj).1;rw[hlen]at this;exact Nat.pos_of_ne_zero (fun h0=>by subst h0;simp at this)
    obtain⟨b,off,hab,_,hbs,hc⟩:=h5 hn;cases hab;rw[Addr.add_lit,World.cell?_alloc_lt _ _ _ hbs];exact hc j u hj
   clear h2 h3 h4 h5 h;unfold maxLen at afe;first|go_enter func60,ntmps60|go_enter func61,ntmps61|go_enter func62,ntmps62|go_enter func63,ntmps63|go_enter func64,ntmps64|go_enter func65,ntmps65|go_enter func66,ntmps66|go_enter func68,ntmps68|go_enter func69,ntmps69|go_enter func70,ntmps70|go_enter func231,ntmps231|go_enter func232,ntmps232|go_enter func144,ntmps144
   go_wp2_with (at_builtin;refine wpList_append_own _ rfl _ _ _ rfl w.heap.size _ i0 _ _ _ hu hi hz0 hz1 hz2 hzk (by decide) _ 0 [] rfl (World.ownsRow_made w #[] 0 (Nat.le_refl _) (by decide) rfl) a n cap xs rfl hlen (hx _) h1 (by unfold maxLen;omega) (by omega) (by simp) ?_;intro v' w1 hown hgrow hnil)
   go_ret;simp only[Nat.zero_add,List.nil_append]at hown;exact⟨v',rfl,aF ((af.refl w).alloc _) hgrow (fun b hb=>by cases hb;exact Nat.le_refl _),hown⟩
theorem jd.list{f st e k b:Nat}{T:Type}{L:Lay T}(hr:∀(v:Value)(n:Nat)(xs:zv)(w:World),fB (fun _=>True) k w v n xs->(∀u∈xs,u.oneCell'=true)->n*b<=140737488355328->Calls prog f #[v] w fun r w'=> ∃v',r=.returned v'/\af w w'/\w'.ownsRow w.heap.size e k v' n xs)(hk:L.k=k)(ao:Option Addr)(n c:Nat)(l:List T)(w:World)(h:Sl L w ao n c l)(hb:n*b<=140737488355328):
 Calls prog f #[.slice ao n c] w fun r w'=> ∃ao' c',r=.returned (.slice ao' n c')/\af w w'/\Sl L w' ao' n c' l/\aq L w.heap.size e w' (.slice ao' n c') l:=by
 subst hk;obtain⟨xs,h1,h2,h3⟩:=h.ones;refine(hr _ n xs w h1 h3 hb).mono ?_;rintro e w' ⟨v',rfl,he,ho⟩;have ho':aq L w.heap.size _ w' v' l:=⟨xs,by rw[h.1];exact ho,fun i d hd=>L.exts (h2 i d hd) he⟩;obtain⟨ao',c',rfl⟩:=eC ho;exact⟨ao',c',rfl,he,ho'.sl h.1,ho'⟩
abbrev Ih{S:Nat->Prop}(v:Value)(n:Nat)(xs:zv)(w:World)(h:fB S 6 w v n xs):=nk.1 underlying22 ⟨_,Qi,rfl⟩ v n xs w h
abbrev Ii{S:Nat->Prop}(v:Value)(n:Nat)(xs:zv)(w:World)(h:fB S 3 w v n xs):=nk.2.1 underlying23 ⟨_,Qj,rfl⟩ v n xs w h
abbrev Ij{S:Nat->Prop}(v:Value)(n:Nat)(xs:zv)(w:World)(h:fB S 3 w v n xs):=nk.2.2.1 underlying24 ⟨_,MX,rfl⟩ v n xs w h
abbrev yP{S:Nat->Prop}(v:Value)(n:Nat)(xs:zv)(w:World)(h:fB S 20 w v n xs):=nk.2.2.2.1 underlying25 ⟨_,qh,rfl⟩ v n xs w h
abbrev yQ{S:Nat->Prop}(v:Value)(n:Nat)(xs:zv)(w:World)(h:fB S 4 w v n xs):=nk.2.2.2.2.1 underlying26 ⟨_,Qk,rfl⟩ v n xs w h
abbrev Ik{S:Nat->Prop}(v:Value)(n:Nat)(xs:zv)(w:World)(h:fB S 6 w v n xs):=nk.2.2.2.2.2.1 underlying27 ⟨_,MZ,rfl⟩ v n xs w h
abbrev yR{S:Nat->Prop}(v:Value)(n:Nat)(xs:zv)(w:World)(h:fB S 3 w v n xs):=nk.2.2.2.2.2.2.1 underlying28 ⟨_,LL,rfl⟩ v n xs w h
abbrev VW:= @jd.list 66 28 134 3 24 _ yw (fun v n xs w h=>yR v n xs w h) rfl
abbrev Il{S:Nat->Prop}(v:Value)(n:Nat)(xs:zv)(w:World)(h:fB S 2 w v n xs):=nk.2.2.2.2.2.2.2.1 underlying35 ⟨_,AK,rfl⟩ v n xs w h
abbrev VX:= @jd.list 68 35 152 2 24 _ eY (fun v n xs w h=>Il v n xs w h) rfl
abbrev Im{S:Nat->Prop}(v:Value)(n:Nat)(xs:zv)(w:World)(h:fB S 2 w v n xs):=nk.2.2.2.2.2.2.2.2.1 underlying53 ⟨_,Vo,rfl⟩ v n xs w h
abbrev Ma:= @jd.list 69 53 167 2 16 _ zV (fun v n xs w h=>Im v n xs w h) rfl
abbrev Io{S:Nat->Prop}(v:Value)(n:Nat)(xs:zv)(w:World)(h:fB S 1 w v n xs):=nk.2.2.2.2.2.2.2.2.2.1 underlying45 ⟨_,sk,rfl⟩ v n xs w h
abbrev Mb:= @jd.list 70 45 9 1 16 _ fC (fun v n xs w h=>Io v n xs w h) rfl
abbrev EY{S:Nat->Prop}(v:Value)(n:Nat)(xs:zv)(w:World)(h:fB S 4 w v n xs):=nk.2.2.2.2.2.2.2.2.2.2.1 underlying75 ⟨_,wk,rfl⟩ v n xs w h
abbrev Rw:= @jd.list 231 75 74 4 32 _ je (fun v n xs w h=>EY v n xs w h) rfl
abbrev EZ{S:Nat->Prop}(v:Value)(n:Nat)(xs:zv)(w:World)(h:fB S 1 w v n xs):=nk.2.2.2.2.2.2.2.2.2.2.2.1 underlying66 ⟨_,na,rfl⟩ v n xs w h
abbrev Rx:= @jd.list 232 66 3 1 8 _ dv (fun v n xs w h=>EZ v n xs w h) rfl
end Go.Proofs.YtomgpelfmgkknaaGreatDoor
