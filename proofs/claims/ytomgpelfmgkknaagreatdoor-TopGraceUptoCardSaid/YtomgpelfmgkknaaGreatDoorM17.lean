/- Lemmas for the law. No conditions. -/
import Derived.Test.YtomgpelfmgkknaaGreatDoorM14
import Derived.Defers
import Derived.Recover
import Derived.Test.YtomgpelfmgkknaaGreatDoorM12
namespace Go.Proofs.YtomgpelfmgkknaaGreatDoor
open Go.RowKit Go.Maps
open Go.Proofs.Tryz
set_option maxRecDepth 100000
set_option maxHeartbeats 40000000
set_option linter.unusedVariables false
set_option linter.unusedSimpArgs false
section
def FT(t:Tok):Bool:=noB t&&(kD t||((t.kind==1)&&(decide (0<=t.n)&&decide (t.n<=1099511627776))))
section
variable {w w':World}{pb k:Nat}{tv:Value}{rest rest':zv}{ts:List Tok}{t u:Tok}
theorem Eo(h:PS w pb tv k rest ts)(ht:ts[k]?=some t)(f:Int)(hf:f=0∨f=5)(hn:FT t=true):Calls prog 291 #[.pointer (some ⟨pb,0,none⟩),.int .i64 f] w fun e w'=>e=.returned (.tuple #[.agg (qB t).toArray,.int .i64 8])/\Ci w pb tv (k+1) rest ts w':=by
 unfold FT at hn;simp only[Bool.and_eq_true,Bool.or_eq_true,beq_iff_eq,decide_eq_true_eq]at hn;obtain⟨h1,h2|⟨h2,h3,h4⟩⟩:=hn
 ·exact Ck h ht f hf h1 h2
 ·exact Dl h ht f hf h1 h2 h3 h4
theorem xh(t:Tok):∃(a n:Int)(s:ByteArray),qB t= [.int .i64 a,.int .i64 n,.string s,.string ⟨#[]⟩,.slice none 0 0]:=by
 unfold qB;split<;>exact⟨_,_,_,rfl⟩
theorem rU.exts{b:Nat}(h:rU w b)(he:af w w'):rU w' b:=⟨Nat.lt_of_lt_of_le h.1 he.below.size,fun k x hx=>by
 obtain⟨h1,h2,h3⟩:=h.2 k x hx;exact⟨he.cell h1,he.cell h2,he.cell h3⟩⟩
theorem rU.ld{b k:Nat}{x:List UInt8×Int×Int}(h:rU w b)(hx:Yt[k]?=some x):(jf 379 ⟨b,k*3,none⟩).run prog w=.ok (.agg #[.string ⟨x.1.toArray⟩,.int .i64 x.2.1,.int .i64 x.2.2]) w:=by
 obtain⟨h1,h2,h3⟩:=h.2 k x hx;exact run_loadVar_mid w b (k*3) 379 [.string ⟨x.1.toArray⟩,.int .i64 x.2.1,.int .i64 x.2.2] _ (fun j u hu=>by
  match j,hu with
  |0,hu=>(cases hu;exact h1)
  |1,hu=>(cases hu;exact h2)
  |2,hu=>(cases hu;exact h3)) underlying379 rfl (iq.s (t:=379))
def Ji(t:Tok):Bool:=Yt.all fun x=> !yh t ⟨x.1.toArray⟩
theorem Jj{k:Nat}{x:List UInt8×Int×Int}(h:Ji u=true)(hx:Yt[k]?=some x):yh u ⟨x.1.toArray⟩=false:=by
 have:=List.all_eq_true.1 h x (gH hx);simpa using this
theorem KQ{k:Nat}(h:k<10):∃x,Yt[k]?=some x:=⟨_,fZ (show k<Yt.length from h)⟩
theorem FU(h:PS w pb tv k rest ts)(ht:ts[k]?=some t)(hu:ts[k+1]?=some u)(hn:FT t=true)(hs:Ji u=true):Calls prog 213 #[.pointer (some ⟨pb,0,none⟩),.int .i64 5] w fun e w'=>e=.returned (.agg (qB t).toArray)/\Ci w pb tv (k+1) rest ts w':=by
 have H:=aa h;have HT:=aa ht;have HU:=aa hu;have HN:=aa hn;have HS:=aa hs;have lp:=h.lt;have hkl:=(bw hu).1;have hfew:=h.few;obtain⟨a,n,s,hC⟩:=xh t;have HCC:=aa hC;rw[hC];clear h ht hu hn hs hC;go_enter func213,ntmps213;go_wp2_with fail
 with_reducible refine ag (Eo (tv:=tv) (rest:=rest) ?_ HT.zo 5 (.inr rfl) HN.zo) ?_
 ·exact H.zo.exts ae
 rintro e W ⟨rfl,h2,ho2⟩;rw[HCC.zo];have hrow:=(Bx.new w [.int .i64 0,.int .i64 0,.string ⟨#[]⟩,.string ⟨#[]⟩,.slice none 0 0] 48).at ho2 (show w.heap.size≠pb by omega);have HO:=aa ((On.exts (show af w (w.alloc _)from ae)).trans ho2);have ye:=aa hrow;have H2:=aa h2;have lw:w.heap.size<W.heap.size:=by have:=ho2.size;simp at this;omega
 have lpw:pb<W.heap.size:=by omega
 clear h2 ho2 hrow;go_wp2_with fail
 refine wp_loop_rounds 1 ?_;rw[rounds_succ];go_wp2_with ((with_reducible refine ag (rr _) ?_);rintro e w' ⟨B,rfl,⟨z,rfl⟩,hB,hops⟩;(have HB:=aa hB);(have Td:=aa hops);clear hB hops)
 refine bI ?_;intro V hV;have HV:=aa (show af W V by rw[hV];exact ae);have WH:Hid (Bx V W.heap.size [.int .i64 a,.int .i64 n,.string s,.string ⟨#[]⟩,.slice none 0 0] 48):=aa (by rw[hV];exact((Bx.new W _ 48).exts ae));have GI:Hid (Bx V (W.heap.size+1) [.string ⟨#[]⟩,.int .i64 0,.int .i64 0] 379):=aa (by
  have h0:=Bx.new (W.alloc (.cells #[.int .i64 a,.int .i64 n,.string s,.string ⟨#[]⟩,.slice none 0 0] 48)) [.string ⟨#[]⟩,.int .i64 0,.int .i64 0] 379;rw[show(W.alloc (.cells #[.int .i64 a,.int .i64 n,.string s,.string ⟨#[]⟩,.slice none 0 0] 48)).heap.size=W.heap.size+1 by simp]at h0;rw[hV];exact h0.exts ae)
 have HOP:Hid (rU V B):=aa (by rw[hV];exact Td.zo);clear hV Td HB;go_loopw [18] (fun i wr=> ∃(j:Nat),j<=10/\i=.int .i64 j/\af V wr) (fun i _=>10 - (intOf i).toNat)
 case atStart=>exact⟨0,by omega,rfl,af.refl _⟩
 case round=>
  obtain⟨j,hj,rfl,hx⟩:=hrel;have HX:=aa hx;clear hx;by_cases hlt:j<10
  ·obtain⟨o,ho⟩:=KQ hlt
   have HOL:=aa ho;have hld:=(HOP.zo.exts HX.zo).ld ho;have UF:=aa (Jj HS.zo ho);clear ho;go_wp2_with ((with_reducible refine ag (xg (tv:=tv) (rest:=rest) ?_ HU.zo _ UF.zo) ?_);exact H2.zo.exts (HV.zo.trans (HX.zo.trans ae));rintro e w' ⟨rfl,⟨y,rfl⟩⟩)
   go_roundw
   case rel=>exact⟨j+1,by omega,by go_num,HX.zo.trans ae⟩
   case measure=>simp[intOf];omega
  ·obtain rfl:j=10:=by omega
   have hbx:=GI.zo.exts HX.zo;have c0:=hbx.cell 0;have hbe:=WH.zo.exts HX.zo;have hle:=hbe.Dk rfl;have hbr:=(ye.zo.exts HV.zo).exts HX.zo;have ir:isRow wr w.heap.size 5:=hbr.row.1;have lr:w.heap.size<wr.heap.size:=hbr.lt;simp only[List.getElem?_cons_zero]at c0;go_wp2;have hl2:=(hbr.setRow [.int .i64 a,.int .i64 n,.string s,.string ⟨#[]⟩,.slice none 0 0]).Dk rfl;refine bodyPost_ret (v:=.agg #[.int .i64 a,.int .i64 n,.string s,.string ⟨#[]⟩,.slice none 0 0]) (by rw[pT rfl];simp only[List.toArray]at hl2;simp[go_sem,hl2]) rfl ⟨rfl,(H2.zo.exts (HV.zo.trans HX.zo)).keep ((On.setRow _ _ _).mono fun b hb=>by omega),(HO.zo.trans (On.exts (HV.zo.trans HX.zo))).new ((On.setRow _ _ _).mono fun b hb=>hb.2)⟩
structure Yv(D:Nat->Prop)(U:World) where
 w:World
 on:On D U w
instance (D:Nat->Prop)(U:World):Nonempty (Yv D U):=⟨⟨U,On.refl _ _⟩⟩
def leB(t:Tok):Bool:=(List.range 10).all fun j=>yh t ⟨(Yt.getD j ([],0,0)).1.toArray⟩==decide (j=4)
theorem Z9{j:Nat}{x:List UInt8×Int×Int}(h:leB u=true)(hj:j<10)(hx:Yt[j]?=some x):yh u ⟨x.1.toArray⟩=decide (j=4):=by
 have:=List.all_eq_true.1 h j (List.mem_range.2 hj);rw[List.getD_eq_getElem?_getD,hx,Option.getD_some]at this;simpa using this
theorem rU.at{b:Nat}{D:Nat->Prop}(h:rU w b)(ho:On D w w')(hd:D b):rU w' b:=⟨Nat.lt_of_lt_of_le h.1 ho.size,fun k x hx=>by
 obtain⟨h1,h2,h3⟩:=h.2 k x hx;exact⟨ho.cell hd h1,ho.cell hd h2,ho.cell hd h3⟩⟩
theorem zt{b v:Tok}(h:PS w pb tv k rest ts)(ht:ts[k]?=some t)(hu:ts[k+1]?=some u)(hb:ts[k+2]?=some b)(hv:ts[k+3]?=some v)(hn:FT t=true)(hs:leB u=true)(hn2:FT b=true)(hs2:Ji v=true):Calls prog 213 #[.pointer (some ⟨pb,0,none⟩),.int .i64 0] w fun e w'=> ∃B,e=.returned (.agg #[.int .i64 12,.int .i64 0,.string ⟨#[]⟩,.string ⟨#[]⟩,.slice (some ⟨B,0,none⟩) 2 2])/\Ci w pb tv (k+3) rest ts w'/\w.heap.size<=B/\Bx w' B (qB t++qB b) 48:=by
 have HB2:=aa hb;have MP:=aa hv;have Yl:=aa hn2;have HS2:=aa hs2;clear hb hv hn2 hs2;have H:=aa h;have HT:=aa ht;have HU:=aa hu;have HN:=aa hn;have HS:=aa hs;have lp:=h.lt;have hkl:=(bw hu).1;have hfew:=h.few;obtain⟨a,n,s,hC⟩:=xh t;have HCC:=aa hC;clear h ht hu hn hs hC;go_enter func213,ntmps213;go_wp2_with fail
 with_reducible refine ag (Eo (tv:=tv) (rest:=rest) ?_ HT.zo 0 (.inl rfl) HN.zo) ?_
 ·exact H.zo.exts ae
 rintro e W ⟨rfl,h2,ho2⟩;rw[HCC.zo];have hrow:=(Bx.new w [.int .i64 0,.int .i64 0,.string ⟨#[]⟩,.string ⟨#[]⟩,.slice none 0 0] 48).at ho2 (show w.heap.size≠pb by omega);have HO:=aa ((On.exts (show af w (w.alloc _)from ae)).trans ho2);have ye:=aa hrow;have H2:=aa h2;have lw:w.heap.size<W.heap.size:=by have:=ho2.size;simp at this;omega
 have lpw:pb<W.heap.size:=by omega
 clear h2 ho2 hrow;go_wp2_with fail
 refine wp_loop_rounds 2 ?_;rw[rounds_succ];go_wp2_with ((with_reducible refine ag (rr _) ?_);rintro e w' ⟨B,rfl,⟨z,rfl⟩,hB,hops⟩;(have HB:=aa hB);(have Td:=aa hops);clear hB hops)
 refine bI ?_;intro V hV;have HV:=aa (show af W V by rw[hV];exact ae);have WH:Hid (Bx V W.heap.size [.int .i64 a,.int .i64 n,.string s,.string ⟨#[]⟩,.slice none 0 0] 48):=aa (by rw[hV];exact((Bx.new W _ 48).exts ae));have GI:Hid (Bx V (W.heap.size+1) [.string ⟨#[]⟩,.int .i64 0,.int .i64 0] 379):=aa (by
  have h0:=Bx.new (W.alloc (.cells #[.int .i64 a,.int .i64 n,.string s,.string ⟨#[]⟩,.slice none 0 0] 48)) [.string ⟨#[]⟩,.int .i64 0,.int .i64 0] 379;rw[show(W.alloc (.cells #[.int .i64 a,.int .i64 n,.string s,.string ⟨#[]⟩,.slice none 0 0] 48)).heap.size=W.heap.size+1 by simp]at h0;rw[hV];exact h0.exts ae)
 have HOP:Hid (rU V B):=aa (by rw[hV];exact Td.zo);have hBB:W.heap.size+2<=B:=by have:=HB.zo;simp at this;omega
 clear hV Td HB;go_loopw [18] (fun i wr=> ∃(j:Nat),j<=10/\i=.int .i64 j/\On (fun b=>b≠W.heap.size+1) V wr/\Bx wr (W.heap.size+1) (if j<=4 then [.string ⟨#[]⟩,.int .i64 0,.int .i64 0]else [.string ⟨#[60,61]⟩,.int .i64 12,.int .i64 4]) 379) (fun i _=>10 - (intOf i).toNat)
 case atStart=>exact⟨0,by omega,rfl,On.refl _ _,GI.zo⟩
 case round=>
  obtain⟨j,hj,rfl,hx,hbx⟩:=hrel;have HX:=aa hx;have Te:=aa hbx;have H3:=aa ((H2.zo.exts HV.zo).keep (hx.mono fun b hb=>by omega));clear hx hbx;by_cases hlt:j<10
  ·obtain⟨o,ho⟩:=KQ hlt
   have HOL:=aa ho;have hld:=(HOP.zo.at HX.zo (show B≠W.heap.size+1 by omega)).ld ho;have UF:=aa (Z9 HS.zo hlt ho);have ir:isRow wr (W.heap.size+1) 3:=by
    have:=Te.zo.row.1;split at this<;>exact this
   have lb:=Te.zo.lt;have JJ:W.heap.size<wr.heap.size:=by omega
   by_cases h4:j=4
   ·subst h4
    cases ho;have HN4:Hid (yh u ⟨#[60,61]⟩=true):=aa (by have:=UF.zo;simpa using this);go_wp2_with ((with_reducible refine ag (xg (tv:=tv) (rest:=rest) (b:=true) ?_ HU.zo _ HN4.zo) ?_);exact H3.zo.exts ae;rintro e w' ⟨rfl,⟨y,rfl⟩⟩)
    go_roundw
    case rel=>exact⟨5,by omega,rfl,HX.zo.trans ((On.setRow wr (W.heap.size+1) _).trans (On.exts ae)),(Te.zo.setRow [.string ⟨#[60,61]⟩,.int .i64 12,.int .i64 4]).exts ae⟩
    case measure=>simp[intOf]
   ·have HN4:Hid (yh u ⟨o.1.toArray⟩=false):=aa (by rw[UF.zo];exact jE h4)
    have HIF:Hid ((if j+1<=4 then [Value.string ⟨#[]⟩,.int .i64 0,.int .i64 0]else [.string ⟨#[60,61]⟩,.int .i64 12,.int .i64 4])=(if j<=4 then [Value.string ⟨#[]⟩,.int .i64 0,.int .i64 0]else [.string ⟨#[60,61]⟩,.int .i64 12,.int .i64 4])):=aa (by
     by_cases h5:j<=4
     ·rw[if_pos h5,if_pos (by omega)]
     ·rw[if_neg h5,if_neg (by omega)])
    clear ho;go_wp2_with ((with_reducible refine ag (xg (tv:=tv) (rest:=rest) (b:=false) ?_ HU.zo _ HN4.zo) ?_);exact H3.zo.exts ae;rintro e w' ⟨rfl,⟨y,rfl⟩⟩)
    go_roundw
    case rel=>exact⟨j+1,by omega,by go_num,HX.zo.trans (On.exts ae),by rw[HIF.zo];exact Te.zo.exts ae⟩
    case measure=>simp[intOf];omega
  ·obtain rfl:j=10:=by omega
   have hbx:Bx wr (W.heap.size+1) [.string ⟨#[60,61]⟩,.int .i64 12,.int .i64 4] 379:=Te.zo;have x0:=hbx.cell 0;have x1:=hbx.cell 1;have x2:=hbx.cell 2;simp only[List.getElem?_cons_zero,List.getElem?_cons_succ]at x0 x1 x2;have c1:=H3.zo.cell (i:=1) rfl;have f1:=H3.zo.fz 1;have afF:=aa (WH.zo.at HX.zo (show W.heap.size≠W.heap.size+1 by omega));have afG:=aa hbx;have Ch:=aa ((ye.zo.exts HV.zo).at HX.zo (show w.heap.size≠W.heap.size+1 by omega));go_wp2;refine bI ?_;intro U hU;have ho:On (fun b=>b≠pb) wr U:=by rw[hU];exact On.set _ _ _ _
   have H4:Hid (PS U pb tv (k+2) rest ts):=aa (by rw[hU];exact H3.zo.to (k+2));have adC:=aa (afF.zo.at ho (show W.heap.size≠pb by omega));have aac:=aa (afG.zo.at ho (show W.heap.size+1≠pb by omega));have afH:=aa (Ch.zo.at ho (show w.heap.size≠pb by omega));have lu:wr.heap.size<=U.heap.size:=ho.size;have Rs:=aa ho;clear hU ho x0 x1 x2 c1 f1;have x1:∀y:Yv (fun b=>b≠pb) U,y.w.cell? ⟨W.heap.size+1,1,none⟩=some (.int .i64 12):=fun y=>by have:=(aac.zo.at y.on (show W.heap.size+1≠pb by omega)).cell 1;simpa using this
   have x2:∀y:Yv (fun b=>b≠pb) U,y.w.cell? ⟨W.heap.size+1,2,none⟩=some (.int .i64 4):=fun y=>by have:=(aac.zo.at y.on (show W.heap.size+1≠pb by omega)).cell 2;simpa using this
   have e1:∀y:Yv (fun b=>b≠pb) U,(jf 48 ⟨W.heap.size,0,none⟩).run prog y.w=.ok (.agg #[.int .i64 a,.int .i64 n,.string s,.string ⟨#[]⟩,.slice none 0 0]) y.w:=fun y=>(adC.zo.at y.on (show W.heap.size≠pb by omega)).Dk rfl
   refine b9 (S:=fun w'=> ∃y:Yv (fun b=>b≠pb) U,w'=y.w) [0,3,4] [([1,2,5,6],7),([],8)] [] [9,10] (by kernel_rfl) (by kernel_rfl) ⟨⟨_,On.exts ae⟩,rfl⟩ ?_;try simp only[bX,pick,eh]
   try change wpQuiet _ _ _ _ (_::_) _
   repeat (go_big_quiet_step (fail))
   refine wpQuiet_nil ?_;try change wpQuiet _ _ _ _ (_::_) _
   repeat (go_big_quiet_step (fail))
   refine wpQuiet_nil ?_;try change wpList _ _ _ (_::_) _ _
   obtain⟨a2,n2,s2,hC2⟩:=xh b;have HC2:=aa hC2;clear hC2;go_wp2_with fail
   with_reducible refine ag (FU (tv:=tv) (rest:=rest) ?_ HB2.zo MP.zo Yl.zo HS2.zo) ?_
   ·exact H4.zo.exts ae
   rintro e W5 ⟨rfl,h5,Oo⟩;rw[HC2.zo];have xw:On (fun b=>b≠pb) U W5:=(On.exts ae).trans Oo;have H5:=aa h5;have Tf:=aa (adC.zo.at xw (show W.heap.size≠pb by omega));have adD:=aa (aac.zo.at xw (show W.heap.size+1≠pb by omega));have afI:=aa (afH.zo.at xw (show w.heap.size≠pb by omega));have lu5:=xw.size;have X9:=aa xw;have le5:W.heap.size<W5.heap.size:=Tf.zo.lt;have lx5:W.heap.size+1<W5.heap.size:=adD.zo.lt;have ie5:isRow W5 W.heap.size 5:=Tf.zo.row.1;have x2:(W5.setRow W.heap.size #[.int .i64 12,.int .i64 0,.string ⟨#[]⟩,.string ⟨#[]⟩,.slice (some ⟨W5.heap.size,0,none⟩) 2 2]).cell? ⟨W.heap.size+1,2,none⟩=some (.int .i64 4):=(On.setRow W5 W.heap.size _).cell (show W.heap.size+1≠W.heap.size by omega) (by have:=adD.zo.cell 2;simpa using this);clear h5 Oo xw x1 e1;go_wp2;refine dn ⟨⟨_,X9.zo⟩,rfl⟩ ?_;try simp only[bX,pick,eh]
   try change wpQuiet _ _ _ _ (_::_) _
   refine wpQuiet_nil ?_;try change wpList _ _ _ (_::_) _ _
   go_wp2;refine dn ⟨⟨_,X9.zo.trans (On.exts ae)⟩,rfl⟩ ?_;try simp only[bX,pick,eh]
   refine wpQuiet_nil ?_;try change wpList _ _ _ (_::_) _ _
   go_wp2;refine cV ?_;go_wp2;rw[rounds_succ];go_wp2_with ((with_reducible refine ag (rr _) ?_);rintro e w' ⟨B2,rfl,⟨z2,rfl⟩,hB2,Yw⟩;(have HB3:=aa hB2);(have Yx:=aa Yw);clear hB2 Yw)
   obtain⟨E,hE⟩:∃E:zv,E= [.int .i64 12,.int .i64 0,.string ⟨#[]⟩,.string ⟨#[]⟩,.slice (some ⟨W5.heap.size,0,none⟩) 2 2]:=⟨_,rfl⟩;obtain⟨A,hA⟩:∃A:zv,A= [.int .i64 a,.int .i64 n,.string s,.string ⟨#[]⟩,.slice none 0 0,.int .i64 a2,.int .i64 n2,.string s2,.string ⟨#[]⟩,.slice none 0 0]:=⟨_,rfl⟩;refine bI ?_;intro V2 hV2;have hV3:V2=av (((W5.setRow W.heap.size E.toArray).alloc (.cells A.toArray 48)).alloc (.cells #[.string ⟨#[]⟩,.int .i64 0,.int .i64 0] 379)) z2:=by rw[hV2,hE,hA]
   have s5:(W5.setRow W.heap.size E.toArray).heap.size=W5.heap.size:=by simp
   have hx5:af (W5.setRow W.heap.size E.toArray) V2:=by rw[hV3];exact ae
   have HE5:=aa ((Tf.zo.setRow E).exts hx5);have HA5:Hid (Bx V2 W5.heap.size A 48):=aa (by
    have h0:=Bx.new (W5.setRow W.heap.size E.toArray) A 48;rw[s5]at h0;rw[hV3];exact h0.exts ae)
   have CG:Hid (Bx V2 (W5.heap.size+1) [.string ⟨#[]⟩,.int .i64 0,.int .i64 0] 379):=aa (by
    have h0:=Bx.new ((W5.setRow W.heap.size E.toArray).alloc (.cells A.toArray 48)) [.string ⟨#[]⟩,.int .i64 0,.int .i64 0] 379;rw[show((W5.setRow W.heap.size E.toArray).alloc (.cells A.toArray 48)).heap.size=W5.heap.size+1 by simp]at h0;rw[hV3];exact h0.exts ae)
   have Jh:=aa ((On.setRow W5 W.heap.size E.toArray).trans (On.exts hx5));have afJ:Hid (rU V2 B2):=aa (by rw[hV2];exact Yx.zo);have Om:=aa (afI.zo.at Jh.zo (show w.heap.size≠W.heap.size by omega));have HP5:=aa (H5.zo.keep (Jh.zo.mono fun b hb=>by omega));have HCH:=aa (show On (fun b=>b≠pb/\b<w.heap.size) w V2 from(HO.zo.mono (fun b hb=>hb.1)).trans ((On.exts HV.zo).trans ((HX.zo.mono (fun b hb=>by omega)).trans ((Rs.zo.mono (fun b hb=>hb.1)).trans ((X9.zo.mono (fun b hb=>hb.1)).trans (Jh.zo.mono fun b hb=>by omega))))));clear hV2 hV3 hx5 Yx HB3;go_loopw [18] (fun i wr=> ∃(j:Nat),j<=10/\i=.int .i64 j/\af V2 wr) (fun i _=>10 - (intOf i).toNat)
   case atStart=>exact⟨0,by omega,rfl,af.refl _⟩
   case round=>
    obtain⟨j,hj,rfl,hx⟩:=hrel;have ER:=aa hx;clear hx;by_cases hlt:j<10
    ·obtain⟨o,ho⟩:=KQ hlt
     have HOL:=aa ho;have hld:=(afJ.zo.exts ER.zo).ld ho;have UF:=aa (Jj HS2.zo ho);clear ho;go_wp2_with ((with_reducible refine ag (xg (tv:=tv) (rest:=rest) ?_ MP.zo _ UF.zo) ?_);exact HP5.zo.exts (ER.zo.trans ae);rintro e w' ⟨rfl,⟨y,rfl⟩⟩)
     go_roundw
     case rel=>exact⟨j+1,by omega,by go_num,ER.zo.trans ae⟩
     case measure=>simp[intOf];omega
    ·obtain rfl:j=10:=by omega
     have hbx:=CG.zo.exts ER.zo;have c0:=hbx.cell 0;have hbe:=HE5.zo.exts ER.zo;rw[hE]at hbe;have hle:=hbe.Dk rfl;have hbr:=Om.zo.exts ER.zo;have ir:isRow wr w.heap.size 5:=hbr.row.1;have lr:w.heap.size<wr.heap.size:=hbr.lt;simp only[List.getElem?_cons_zero]at c0;have HA2:Hid (A=qB t++qB b):=aa (by rw[HCC.zo,HC2.zo,hA];rfl);clear hE hA;go_wp2;have hl2:=(hbr.setRow [.int .i64 12,.int .i64 0,.string ⟨#[]⟩,.string ⟨#[]⟩,.slice (some ⟨W5.heap.size,0,none⟩) 2 2]).Dk rfl;refine bodyPost_ret (v:=.agg #[.int .i64 12,.int .i64 0,.string ⟨#[]⟩,.string ⟨#[]⟩,.slice (some ⟨W5.heap.size,0,none⟩) 2 2]) (by rw[pT rfl];simp only[List.toArray]at hl2;simp[go_sem,hl2]) rfl ⟨_,rfl,⟨(HP5.zo.exts ER.zo).keep ((On.setRow _ _ _).mono fun b hb=>by omega),?_⟩,by omega,?_⟩
     ·have h1:=(HCH.zo.trans (On.exts ER.zo)).trans ((On.setRow wr w.heap.size #[.int .i64 12,.int .i64 0,.string ⟨#[]⟩,.string ⟨#[]⟩,.slice (some ⟨W5.heap.size,0,none⟩) 2 2]).mono fun b hb=>by omega)
      exact⟨h1.os,h1.tape,h1.output,h1.size,fun b hb hl=>h1.block b ⟨hb,hl⟩ hl⟩
     ·rw[<-HA2.zo]
      exact(HA5.zo.exts ER.zo).at (On.setRow _ _ _) (by omega)
end
end
section
theorem Cm(a n:Int)(s:ByteArray)(w:World):Calls prog 214 #[.agg #[.int .i64 a,.int .i64 n,.string s,.string ⟨#[]⟩,.slice none 0 0]] w (cX (.int .i64 1) w):=by
 go_enter func214,ntmps214;go_wp2_with (first|(refine wp_loop_rounds 1 ?_;rw[rounds_succ])|(rw[rounds_succ]))
 go_ret;exact⟨rfl,ae⟩
theorem uM(B:Nat)(t u:Tok)(w:World)(hb:Bx w B (qB t++qB u) 48):Calls prog 214 #[.agg #[.int .i64 12,.int .i64 0,.string ⟨#[]⟩,.string ⟨#[]⟩,.slice (some ⟨B,0,none⟩) 2 2]] w (cX (.int .i64 2) w):=by
 obtain⟨a,n,s,h1⟩:=xh t;obtain⟨a2,n2,s2,h2⟩:=xh u;rw[h1,h2]at hb;have l1:∀w',af w w'->(jf 48 ⟨B,0,none⟩).run prog w'=.ok (.agg #[.int .i64 a,.int .i64 n,.string s,.string ⟨#[]⟩,.slice none 0 0]) w':=fun w' he=>uy (cs:= [.int .i64 a,.int .i64 n,.string s,.string ⟨#[]⟩,.slice none 0 0]) rfl fun j u hu=>by
  rw[Nat.zero_add,(hb.exts he).cell];exact List.getElem?_append_left (bw hu).1▸hu
 have l2:∀w',af w w'->(jf 48 ⟨B,5,none⟩).run prog w'=.ok (.agg #[.int .i64 a2,.int .i64 n2,.string s2,.string ⟨#[]⟩,.slice none 0 0]) w':=fun w' he=>uy (cs:= [.int .i64 a2,.int .i64 n2,.string s2,.string ⟨#[]⟩,.slice none 0 0]) rfl fun j u hu=>by
  rw[(hb.exts he).cell,List.getElem?_append_right (by simp)];simpa using hu
 have lb:=hb.lt;clear h1 h2 hb;go_enter func214,ntmps214;go_wp2_with (first|(refine wp_loop_rounds 3 ?_;rw[rounds_succ])|(rw[rounds_succ])|((with_reducible refine ag (Cm _ _ _ _) ?_);rintro e w' ⟨rfl,⟨x1,rfl⟩⟩))
 go_ret;rw[show wrap64 (jF (jF 0 1) 1+1)=2 by unfold jF wrap64;omega];exact⟨rfl,ae⟩
theorem Bx.adE{w:World}{b o:Nat}{cs vs ds:zv}{t:TypeId}(h:Bx w b cs t)(ho:o+5<=cs.length)(hl:vs.length=5)(h1:vs.all (·.oneCell')=true)(hds:cs.take o++vs++cs.drop (o+vs.length)=ds):(PW 48 ⟨b,o,none⟩ (.agg vs.toArray)).run prog w=.ok () (w.setRow b ds.toArray):=by
 have h2:=PY (k:=5) (o:=o) (vs:=vs) h.row.1 ho hl h1 (iq.s (t:=48));rw[h.row.2]at h2;unfold xD at h2;rw[<-hds];exact h2
def gj(v m:Value):zv:= [.slice none 0 0,.slice none 0 0,.slice none 0 0,v,.slice none 0 0,.slice none 0 0,.slice none 0 0,.int .i64 0,.map none,.map none,.map none,m,.map none,.map none,.bool false]
def noW(W:List ByteArray)(t:Tok):Bool:=W.all fun s=> !yh t s
theorem Cn{W:List ByteArray}{t:Tok}(h:noW W t=true):∀s∈W,yh t s=false:=fun s hs=>by
 have:=List.all_eq_true.1 h s hs;simpa using this
def hdW:List ByteArray:= [⟨#[105,110]⟩,⟨#[101,120,99,101,112,116]⟩]
def alW:List ByteArray:= [⟨#[105,110]⟩,⟨#[101,120,99,101,112,116]⟩,⟨#[102,114,111,109]⟩,⟨#[117,110,116,105,108]⟩,⟨#[103,114,97,99,101]⟩,⟨#[118,97,114,121]⟩]
def tlW:List ByteArray:= [⟨#[117,110,116,105,108]⟩,⟨#[103,114,97,99,101]⟩,⟨#[118,97,114,121]⟩]
def bdW:List ByteArray:= [⟨#[112,108,97,110,101]⟩,⟨#[117,115,101,115]⟩,⟨#[97,112,97,114,116]⟩]
def WO(t:Tok):Xp:=if t.kind=1 then .mk 0 t.n ⟨#[]⟩ ⟨#[]⟩ []else .mk 1 0 t.text ⟨#[]⟩ []
def leX(a b:Tok):Xp:=.mk 12 0 ⟨#[]⟩ ⟨#[]⟩ [WO a,WO b]
def zQ(nm:ByteArray)(n:Int)(a b:Tok):Rule:=⟨nm,[],[],n,0,0,false,0,leX a b,⟨0,0,0,0⟩,0,0,0⟩
def adF(nm:ByteArray)(n:Int)(X:zv):zv:= [.string nm,.slice none 0 0,.slice none 0 0,.int .i64 n,.int .i64 0,.int .i64 0,.bool false,.int .i64 0]++X++ [.int .i64 0,.int .i64 0,.int .i64 0,.int .i64 0,.int .i64 0,.int .i64 0,.int .i64 0]
theorem iT.at{w w':World}{D:Nat->Prop}{k:TypeId}{b n:Nat}{f:Lit->Bool}(h:iT w k b n f)(ho:On D w w')(hd:D b):iT w' k b n f:=by
 obtain⟨DD,⟨es,cl,hb,F,hs,hD⟩,h2⟩:=h;exact⟨DD,⟨es,cl,(ho.block b hd (Array.getElem?_eq_some_iff.1 hb).1).trans hb,F,hs,hD⟩,h2⟩
theorem own_ne{T:Type}{L:Lay T}{w:World}{D:Nat->Prop}{base n b:Nat}{e k:TypeId}{v:Value}{l:List T}{f:Lit->Bool}(h:bL D L base e w v l)(hm:iT w k b n f):v.ownBlock≠some b:=by
 obtain⟨xs,h1,_⟩:=h;obtain⟨DD,⟨es,cl,hb,_⟩,_⟩:=hm;intro hv;rcases h1.2 with h0|⟨g,cap,cur,rfl,_,hg,_⟩
 ·rw[h0.1]at hv
  cases hv
 ·cases hv
  rw[hb]at hg;cases hg
theorem aad{T:Type}{L:Lay T}{w:World}{b:Nat}{cs ds:zv}{d e:T}(hb:b<w.heap.size)(h:L.R w cs d)(h2:L.R w ds e)(hc:∀j u,(cs++ds)[j]?=some u->w.cell? ⟨b,j,none⟩=some u):Sl L w (some ⟨b,0,none⟩) 2 2 [d,e]:=by
 refine⟨rfl,cs++ds,⟨by rw[dG,L.len h,L.len h2];omega,some ⟨b,0,none⟩,2,rfl,Nat.le_refl _,by unfold maxLen;omega,(fun h=>by cases h),fun _=>⟨b,0,rfl,trivial,hb,fun t u hu=>by rw[Nat.zero_add];exact hc t u hu⟩⟩,fun i x hx=> ?_⟩
 match i,hx with
 |0,hx=>
  cases hx;rw[Nat.zero_mul,List.drop_zero,List.take_left' (L.len h)];exact h
 |1,hx=>
  cases hx;rw[Nat.one_mul,List.drop_left' (L.len h),dQ (Nat.le_of_eq (L.len h2))];exact h2
def KR(t:Tok):Prop:=I64 t.n/\gS t.text
theorem Yy{w:World}{t:Tok}(h:KR t):(j7).R w (qB t) (WO t):=by
 have i0:∀z:Int,0<=z->z<=100->I64 z:=fun z h1 h2=>⟨by omega,by omega⟩
 have s0:gS ⟨#[]⟩:=by simp[gS,ByteArray.size]
 unfold qB WO;split
 ·exact yv.shut (e:=.mk 0 t.n ⟨#[]⟩ ⟨#[]⟩ []) ⟨i0 0 (by decide) (by decide),h.1,s0,s0,Sl.nil _ _⟩
 ·exact yv.shut (e:=.mk 1 0 t.text ⟨#[]⟩ []) ⟨i0 1 (by decide) (by decide),i0 0 (by decide) (by decide),h.2,s0,Sl.nil _ _⟩
theorem Jk{w:World}{D:Nat->Prop}{B:Nat}{nm:ByteArray}{n:Int}{a b:Tok}(hx:Bx w B (qB a++qB b) 48)(hd:D B)(hn:gS nm)(hi:I64 n)(ha:KR a)(hb:KR b):jg D w aw (adF nm n [.int .i64 12,.int .i64 0,.string ⟨#[]⟩,.string ⟨#[]⟩,.slice (some ⟨B,0,none⟩) 2 2]) (zQ nm n a b):=fun w2 ho=>by
 have i0:∀z:Int,0<=z->z<=100->I64 z:=fun z h1 h2=>⟨by omega,by omega⟩
 have z0:=i0 0 (by decide) (by decide);have s0:gS ⟨#[]⟩:=by simp[gS,ByteArray.size]
 have h2:=hx.at ho hd;exact⟨none,0,none,0,some ⟨B,0,none⟩,2,rfl,hn,Sl.nil _ _,Sl.nil _ _,hi,z0,z0,z0,⟨i0 12 (by decide) (by decide),z0,s0,s0,aad h2.lt (Yy ha) (Yy hb) fun j u hu=>by rw[h2.cell];exact hu⟩,z0,z0,z0,z0,z0,z0,z0⟩
section
variable {w w':World}{pb k mb bs:Nat}{tv:Value}{oo:Option Addr}{oc m q:Nat}{f:Lit->Bool}{rs:List Rule}{ts:List Tok}{nt ct at' lt bt st ft qt:Tok}
theorem Ep{m0:Value}(h:PS w pb tv k (gj (.slice oo m oc) m0) ts)(hnew:Calls prog 132 #[.pointer (some ⟨pb,0,none⟩),.int .i64 3] w fun e w'=>e=.returned (.string nt.text)/\PS w' pb tv (k+1) (gj (.slice oo m oc) (.map (some mb))) ts/\On (fun b=>b≠pb/\b≠mb) w w'/\iT w' 9 mb q f)(how:bL (fun b=>bs<=b/\b≠mb) aw bs 52 w (.slice oo m oc) rs)(hbs:pb<bs)(afK:bs<=w.heap.size)(hm:rs.length=m)(hm1:m<1000)(hmb:pb<mb)(hvm:(Value.slice oo m oc).ownBlock≠some mb)(hnt:ts[k]?=some nt)(hc:ts[k+1]?=some ct)(ha:ts[k+2]?=some at')(hl:ts[k+3]?=some lt)(hb:ts[k+4]?=some bt)(hs:ts[k+5]?=some st)
 (c1:noW alW ct=true) (c4:yh ct ⟨#[58]⟩=true) (c5:noW bdW at'=true) (c6:FT at'=true) (c7:leB lt=true) (c8:FT bt=true) (c9:Ji st=true) (c10:yh st ⟨#[59]⟩=true):Calls prog 135 #[.pointer (some ⟨pb,0,none⟩)] w fun e w'=>e=.returned (.tuple #[])/\∃g c',PS w' pb tv (k+6) (gj (.slice (some ⟨g,0,none⟩) (m+1) c') (.map (some mb))) ts/\bL (fun b=>bs<=b/\b≠mb) aw bs 52 w' (.slice (some ⟨g,0,none⟩) (m+1) c') (rs++ [zQ nt.text 0 at' bt])/\iT w' 9 mb q f/\On (fun b=>b≠pb/\b≠mb/\(Value.slice oo m oc).ownBlock≠some b) w w':=by
 obtain⟨i0,hi,hz0,hz1,hz2⟩:=info_parts qh;have TI:=aa (show gS nt.text/\KR at'/\KR bt from by
  obtain⟨_,_,_,_,_,_,⟨_,_,h1,_⟩,_⟩:=h.tok hnt;obtain⟨_,_,_,_,_,_,⟨_,_,h2,h3,_⟩,_⟩:=h.tok ha;obtain⟨_,_,_,_,_,_,⟨_,_,h4,h5,_⟩,_⟩:=h.tok hb;exact⟨h1,⟨h3,h2⟩,⟨h5,h4⟩⟩)
 have HOW:=aa how;have HM:=aa hm;have HC:=aa hc;have HA:=aa ha;have HL:=aa hl;have HB:=aa hb;have HS:=aa hs;have C1:=aa (Cn c1);have C5:=aa (Cn c5);have Tc:=aa hnew;have lp:=h.lt;have H:=aa h;clear h hnew hc ha hl hb hs c1 c5 how hm hnt;go_enter func135,ntmps135;go_wp2_with fail
 refine ag Tc.zo ?_;rintro e W ⟨rfl,h1,ho1,hm1⟩;have H1:=aa h1;have lv:=aa ho1;have OJ:=aa hm1;have lw:=h1.lt;clear h1 ho1 hm1;go_wp2_with ((with_reducible refine ag (mM (tv:=tv) (rest:=gj (.slice oo m oc) (.map (some mb))) ?_ HC.zo _ ?_) ?_);exact H1.zo.exts ae;(focus (refine C1.zo _ ?_;simp[alW];done));rintro e w' ⟨rfl,⟨y1,rfl⟩⟩)
 with_reducible refine ag (Mp (tv:=tv) (rest:=gj (.slice oo m oc) (.map (some mb))) ?_ HC.zo ⟨#[58]⟩ c4) ?_
 ·exact H1.zo.exts ae
 rintro e W2 ⟨rfl,h2,ho2⟩;have R2:=aa (((Bx.new W [.string nt.text,.slice none 0 0,.slice none 0 0,.int .i64 0,.int .i64 0,.int .i64 0,.bool false,.int .i64 0,.int .i64 0,.int .i64 0,.string ⟨#[]⟩,.string ⟨#[]⟩,.slice none 0 0,.int .i64 0,.int .i64 0,.int .i64 0,.int .i64 0,.int .i64 0,.int .i64 0,.int .i64 0] 52).exts (show af _ (av _ _)from ae)).at ho2 (show W.heap.size≠pb by omega));have jY:=aa ((On.exts (show af W (av _ _)from ae)).trans ho2);have H2:=aa h2;have l2:W.heap.size<W2.heap.size:=R2.zo.lt;clear h2 ho2;go_wp2_with ((with_reducible refine ag (mM (tv:=tv) (rest:=gj (.slice oo m oc) (.map (some mb))) ?_ HA.zo _ ?_) ?_);exact H2.zo.exts ae;(focus (refine C5.zo _ ?_;simp[bdW];done));rintro e w' ⟨rfl,⟨y5,rfl⟩⟩)
 with_reducible refine ag (zt (tv:=tv) (rest:=gj (.slice oo m oc) (.map (some mb))) ?_ HA.zo HL.zo HB.zo HS.zo c6 c7 c8 c9) ?_
 ·exact H2.zo.exts ae
 rintro e W3 ⟨B,rfl,⟨h3,ho3⟩,hB,hbx⟩;have R3:=aa ((R2.zo.exts (show af W2 (av _ _)from ae)).at ho3 (show W.heap.size≠pb by omega));have my:=aa ((On.exts (show af W2 (av _ _)from ae)).trans ho3);have H3:=aa h3;have HB3:Hid (W2.heap.size<=B):=aa (by simp at hB;omega);have l3:W.heap.size<W3.heap.size:=R3.zo.lt;have hst:=R3.zo.adE (o:=8) (vs:= [.int .i64 12,.int .i64 0,.string ⟨#[]⟩,.string ⟨#[]⟩,.slice (some ⟨B,0,none⟩) 2 2]) (ds:= [.string nt.text,.slice none 0 0,.slice none 0 0,.int .i64 0,.int .i64 0,.int .i64 0,.bool false,.int .i64 0,.int .i64 12,.int .i64 0,.string ⟨#[]⟩,.string ⟨#[]⟩,.slice (some ⟨B,0,none⟩) 2 2,.int .i64 0,.int .i64 0,.int .i64 0,.int .i64 0,.int .i64 0,.int .i64 0,.int .i64 0]) (by simp) rfl rfl rfl;have BX3:=aa hbx;clear h3 ho3 hB hbx;have Ca:=On.setRow W3 W.heap.size #[.string nt.text,.slice none 0 0,.slice none 0 0,.int .i64 0,.int .i64 0,.int .i64 0,.bool false,.int .i64 0,.int .i64 12,.int .i64 0,.string ⟨#[]⟩,.string ⟨#[]⟩,.slice (some ⟨B,0,none⟩) 2 2,.int .i64 0,.int .i64 0,.int .i64 0,.int .i64 0,.int .i64 0,.int .i64 0,.int .i64 0];have R4:=aa (R3.zo.setRow [.string nt.text,.slice none 0 0,.slice none 0 0,.int .i64 0,.int .i64 0,.int .i64 0,.bool false,.int .i64 0,.int .i64 12,.int .i64 0,.string ⟨#[]⟩,.string ⟨#[]⟩,.slice (some ⟨B,0,none⟩) 2 2,.int .i64 0,.int .i64 0,.int .i64 0,.int .i64 0,.int .i64 0,.int .i64 0,.int .i64 0]);generalize W3.setRow W.heap.size #[.string nt.text,.slice none 0 0,.slice none 0 0,.int .i64 0,.int .i64 0,.int .i64 0,.bool false,.int .i64 0,.int .i64 12,.int .i64 0,.string ⟨#[]⟩,.string ⟨#[]⟩,.slice (some ⟨B,0,none⟩) 2 2,.int .i64 0,.int .i64 0,.int .i64 0,.int .i64 0,.int .i64 0,.int .i64 0,.int .i64 0]=W4 at hst Ca R4;have zA:=aa Ca;have H4:=aa (H3.zo.keep (Ca.mono fun b hb=>by omega));have BX4:=aa (BX3.zo.at Ca (show B≠W.heap.size by have:=HB3.zo;omega));have l4:W.heap.size<W4.heap.size:=R4.zo.lt;have hle:∀w',af W4 w'->(jf 48 ⟨W.heap.size,8,none⟩).run prog w'=.ok (.agg #[.int .i64 12,.int .i64 0,.string ⟨#[]⟩,.string ⟨#[]⟩,.slice (some ⟨B,0,none⟩) 2 2]) w':=fun w' he=>uy (cs:= [.int .i64 12,.int .i64 0,.string ⟨#[]⟩,.string ⟨#[]⟩,.slice (some ⟨B,0,none⟩) 2 2]) rfl fun j u hu=>by
  rw[(R4.zo.exts he).cell]
  match j,hu with
  |0,hu=>(cases hu;rfl)
  |1,hu=>(cases hu;rfl)
  |2,hu=>(cases hu;rfl)
  |3,hu=>(cases hu;rfl)
  |4,hu=>(cases hu;rfl)
 clear Ca;go_wp2_with ((with_reducible refine ag (uM B at' bt _ ?_) ?_);exact BX4.zo.exts ae;rintro e w' ⟨rfl,⟨z1,rfl⟩⟩)
 with_reducible refine ag (SU (tv:=tv) (rest:=gj (.slice oo m oc) (.map (some mb))) ?_ HS.zo 6 c10) ?_
 ·exact H4.zo.exts ae
 rintro e W5 ⟨rfl,h5,Oo⟩;have xw:On (fun b=>b≠pb) W4 W5:=(On.exts (show af W4 (av _ _)from ae)).trans Oo;have R5:=aa (R4.zo.at xw (show W.heap.size≠pb by omega));have BX5:=aa (BX4.zo.at xw (show B≠pb by have:=HB3.zo;omega));have X9:=aa xw;have H5:=aa h5;have lwW:w.heap.size<=W.heap.size:=lv.zo.size;have hch:On (fun b=>b≠pb/\b≠mb/\b<w.heap.size) w W5:=(lv.zo.mono fun b hb=>⟨hb.1,hb.2.1⟩).trans ((jY.zo.mono fun b hb=>hb.1).trans ((my.zo.mono fun b hb=>hb.1).trans ((zA.zo.mono fun b hb=>by omega).trans (xw.mono fun b hb=>hb.1))));have hlow:On (fun b=>b≠pb/\b≠mb/\(Value.slice oo m oc).ownBlock≠some b) w W5:=⟨hch.os,hch.tape,hch.output,hch.size,fun b hb hl=>hch.block b ⟨hb.1,hb.2.1,hl⟩ hl⟩;have lw5:w.heap.size<=W5.heap.size:=hch.size;have aae:Hid (bL (fun b=>bs<=b/\b≠mb) aw bs 52 W5 (.slice oo m oc) rs):=aa (HOW.zo.at ⟨hch.os,hch.tape,hch.output,hch.size,fun b hb hl=>hch.block b (by
  rcases hb with hb|hb
  ·exact⟨by omega,hb.2,hl⟩
  ·have h1:=HOW.zo.lt hb
   exact⟨by omega,fun e=>hvm (by rw[<-e];exact hb),hl⟩) hl⟩)
 have aaf:=aa hlow;have HCW:=aa (show On (fun b=>b≠pb/\b<W.heap.size) W W5 from(jY.zo.mono fun b hb=>hb.1).trans ((my.zo.mono fun b hb=>hb.1).trans ((zA.zo.mono fun b hb=>by omega).trans (xw.mono fun b hb=>hb.1))));have l5:W.heap.size<W5.heap.size:=R5.zo.lt;have lp5:pb<W5.heap.size:=h5.lt;have WI:Hid (∀b,b<=pb->(Value.slice oo m oc).ownBlock≠some b):=aa fun b hb e=>by
  have h1:=HOW.zo.lt e;omega
 have aag:=aa (Jk (w:=W5) (D:=NB (fun b=>bs<=b/\b≠mb) (.slice oo m oc)) (nm:=nt.text) (n:=0) (a:=at') (b:=bt) BX5.zo (by
  have h1:=HB3.zo;have h2:=OJ.zo.lt;have h3:=jY.zo.size;refine⟨⟨by omega,by omega⟩,fun e=> ?_⟩;have h4:=HOW.zo.lt e;omega) TI.zo.1 ⟨by decide,by decide⟩ TI.zo.2.1 TI.zo.2.2)
 have c5:=h5.cell (i:=5) rfl;have f5:=h5.fz 5;have afL:∀w',af W5 w'->(jf 52 ⟨W.heap.size,0,none⟩).run prog w'=.ok (.agg #[.string nt.text,.slice none 0 0,.slice none 0 0,.int .i64 0,.int .i64 0,.int .i64 0,.bool false,.int .i64 0,.int .i64 12,.int .i64 0,.string ⟨#[]⟩,.string ⟨#[]⟩,.slice (some ⟨B,0,none⟩) 2 2,.int .i64 0,.int .i64 0,.int .i64 0,.int .i64 0,.int .i64 0,.int .i64 0,.int .i64 0]) w':=fun w' he=>yy (cs:= [.string nt.text,.slice none 0 0,.slice none 0 0,.int .i64 0,.int .i64 0,.int .i64 0,.bool false,.int .i64 0,.int .i64 12,.int .i64 0,.string ⟨#[]⟩,.string ⟨#[]⟩,.slice (some ⟨B,0,none⟩) 2 2,.int .i64 0,.int .i64 0,.int .i64 0,.int .i64 0,.int .i64 0,.int .i64 0,.int .i64 0]) rfl fun j u hu=>by
  rw[Nat.zero_add,(R5.zo.exts he).cell];exact hu
 clear h5 Oo xw hch hlow hle;go_wp2;refine b9 (S:=fun w'=> ∃x,w'=av W5 x) [0,1,2,3,4] [([5,6],7)] [] [8,9,10,11,12] (by kernel_rfl) (by kernel_rfl) ⟨_,by first|exact dx _|exact ai _ _⟩ ?_;try simp only[bX,pick,eh]
 try change wpQuiet _ _ _ _ (_::_) _
 repeat (go_big_quiet_step (fail))
 refine wpQuiet_nil ?_;try change wpQuiet _ _ _ _ (_::_) _
 repeat (go_big_quiet_step (fail))
 refine wpQuiet_nil ?_;try change wpList _ _ _ (_::_) _ _
 go_wp2;refine dn (by first|exact⟨_,(cF _).symm⟩|exact⟨_,rfl⟩|exact ae) ?_;try simp only[bX,pick,eh]
 try change wpQuiet _ _ _ _ (_::_) _
 repeat (go_big_quiet_step (fail))
 refine wpQuiet_nil ?_;try change wpList _ _ _ (_::_) _ _
 go_wp2_with (at_builtin;refine fA rfl (.tmp 155) (.tmp 157) 25 rfl i0 _ 232 underlying25 hi hz0 hz1 hz2 rfl (by decide) (L:=aw) (d:=zQ nt.text 0 at' bt) (cs:= [.string nt.text,.slice none 0 0,.slice none 0 0,.int .i64 0,.int .i64 0,.int .i64 0,.bool false,.int .i64 0,.int .i64 12,.int .i64 0,.string ⟨#[]⟩,.string ⟨#[]⟩,.slice (some ⟨B,0,none⟩) 2 2,.int .i64 0,.int .i64 0,.int .i64 0,.int .i64 0,.int .i64 0,.int .i64 0,.int .i64 0]) rfl HM.zo (aae.zo.exts ae) _ 1 rfl (aag.zo.at (On.exts ae)) (((Bx.new W5 [.string nt.text,.slice none 0 0,.slice none 0 0,.int .i64 0,.int .i64 0,.int .i64 0,.bool false,.int .i64 0,.int .i64 12,.int .i64 0,.string ⟨#[]⟩,.string ⟨#[]⟩,.slice (some ⟨B,0,none⟩) 2 2,.int .i64 0,.int .i64 0,.int .i64 0,.int .i64 0,.int .i64 0,.int .i64 0,.int .i64 0] 52).exts ae).news) (by omega) (by decide) (by simp<;>omega) ?_;intro g c' w6 hown hgrow;(have HN:=aa hown);(have HG:=aa ((On.exts (show af W5 _ from ae)).trans (On.grown (D:=fun b=>(Value.slice oo m oc).ownBlock≠some b) hgrow (fun b hb h=>h hb))));(have H6:=aa (H5.zo.keep (HG.zo.mono WI.zo)));clear hown hgrow;(have c6:=H6.zo.cell (i:=5) rfl);(have f6:=H6.zo.fz 5))
 refine cV ?_;go_wp2;go_end0
 refine⟨rfl,g,c',H6.zo.set 3 (.slice (some ⟨g,0,none⟩) (m+1) c'),HN.zo.at ((On.set _ _ _ _).mono fun b hb=> ?_),?_,?_⟩
 ·rcases hb with hb|hb
  ·have:=hb.1
   omega
  ·have:=(HN.zo.lt hb).1
   omega
 ·have lm:=OJ.zo.lt
  exact OJ.zo.at (D:=fun b=>b=mb) ((HCW.zo.mono fun b hb=>⟨by omega,by omega⟩).trans ((HG.zo.mono fun b hb=>by rw[hb];exact hvm).trans ((On.set _ _ _ _).mono fun b hb=>by omega))) rfl
 ·exact aaf.zo.trans ((HG.zo.mono fun b hb=>hb.2.2).trans ((On.set _ _ _ _).mono fun b hb=>hb.1))
theorem OL{m0:Value}(h:PS w pb tv k (gj (.slice oo m oc) m0) ts)(hnew:Calls prog 132 #[.pointer (some ⟨pb,0,none⟩),.int .i64 3] w fun e w'=>e=.returned (.string nt.text)/\PS w' pb tv (k+1) (gj (.slice oo m oc) (.map (some mb))) ts/\On (fun b=>b≠pb/\b≠mb) w w'/\iT w' 9 mb q f)(how:bL (fun b=>bs<=b/\b≠mb) aw bs 52 w (.slice oo m oc) rs)(hbs:pb<bs)(afK:bs<=w.heap.size)(hm:rs.length=m)(hm1:m<1000)(hmb:pb<mb)(hvm:(Value.slice oo m oc).ownBlock≠some mb)(hnt:ts[k]?=some nt)(hf:ts[k+1]?=some ft)(hq:ts[k+2]?=some qt)(cf1:noW hdW ft=true)(cf:yh ft ⟨#[102,114,111,109]⟩=true)(cq1:qt.kind=1)(cq2:0<=qt.n)(cq3:qt.n<=1073741824)(hc:ts[k+3]?=some ct)(ha:ts[k+4]?=some at')(hl:ts[k+5]?=some lt)(hb:ts[k+6]?=some bt)(hs:ts[k+7]?=some st)
 (c1:noW tlW ct=true) (c4:yh ct ⟨#[58]⟩=true) (c5:noW bdW at'=true) (c6:FT at'=true) (c7:leB lt=true) (c8:FT bt=true) (c9:Ji st=true) (c10:yh st ⟨#[59]⟩=true):Calls prog 135 #[.pointer (some ⟨pb,0,none⟩)] w fun e w'=>e=.returned (.tuple #[])/\∃g c',PS w' pb tv (k+8) (gj (.slice (some ⟨g,0,none⟩) (m+1) c') (.map (some mb))) ts/\bL (fun b=>bs<=b/\b≠mb) aw bs 52 w' (.slice (some ⟨g,0,none⟩) (m+1) c') (rs++ [zQ nt.text qt.n at' bt])/\iT w' 9 mb q f/\On (fun b=>b≠pb/\b≠mb/\(Value.slice oo m oc).ownBlock≠some b) w w':=by
 obtain⟨i0,hi,hz0,hz1,hz2⟩:=info_parts qh;have TI:=aa (show gS nt.text/\KR at'/\KR bt from by
  obtain⟨_,_,_,_,_,_,⟨_,_,h1,_⟩,_⟩:=h.tok hnt;obtain⟨_,_,_,_,_,_,⟨_,_,h2,h3,_⟩,_⟩:=h.tok ha;obtain⟨_,_,_,_,_,_,⟨_,_,h4,h5,_⟩,_⟩:=h.tok hb;exact⟨h1,⟨h3,h2⟩,⟨h5,h4⟩⟩)
 have HOW:=aa how;have HM:=aa hm;have HC:=aa hc;have HA:=aa ha;have HL:=aa hl;have HB:=aa hb;have HS:=aa hs;have HF:=aa hf;have HQ:=aa hq;have CF:=aa (Cn cf1);have C1:=aa (Cn c1);have C5:=aa (Cn c5);have Tc:=aa hnew;have lp:=h.lt;have H:=aa h;clear h hnew hc ha hl hb hs c1 c5 how hm hnt hf hq cf1;go_enter func135,ntmps135;go_wp2_with fail
 refine ag Tc.zo ?_;rintro e W ⟨rfl,h1,ho1,hm1⟩;have H1:=aa h1;have lv:=aa ho1;have OJ:=aa hm1;have lw:=h1.lt;clear h1 ho1 hm1;go_wp2_with ((with_reducible refine ag (mM (tv:=tv) (rest:=gj (.slice oo m oc) (.map (some mb))) ?_ HF.zo _ ?_) ?_);exact H1.zo.exts ae;(focus (refine CF.zo _ ?_;simp[hdW];done));rintro e w' ⟨rfl,⟨y1,rfl⟩⟩)
 with_reducible refine ag (Cj (tv:=tv) (rest:=gj (.slice oo m oc) (.map (some mb))) ?_ HF.zo ⟨#[102,114,111,109]⟩ cf) ?_
 ·exact H1.zo.exts ae
 rintro e X1 ⟨rfl,hx1,aah⟩;have RX1:=aa (((Bx.new W [.string nt.text,.slice none 0 0,.slice none 0 0,.int .i64 0,.int .i64 0,.int .i64 0,.bool false,.int .i64 0,.int .i64 0,.int .i64 0,.string ⟨#[]⟩,.string ⟨#[]⟩,.slice none 0 0,.int .i64 0,.int .i64 0,.int .i64 0,.int .i64 0,.int .i64 0,.int .i64 0,.int .i64 0] 52).exts (show af _ (av _ _)from ae)).at aah (show W.heap.size≠pb by omega));have afM:=aa ((On.exts (show af W (av _ _)from ae)).trans aah);have jZ:=aa hx1;clear hx1 aah;go_wp2_with fail
 with_reducible refine ag (Em (tv:=tv) (rest:=gj (.slice oo m oc) (.map (some mb))) ?_ HQ.zo 0 1073741824 cq1 cq2 cq3) ?_
 ·exact jZ.zo.exts ae
 rintro e X2 ⟨rfl,hx2,adG⟩;have aai:On (fun b=>b≠pb) X1 X2:=(On.exts (show af X1 X1 from af.refl _)).trans adG;have RX2:=aa (RX1.zo.at aai (show W.heap.size≠pb by omega));have afN:=aa (afM.zo.trans aai);have c3:=RX2.zo.cell 3;have f3:=RX2.zo.fz 3;have gm:=aa hx2;simp only[List.getElem?_cons_zero,List.getElem?_cons_succ]at c3;clear hx2 adG aai;go_wp2_with fail
 have R0:=aa (RX2.zo.set 3 (.int .i64 qt.n));have iU:=aa (gm.zo.keep ((On.set X2 W.heap.size 3 (.int .i64 qt.n)).mono fun b hb=>by omega));have HO0:=aa (afN.zo.new ((On.set X2 W.heap.size 3 (.int .i64 qt.n)).mono fun b hb=>hb.2));generalize X2.setCell ⟨W.heap.size,3,none⟩ (.int .i64 qt.n)=X3 at*;clear c3 f3;have lx3:W.heap.size<X3.heap.size:=R0.zo.lt;have c7:=R0.zo.cell 6;have f7:=R0.zo.fz 6;simp only[List.set_cons_succ,List.set_cons_zero,List.getElem?_cons_zero,List.getElem?_cons_succ]at c7;have R0b:=aa (R0.zo.set 6 (.bool false));have afO:=aa (iU.zo.keep ((On.set X3 W.heap.size 6 (.bool false)).mono fun b hb=>by omega));have afP:=aa (HO0.zo.new ((On.set X3 W.heap.size 6 (.bool false)).mono fun b hb=>hb.2));go_wp2_with ((with_reducible refine ag (mM (tv:=tv) (rest:=gj (.slice oo m oc) (.map (some mb))) ?_ HC.zo _ ?_) ?_);exact iU.zo.exts ae;(focus (refine C1.zo _ ?_;simp[tlW];done));rintro e w' ⟨rfl,⟨y2,rfl⟩⟩)
 with_reducible refine ag (Mp (tv:=tv) (rest:=gj (.slice oo m oc) (.map (some mb))) ?_ HC.zo ⟨#[58]⟩ c4) ?_
 ·exact afO.zo.exts ae
 rintro e W2 ⟨rfl,h2,ho2⟩;have R2:Hid (Bx W2 W.heap.size [.string nt.text,.slice none 0 0,.slice none 0 0,.int .i64 qt.n,.int .i64 0,.int .i64 0,.bool false,.int .i64 0,.int .i64 0,.int .i64 0,.string ⟨#[]⟩,.string ⟨#[]⟩,.slice none 0 0,.int .i64 0,.int .i64 0,.int .i64 0,.int .i64 0,.int .i64 0,.int .i64 0,.int .i64 0] 52):=aa ((R0b.zo.exts (show af _ (av _ _)from ae)).at ho2 (show W.heap.size≠pb by omega));have jY:=aa (afP.zo.trans ((On.exts (show af _ (av _ _)from ae)).trans ho2));clear c7 f7;have H2:=aa h2;have l2:W.heap.size<W2.heap.size:=R2.zo.lt;clear h2 ho2;go_wp2_with ((with_reducible refine ag (mM (tv:=tv) (rest:=gj (.slice oo m oc) (.map (some mb))) ?_ HA.zo _ ?_) ?_);exact H2.zo.exts ae;(focus (refine C5.zo _ ?_;simp[bdW];done));rintro e w' ⟨rfl,⟨y5,rfl⟩⟩)
 with_reducible refine ag (zt (tv:=tv) (rest:=gj (.slice oo m oc) (.map (some mb))) ?_ HA.zo HL.zo HB.zo HS.zo c6 c7 c8 c9) ?_
 ·exact H2.zo.exts ae
 rintro e W3 ⟨B,rfl,⟨h3,ho3⟩,hB,hbx⟩;have R3:=aa ((R2.zo.exts (show af W2 (av _ _)from ae)).at ho3 (show W.heap.size≠pb by omega));have my:=aa ((On.exts (show af W2 (av _ _)from ae)).trans ho3);have H3:=aa h3;have HB3:Hid (W2.heap.size<=B):=aa (by simp at hB;omega);have l3:W.heap.size<W3.heap.size:=R3.zo.lt;have hst:=R3.zo.adE (o:=8) (vs:= [.int .i64 12,.int .i64 0,.string ⟨#[]⟩,.string ⟨#[]⟩,.slice (some ⟨B,0,none⟩) 2 2]) (ds:= [.string nt.text,.slice none 0 0,.slice none 0 0,.int .i64 qt.n,.int .i64 0,.int .i64 0,.bool false,.int .i64 0,.int .i64 12,.int .i64 0,.string ⟨#[]⟩,.string ⟨#[]⟩,.slice (some ⟨B,0,none⟩) 2 2,.int .i64 0,.int .i64 0,.int .i64 0,.int .i64 0,.int .i64 0,.int .i64 0,.int .i64 0]) (by simp) rfl rfl rfl;have BX3:=aa hbx;clear h3 ho3 hB hbx;have Ca:=On.setRow W3 W.heap.size #[.string nt.text,.slice none 0 0,.slice none 0 0,.int .i64 qt.n,.int .i64 0,.int .i64 0,.bool false,.int .i64 0,.int .i64 12,.int .i64 0,.string ⟨#[]⟩,.string ⟨#[]⟩,.slice (some ⟨B,0,none⟩) 2 2,.int .i64 0,.int .i64 0,.int .i64 0,.int .i64 0,.int .i64 0,.int .i64 0,.int .i64 0];have R4:=aa (R3.zo.setRow [.string nt.text,.slice none 0 0,.slice none 0 0,.int .i64 qt.n,.int .i64 0,.int .i64 0,.bool false,.int .i64 0,.int .i64 12,.int .i64 0,.string ⟨#[]⟩,.string ⟨#[]⟩,.slice (some ⟨B,0,none⟩) 2 2,.int .i64 0,.int .i64 0,.int .i64 0,.int .i64 0,.int .i64 0,.int .i64 0,.int .i64 0]);generalize W3.setRow W.heap.size #[.string nt.text,.slice none 0 0,.slice none 0 0,.int .i64 qt.n,.int .i64 0,.int .i64 0,.bool false,.int .i64 0,.int .i64 12,.int .i64 0,.string ⟨#[]⟩,.string ⟨#[]⟩,.slice (some ⟨B,0,none⟩) 2 2,.int .i64 0,.int .i64 0,.int .i64 0,.int .i64 0,.int .i64 0,.int .i64 0,.int .i64 0]=W4 at hst Ca R4;have zA:=aa Ca;have H4:=aa (H3.zo.keep (Ca.mono fun b hb=>by omega));have BX4:=aa (BX3.zo.at Ca (show B≠W.heap.size by have:=HB3.zo;omega));have l4:W.heap.size<W4.heap.size:=R4.zo.lt;have hle:∀w',af W4 w'->(jf 48 ⟨W.heap.size,8,none⟩).run prog w'=.ok (.agg #[.int .i64 12,.int .i64 0,.string ⟨#[]⟩,.string ⟨#[]⟩,.slice (some ⟨B,0,none⟩) 2 2]) w':=fun w' he=>uy (cs:= [.int .i64 12,.int .i64 0,.string ⟨#[]⟩,.string ⟨#[]⟩,.slice (some ⟨B,0,none⟩) 2 2]) rfl fun j u hu=>by
  rw[(R4.zo.exts he).cell]
  match j,hu with
  |0,hu=>(cases hu;rfl)
  |1,hu=>(cases hu;rfl)
  |2,hu=>(cases hu;rfl)
  |3,hu=>(cases hu;rfl)
  |4,hu=>(cases hu;rfl)
 clear Ca;go_wp2_with ((with_reducible refine ag (uM B at' bt _ ?_) ?_);exact BX4.zo.exts ae;rintro e w' ⟨rfl,⟨z1,rfl⟩⟩)
 with_reducible refine ag (SU (tv:=tv) (rest:=gj (.slice oo m oc) (.map (some mb))) ?_ HS.zo 6 c10) ?_
 ·exact H4.zo.exts ae
 rintro e W5 ⟨rfl,h5,Oo⟩;have xw:On (fun b=>b≠pb) W4 W5:=(On.exts (show af W4 (av _ _)from ae)).trans Oo;have R5:=aa (R4.zo.at xw (show W.heap.size≠pb by omega));have BX5:=aa (BX4.zo.at xw (show B≠pb by have:=HB3.zo;omega));have X9:=aa xw;have H5:=aa h5;have lwW:w.heap.size<=W.heap.size:=lv.zo.size;have hch:On (fun b=>b≠pb/\b≠mb/\b<w.heap.size) w W5:=(lv.zo.mono fun b hb=>⟨hb.1,hb.2.1⟩).trans ((jY.zo.mono fun b hb=>hb.1).trans ((my.zo.mono fun b hb=>hb.1).trans ((zA.zo.mono fun b hb=>by omega).trans (xw.mono fun b hb=>hb.1))));have hlow:On (fun b=>b≠pb/\b≠mb/\(Value.slice oo m oc).ownBlock≠some b) w W5:=⟨hch.os,hch.tape,hch.output,hch.size,fun b hb hl=>hch.block b ⟨hb.1,hb.2.1,hl⟩ hl⟩;have lw5:w.heap.size<=W5.heap.size:=hch.size;have aae:Hid (bL (fun b=>bs<=b/\b≠mb) aw bs 52 W5 (.slice oo m oc) rs):=aa (HOW.zo.at ⟨hch.os,hch.tape,hch.output,hch.size,fun b hb hl=>hch.block b (by
  rcases hb with hb|hb
  ·exact⟨by omega,hb.2,hl⟩
  ·have h1:=HOW.zo.lt hb
   exact⟨by omega,fun e=>hvm (by rw[<-e];exact hb),hl⟩) hl⟩)
 have aaf:=aa hlow;have HCW:=aa (show On (fun b=>b≠pb/\b<W.heap.size) W W5 from(jY.zo.mono fun b hb=>hb.1).trans ((my.zo.mono fun b hb=>hb.1).trans ((zA.zo.mono fun b hb=>by omega).trans (xw.mono fun b hb=>hb.1))));have l5:W.heap.size<W5.heap.size:=R5.zo.lt;have lp5:pb<W5.heap.size:=h5.lt;have WI:Hid (∀b,b<=pb->(Value.slice oo m oc).ownBlock≠some b):=aa fun b hb e=>by
  have h1:=HOW.zo.lt e;omega
 have aag:=aa (Jk (w:=W5) (D:=NB (fun b=>bs<=b/\b≠mb) (.slice oo m oc)) (nm:=nt.text) (n:=qt.n) (a:=at') (b:=bt) BX5.zo (by
  have h1:=HB3.zo;have h2:=OJ.zo.lt;have h3:=jY.zo.size;refine⟨⟨by omega,by omega⟩,fun e=> ?_⟩;have h4:=HOW.zo.lt e;omega) TI.zo.1 ⟨by omega,by omega⟩ TI.zo.2.1 TI.zo.2.2)
 have c5:=h5.cell (i:=5) rfl;have f5:=h5.fz 5;have afL:∀w',af W5 w'->(jf 52 ⟨W.heap.size,0,none⟩).run prog w'=.ok (.agg #[.string nt.text,.slice none 0 0,.slice none 0 0,.int .i64 qt.n,.int .i64 0,.int .i64 0,.bool false,.int .i64 0,.int .i64 12,.int .i64 0,.string ⟨#[]⟩,.string ⟨#[]⟩,.slice (some ⟨B,0,none⟩) 2 2,.int .i64 0,.int .i64 0,.int .i64 0,.int .i64 0,.int .i64 0,.int .i64 0,.int .i64 0]) w':=fun w' he=>yy (cs:= [.string nt.text,.slice none 0 0,.slice none 0 0,.int .i64 qt.n,.int .i64 0,.int .i64 0,.bool false,.int .i64 0,.int .i64 12,.int .i64 0,.string ⟨#[]⟩,.string ⟨#[]⟩,.slice (some ⟨B,0,none⟩) 2 2,.int .i64 0,.int .i64 0,.int .i64 0,.int .i64 0,.int .i64 0,.int .i64 0,.int .i64 0]) rfl fun j u hu=>by
  rw[Nat.zero_add,(R5.zo.exts he).cell];exact hu
 clear h5 Oo xw hch hlow hle;go_wp2;refine b9 (S:=fun w'=> ∃x,w'=av W5 x) [0,1,2,3,4] [([5,6],7)] [] [8,9,10,11,12] (by kernel_rfl) (by kernel_rfl) ⟨_,by first|exact dx _|exact ai _ _⟩ ?_;try simp only[bX,pick,eh]
 try change wpQuiet _ _ _ _ (_::_) _
 repeat (go_big_quiet_step (fail))
 refine wpQuiet_nil ?_;try change wpQuiet _ _ _ _ (_::_) _
 repeat (go_big_quiet_step (fail))
 refine wpQuiet_nil ?_;try change wpList _ _ _ (_::_) _ _
 go_wp2;refine dn (by first|exact⟨_,(cF _).symm⟩|exact⟨_,rfl⟩|exact ae) ?_;try simp only[bX,pick,eh]
 try change wpQuiet _ _ _ _ (_::_) _
 repeat (go_big_quiet_step (fail))
 refine wpQuiet_nil ?_;try change wpList _ _ _ (_::_) _ _
 go_wp2_with (at_builtin;refine fA rfl (.tmp 155) (.tmp 157) 25 rfl i0 _ 232 underlying25 hi hz0 hz1 hz2 rfl (by decide) (L:=aw) (d:=zQ nt.text qt.n at' bt) (cs:= [.string nt.text,.slice none 0 0,.slice none 0 0,.int .i64 qt.n,.int .i64 0,.int .i64 0,.bool false,.int .i64 0,.int .i64 12,.int .i64 0,.string ⟨#[]⟩,.string ⟨#[]⟩,.slice (some ⟨B,0,none⟩) 2 2,.int .i64 0,.int .i64 0,.int .i64 0,.int .i64 0,.int .i64 0,.int .i64 0,.int .i64 0]) rfl HM.zo (aae.zo.exts ae) _ 1 rfl (aag.zo.at (On.exts ae)) (((Bx.new W5 [.string nt.text,.slice none 0 0,.slice none 0 0,.int .i64 qt.n,.int .i64 0,.int .i64 0,.bool false,.int .i64 0,.int .i64 12,.int .i64 0,.string ⟨#[]⟩,.string ⟨#[]⟩,.slice (some ⟨B,0,none⟩) 2 2,.int .i64 0,.int .i64 0,.int .i64 0,.int .i64 0,.int .i64 0,.int .i64 0,.int .i64 0] 52).exts ae).news) (by omega) (by decide) (by simp<;>omega) ?_;intro g c' w6 hown hgrow;(have HN:=aa hown);(have HG:=aa ((On.exts (show af W5 _ from ae)).trans (On.grown (D:=fun b=>(Value.slice oo m oc).ownBlock≠some b) hgrow (fun b hb h=>h hb))));(have H6:=aa (H5.zo.keep (HG.zo.mono WI.zo)));clear hown hgrow;(have c6:=H6.zo.cell (i:=5) rfl);(have f6:=H6.zo.fz 5))
 refine cV ?_;go_wp2;go_end0
 refine⟨rfl,g,c',H6.zo.set 3 (.slice (some ⟨g,0,none⟩) (m+1) c'),HN.zo.at ((On.set _ _ _ _).mono fun b hb=> ?_),?_,?_⟩
 ·rcases hb with hb|hb
  ·have:=hb.1
   omega
  ·have:=(HN.zo.lt hb).1
   omega
 ·have lm:=OJ.zo.lt
  exact OJ.zo.at (D:=fun b=>b=mb) ((HCW.zo.mono fun b hb=>⟨by omega,by omega⟩).trans ((HG.zo.mono fun b hb=>by rw[hb];exact hvm).trans ((On.set _ _ _ _).mono fun b hb=>by omega))) rfl
 ·exact aaf.zo.trans ((HG.zo.mono fun b hb=>hb.2.2).trans ((On.set _ _ _ _).mono fun b hb=>hb.1))
end
end
section
def WQ:ByteArray:=⟨#[114,117,108,101,32,108,111,119,32,58,32,104,101,105,103,104,116,32,60,61,32,57,59,32,114,117,108,101,32,119,105,100,101,32,58,32,50,32,60,61,32,115,101,116,98,97,99,107,59]⟩
def T1:List Tok:= [⟨0,⟨#[114,117,108,101]⟩,0,0⟩,⟨0,⟨#[108,111,119]⟩,0,5⟩,⟨2,⟨#[58]⟩,0,9⟩,⟨0,⟨#[104,101,105,103,104,116]⟩,0,11⟩,⟨2,⟨#[60,61]⟩,0,18⟩,⟨1,⟨#[57]⟩,9,21⟩,⟨2,⟨#[59]⟩,0,22⟩,⟨0,⟨#[114,117,108,101]⟩,0,24⟩,⟨0,⟨#[119,105,100,101]⟩,0,29⟩,⟨2,⟨#[58]⟩,0,34⟩,⟨1,⟨#[50]⟩,2,36⟩,⟨2,⟨#[60,61]⟩,0,38⟩,⟨0,⟨#[115,101,116,98,97,99,107]⟩,0,41⟩,⟨2,⟨#[59]⟩,0,48⟩,⟨3,⟨#[]⟩,0,49⟩]
theorem afQ:KP (WQ.size+1) WQ.data.toList 0=some T1:=by kernel_rfl
def OM:ByteArray:=⟨#[101,110,100,32,108,111,119,32,53,59,32,114,117,108,101,32,109,111,114,101,32,102,114,111,109,32,53,32,58,32,104,101,105,103,104,116,32,60,61,32,49,50,59]⟩
def T2:List Tok:= [⟨0,⟨#[101,110,100]⟩,0,0⟩,⟨0,⟨#[108,111,119]⟩,0,4⟩,⟨1,⟨#[53]⟩,5,8⟩,⟨2,⟨#[59]⟩,0,9⟩,⟨0,⟨#[114,117,108,101]⟩,0,11⟩,⟨0,⟨#[109,111,114,101]⟩,0,16⟩,⟨0,⟨#[102,114,111,109]⟩,0,21⟩,⟨1,⟨#[53]⟩,5,26⟩,⟨2,⟨#[58]⟩,0,28⟩,⟨0,⟨#[104,101,105,103,104,116]⟩,0,30⟩,⟨2,⟨#[60,61]⟩,0,37⟩,⟨1,⟨#[49,50]⟩,12,40⟩,⟨2,⟨#[59]⟩,0,42⟩,⟨3,⟨#[]⟩,0,43⟩]
theorem afR:KP (OM.size+1) OM.data.toList 0=some T2:=by kernel_rfl
def Tg:ByteArray:=⟨#[114,117,108,101,32,109,111,114,101,32,102,114,111,109,32,53,32,58,32,104,101,105,103,104,116,32,60,61,32,49,50,59]⟩
def T3:List Tok:= [⟨0,⟨#[114,117,108,101]⟩,0,0⟩,⟨0,⟨#[109,111,114,101]⟩,0,5⟩,⟨0,⟨#[102,114,111,109]⟩,0,10⟩,⟨1,⟨#[53]⟩,5,15⟩,⟨2,⟨#[58]⟩,0,17⟩,⟨0,⟨#[104,101,105,103,104,116]⟩,0,19⟩,⟨2,⟨#[60,61]⟩,0,26⟩,⟨1,⟨#[49,50]⟩,12,29⟩,⟨2,⟨#[59]⟩,0,31⟩,⟨3,⟨#[]⟩,0,32⟩]
theorem afS:KP (Tg.size+1) Tg.data.toList 0=some T3:=by kernel_rfl
theorem On.new2{D D2:Nat->Prop}{w W w':World}(h:On D w W)(h2:On D2 W w')(hd:∀b,D b->b<w.heap.size->D2 b):On D w w':=⟨h2.os.trans h.os,h2.tape.trans h.tape,h2.output.trans h.output,Nat.le_trans h.size h2.size,fun b hb hl=>(h2.block b (hd b hb hl) (Nat.lt_of_lt_of_le hl h.size)).trans (h.block b hb hl)⟩
theorem Er{w:World}{pb k:Nat}{tv v:Value}{ts:List Tok}{t:Tok}(h:PS w pb tv k (gj v (.map none)) ts)(ht:ts[k]?=some t)(hb:kD t=true):Calls prog 132 #[.pointer (some ⟨pb,0,none⟩),.int .i64 3] w fun e w'=>e=.returned (.string t.text)/\PS w' pb tv (k+1) (gj v (.map (some w.heap.size))) ts/\On (fun b=>b≠pb/\b≠w.heap.size) w w'/\iT w' 9 w.heap.size 1 (xC (fun _=>false) (.string t.text.data.toList) true):=
 (FP h ht hb rfl).mono fun e w'⟨h1,h2,h3,h4⟩=>⟨h1,h2,h3.mono fun b hb=>hb.1,h4⟩
section
variable {w w':World}{pb:Nat}{tv:Value}
attribute [local go_sem] Jb Jc Jd
theorem KS(h:PS w pb tv 0 (gj (.slice none 0 0) (.map none)) T1):Calls prog 39 #[.pointer (some ⟨pb,0,none⟩)] w fun e w'=>e=.returned (.tuple #[])/\∃mb g c',PS w' pb tv 14 (gj (.slice (some ⟨g,0,none⟩) 2 c') (.map (some mb))) T1/\bL (fun b=>w.heap.size<=b/\b≠mb) aw w.heap.size 52 w' (.slice (some ⟨g,0,none⟩) 2 c') [zQ ⟨#[108,111,119]⟩ 0 ⟨0,⟨#[104,101,105,103,104,116]⟩,0,11⟩ ⟨1,⟨#[57]⟩,9,21⟩,zQ ⟨#[119,105,100,101]⟩ 0 ⟨1,⟨#[50]⟩,2,36⟩ ⟨0,⟨#[115,101,116,98,97,99,107]⟩,0,41⟩]/\On (fun b=>b≠pb) w w':=by
 have H:=aa h;have lp:=h.lt;have c5:=h.cell (i:=5) rfl;have hl:=aa (On.refl (fun b=>b≠pb) w);clear h;go_enter func39,ntmps39;go_wp2_with fail
 refine wp_loop_rounds 3 ?_;have K0:=aa (show T1[0]?=some ⟨0,⟨#[114,117,108,101]⟩,0,0⟩from rfl);rw[rounds_succ];go_wp2_with ((with_reducible refine ag (kC (tv:=tv) (rest:=gj (.slice none 0 0) (.map none)) ?_ K0.zo) ?_);exact H.zo.exts ae;rintro e w' ⟨rfl,⟨x0,rfl⟩⟩)
 with_reducible refine ag (FO (tv:=tv) (rest:=gj (.slice none 0 0) (.map none)) ?_ K0.zo 0 200 (by decide)) ?_
 ·exact H.zo.exts ae
 rintro e A0 ⟨rfl,ha0,Th⟩;have Oe:=aa ha0;have Ti:=aa ((On.exts (show af w (av _ _)from ae)).trans Th);have lz0:w.heap.size<=A0.heap.size:=Nat.le_trans hl.zo.size Ti.zo.size;clear ha0 Th c5;have lA:=Oe.zo.lt;go_wp2_with fail
 refine ag (Ep (nt:=⟨0,⟨#[108,111,119]⟩,0,5⟩) (ct:=⟨2,⟨#[58]⟩,0,9⟩) (at':=⟨0,⟨#[104,101,105,103,104,116]⟩,0,11⟩) (lt:=⟨2,⟨#[60,61]⟩,0,18⟩) (bt:=⟨1,⟨#[57]⟩,9,21⟩) (st:=⟨2,⟨#[59]⟩,0,22⟩) Oe.zo (Er Oe.zo (t:=⟨0,⟨#[108,111,119]⟩,0,5⟩) rfl rfl) (bL.nil _ _ _ _ _) lp lz0 rfl (by decide) lA (fun h=>by cases h) rfl rfl rfl rfl rfl rfl rfl rfl rfl rfl rfl rfl rfl rfl) ?_;rintro e B0 ⟨rfl,g0,c0,hb0,Tj,hm0,hlo0⟩;have HB0:=aa hb0;have WR:=aa Tj;have HM0:=aa hm0;have HL0:=aa ((hl.zo.trans Ti.zo).new2 hlo0 (fun b hb hl=>⟨hb,by omega,(fun h=>by cases h)⟩));have lp0:=HB0.zo.lt;have c5:=hb0.cell (i:=5) rfl;clear hb0 Tj hm0 hlo0;go_wp2_with fail
 have K1:=aa (show T1[7]?=some ⟨0,⟨#[114,117,108,101]⟩,0,24⟩from rfl);rw[rounds_succ];go_wp2_with ((with_reducible refine ag (kC (tv:=tv) (rest:=gj (.slice (some ⟨g0,0,none⟩) 1 c0) (.map (some A0.heap.size))) ?_ K1.zo) ?_);exact HB0.zo.exts ae;rintro e w' ⟨rfl,⟨x1,rfl⟩⟩)
 with_reducible refine ag (FO (tv:=tv) (rest:=gj (.slice (some ⟨g0,0,none⟩) 1 c0) (.map (some A0.heap.size))) ?_ K1.zo 1 200 (by decide)) ?_
 ·exact HB0.zo.exts ae
 rintro e A1 ⟨rfl,ha1,adH⟩;have HA1:=aa ha1;have WS:=aa ((On.exts (show af B0 (av _ _)from ae)).trans adH);have lz1:w.heap.size<=A1.heap.size:=Nat.le_trans HL0.zo.size WS.zo.size;clear ha1 adH c5;have aaj:=aa (WR.zo.at (WS.zo.mono fun b hb=>by
  rcases hb with hb|hb
  ·have:=hb.1
   omega
  ·have:=(WR.zo.lt hb).1
   omega))
 have HMB:=aa (HM0.zo.at (D:=fun b=>b=A0.heap.size) (WS.zo.mono fun b hb=>by omega) rfl);go_wp2_with fail
 refine ag (Ep (nt:=⟨0,⟨#[119,105,100,101]⟩,0,29⟩) (ct:=⟨2,⟨#[58]⟩,0,34⟩) (at':=⟨1,⟨#[50]⟩,2,36⟩) (lt:=⟨2,⟨#[60,61]⟩,0,38⟩) (bt:=⟨0,⟨#[115,101,116,98,97,99,107]⟩,0,41⟩) (st:=⟨2,⟨#[59]⟩,0,48⟩) HA1.zo (Jf HA1.zo (t:=⟨0,⟨#[119,105,100,101]⟩,0,29⟩) rfl rfl rfl HMB.zo lA (by decide) (om _ true (fun h=>absurd (Lit.string.inj h) (by decide)))) aaj.zo lp lz1 rfl (by decide) lA (own_ne aaj.zo HMB.zo) rfl rfl rfl rfl rfl rfl rfl rfl rfl rfl rfl rfl rfl rfl) ?_;rintro e B1 ⟨rfl,g1,c1,hb1,adI,hm1,hlo1⟩;have HB1:=aa hb1;have afT:=aa adI;have OJ:=aa hm1;have LM:=aa ((HL0.zo.trans WS.zo).new2 hlo1 (fun b hb hl=>⟨hb,by omega,(fun h=>by have:=(aaj.zo.lt h).1;omega)⟩));have lp1:=HB1.zo.lt;have c5:=hb1.cell (i:=5) rfl;clear hb1 adI hm1 hlo1;go_wp2_with fail
 have KE:=aa (show T1[14]?=some ⟨3,⟨#[]⟩,0,49⟩from rfl);rw[rounds_succ];go_wp2_with ((with_reducible refine ag (kC (tv:=tv) (rest:=gj (.slice (some ⟨g1,0,none⟩) 2 c1) (.map (some A0.heap.size))) ?_ KE.zo) ?_);exact HB1.zo.exts ae;rintro e w' ⟨rfl,⟨x9,rfl⟩⟩)
 go_end0
 exact⟨rfl,_,_,_,HB1.zo.exts ae,afT.zo.exts ae,LM.zo.trans (On.exts ae)⟩
theorem KT(h:PS w pb tv 0 (gj (.slice none 0 0) (.map none)) T3):Calls prog 39 #[.pointer (some ⟨pb,0,none⟩)] w fun e w'=>e=.returned (.tuple #[])/\∃mb g c',PS w' pb tv 9 (gj (.slice (some ⟨g,0,none⟩) 1 c') (.map (some mb))) T3/\bL (fun b=>w.heap.size<=b/\b≠mb) aw w.heap.size 52 w' (.slice (some ⟨g,0,none⟩) 1 c') [zQ ⟨#[109,111,114,101]⟩ 5 ⟨0,⟨#[104,101,105,103,104,116]⟩,0,19⟩ ⟨1,⟨#[49,50]⟩,12,29⟩]/\On (fun b=>b≠pb) w w':=by
 have H:=aa h;have lp:=h.lt;have c5:=h.cell (i:=5) rfl;have hl:=aa (On.refl (fun b=>b≠pb) w);clear h;go_enter func39,ntmps39;go_wp2_with fail
 refine wp_loop_rounds 2 ?_;have K0:=aa (show T3[0]?=some ⟨0,⟨#[114,117,108,101]⟩,0,0⟩from rfl);rw[rounds_succ];go_wp2_with ((with_reducible refine ag (kC (tv:=tv) (rest:=gj (.slice none 0 0) (.map none)) ?_ K0.zo) ?_);exact H.zo.exts ae;rintro e w' ⟨rfl,⟨x0,rfl⟩⟩)
 with_reducible refine ag (FO (tv:=tv) (rest:=gj (.slice none 0 0) (.map none)) ?_ K0.zo 0 200 (by decide)) ?_
 ·exact H.zo.exts ae
 rintro e A0 ⟨rfl,ha0,Th⟩;have Oe:=aa ha0;have Ti:=aa ((On.exts (show af w (av _ _)from ae)).trans Th);have lz0:w.heap.size<=A0.heap.size:=Nat.le_trans hl.zo.size Ti.zo.size;clear ha0 Th c5;have lA:=Oe.zo.lt;go_wp2_with fail
 refine ag (OL (nt:=⟨0,⟨#[109,111,114,101]⟩,0,5⟩) (ft:=⟨0,⟨#[102,114,111,109]⟩,0,10⟩) (qt:=⟨1,⟨#[53]⟩,5,15⟩) (ct:=⟨2,⟨#[58]⟩,0,17⟩) (at':=⟨0,⟨#[104,101,105,103,104,116]⟩,0,19⟩) (lt:=⟨2,⟨#[60,61]⟩,0,26⟩) (bt:=⟨1,⟨#[49,50]⟩,12,29⟩) (st:=⟨2,⟨#[59]⟩,0,31⟩) Oe.zo (Er Oe.zo (t:=⟨0,⟨#[109,111,114,101]⟩,0,5⟩) rfl rfl) (bL.nil _ _ _ _ _) lp lz0 rfl (by decide) lA (fun h=>by cases h) rfl rfl rfl rfl rfl rfl (by decide) (by decide) rfl rfl rfl rfl rfl rfl rfl rfl rfl rfl rfl rfl rfl) ?_;rintro e B0 ⟨rfl,g0,c0,hb0,Tj,hm0,hlo0⟩;have HB0:=aa hb0;have WR:=aa Tj;have HM0:=aa hm0;have HL0:=aa ((hl.zo.trans Ti.zo).new2 hlo0 (fun b hb hl=>⟨hb,by omega,(fun h=>by cases h)⟩));have lp0:=HB0.zo.lt;have c5:=hb0.cell (i:=5) rfl;clear hb0 Tj hm0 hlo0;go_wp2_with fail
 have KE:=aa (show T3[9]?=some ⟨3,⟨#[]⟩,0,32⟩from rfl);rw[rounds_succ];go_wp2_with ((with_reducible refine ag (kC (tv:=tv) (rest:=gj (.slice (some ⟨g0,0,none⟩) 1 c0) (.map (some A0.heap.size))) ?_ KE.zo) ?_);exact HB0.zo.exts ae;rintro e w' ⟨rfl,⟨x9,rfl⟩⟩)
 go_end0
 exact⟨rfl,_,_,_,HB0.zo.exts ae,WR.zo.exts ae,HL0.zo.trans (On.exts ae)⟩
end
end
theorem Tk(p q:Addr)(w:World):CallsD prog 126 #[.pointer (some p),.pointer (some q)] .returning w fun e u' w'=>e=.returned (.tuple #[])/\u'=.returning/\w'=w:=by
 refine callsD_of_wpS func126 rfl fun c₀ cs hu=> ?_
 apply wpS_seq;apply wpS_region;simp[wpOpsS,go_sem,recoverD,hu,ntmps126,Exit.thenS];apply wpS_seq;apply wpS_region;simp[wpOpsS,go_sem,recoverD,hu,ntmps126,Exit.thenS];refine wpS_cond (t:=false) (by simp[Act.eval,Array.replicate]) ?_;simp only[Bool.false_eq_true,if_false];refine wpS_of_wp (wp_skip ?_);cases c₀;simp_all[bodyPostS,results,Tryz.results126]
theorem Yz{pb:Nat}{w:World}{Q:World->Prop}(lp:pb<w.heap.size)(hread:∀w1,af w w1->w1.heap.size=w.heap.size+2->Calls prog 39 #[.pointer (some ⟨pb,0,none⟩)] w1 fun e w'=>e=.returned (.tuple #[])/\On (fun b=>b≠pb) w1 w'/\Q w'):Calls prog 38 #[.pointer (some ⟨pb,0,none⟩),.func (.func 39) #[.pointer (some ⟨pb,0,none⟩)] #[]] w fun e w'=>e=.returned (.tuple #[.int .i64 0,.int .i64 0])/\∃w2,Q w2/\On (fun b=>b≠pb) w w2/\On (fun b=>b≠w.heap.size/\b≠w.heap.size+1) w2 w':=by
 have HR:=aa hread;have hmf:∀(fn:Fn)(first cap:Array Value)(w:World),(Instr.makeFunc fn first cap).run prog w=.ok (.func fn first cap) w:=fun _ _ _ _=>rfl
 clear hread;go_enter_defers func38,ntmps38
 go_wp2_with fail
 refine ag (HR.zo _ ae (by simp)) ?_;rintro e w2 ⟨rfl,ho,hq⟩;have hb1:=((Bx.new w [.int .i64 0] 3).exts (show af _ ((w.alloc (.cells #[.int .i64 0] 3)).alloc (.cells #[.int .i64 0] 56))from ae)).at ho (show w.heap.size≠pb by omega);have hb2:Bx w2 (w.heap.size+1) [.int .i64 0] 56:=(show Bx ((w.alloc (.cells #[.int .i64 0] 3)).alloc (.cells #[.int .i64 0] 56)) (w.heap.size+1) [.int .i64 0] 56 from Bx.mv rfl (by simp)).at ho (show w.heap.size+1≠pb by omega);have c1:=hb1.cell 0;have c2:=hb2.cell 0;have f1:=hb1.fz 0;have f2:=hb2.fz 0;simp only[List.getElem?_cons_zero]at c1 c2;have l1:=hb1.lt;have l2:=hb2.lt;have HQ:=aa hq;have HO:=aa ((On.exts (show af w ((w.alloc (.cells #[.int .i64 0] 3)).alloc (.cells #[.int .i64 0] 56))from ae)).trans ho);clear hq ho hb1 hb2;go_wp2;refine leaves_cons (f:=126) (args:=#[.pointer (some ⟨w.heap.size,0,none⟩),.pointer (some ⟨w.heap.size+1,0,none⟩)]) (by simp) (by simp[go_sem]) ?_;refine(Tk _ _ _).mono ?_;rintro e u' w'' ⟨rfl,rfl,rfl⟩;have hon:=((On.set w2 w.heap.size 0 (.int .i64 0)).mono (fun b(hb:b≠w.heap.size/\b≠w.heap.size+1)=>hb.1)).trans ((On.set (w2.setCell ⟨w.heap.size,0,none⟩ (.int .i64 0)) (w.heap.size+1) 0 (.int .i64 0)).mono fun b hb=>hb.2);simp[Leaves,settle,results,Tryz.results38,go_sem,c1,c2,l1,l2];exact⟨w2,HQ.zo,HO.zo,hon⟩
def yi:List Rule:= [zQ ⟨#[108,111,119]⟩ 0 ⟨0,⟨#[104,101,105,103,104,116]⟩,0,11⟩ ⟨1,⟨#[57]⟩,9,21⟩,zQ ⟨#[119,105,100,101]⟩ 0 ⟨1,⟨#[50]⟩,2,36⟩ ⟨0,⟨#[115,101,116,98,97,99,107]⟩,0,41⟩]
theorem Jl(w:World)(hg:Gl w)(hsg:qA w):Calls prog 15 #[.string WQ] w fun e w'=> ∃cs:zv,e=.returned (.tuple #[.agg cs.toArray,.int .i64 0,.int .i64 0])/\af w w'/\jg (fun b=>w.heap.size<=b) w' bq cs ⟨[],[],[],yi,[],[],[],0⟩/\∃g c',cs= [.slice none 0 0,.slice none 0 0,.slice none 0 0,.slice (some ⟨g,0,none⟩) 2 c',.slice none 0 0,.slice none 0 0,.slice none 0 0,.int .i64 0]/\w.heap.size<=g:=by
 have HG:=aa hg;have za:=aa hsg;have l2:2<w.heap.size:=by
  obtain⟨m,hm⟩:=hg;exact bP hm
 clear hg hsg;go_enter func15,ntmps15;go_wp2_with ((with_reducible refine ag (SQ WQ T1 _ (by decide) ?_ afQ) ?_);exact za.zo.exts ae;rintro e w' ⟨ao,c,rfl,⟨x1,rfl⟩,hsl⟩;(have HSL:=aa hsl);clear hsl)
 obtain⟨U,hU⟩:∃U,av (w.alloc (.cells #[.slice none 0 0,.slice none 0 0,.slice none 0 0,.slice none 0 0,.slice none 0 0,.slice none 0 0,.slice none 0 0,.int .i64 0] 30)) x1=U:=⟨_,rfl⟩;have hUs:w.heap.size+1+x1.bs.size=U.heap.size:=by rw[<-hU];simp
 have hxU:af w U:=by rw[<-hU];exact ae
 have hbR:Bx U w.heap.size [.slice none 0 0,.slice none 0 0,.slice none 0 0,.slice none 0 0,.slice none 0 0,.slice none 0 0,.slice none 0 0,.int .i64 0] 30:=by rw[<-hU];exact(Bx.new w _ 30).exts ae
 rw[hU,hUs];rw[hU]at HSL;clear hU hUs;have hup:af U (U.alloc (.cells #[.slice ao T1.length c,.int .i64 0,.slice none 0 0,.slice none 0 0,.slice none 0 0,.slice none 0 0,.slice none 0 0,.slice none 0 0,.slice none 0 0,.int .i64 0,.map none,.map none,.map none,.map none,.map none,.map none,.bool false] 116)):=ae;have HPS:Hid (PS (U.alloc (.cells #[.slice ao T1.length c,.int .i64 0,.slice none 0 0,.slice none 0 0,.slice none 0 0,.slice none 0 0,.slice none 0 0,.slice none 0 0,.slice none 0 0,.int .i64 0,.map none,.map none,.map none,.map none,.map none,.map none,.bool false] 116)) U.heap.size (.slice ao T1.length c) 0 (gj (.slice none 0 0) (.map none)) T1):=aa ⟨Bx.new U [.slice ao T1.length c,.int .i64 0,.slice none 0 0,.slice none 0 0,.slice none 0 0,.slice none 0 0,.slice none 0 0,.slice none 0 0,.slice none 0 0,.int .i64 0,.map none,.map none,.map none,.map none,.map none,.map none,.bool false] 116,⟨ao,c,rfl,fun w2 ho=>HSL.zo.exts (af.of_below (hup.below.trans (ho.below (fun b hb=>hb) (by simp))))⟩,fun w2 ho=>HG.zo.exts (hxU.trans (af.of_below (hup.below.trans (ho.below (fun b hb=>hb) (by simp))))),by decide⟩;have Ch:=aa (hbR.exts hup);have CV:=aa (hxU.trans hup);have lR:w.heap.size<U.heap.size:=hbR.lt;have hVs:(U.alloc (.cells #[.slice ao T1.length c,.int .i64 0,.slice none 0 0,.slice none 0 0,.slice none 0 0,.slice none 0 0,.slice none 0 0,.slice none 0 0,.slice none 0 0,.int .i64 0,.map none,.map none,.map none,.map none,.map none,.map none,.bool false] 116)).heap.size=U.heap.size+1:=by simp
 generalize U.alloc (.cells #[.slice ao T1.length c,.int .i64 0,.slice none 0 0,.slice none 0 0,.slice none 0 0,.slice none 0 0,.slice none 0 0,.slice none 0 0,.slice none 0 0,.int .i64 0,.map none,.map none,.map none,.map none,.map none,.map none,.bool false] 116)=V at*;clear hxU hbR hup;refine ag (Yz (Q:=fun w2=> ∃mb g c',PS w2 U.heap.size (.slice ao T1.length c) 14 (gj (.slice (some ⟨g,0,none⟩) 2 c') (.map (some mb))) T1/\bL (fun b=>V.heap.size+2<=b/\b≠mb) aw (V.heap.size+2) 52 w2 (.slice (some ⟨g,0,none⟩) 2 c') yi) (by omega) fun w1 he hs=>(KS (HPS.zo.exts he)).mono ?_) ?_
 ·rintro e w2 ⟨rfl,mb,g,c',h1,h2,h3⟩
  rw[hs]at h2;exact⟨rfl,h3,mb,g,c',h1,h2⟩
 rintro e w3 ⟨rfl,w2,⟨mb,g,c',h1,h2⟩,ho1,ho2⟩;have HP:=aa (h1.keep (ho2.mono fun b hb=>by omega));have HOW:=aa (h2.at (ho2.mono fun b hb=>by
  rcases hb with hb|hb
  ·have:=hb.1
   omega
  ·have:=(h2.lt hb).1
   omega))
 have KU:=aa ((Ch.zo.at ho1 (by omega)).at ho2 (by omega));have WT:=aa (show On (fun b=>b<U.heap.size) V w3 from(ho1.mono fun b hb=>by omega).trans (ho2.mono fun b hb=>by omega));have SI:(jf 30 ⟨U.heap.size,2,none⟩).run prog w3=.ok (.agg #[.slice none 0 0,.slice none 0 0,.slice none 0 0,.slice (some ⟨g,0,none⟩) 2 c',.slice none 0 0,.slice none 0 0,.slice none 0 0,.int .i64 0]) w3:=yz (cs:= [.slice none 0 0,.slice none 0 0,.slice none 0 0,.slice (some ⟨g,0,none⟩) 2 c',.slice none 0 0,.slice none 0 0,.slice none 0 0,.int .i64 0]) rfl fun j u hu=>by
  match j,hu with
  |0,hu=>(cases hu;exact HP.zo.cell (i:=2) rfl)
  |1,hu=>(cases hu;exact HP.zo.cell (i:=3) rfl)
  |2,hu=>(cases hu;exact HP.zo.cell (i:=4) rfl)
  |3,hu=>(cases hu;exact HP.zo.cell (i:=5) rfl)
  |4,hu=>(cases hu;exact HP.zo.cell (i:=6) rfl)
  |5,hu=>(cases hu;exact HP.zo.cell (i:=7) rfl)
  |6,hu=>(cases hu;exact HP.zo.cell (i:=8) rfl)
  |7,hu=>(cases hu;exact HP.zo.cell (i:=9) rfl)
 have ir:isRow w3 w.heap.size 8:=KU.zo.row.1;have lw:w.heap.size<w3.heap.size:=KU.zo.lt;clear h1 h2 ho1 ho2;go_wp2;have hs:=KU.zo.setRow [.slice none 0 0,.slice none 0 0,.slice none 0 0,.slice (some ⟨g,0,none⟩) 2 c',.slice none 0 0,.slice none 0 0,.slice none 0 0,.int .i64 0];have hon:On (fun b=>b<w.heap.size) w (w3.setRow w.heap.size #[.slice none 0 0,.slice none 0 0,.slice none 0 0,.slice (some ⟨g,0,none⟩) 2 c',.slice none 0 0,.slice none 0 0,.slice none 0 0,.int .i64 0]):=(On.exts CV.zo).trans ((WT.zo.mono fun b hb=>by omega).trans ((On.setRow _ _ _).mono fun b hb=>by omega));refine bodyPost_ret (v:=.tuple #[.agg #[.slice none 0 0,.slice none 0 0,.slice none 0 0,.slice (some ⟨g,0,none⟩) 2 c',.slice none 0 0,.slice none 0 0,.slice none 0 0,.int .i64 0],.int .i64 0,.int .i64 0]) (by have hc:=hs.cell;simp[results,go_sem,hc]) rfl ⟨[.slice none 0 0,.slice none 0 0,.slice none 0 0,.slice (some ⟨g,0,none⟩) 2 c',.slice none 0 0,.slice none 0 0,.slice none 0 0,.int .i64 0],rfl,af.of_below (hon.below (fun b hb=>hb) (Nat.le_refl _)),?_,g,c',rfl,by have:=(HOW.zo.lt (b:=g) rfl).1;omega⟩;have h3:=(HOW.zo.at ((On.setRow w3 w.heap.size #[.slice none 0 0,.slice none 0 0,.slice none 0 0,.slice (some ⟨g,0,none⟩) 2 c',.slice none 0 0,.slice none 0 0,.slice none 0 0,.int .i64 0]).mono fun b hb=>by
  rcases hb with hb|hb
  ·have:=hb.1
   omega
  ·have:=(HOW.zo.lt hb).1
   omega))
 intro w4 Ca;have h3:=(h3.at (Ca.mono fun b hb=>by
  rcases hb with hb|hb
  ·have:=hb.1
   omega
  ·have:=(h3.lt hb).1
   omega)).sl rfl
 exact⟨_,_,_,_,_,_,_,_,_,_,_,_,_,_,rfl,Sl.nil _ _,Sl.nil _ _,Sl.nil _ _,h3,Sl.nil _ _,Sl.nil _ _,Sl.nil _ _,by constructor<;>simp⟩
def KV:List Rule:= [zQ ⟨#[109,111,114,101]⟩ 5 ⟨0,⟨#[104,101,105,103,104,116]⟩,0,19⟩ ⟨1,⟨#[49,50]⟩,12,29⟩]
theorem Jm(w:World)(hg:Gl w)(hsg:qA w):Calls prog 15 #[.string Tg] w fun e w'=> ∃cs:zv,e=.returned (.tuple #[.agg cs.toArray,.int .i64 0,.int .i64 0])/\af w w'/\jg (fun b=>w.heap.size<=b) w' bq cs ⟨[],[],[],KV,[],[],[],0⟩/\∃g c',cs= [.slice none 0 0,.slice none 0 0,.slice none 0 0,.slice (some ⟨g,0,none⟩) 1 c',.slice none 0 0,.slice none 0 0,.slice none 0 0,.int .i64 0]/\w.heap.size<=g:=by
 have HG:=aa hg;have za:=aa hsg;have l2:2<w.heap.size:=by
  obtain⟨m,hm⟩:=hg;exact bP hm
 clear hg hsg;go_enter func15,ntmps15;go_wp2_with ((with_reducible refine ag (SQ Tg T3 _ (by decide) ?_ afS) ?_);exact za.zo.exts ae;rintro e w' ⟨ao,c,rfl,⟨x1,rfl⟩,hsl⟩;(have HSL:=aa hsl);clear hsl)
 obtain⟨U,hU⟩:∃U,av (w.alloc (.cells #[.slice none 0 0,.slice none 0 0,.slice none 0 0,.slice none 0 0,.slice none 0 0,.slice none 0 0,.slice none 0 0,.int .i64 0] 30)) x1=U:=⟨_,rfl⟩;have hUs:w.heap.size+1+x1.bs.size=U.heap.size:=by rw[<-hU];simp
 have hxU:af w U:=by rw[<-hU];exact ae
 have hbR:Bx U w.heap.size [.slice none 0 0,.slice none 0 0,.slice none 0 0,.slice none 0 0,.slice none 0 0,.slice none 0 0,.slice none 0 0,.int .i64 0] 30:=by rw[<-hU];exact(Bx.new w _ 30).exts ae
 rw[hU,hUs];rw[hU]at HSL;clear hU hUs;have hup:af U (U.alloc (.cells #[.slice ao T3.length c,.int .i64 0,.slice none 0 0,.slice none 0 0,.slice none 0 0,.slice none 0 0,.slice none 0 0,.slice none 0 0,.slice none 0 0,.int .i64 0,.map none,.map none,.map none,.map none,.map none,.map none,.bool false] 116)):=ae;have HPS:Hid (PS (U.alloc (.cells #[.slice ao T3.length c,.int .i64 0,.slice none 0 0,.slice none 0 0,.slice none 0 0,.slice none 0 0,.slice none 0 0,.slice none 0 0,.slice none 0 0,.int .i64 0,.map none,.map none,.map none,.map none,.map none,.map none,.bool false] 116)) U.heap.size (.slice ao T3.length c) 0 (gj (.slice none 0 0) (.map none)) T3):=aa ⟨Bx.new U [.slice ao T3.length c,.int .i64 0,.slice none 0 0,.slice none 0 0,.slice none 0 0,.slice none 0 0,.slice none 0 0,.slice none 0 0,.slice none 0 0,.int .i64 0,.map none,.map none,.map none,.map none,.map none,.map none,.bool false] 116,⟨ao,c,rfl,fun w2 ho=>HSL.zo.exts (af.of_below (hup.below.trans (ho.below (fun b hb=>hb) (by simp))))⟩,fun w2 ho=>HG.zo.exts (hxU.trans (af.of_below (hup.below.trans (ho.below (fun b hb=>hb) (by simp))))),by decide⟩;have Ch:=aa (hbR.exts hup);have CV:=aa (hxU.trans hup);have lR:w.heap.size<U.heap.size:=hbR.lt;have hVs:(U.alloc (.cells #[.slice ao T3.length c,.int .i64 0,.slice none 0 0,.slice none 0 0,.slice none 0 0,.slice none 0 0,.slice none 0 0,.slice none 0 0,.slice none 0 0,.int .i64 0,.map none,.map none,.map none,.map none,.map none,.map none,.bool false] 116)).heap.size=U.heap.size+1:=by simp
 generalize U.alloc (.cells #[.slice ao T3.length c,.int .i64 0,.slice none 0 0,.slice none 0 0,.slice none 0 0,.slice none 0 0,.slice none 0 0,.slice none 0 0,.slice none 0 0,.int .i64 0,.map none,.map none,.map none,.map none,.map none,.map none,.bool false] 116)=V at*;clear hxU hbR hup;refine ag (Yz (Q:=fun w2=> ∃mb g c',PS w2 U.heap.size (.slice ao T3.length c) 9 (gj (.slice (some ⟨g,0,none⟩) 1 c') (.map (some mb))) T3/\bL (fun b=>V.heap.size+2<=b/\b≠mb) aw (V.heap.size+2) 52 w2 (.slice (some ⟨g,0,none⟩) 1 c') KV) (by omega) fun w1 he hs=>(KT (HPS.zo.exts he)).mono ?_) ?_
 ·rintro e w2 ⟨rfl,mb,g,c',h1,h2,h3⟩
  rw[hs]at h2;exact⟨rfl,h3,mb,g,c',h1,h2⟩
 rintro e w3 ⟨rfl,w2,⟨mb,g,c',h1,h2⟩,ho1,ho2⟩;have HP:=aa (h1.keep (ho2.mono fun b hb=>by omega));have HOW:=aa (h2.at (ho2.mono fun b hb=>by
  rcases hb with hb|hb
  ·have:=hb.1
   omega
  ·have:=(h2.lt hb).1
   omega))
 have KU:=aa ((Ch.zo.at ho1 (by omega)).at ho2 (by omega));have WT:=aa (show On (fun b=>b<U.heap.size) V w3 from(ho1.mono fun b hb=>by omega).trans (ho2.mono fun b hb=>by omega));have SI:(jf 30 ⟨U.heap.size,2,none⟩).run prog w3=.ok (.agg #[.slice none 0 0,.slice none 0 0,.slice none 0 0,.slice (some ⟨g,0,none⟩) 1 c',.slice none 0 0,.slice none 0 0,.slice none 0 0,.int .i64 0]) w3:=yz (cs:= [.slice none 0 0,.slice none 0 0,.slice none 0 0,.slice (some ⟨g,0,none⟩) 1 c',.slice none 0 0,.slice none 0 0,.slice none 0 0,.int .i64 0]) rfl fun j u hu=>by
  match j,hu with
  |0,hu=>(cases hu;exact HP.zo.cell (i:=2) rfl)
  |1,hu=>(cases hu;exact HP.zo.cell (i:=3) rfl)
  |2,hu=>(cases hu;exact HP.zo.cell (i:=4) rfl)
  |3,hu=>(cases hu;exact HP.zo.cell (i:=5) rfl)
  |4,hu=>(cases hu;exact HP.zo.cell (i:=6) rfl)
  |5,hu=>(cases hu;exact HP.zo.cell (i:=7) rfl)
  |6,hu=>(cases hu;exact HP.zo.cell (i:=8) rfl)
  |7,hu=>(cases hu;exact HP.zo.cell (i:=9) rfl)
 have ir:isRow w3 w.heap.size 8:=KU.zo.row.1;have lw:w.heap.size<w3.heap.size:=KU.zo.lt;clear h1 h2 ho1 ho2;go_wp2;have hs:=KU.zo.setRow [.slice none 0 0,.slice none 0 0,.slice none 0 0,.slice (some ⟨g,0,none⟩) 1 c',.slice none 0 0,.slice none 0 0,.slice none 0 0,.int .i64 0];have hon:On (fun b=>b<w.heap.size) w (w3.setRow w.heap.size #[.slice none 0 0,.slice none 0 0,.slice none 0 0,.slice (some ⟨g,0,none⟩) 1 c',.slice none 0 0,.slice none 0 0,.slice none 0 0,.int .i64 0]):=(On.exts CV.zo).trans ((WT.zo.mono fun b hb=>by omega).trans ((On.setRow _ _ _).mono fun b hb=>by omega));refine bodyPost_ret (v:=.tuple #[.agg #[.slice none 0 0,.slice none 0 0,.slice none 0 0,.slice (some ⟨g,0,none⟩) 1 c',.slice none 0 0,.slice none 0 0,.slice none 0 0,.int .i64 0],.int .i64 0,.int .i64 0]) (by have hc:=hs.cell;simp[results,go_sem,hc]) rfl ⟨[.slice none 0 0,.slice none 0 0,.slice none 0 0,.slice (some ⟨g,0,none⟩) 1 c',.slice none 0 0,.slice none 0 0,.slice none 0 0,.int .i64 0],rfl,af.of_below (hon.below (fun b hb=>hb) (Nat.le_refl _)),?_,g,c',rfl,by have:=(HOW.zo.lt (b:=g) rfl).1;omega⟩;have h3:=(HOW.zo.at ((On.setRow w3 w.heap.size #[.slice none 0 0,.slice none 0 0,.slice none 0 0,.slice (some ⟨g,0,none⟩) 1 c',.slice none 0 0,.slice none 0 0,.slice none 0 0,.int .i64 0]).mono fun b hb=>by
  rcases hb with hb|hb
  ·have:=hb.1
   omega
  ·have:=(HOW.zo.lt hb).1
   omega))
 intro w4 Ca;have h3:=(h3.at (Ca.mono fun b hb=>by
  rcases hb with hb|hb
  ·have:=hb.1
   omega
  ·have:=(h3.lt hb).1
   omega)).sl rfl
 exact⟨_,_,_,_,_,_,_,_,_,_,_,_,_,_,rfl,Sl.nil _ _,Sl.nil _ _,Sl.nil _ _,h3,Sl.nil _ _,Sl.nil _ _,Sl.nil _ _,by constructor<;>simp⟩
theorem TU{w:World}{b o:Nat}{cs:zv}{t:TypeId}{d:TypeDesc}(hc:∀j u,cs[j]?=some u->w.cell? ⟨b,o+j,none⟩=some u)(p k:Nat)(hk:p+k<=cs.length)(hu:prog.underlying t=some d)(hd:d.isRow=true)(hi:(prog.info? t).map (fun i=>i.size)=some k):(jf t ⟨b,o+p,none⟩).run prog w=.ok (.agg ((cs.drop p).take k).toArray) w:=by
 refine run_loadVar_mid w b (o+p) t ((cs.drop p).take k) d (fun j u hj=> ?_) hu hd (by rw[show((cs.drop p).take k).length=k by simp;omega];exact hi);rw[List.getElem?_take]at hj;split at hj
 ·rw[List.getElem?_drop]at hj
  rw[Nat.add_assoc];exact hc _ _ hj
 ·cases hj
theorem Sl.cel{T:Type}{L:Lay T}{w:World}{ao:Option Addr}{n c:Nat}{l:List T}(h:Sl L w ao n c l){i:Nat}{d:T}(hd:l[i]?=some d):
 ∃b off cs,ao=some ⟨b,off,none⟩/\b<w.heap.size/\L.R w cs d/\∀w',af w w'->∀j u,cs[j]?=some u->w'.cell? ⟨b,off+i*L.k+j,none⟩=some u:=by
 obtain⟨b,off,cs,rfl,hb,hR,hc⟩:=h.at hd;exact⟨b,off,cs,rfl,hb,hR,fun w' he j u hu=>af.cell he (by rw[Nat.add_assoc];exact hc j u hu)⟩
def aaG(l:List fN):Prop:=l.length<=5/\∀(i:Nat)(d:fN),l[i]?=some d->oN d.rule/\d.corners.length<=12
theorem aaH(ao:Option Addr)(n c:Nat)(l:List fN)(w:World)(h:Sl cY w ao n c l):Calls prog 7 #[.slice ao n c] w (fy (aaG l) w):=by
 have H:=aa h;have HL:=aa h.1;have hm:=h.nle;unfold maxLen at hm;clear h;go_enter func7,ntmps7;go_wp2;go_loopw [3] (fun i wr=> ∃(k:Nat),k<=n/\k<=6/\i=.int .i64 k/\af w wr/\∀(j:Nat)(d:fN),j<k->l[j]?=some d->oN d.rule/\d.corners.length<=12) (fun i _=>n - (intOf i).toNat)
 case atStart=>exact⟨0,by omega,by omega,rfl,af.refl _,fun j d hj=>by omega⟩
 case round=>
  obtain⟨k,hk,hk6,rfl,⟨y,rfl⟩,hall⟩:=hrel;have ey:=aa hall;clear hall;by_cases hlt:k<n
  ·by_cases ah2:k<6
   ·obtain⟨d,hd⟩:=H.zo.ex hlt
    obtain⟨b,off,cs,rfl,lb,hR,hc⟩:=H.zo.cel hd;have HD:=aa hd;obtain⟨fP,fQ,gT,gU,gy,gz,eO,eP,aV,aW,rfl,q0,q1,q2,q3,q4,q5,q6,q7,q8,q9,q10,q11,q12,q13,pV,JP,q16,ME,MF,LC,JQ⟩:=hR;have hld:∀w',af w w'->(jf 52 ⟨b,off+k*30+4,none⟩).run prog w'=.ok (.agg #[.string d.rule.name,.slice fP d.rule.zones.length fQ,.slice gT d.rule.exc.length gU,.int .i64 d.rule.start,.int .i64 d.rule.stop,.int .i64 d.rule.bM,.bool d.rule.vary,.int .i64 d.rule.kind,.int .i64 d.rule.test.op,.int .i64 d.rule.test.num,.string d.rule.test.str,.string d.rule.test.key,.slice gy d.rule.test.args.length gz,.int .i64 d.rule.ah.side,.int .i64 d.rule.ah.base,.int .i64 d.rule.ah.num,.int .i64 d.rule.ah.den,.int .i64 d.rule.uses,.int .i64 d.rule.other,.int .i64 d.rule.n]) w':=fun w' he=>TU (hc w' he) 4 20 (show 4+20<=30 by decide) underlying52 rfl (iq.s (t:=52))
    have hlb:∀w',af w w'->(jf 48 ⟨b,off+k*30+24,none⟩).run prog w'=.ok (.agg #[.int .i64 d.body.op,.int .i64 d.body.num,.string d.body.str,.string d.body.key,.slice eO d.body.args.length eP]) w':=fun w' he=>TU (hc w' he) 24 5 (show 24+5<=30 by decide) underlying48 rfl (iq.s (t:=48))
    have c29:=hc w (af.refl _) 29 _ rfl;simp only[cY]at c29;have HR:=aa (show(aw).R w [.string d.rule.name,.slice fP d.rule.zones.length fQ,.slice gT d.rule.exc.length gU,.int .i64 d.rule.start,.int .i64 d.rule.stop,.int .i64 d.rule.bM,.bool d.rule.vary,.int .i64 d.rule.kind,.int .i64 d.rule.test.op,.int .i64 d.rule.test.num,.string d.rule.test.str,.string d.rule.test.key,.slice gy d.rule.test.args.length gz,.int .i64 d.rule.ah.side,.int .i64 d.rule.ah.base,.int .i64 d.rule.ah.num,.int .i64 d.rule.ah.den,.int .i64 d.rule.uses,.int .i64 d.rule.other,.int .i64 d.rule.n] d.rule from⟨fP,fQ,gT,gU,gy,gz,rfl,q4,q5,q6,q7,q8,q9,q10,q11,q12,q13,pV,JP,q16,ME,MF⟩);have HB:=aa LC;have m1:=JQ.nle;unfold maxLen at m1;clear hd hc q0 q1 q2 q3 q4 q5 q6 q7 q8 q9 q10 q11 q12 q13 pV JP q16 ME MF LC JQ;go_wp2_with (first|((with_reducible refine(KB d.rule _ _ ((aw).exts HR.zo ae)).mono ?_);rintro e' w' ⟨b,rfl,hb,x9,rfl⟩;(have HBB:=aa hb);clear hb)|((with_reducible refine(oM d.body _ _ _ (HB.zo.exts ae).shut).mono ?_);rintro e' w' ⟨m,rfl,x8,rfl⟩))
    all_goals first
     |(go_ret;exact fy.no rfl ae)
     |skip
    refine⟨⟨k+1,by omega,by omega,by go_num,ae,fun j x hj hx=> ?_⟩,?_⟩
    ·rcases Nat.lt_or_ge j k with h1|h1
     ·exact ey.zo j x h1 hx
     ·obtain rfl:j=k:=by omega
      have e:=HD.zo;rw[hx]at e;cases e;exact⟨HBB.zo (by first|assumption|rfl|simp_all),by omega⟩
    ·simp[intOf];omega
   ·have q:decide ((k:Int)<6)=false:=jE (by omega)
    have q2:decide ((n:Int)<=5)=false:=jE (by omega);go_wp2;go_ret;exact fy.no rfl ae
  ·obtain rfl:k=n:=by omega
   by_cases h5:k<=5
   ·have q2:decide ((k:Int)<=5)=true:=zdt (by omega)
    go_wp2;go_ret;exact fy.of true rfl (fun _=>⟨by rw[HL.zo];exact h5,fun i d hd=>ey.zo i d (by have:=(bw hd).1;rw[HL.zo]at this;exact this) hd⟩) ae
   ·have q2:decide ((k:Int)<=5)=false:=jE (by omega)
    go_wp2;go_ret;exact fy.no rfl ae
structure aaI(t:mD)(d:rW):Prop where
 plan:Mj t.plan
 land:t.land.length<=3
 dH:t.dH.length<=3
 built:t.built.length<=4
 phases:d.phases.length<=3
 lot:∀(i:Nat)(x:Lot),t.land[i]?=some x->x.area.length<=4
 ease:∀(i:Nat)(x:uO),t.dH[i]?=some x->x.area.length<=4
 phase:∀(i:Nat)(x:Phase),d.phases[i]?=some x->x.cA.length<=3/\x.gives.length<=3
theorem ad3(t:mD)(d:rW)(cs cs2:zv)(w:World)(h:(gg).R w cs t)(h2:(e6).R w cs2 d):Calls prog 6 #[.agg cs.toArray,.agg cs2.toArray] w (fy (aaI t d) w):=by
 obtain⟨aO,aP,ax,ay,aG,aH,aB,aC,aQ,aR,aI,aJ,bk,bm,cG,cH,bQ,bU,cI,cJ,bY,bZ,cL,cM,rfl,q0,q1,q2,q3,q4,q5,q6,q7,q8,q9,q10,q11,q12⟩:=h;obtain⟨cQ,cR,rfl,r0,r1⟩:=h2;have HP:=aa (show(bq).R w [.slice aO t.plan.defs.length aP,.slice ax t.plan.tables.length ay,.slice aG t.plan.zones.length aH,.slice aB t.plan.rules.length aC,.slice aQ t.plan.caps.length aR,.slice aI t.plan.views.length aJ,.slice bk t.plan.eA.length bm,.int .i64 t.plan.hours] t.plan from⟨aO,aP,ax,ay,aG,aH,aB,aC,aQ,aR,aI,aJ,bk,bm,rfl,q0,q1,q2,q3,q4,q5,q6,q7⟩);have YI:=aa q8;have ad4:=q8.nle;have TV:=aa q9;have aaJ:=q9.nle;have agz:=aa q11;have aaK:=q11.nle;have Mv:=aa r1;have Xx:=r1.nle;unfold maxLen at ad4 aaJ aaK Xx;clear q0 q1 q2 q3 q4 q5 q6 q7 q8 q9 q10 q11 q12 r0 r1;go_enter func6,ntmps6;go_wp2_with fail
 go_loopw [5] (fun i wr=> ∃(k:Nat),k<=t.land.length/\k<=4/\i=.int .i64 k/\af ((w.alloc (.cells #[.slice aO t.plan.defs.length aP,.slice ax t.plan.tables.length ay,.slice aG t.plan.zones.length aH,.slice aB t.plan.rules.length aC,.slice aQ t.plan.caps.length aR,.slice aI t.plan.views.length aJ,.slice bk t.plan.eA.length bm,.int .i64 t.plan.hours,.slice cG t.land.length cH,.slice bQ t.dH.length bU,.slice cI t.wins.length cJ,.slice bY t.built.length bZ,.slice cL t.base.length cM] 37)).alloc (.cells #[.int .i64 d.lot,.slice cQ d.phases.length cR] 40)) wr/\∀(j:Nat)(x:Lot),j<k->t.land[j]?=some x->x.area.length<=4) (fun i _=>t.land.length - (intOf i).toNat)
 case atStart=>exact⟨0,by omega,by omega,rfl,ae,fun j x hj=>by omega⟩
 case round=>
  obtain⟨k,hk,hk4,rfl,⟨y0,rfl⟩,hall⟩:=hrel;have ey:=aa hall;clear hall;by_cases hlt:k<t.land.length/\k<4
  ·obtain⟨hlt1,hlt2⟩:=hlt
   obtain⟨x,hd⟩:=YI.zo.ex hlt1;have HD:=aa hd;obtain⟨b,off,TW,TX,aeH,aeI,rfl,lb,c0,c1,c2,c3,s0,s1,s2,s3⟩:=U9 YI.zo hd;have m2:=s2.nle;have m3:=s3.nle;unfold maxLen at m2 m3;clear hd s0 s1 s2 s3;go_wp2_with fail
   all_goals first
    |(go_ret;exact fy.no rfl ae)
    |skip
   refine⟨⟨k+1,by omega,by omega,by go_num,ae,fun j z hj hx=> ?_⟩,?_⟩
   ·rcases Nat.lt_or_ge j k with h1|h1
    ·exact ey.zo j z h1 hx
    ·obtain rfl:j=k:=by omega
     have e:=HD.zo;rw[hx]at e;cases e;omega
   ·simp[intOf];omega
  ·have Oe:=aa (show t.land.length<=3->∀(i:Nat)(x:Lot),t.land[i]?=some x->x.area.length<=4 from fun hl i x hd=>ey.zo i x (by have:=(bw hd).1;omega) hd)
   have K5:=aa (show k<t.land.length->decide ((k:Int)<4)=false from fun h=>jE (by omega));by_cases hk2:k<t.land.length
   all_goals first|(have hk3:=K5.zo hk2;go_wp2_with fail)|go_wp2_with fail
   all_goals
    go_loopw [6] (fun i wr=> ∃(k:Nat),k<=t.dH.length/\k<=4/\i=.int .i64 k/\af ((w.alloc (.cells #[.slice aO t.plan.defs.length aP,.slice ax t.plan.tables.length ay,.slice aG t.plan.zones.length aH,.slice aB t.plan.rules.length aC,.slice aQ t.plan.caps.length aR,.slice aI t.plan.views.length aJ,.slice bk t.plan.eA.length bm,.int .i64 t.plan.hours,.slice cG t.land.length cH,.slice bQ t.dH.length bU,.slice cI t.wins.length cJ,.slice bY t.built.length bZ,.slice cL t.base.length cM] 37)).alloc (.cells #[.int .i64 d.lot,.slice cQ d.phases.length cR] 40)) wr/\∀(j:Nat)(x:uO),j<k->t.dH[j]?=some x->x.area.length<=4) (fun i _=>t.dH.length - (intOf i).toNat)
    case atStart=>exact⟨0,by omega,by omega,rfl,ae,fun j x hj=>by omega⟩
    case round=>
     obtain⟨k,hk,hk4,rfl,⟨y1,rfl⟩,hall⟩:=hrel;have ey:=aa hall;clear hall;by_cases hlt:k<t.dH.length/\k<4
     ·obtain⟨hlt1,hlt2⟩:=hlt
      obtain⟨x,hd⟩:=TV.zo.ex hlt1;have HD:=aa hd;obtain⟨b,off,TW,TX,rfl,lb,c0,c1,c2,s0,s1,s2⟩:=PQ TV.zo hd;have m1:=s1.nle;unfold maxLen at m1;clear hd s0 s1 s2;go_wp2_with fail
      all_goals first
       |(go_ret;exact fy.no rfl ae)
       |skip
      refine⟨⟨k+1,by omega,by omega,by go_num,ae,fun j z hj hx=> ?_⟩,?_⟩
      ·rcases Nat.lt_or_ge j k with h1|h1
       ·exact ey.zo j z h1 hx
       ·obtain rfl:j=k:=by omega
        have e:=HD.zo;rw[hx]at e;cases e;omega
      ·simp[intOf];omega
     ·have HA1:=aa (show t.dH.length<=3->∀(i:Nat)(x:uO),t.dH[i]?=some x->x.area.length<=4 from fun hl i x hd=>ey.zo i x (by have:=(bw hd).1;omega) hd)
      have K5:=aa (show k<t.dH.length->decide ((k:Int)<4)=false from fun h=>jE (by omega));by_cases hk2:k<t.dH.length
      all_goals first|(have hk3:=K5.zo hk2;go_wp2_with fail)|go_wp2_with fail
      all_goals
       go_loopw [7] (fun i wr=> ∃(k:Nat),k<=d.phases.length/\k<=4/\i=.int .i64 k/\af ((w.alloc (.cells #[.slice aO t.plan.defs.length aP,.slice ax t.plan.tables.length ay,.slice aG t.plan.zones.length aH,.slice aB t.plan.rules.length aC,.slice aQ t.plan.caps.length aR,.slice aI t.plan.views.length aJ,.slice bk t.plan.eA.length bm,.int .i64 t.plan.hours,.slice cG t.land.length cH,.slice bQ t.dH.length bU,.slice cI t.wins.length cJ,.slice bY t.built.length bZ,.slice cL t.base.length cM] 37)).alloc (.cells #[.int .i64 d.lot,.slice cQ d.phases.length cR] 40)) wr/\∀(j:Nat)(x:Phase),j<k->d.phases[j]?=some x->x.cA.length<=3/\x.gives.length<=3) (fun i _=>d.phases.length - (intOf i).toNat)
       case atStart=>exact⟨0,by omega,by omega,rfl,ae,fun j x hj=>by omega⟩
       case round=>
        obtain⟨k,hk,hk4,rfl,⟨y2,rfl⟩,hall⟩:=hrel;have ey:=aa hall;clear hall;by_cases hlt:k<d.phases.length/\k<4
        ·obtain⟨hlt1,hlt2⟩:=hlt
         obtain⟨x,hd⟩:=Mv.zo.ex hlt1;have HD:=aa hd;obtain⟨b,off,YJ,YK,abM,abN,rfl,lb,c0,c1,s0,s1⟩:=MD Mv.zo hd;have m0:=s0.nle;have m1:=s1.nle;unfold maxLen at m0 m1;clear hd s0 s1;go_wp2_with fail
         all_goals first
          |(go_ret;exact fy.no rfl ae)
          |skip
         refine⟨⟨k+1,by omega,by omega,by go_num,ae,fun j z hj hx=> ?_⟩,?_⟩
         ·rcases Nat.lt_or_ge j k with h1|h1
          ·exact ey.zo j z h1 hx
          ·obtain rfl:j=k:=by omega
           have e:=HD.zo;rw[hx]at e;cases e;omega
         ·simp[intOf];omega
        ·have HA2:=aa (show d.phases.length<=3->∀(i:Nat)(x:Phase),d.phases[i]?=some x->x.cA.length<=3/\x.gives.length<=3 from fun hl i x hd=>ey.zo i x (by have:=(bw hd).1;omega) hd)
         have K5:=aa (show k<d.phases.length->decide ((k:Int)<4)=false from fun h=>jE (by omega));by_cases hk2:k<d.phases.length
         all_goals first|(have hk3:=K5.zo hk2;go_wp2_with fail)|go_wp2_with fail
         all_goals
          by_cases l0:t.land.length<=3
          ·have e0:decide ((t.land.length:Int)<=3)=true:=zdt (by omega)
           by_cases l1:t.dH.length<=3
           ·have e1:decide ((t.dH.length:Int)<=3)=true:=zdt (by omega)
            by_cases l2:t.built.length<=4
            ·have e2:decide ((t.built.length:Int)<=4)=true:=zdt (by omega)
             by_cases l3:d.phases.length<=3
             ·have e3:decide ((d.phases.length:Int)<=3)=true:=zdt (by omega)
              go_wp2_with ((with_reducible refine(IE t.plan _ _ ((bq).exts HP.zo ae)).mono ?_);rintro e' w' ⟨b,rfl,hb,x9,rfl⟩;(have HB:=aa hb);clear hb)
              all_goals first
               |(go_ret;exact fy.no rfl ae)
               |(go_ret;exact fy.of _ rfl (fun hb=>⟨HB.zo (by first|exact hb|rfl|simp_all),l0,l1,l2,l3,Oe.zo l0,HA1.zo l1,HA2.zo l3⟩) ae)
             ·have e3:decide ((d.phases.length:Int)<=3)=false:=jE (by omega)
              go_wp2_with ((with_reducible refine(IE t.plan _ _ ((bq).exts HP.zo ae)).mono ?_);rintro e' w' ⟨b,rfl,hb,x9,rfl⟩;(have HB:=aa hb);clear hb)
              all_goals(go_ret;exact fy.no rfl ae)
            ·have e2:decide ((t.built.length:Int)<=4)=false:=jE (by omega)
             go_wp2_with ((with_reducible refine(IE t.plan _ _ ((bq).exts HP.zo ae)).mono ?_);rintro e' w' ⟨b,rfl,hb,x9,rfl⟩;(have HB:=aa hb);clear hb)
             all_goals(go_ret;exact fy.no rfl ae)
           ·have e1:decide ((t.dH.length:Int)<=3)=false:=jE (by omega)
            go_wp2_with ((with_reducible refine(IE t.plan _ _ ((bq).exts HP.zo ae)).mono ?_);rintro e' w' ⟨b,rfl,hb,x9,rfl⟩;(have HB:=aa hb);clear hb)
            all_goals(go_ret;exact fy.no rfl ae)
          ·have e0:decide ((t.land.length:Int)<=3)=false:=jE (by omega)
           go_wp2_with ((with_reducible refine(IE t.plan _ _ ((bq).exts HP.zo ae)).mono ?_);rintro e' w' ⟨b,rfl,hb,x9,rfl⟩;(have HB:=aa hb);clear hb)
           all_goals(go_ret;exact fy.no rfl ae)
end Go.Proofs.YtomgpelfmgkknaaGreatDoor
