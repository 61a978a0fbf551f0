/- Texts joined. -/
import Derived.Test.YtkabjcanamcbeaaGreatDoorP5
set_option linter.unusedVariables false
set_option linter.unusedSimpArgs false
namespace Go.Ar
open Go Go.Vc Go.Proofs
variable {σ u u':Hp}{F B P Q:Rg}{L:LayH}{H H':Hw}{t k n pb:Nat}{A:AR}{Y:Lay}{x:LayT}{g:Th}{c:Cls}{l:Li}{cs:List Value}
set_option maxRecDepth 8000 in
theorem WjM (hso:HY)(h:HH σ F L H)(ht:t<H.ths.length)(p:Ph)(hp:WgG H t p)(hlen:∀g,H.ths[t]?=some g->g.hands.length<=900){R:Value->Int->Int->Hp->Prop}(hR:Wo7 σ F L (Wt H t p) R) :
 ZB.c (aW L.p) (t:Int) (phV (some p)) σ R:=by
 refine ZB.o ?_;unfold ZB.v;have hlen':∀g,H.ths[t]?=some g->g.hands.length<=1000:=λg hg=>by have:=hlen g hg;omega
 refine nw (cs:=[.int .i64 0,.int .i64 0]) λv hz e i=>?_;have K1:=(HK.start h).box e hz;obtain⟨x,g,E,hg⟩:=h.th ht;have hlen:=hlen g hg;have htg:=GE hg;have hol:=own_lt h.s t;obtain⟨A,hA⟩:∃A,H.ars[H.own t]?=some A:=⟨_,gGe hol⟩;have hAe:=Wij hA;obtain⟨Y,hY,_,_⟩:=h.ar hA;refine nilP (K1.h.hd.rS rfl ?_);refine Wmr K1.h.trowS K1.h.s.ts E hg (d:=0) O rfl λtb0 to0 ha _=>?_;have hS1:AtH (λu=>u=v) L H.tb:=λm hm=>by cases hm;exact⟨_,L.ts,H,K1.h,rfl⟩
 refine⟨λu=>u=v,rfl,nilP (hS1.arow (WjJ K1.h t ⟨rfl,K1.h.rA hY ⟨rfl,?_⟩⟩))⟩;refine Wbo (λw=>∃P ts',HK F σ (λb=>False\/b=σ.size) w P {L with ts:=ts'} (Wt H t p).1/\Blk w σ.size [.int .i64 0,.int .i64 0]/\(Wt H t p).2=(none,0,0)) (λw ⟨P,ts',K,hbw,V⟩=>?_) λJ hJ=>?_
 ·refine ret2 (n:=σ.size) K (.inr rfl) hbw λZ K'=>?_;have:=hR Z ts' K'.e (K'.fin h);rw[V]at this;exact this
 cases p with
 | take k=>
  obtain⟨hk,hy9⟩:k<H.tb.length/\∀y l,Ka (H.cls k) ((H.thr t).li k)=(some y,l)->I63 y:=hp;obtain⟨c,hc⟩:∃c,H.tb[k]?=some c:=⟨_,gGe hk⟩;have hll:=h.lsL E hg;obtain⟨l,hl⟩:∃l,g.ls[k]?=some l:=⟨_,gGe (by rw[hll];exact hk)⟩;have hce:=V9 hc;have hle:=Wj6 hl;rw[hce,htg,hle]at hy9;refine ye1 (nw (cs:=[.int .i64 0]) λv5 M W N=>?_);have K5:=K1.box W M;refine N.s0 aA λv6 o6 hb6=>?_;have K6:=K5.own o6 (.inr rfl);have C:=Ws o6 (W.blk i id) O;refine⟨λu=>u=v6,rfl,nilP ⟨some ⟨x.c.p,0,none⟩,λu U=>by cases U;exact K6.h.tc E hg ha O rfl,⟨(k:Int),λu U=>by cases U;rw[add_lit,hb6.cell];rfl,?_⟩⟩⟩;refine Wlw K6.h E hg hc hl λv7 ts7 X h7=>?_;have K7:=K6.to X h7 λb _ i=>i;have hb7:=K6.keepB X hb6 (.inr rfl);have B:=K6.keepB X C (.inl (.inr rfl));cases htk:Ka c l with
  | mk o l'=>
  rw[htk]at h7 K7;cases o with
  | some y=>
   have V:Wt H t (.take k)=(VF (H.setLs t g (g.ls.set k l')) y (c.size:Int) (k:Int),none,y,0):=by
    simp only[Wt,hce,htg,hle,htk,ZL hg];rfl
   rw[V]at hR;have hS2:AtH (λu=>(∃P ts H',HH u P {L with ts:=ts} H'/\H'.tb=H.tb)/\Blk u v.size [.int .i64 (k:Int)]) L H.tb:=λm hm=>hm.1;refine ifT rfl ⟨λu=>(∃P ts H',HH u P {L with ts:=ts} H'/\H'.tb=H.tb)/\Blk u v.size [.int .i64 (k:Int)],⟨⟨_,_,_,K7.h,rfl⟩,hb7⟩,nilP (hS2.tab ⟨(k:Int),λu U=>by rw[add_lit,U.2.cell];rfl,?_⟩)⟩;refine AtH.rC (L:={L with ts:=ts7}) (H:=H.setLs t g (g.ls.set k l')) hS2 K7.h hc ⟨(k:Int),λu U=>by rw[add_lit,U.2.cell];rfl,?_⟩;refine Wcv K7.h y (c.size:Int) (k:Int) (hy9 y l' htk) λv8 e8 h8=>?_;have K8:=K7.to e8 h8 λb _ i=>.inl i;refine⟨⟨⟨_,_,_,h8,rfl⟩,K7.keepB e8 hb7 (.inr rfl)⟩,?_⟩;exact ret2 (n:=σ.size) K8 (.inl (.inr rfl)) (K7.keepB e8 B (.inl (.inr rfl))) λZ K'=>hR Z ts7 K'.e (K'.fin h)
  | none=>
   have V:Wt H t (.take k)=(H.setLs t g (g.ls.set k l'),some (.transfer k (Wav c l')),0,0):=by
    simp only[Wt,hce,htg,hle,htk,ZL hg];rfl
   rw[V]at hR;have htlt:=(gSi.1 hg).1;have hklt:=(gSi.1 hl).1;have hg7:(H.setLs t g (g.ls.set k l')).ths[t]?=some {g with ls:=g.ls.set k l'}:=by simp[Hw.setLs,htlt]
   obtain⟨x7,g7,hx7,_⟩:=K7.h.th (t:=t) (by simp[Hw.setLs,htlt]);have hl7:({g with ls:=g.ls.set k l'}:Th).ls[k]?=some l':=by simp[hklt]
   refine ifF rfl ⟨λu=>u=v7,rfl,nilP ⟨some ⟨x7.c.p,0,none⟩,λu U=>by cases U;exact K7.h.tc hx7 hg7 ha O rfl,⟨(k:Int),λu U=>by cases U;rw[add_lit,hb7.cell];rfl,?_⟩⟩⟩;refine WjU K7.h hx7 hg7 hc hl7 λv8 ts8 e8 h8=>?_;have K8:=K7.to e8 h8 λb _ i=>i;refine(K7.keepB e8 hb7 (.inr rfl)).rI rfl ?_;exact ret2 (n:=σ.size) K8 (.inl (.inr rfl)) (K7.keepB e8 B (.inl (.inr rfl))) λZ K'=>hR Z ts8 K'.e (K'.fin h)
 | transfer k w=>
  obtain⟨hk,hne0⟩:k<H.tb.length/\(Z6 (H.arn t) (k:Int)=0->YL (H.arn t) (k:Int)≠[]):=hp;rw[hAe]at hne0;obtain⟨c,hc⟩:∃c,H.tb[k]?=some c:=⟨_,gGe hk⟩;have hce:=V9 hc;refine nx1 aB (ye2 (nw (cs:=[.int .i64 0,.int .i64 0]) λv5 M W N=>?_));have K5:=K1.box W M;refine N.s1 aA λv5b o5 b5=>b5.s1 aA λv6 o6 b6=>?_;have K6:=(K5.own o5 (.inr rfl)).own o6 (.inr rfl);have S:σ.size≠v.size:=by omega
  have C:=Ws o6 (Ws o5 (W.blk i id) S) S;refine Wbo (λu=>(∃P',HK F σ (λb=>(False\/b=σ.size)\/b=v.size) u P' L H)/\Blk u σ.size [.int .i64 0,.int .i64 0]/\Blk u v.size [.int .i64 (k:Int),.int .i64 (w:Int)]/\Wt H t (.transfer k w)=(H,some (.central k w),0,0)) (λu ⟨⟨P',K⟩,hbw,hbx,V⟩=>?_) λJ1 hJ1=>?_
  ·rw[V]at hR;exact hbx.rI rfl (hbx.rI rfl (ret2 (n:=σ.size) K (.inl (.inr rfl)) hbw λZ K'=>hR Z L.ts K'.e (K'.fin h)))
  ·refine b6.rI rfl (nilP (K6.h.hd.rS rfl (b6.rI rfl (WaK K6.h.tabS hc (d:=2) O ?_))));simp only[zA (show ¬(2=0) by omega),zA (show ¬(2=1) by omega)];refine iff_ (λheq=>b6.rI rfl ?_) λhne'=>hJ1 v6 ⟨⟨_,K6⟩,C,b6,?_⟩
   ·have heq':w=c.batch:=by simp only[zZ]at heq;omega
    refine GT K6.h hA hY (k:Int) λs v7 Q X hQ hs7 hcap h7=>?_;have K7:=K6.to X h7 λb _ i=>i.1;have b7:=K6.keepB X b6 (.inr rfl);have B:=K6.keepB X C (.inl (.inr rfl));refine iff_ (λh0=>b7.rI rfl ?_) λhn0=>?_
    ·have h0':Z6 A (k:Int)=0:=by simpa using h0
     have V:Wt H t (.transfer k w)=(QV (H.setA (H.own t) (ZQ A (k:Int))) t k (YL A (k:Int)),some .fill,0,0):=by
      simp only[Wt,hce,hAe,heq',h0',zS]
     rw[V]at hR;refine G4 K7.h (t:=t) ht k hs7 hcap (hne0 h0') (λb _ z E=>E.1.2 z) (K6.h.o.sub hQ) (λz=>K6.h.o2 (hQ _ z)) hlen' λv8 ts8 e8 h8=>?_;have K8:=K7.toX e8 h8 λb i z=>by
      rcases z with z|z
      ·exact z.imp id .inl
      ·exact .inr (.inr ⟨(K6.p b (hQ b z)).1,(K6.p b (hQ b z)).2.1⟩)
     exact ret2 (n:=σ.size) K8 (.inl (.inr rfl)) (K7.keepB e8 B (.inl (.inr rfl))) λZ K'=>hR Z ts8 K'.e (K'.fin h)
    ·have hn0':Z6 A (k:Int)≠0:=by simpa using hn0
     have hsame:ZQ A (k:Int)=A:=by unfold ZQ;rw[zA hn0']
     rw[hsame,Wc1 hA]at K7;refine hJ1 v7 ⟨⟨_,K7⟩,B,b7,?_⟩;simp only[Wt,hce,hAe,heq',zA hn0',zS]
   ·have hne2:w≠c.batch:=λe=>by rw[e]at hne';simp at hne'
    simp only[Wt,hce,zA hne2]
 | central k w=>
  refine nx1 aB (nx2 aB (ye2 (nw (cs:=[.int .i64 0,.int .i64 0]) λv5 M W N=>?_)));have K5:=K1.box W M;refine N.s1 aA λv5b o5 b5=>b5.s1 aA λv6 o6 b6=>?_;have K6:=(K5.own o5 (.inr rfl)).own o6 (.inr rfl);have S:σ.size≠v.size:=by omega
  have C:=Ws o6 (Ws o5 (W.blk i id) S) S;refine b6.rI rfl (b6.rI rfl (WaN K6.h hA hY (k:Int) (w:Int) λs v7 Q X hQ hs7 h7=>?_));have K7:=K6.to X h7 λb _ i=>i.1;have b7:=K6.keepB X b6 (.inr rfl);have B:=K6.keepB X C (.inl (.inr rfl));have hsl:s.len=(Yt A (k:Int) (w:Int)).length:=by have:=hs7.1;simp[ints]at this;omega
  by_cases hemp:Yt A (k:Int) (w:Int)=[]
  ·have V:Wt H t (.central k w)=(H.setA (H.own t) (YQ A (k:Int) (w:Int)),some (.grow k w),0,0):=by
    simp only[Wt,hAe,zB hemp]
   rw[V]at hR;refine ifDF (by rw[hsl,hemp];simp) (b7.rI rfl (b7.rI rfl ?_));exact ret2 (n:=σ.size) K7 (.inl (.inr rfl)) B λZ K'=>hR Z L.ts K'.e (K'.fin h)
  ·have V:Wt H t (.central k w)=(QV (H.setA (H.own t) (YQ A (k:Int) (w:Int))) t k ((Yt A (k:Int) (w:Int)).map λ(x:Nat)=>(x:Int)),some .fill,0,0):=by
    simp only[Wt,hAe,zA hemp]
   rw[V]at hR;have hpos:=zCG.2 hemp;refine ifDT (by rw[hsl];omega) (b7.rI rfl ?_);have hs7':=RowR.slR hs7;rw[WoH]at hs7';have hz6:=K6.e.1;refine G4 K7.h (t:=t) ht k hs7' (RowR.capO hs7) (by simpa using hemp) (λb _ z E=>E.1.2 z) (K6.o.1.sub λb i=>by have:=hQ b i;omega) (λz=>K6.o.2 (by have:=hQ _ z;omega)) hlen' λv8 ts8 e8 h8=>?_;have K8:=K7.toX e8 h8 λb i z=>by
    rcases z with z|z
    ·exact z.imp id .inl
    ·have:=hQ b z;exact .inr (.inr ⟨.inr O,λhB=>by have:=(K6.b b hB).2;omega⟩)
   exact ret2 (n:=σ.size) K8 (.inl (.inr rfl)) (K7.keepB e8 B (.inl (.inr rfl))) λZ K'=>hR Z ts8 K'.e (K'.fin h)
 | grow k w=>
  refine nx1 aB (nx2 aB (nx2 aB (ye2 (nw (cs:=[.int .i64 0,.int .i64 0]) λv5 M W N=>?_))));have K5:=K1.box W M;refine N.s1 aA λv5b o5 b5=>b5.s1 aA λv6 o6 b6=>?_;have K6:=(K5.own o5 (.inr rfl)).own o6 (.inr rfl);have S:σ.size≠v.size:=by omega
  have C:=Ws o6 (Ws o5 (W.blk i id) S) S;refine b6.rI rfl (WhO K6.h hA hY (k:Int) λv7 X h7=>?_);have K7:=K6.to X h7 λb _ i=>i;have b7:=K6.keepB X b6 (.inr rfl);have B:=K6.keepB X C (.inl (.inr rfl));refine iff_ (λhn0=>?_) λh0=>?_
  ·have hn0':KP A H.sp (k:Int)≠0:=by simpa using hn0
   have V:Wt H t (.grow k w)=({H.setA (H.own t) (growS A H.sp (k:Int)).1 with sp:=(growS A H.sp (k:Int)).2},none,0,KP A H.sp (k:Int)):=by
    simp only[Wt,hAe,zA hn0']
   rw[V]at hR;exact ret2 (n:=σ.size) K7 (.inl (.inr rfl)) B λZ K'=>hR Z L.ts K'.e (K'.fin h)
  ·have h0':KP A H.sp (k:Int)=0:=by simpa using h0
   have V:Wt H t (.grow k w)=({H.setA (H.own t) (growS A H.sp (k:Int)).1 with sp:=(growS A H.sp (k:Int)).2},some (.central k w),0,0):=by
    simp only[Wt,hAe,zB h0']
   rw[V]at hR;refine b7.rI rfl (b7.rI rfl ?_);exact ret2 (n:=σ.size) K7 (.inl (.inr rfl)) B λZ K'=>hR Z L.ts K'.e (K'.fin h)
 | fill=>
  obtain⟨k,y,ys,r,hh,hk,hy9,hfit⟩:∃k x xs r,(H.thr t).hands=(k,x::xs)::r/\k<H.tb.length/\I63 x/\((H.thr t).li k).os.length+xs.length<=256:=hp;rw[htg]at hh hfit;obtain⟨c,hc⟩:∃c,H.tb[k]?=some c:=⟨_,gGe hk⟩;have hll:=h.lsL E hg;obtain⟨l,hl⟩:∃l,g.ls[k]?=some l:=⟨_,gGe (by rw[hll];exact hk)⟩;have hce:=V9 hc;have hle:=Wj6 hl;rw[hle]at hfit;refine nx1 aB (nx2 aB (nx2 aB (nx2 aB (ye0 (nw (cs:=[]) λv5 M W N=>?_)))));have K5:=K1.box W M;have hbv5:=W.blk i id;obtain⟨G,D,hG,hD,hd,aa,hr,hput⟩:=K5.h.stN (λb i=>(K5.p b i).2.2) E hg (λ_=>False) (λb _ _ z=>z) (K5.o.1.sub λb i=>i.elim) (λz=>z);rw[hh]at aa;obtain⟨so,ps,Dn,hrow,hso1,hcap,hBr,hDn,hj,S,hxne⟩:=aa.uncons;have hz5':=K5.e.1;have hsol:so.len=ys.length+1:=by have:=hso1.1;simp[Wv]at this;omega
  refine nilP (ldS (K5.h.tc E hg ha (d:=1) O rfl) (WoG (RowO.slR hrow) λa ha0 ha1=>ldI ha0 (ldS ha1 ?_)));refine nw (cs:=[.int .i64 0,.slice none 0 0]) λv43 hz43 e43 hb43=>hb43.s1 aA λv44 o44 b44=>b44.s1 aA λv45 o45 b45=>?_;have e45:Ext0 v5 v45:=(e43.only o44 (.inr (zD _))).only o45 (.inr (zD _));have hz45:v5.size<v45.size:=b45.lt;refine nilP (hput v45 ⟨none,0,0⟩ [] (λ_=>False) (Ext0.to e45) (λb i=>i.elim) (BtR.nil _ _ _) ha λv46 e46 h46=>?_);have hz46:=e46.1;have e546:Ext _ v5 v46:=(Ext0.to e45).trans (e46.sub hD);have K46:=K5.to e546 h46 λb _ z=>by
   rcases z with z|z
   ·exact .inl z.1
   ·exact z.1.elim
  have hbv46:=K5.keepB e546 hbv5 (.inl (.inr rfl));have b46:Blk v46 v5.size _:=e46.blk b45 λE=>by have:=(K5.p _ (hD _ E)).2.2;omega
  have K46b:=K46.addB (B':=λb=>b=v5.size) λb i=>⟨O,O,λE=>by
   subst i;rcases E.1 with h1|h1
   ·have:=(K5.p _ h1.1).2.2;omega
   ·exact h1.1⟩
  have hso46:=aH.keep (aH.keep0 (aH.cut hso1) e45) e46 λb _ i E=>hd b (hDn b i.1.1) E;have hXn:∀b,(Dn b/\InB so b)/\b<v5.size->¬Cut (λb=>(Cut F σ b/\¬G b)\/False/\b<v45.size) v46 b:=λb i E=>by
   rcases E.1 with h1|h1
   ·exact h1.2 (hDn b i.1.1)
   ·exact h1.1
  have hg46:({H with ths:=H.ths.set t {g with hands:=[]}}:Hw).ths[t]?=some {g with hands:=[]}:=by simp[ht]
  have hx46:(L.ts.set t {x with h:=⟨none,0,0⟩})[t]?=some {x with h:=⟨none,0,0⟩}:=zL (gSi.1 E).1;refine nilP (ldP (K46b.h.tc hx46 hg46 ha (d:=0) O rfl) (b46.rI rfl (b46.rS (a:=so.a) (n:=so.len) (c:=so.cap) rfl (slc (lo:=1) (by show 1<=so.len;omega) hcap (zD _) ?_))));have hsub:=SlR.sub hso46 (lo:=1) (hi:=so.len) (mx:=so.cap) O (zD _) hcap;have hsx:((Wv (y::ys)).drop (1*1)).take ((so.len-1)*1)=Wv ys:=by
   rw[zAZ (by simp[Wv];omega)];rfl
  rw[hsx]at hsub;have hl46:({g with hands:=[]}:Th).ls[k]?=some l:=hl;refine WjS K46b.h hx46 hg46 hc hl46 hsub hXn hfit λv47 ts47 e47 h47=>?_;have K47:=K46b.to e47 h47 λb _ i=>i;have hso47:=aH.keep hso46 e47 λb _ i E=>hXn b i E;have b47:=K46b.keepB e47 b46 (.inr rfl);have hbv47:=K46b.keepB e47 hbv46 (.inl (.inl (.inr rfl)));have V:Wt H t .fill=(VF {H with ths:=H.ths.set t {g with ls:=g.ls.set k (addL ys.reverse l),hands:=[]}} y (c.size:Int) (k:Int),none,y,0):=by
   simp only[Wt,htg,hh,ZL hg,hle,hce]
  rw[V]at hR;obtain⟨b0,o0,ha0',hc0⟩:=hso47.cell (j:=0) (v:=.int .i64 y) rfl;have hS4:AtH (λu=>((∃P ts H',HH u P {L with ts:=ts} H'/\H'.tb=H.tb)/\Blk u v5.size [.int .i64 (k:Int),.slice so.a so.len so.cap])/\cell u ⟨b0,o0+0,none⟩=some (.int .i64 y)) L H.tb:=λm hm=>hm.1.1;refine⟨λu=>((∃P ts H',HH u P {L with ts:=ts} H'/\H'.tb=H.tb)/\Blk u v5.size [.int .i64 (k:Int),.slice so.a so.len so.cap])/\cell u ⟨b0,o0+0,none⟩=some (.int .i64 y),⟨⟨⟨_,_,_,K47.h,rfl⟩,b47⟩,hc0⟩,⟨so,λu U=>by rw[add_lit,U.1.2.cell];rfl,?_⟩⟩;refine ix0 ha0' O ⟨y,λu U=>U.2,nilP (hS4.tab ⟨(k:Int),λu U=>by rw[add_lit,U.1.2.cell];rfl,?_⟩)⟩;refine AtH.rC (L:={L with ts:=ts47}) (H:=Hw.setLs {H with ths:=H.ths.set t {g with hands:=[]}} t {g with hands:=[]} (g.ls.set k (addL ys.reverse l))) hS4 K47.h hc ⟨(k:Int),λu U=>by rw[add_lit,U.1.2.cell];rfl,?_⟩;refine Wcv K47.h y (c.size:Int) (k:Int) hy9 λv48 e48 h48=>?_;have K48:=K47.to e48 h48 λb _ i=>.inl i;have hz4747:=e47.1;have hso48:=aH.keep hso47 e48 λb _ i E=>by
   rcases E.1 with h1|h1
   ·exact hXn b i h1
   ·have:=i.2;omega
  refine⟨⟨⟨⟨_,_,_,h48,rfl⟩,K47.keepB e48 b47 (.inr rfl)⟩,?_⟩,?_⟩
  ·obtain⟨b1,o1,ha1',hc1⟩:=hso48.cell (j:=0) (v:=.int .i64 y) rfl;rw[ha0']at ha1';cases ha1';exact hc1
  ·have K49:=K48;simp only[Hw.setLs,zBO]at K49;exact ret2 (n:=σ.size) K49 (.inl (.inl (.inr rfl))) (K47.keepB e48 hbv47 (.inl (.inl (.inr rfl)))) λZ K'=>hR Z ts47 K'.e (K'.fin h)
 | large m=>
  have hp:Z5 (H.arn t) H.sp (m:Int) 1<=1000000:=hp;rw[hAe]at hp;refine nx1 aB (nx2 aB (nx2 aB (nx2 aB (nx0 aB (ye1 (nw (cs:=[.int .i64 0]) λv5 M W N=>?_))))));have K5:=K1.box W M;refine N.s0 aA λv6 o6 b6=>?_;have K6:=K5.own o6 (.inr rfl);have C:=Ws o6 (W.blk i id) O;refine b6.rI rfl (Wbm K6.h hA hY (m:Int) 1 λv7 X h7=>?_);have K7:=K6.to X h7 λb _ i=>i;have b7:=K6.keepB X b6 (.inr rfl);have B:=K6.keepB X C (.inl (.inr rfl));refine iff_ (λhn0=>?_) λh0=>?_
  ·have hn0':Qz A H.sp (m:Int) 1≠0:=by simpa using hn0
   have V:Wt H t (.large m)=({H.setA (H.own t) (takeAS A H.sp (m:Int) 1).1 with sp:=(takeAS A H.sp (m:Int) 1).2},none,0,Qz A H.sp (m:Int) 1):=by
    simp only[Wt,hAe,zA hn0']
   rw[V]at hR;exact ret2 (n:=σ.size) K7 (.inl (.inr rfl)) B λZ K'=>hR Z L.ts K'.e (K'.fin h)
  ·have h0':Qz A H.sp (m:Int) 1=0:=by simpa using h0
   have hm:m<=64:=by
    unfold Qz at h0';split at h0'
    ·rename_i hpo;simp only[Kc,zF,zT]at hpo;omega
    ·omega
   have V:Wt H t (.large m)=(VF {H.setA (H.own t) (takeAS A H.sp (m:Int) 1).1 with sp:=(takeAS A H.sp (m:Int) 1).2} ((Z5 A H.sp (m:Int) 1*256:Nat):Int) ((m*256:Nat):Int) (-1),none,((Z5 A H.sp (m:Int) 1*256:Nat):Int),0):=by
    simp only[Wt,hAe,zB h0']
   rw[V]at hR;refine arN (m:=Z5 A H.sp (m:Int) 1*256) O O (b7.rI rfl (arN (m:=m*256) O O ?_));refine Wcv K7.h _ _ _ O λv8 e8 h8=>?_;have K8:=K7.to e8 h8 λb _ i=>.inl i;exact ret2 (n:=σ.size) K8 (.inl (.inr rfl)) (K7.keepB e8 B (.inl (.inr rfl))) λZ K'=>hR Z L.ts K'.e (K'.fin h)
 | find x=>
  obtain⟨hx9,hro,hlv⟩:I63 x/\(mget H.live x=none->∀A∈H.ars,RunsOk A)/\∀b,mget H.live x=some b->0<=x:=hp;refine nx1 aB (nx2 aB (nx2 aB (nx2 aB (nx0 aB (nx1 aB (ye1 (nw (cs:=[.int .i64 0]) λv5 M W N=>?_)))))));have K5:=K1.box W M;refine N.s0 aA λv6 o6 b6=>?_;have K6:=K5.own o6 (.inr rfl);have C:=Ws o6 (W.blk i id) O;refine b6.rI rfl (WkL K6.h ht x hx9 hro hlen' hlv λv7 ts7 X h7=>?_);have K7:=K6.to X h7 λb _ i=>i;have B:=K6.keepB X C (.inl (.inr rfl));exact ret2 (n:=σ.size) K7 (.inl (.inr rfl)) B λZ K'=>hR Z ts7 K'.e (K'.fin h)
 | put k y=>
  obtain⟨hk,hne0⟩:k<H.tb.length/\(H.thr t).hands≠[]:=hp;rw[htg]at hne0;obtain⟨c,hc⟩:∃c,H.tb[k]?=some c:=⟨_,gGe hk⟩;have hll:=h.lsL E hg;obtain⟨l,hl⟩:∃l,g.ls[k]?=some l:=⟨_,gGe (by rw[hll];exact hk)⟩;have hce:=V9 hc;have hle:=Wj6 hl;refine nx1 aB (nx2 aB (nx2 aB (nx2 aB (nx0 aB (nx1 aB (nx1 aB (ye2 (nw (cs:=[.int .i64 0,.int .i64 0]) λv5 M W N=>?_))))))));have K5:=K1.box W M;refine N.s1 aA λv5b o5 b5=>b5.s1 aA λv6 o6 b6=>?_;have K6:=(K5.own o5 (.inr rfl)).own o6 (.inr rfl);have S:σ.size≠v.size:=by omega
  have C:=Ws o6 (Ws o5 (W.blk i id) S) S;generalize hgg:(if(putL c y l).1=[]then({g with ls:=g.ls.set k (putL c y l).2}:Th)else{g with ls:=g.ls.set k (putL c y l).2,hands:=g.hands++[(k,(putL c y l).1)]})=g2
  have hg2n:g2.hands≠[]/\g2.hands.length<=901:=by
   rw[←hgg];split
   ·exact⟨hne0,by simp;omega⟩
   ·exact⟨by simp,by simp;omega⟩
  refine Wbo (λw=>∃P ts',HK F σ (λb=>(False\/b=σ.size)\/b=v.size) w P {L with ts:=ts'} {H with ths:=H.ths.set t g2}/\Blk w σ.size [.int .i64 0,.int .i64 0]) (λw ⟨P,ts2,K,hbw⟩=>?_) λJ2 hJ2=>?_
  ·have hg3:({H with ths:=H.ths.set t g2}:Hw).ths[t]?=some g2:=by simp[ht]
   obtain⟨x2,_,hx2,_⟩:=K.h.th (t:=t) (by simpa using ht);obtain⟨G,D,hG,hD,hd,aa,hr,hput⟩:=K.h.stN (λb i=>(K.p b i).2.2) hx2 hg3 (λ_=>False) (λb _ _ z=>z) (K.o.1.sub λb i=>i.elim) (λz=>z);have hbl:=aa.len;have hbc:=aa.cap;obtain⟨b0,r0,hbr⟩:∃b r,g2.hands=b::r:=by
    cases hh:g2.hands with
    | nil=>exact absurd hh hg2n.1
    | cons b r=>exact⟨b,r,rfl⟩
   have hdr:g2.hands.drop 1=r0:=by rw[hbr];rfl
   rw[hbr]at aa;have hpos:1<=x2.h.len:=by rw[hbl,hbr];simp
   refine nilP (ldS (K.h.tc hx2 hg3 ha (d:=1) O rfl) ?_);refine slc (lo:=1) hpos hbc (zD _) ?_;refine nilP (hput w _ _ G (Ext.refl _ _) (λb i=>.inl i) aa.drop1 ha λw1 e1 h1=>?_);have e1':=e1.sub hD;have K1b:=K.to e1' h1 λb _ z=>by
    rcases z with z|z
    ·exact .inl z.1
    ·exact .inl (hG b z.1)
   have hbw1:=K.keepB e1' hbw (.inl (.inr rfl));have K3:=K1b;simp only[zBO]at K3;generalize hg3':({g2 with hands:=r0}:Th)=g3 at K3;have hl3:g3.hands=r0/\g3.ls=g2.ls:=by rw[←hg3'];exact⟨rfl,rfl⟩
   have hr0:r0.length<=900:=by have:=hg2n.2;rw[hbr]at this;simp at this;omega
   have hg3e:({H with ths:=H.ths.set t g3}:Hw).ths[t]?=some g3:=by simp[ht]
   have hpe:putH H t k y=(if H.cf.budget<Qt H.tb g3.ls then{H with ths:=H.ths.set t {g3 with ls:=Q8 KJ H.tb g3.ls,hands:=g3.hands++Kb KJ H.tb g3.ls}}else{H with ths:=H.ths.set t g3}):=by
    have e2:(if(putL c y l).1=[]then H.setT t λh=>h.setL k (putL c y l).2 else QV (H.setT t λh=>h.setL k (putL c y l).2) t k (putL c y l).1) = {H with ths:=H.ths.set t g2}:=by
     rw[←hgg];split
     ·rw[ZL hg];rfl
     ·rw[ZL hg];unfold QV Hw.setT;simp only;rw[KZ (t:=g.setL k (putL c y l).2) (by simp[ht]),zBO];rfl
    have e3:({H with ths:=H.ths.set t g2}:Hw).setT t (λh=>{h with hands:=h.hands.drop 1}) = {H with ths:=H.ths.set t g3}:=by
     rw[ZL hg3];simp only[zBO,hdr,hg3']
    unfold putH;simp only[hce,htg,hle,e2,e3,GE hg3e,ZL hg3e,zBO]
   have hx3:(ts2.set t {x2 with h:=⟨if x2.h.cap=1 then x2.h.a else x2.h.a.map (·.add (1*2)),x2.h.len-1,x2.h.cap-1⟩})[t]?=some {x2 with h:=⟨if x2.h.cap=1 then x2.h.a else x2.h.a.map (·.add (1*2)),x2.h.len-1,x2.h.cap-1⟩}:=zL (gSi.1 hx2).1
   generalize hx3':({x2 with h:=⟨if x2.h.cap=1 then x2.h.a else x2.h.a.map (·.add (1*2)),x2.h.len-1,x2.h.cap-1⟩}:LayT)=x3 at hx3 K3
   generalize ts2.set t x3=ts3 at hx3 K3;refine Wbo (λw=>∃P ts',HK F σ (λb=>(False\/b=σ.size)\/b=v.size) w P {L with ts:=ts'} (putH H t k y)/\Blk w σ.size [.int .i64 0,.int .i64 0]) (λw ⟨P,ts',K,hbw⟩=>?_) λJ3 hJ3=>?_
   ·have V:Wt H t (.put k y)=(putH H t k y,retH (putH H t k y) t,0,0):=rfl;rw[V]at hR;refine V0 K.h (t:=t) ?_ ?_
    ·rw[hpe];split<;>simpa using ht
    ·exact ret2 (n:=σ.size) K (.inl (.inr rfl)) hbw λZ K'=>hR Z ts' K'.e (K'.fin h)
   ·refine nilP (ldP (K3.h.tc hx3 hg3e ha (d:=0) O rfl) ?_);refine WlF K3.h hx3 hg3e λv10 e10=>?_;have K10:=K3.fr e10;have hbw10:=e10.blk hbw1 id;refine ifD (λhov=>?_) λhno=>hJ3 v10 ⟨_,ts3,by rw[hpe,zA hno];exact K10,hbw10⟩;refine⟨λu=>cell u (Addr.add ⟨tb0,to0+3*t,none⟩ 1)=some (.slice x3.h.a x3.h.len x3.h.cap)/\cell u (Addr.add ⟨tb0,to0+3*t,none⟩ 0)=some (.pointer (some ⟨x3.c.p,0,none⟩)),⟨K10.h.tc hx3 hg3e ha (d:=1) O rfl,K10.h.tc hx3 hg3e ha (d:=0) O rfl⟩,nilP ⟨x3.h,λu U=>U.1,nilP ⟨some ⟨x3.c.p,0,none⟩,λu U=>U.2,?_⟩⟩⟩;refine Wdy hso K10.h hx3 hg3e λv11 s Q e11 hQ hB h11=>?_;have K11:=K10.to e11 h11 λb _ i=>i.1;have hbw11:=K10.keepB e11 hbw10 (.inl (.inr rfl));have hg11:(Hw.setLs {H with ths:=H.ths.set t g3} t g3 (Q8 KJ H.tb g3.ls)).ths[t]?=some {g3 with ls:=Q8 KJ H.tb g3.ls}:=by simp[Hw.setLs,ht]
    refine⟨⟨K11.h.tc hx3 hg11 ha (d:=1) O rfl,K11.h.tc hx3 hg11 ha (d:=0) O rfl⟩,?_⟩;have hz0:=K10.e.1;obtain⟨G,D,hG,hD,hd,aa,hr,hput⟩:=K11.h.stN (λb i=>i.2) hx3 hg11 (λb=>Q b\/v11.size<=b) (λb i hP z=>z.elim (λz=>hP.1.2 z) λz=>O) (K10.o.1.sub λb i=>i.elim (λi=>by have:=hQ b i;omega) λi=>by have:=K11.e.1;omega) (λz=>K10.o.2 (z.elim (λi=>by have:=hQ _ i;omega) λi=>by have:=K11.e.1;omega));refine BtR.app aa hB (λb hg z=>(hG b hg).1.2 z) ?_ λs' v12 e12 hB12=>?_
    ·have:=Wax KJ H.tb g3.ls;have:H.tb.length<=40:=K3.h.tb40;simp only[hl3.1];omega
    have hcell:∀{d:Nat} {w:Value},d<3->(thV (x3,({g3 with ls:=Q8 KJ H.tb g3.ls}:Th)))[d]?=some w->cell v12 (Addr.add ⟨tb0,to0+3*t,none⟩ d)=some w:=λhd3 hv=>by
     obtain⟨b',o',ha',hc'⟩:=Ur (hr v12 e12) hx3 hg11 hd3 hv;rw[ha]at ha';cases ha';rw[add_lit,zCF];exact hc'
    refine⟨⟨hcell (d:=1) O rfl,hcell (d:=0) O rfl⟩,nilP (hput v12 s' _ _ e12 (λb i=>i.imp id id) hB12 ha λv13 e13 h13=>?_)⟩;have e13':=(e12.sub hG).trans (e13.sub hD);have K13:=K11.toX e13' h13 λb i z=>by
     rcases z with z|z
     ·exact .inl z.1
     ·rcases z.1 with h1|h1|h1
      ·exact .inl (hG b h1)
      ·have:=hQ b h1;exact .inr (.inr ⟨.inr O,λhB=>by have:=(K10.b b hB).2;omega⟩)
      ·exact .inr (.inl h1)
    have hbw13:=K11.keepB e13' hbw11 (.inl (.inr rfl));have K14:=K13;simp only[Hw.setLs,zBO]at K14;have hpe':=hpe;rw[zB hov]at hpe';rw[hpe']at hJ3;exact hJ3 v13 ⟨_,_,K14,hbw13⟩
  ·refine⟨λu=>u=v6,rfl,nilP ⟨some ⟨x.c.p,0,none⟩,λu U=>by cases U;exact K6.h.tc E hg ha (d:=0) O rfl,⟨(k:Int),λu U=>by cases U;rw[add_lit,b6.cell];rfl,⟨y,λu U=>by cases U;rw[add_lit,b6.cell];rfl,?_⟩⟩⟩⟩;refine Wnz K6.h E hg hc hl y λv7 ts7 s ee Q X hQ hs7 h7=>?_;have K7:=K6.to X h7 λb _ i=>i.1;have b7:=K6.keepB X b6 (.inr rfl);have B:=K6.keepB X C (.inl (.inr rfl));have hsl:s.len=(putL c y l).1.length:=by have:=hs7.1;simp[Wv]at this;omega
   by_cases hemp:(putL c y l).1=[]
   ·rw[zB hemp]at hgg;rw[←hgg]at hJ2;exact ifDF (by rw[hsl,hemp];simp) (hJ2 v7 ⟨_,ts7,K7,B⟩)
   ·rw[zA hemp]at hgg;have hpos:=zCG.2 hemp;have hz6:=K6.e.1;refine ifDT (by rw[hsl];omega) (b7.rI rfl ?_);refine G4 K7.h (t:=t) (by simpa[Hw.setLs]using ht) k (RowR.slR hs7) (RowR.capO hs7) hemp (λb _ z E=>E.1.2 z) (K6.o.1.sub λb i=>by have:=hQ b i;omega) (λz=>K6.o.2 (by have:=hQ _ z;omega)) (λg' hg'=>?_) λv8 ts8 e8 h8=>?_
    ·have:(H.setLs t g (g.ls.set k (putL c y l).2)).ths[t]?=some {g with ls:=g.ls.set k (putL c y l).2}:=by simp[Hw.setLs,ht]
     rw[this]at hg';cases hg';simp only;omega
    ·have K8:=K7.toX e8 h8 λb i z=>by
      rcases z with z|z
      ·exact z.imp id .inl
      ·have:=hQ b z;exact .inr (.inr ⟨.inr O,λhB=>by have:=(K6.b b hB).2;omega⟩)
     have e9:QV (H.setLs t g (g.ls.set k (putL c y l).2)) t k (putL c y l).1 = {H with ths:=H.ths.set t g2}:=by
      rw[←hgg];unfold QV Hw.setT Hw.setLs;simp only;rw[KZ (t:={g with ls:=g.ls.set k (putL c y l).2}) (by simp[ht]),zBO]
     rw[e9]at K8;exact hJ2 v8 ⟨_,ts8,K8,K7.keepB e8 B (.inl (.inr rfl))⟩
 | back=>
  obtain⟨k,xs,r,hh,hxs,hxl⟩:∃k xs r,(H.thr t).hands=(k,xs)::r/\(∀x∈xs,I63 x/\0<=YJ H.ars x)/\xs.length<=1000000:=hp;rw[htg]at hh;refine nx1 aB (nx2 aB (nx2 aB (nx2 aB (nx0 aB (nx1 aB (nx1 aB (nx2 aB (ye0 (nw (cs:=[]) λv5 M W N=>?_)))))))));have K5:=K1.box W M;have hbv5:=W.blk i id;obtain⟨G,D,hG,hD,hd,aa,hr,hput⟩:=K5.h.stN (λb i=>(K5.p b i).2.2) E hg (λb=>v5.size<=b) (λb i _ z=>O) K5.h.newN.1 K5.h.newN.2;have hbl:=aa.len;have hbc:=aa.cap;rw[hh]at aa;obtain⟨so,ps,Dn,hrow,hso1,hcap,hBr,hDn,hj,S,hxne⟩:=aa.uncons;have hz5':=K5.e.1;refine nilP (ldS (K5.h.tc E hg ha (d:=1) O rfl) (WoG (RowO.slR hrow) λa ha0 ha1=>ldI ha0 (ldS ha1 ?_)));refine nw (cs:=[.int .i64 0,.slice none 0 0]) λv81 hz81 e81 hb81=>hb81.s1 aA λv82 o82 b82=>b82.s1 aA λv83 o83 b83=>?_;have e83:Ext0 v5 v83:=(e81.only o82 (.inr (zD _))).only o83 (.inr (zD _));have hz83:v5.size<v83.size:=b83.lt;have hcell:∀{u1:Hp},Ext G v5 u1->∀{d:Nat} {w:Value},d<3->(thV (x,g))[d]?=some w->cell u1 (Addr.add ⟨tb0,to0+3*t,none⟩ d)=some w:=λhe _ _ hd3 hv=>by
   obtain⟨b',o',ha',hc'⟩:=Ur (hr _ he) E hg hd3 hv;rw[ha]at ha';cases ha';rw[add_lit,zCF];exact hc'
  refine nilP (ldS (hcell (Ext0.to e83) (d:=1) (w:=.slice x.h.a x.h.len x.h.cap) O rfl) ?_);have hpos:1<=x.h.len:=by rw[hbl,hh];simp
  refine slc (lo:=1) hpos hbc (zD _) ?_;have hrow':=aH.keep0 (aH.cut (RowO.slR (hrow.from (lo:=1) hpos))) e83;have hdr:(btsV ((k,so)::ps)).drop (1*2)=btsV ps:=rfl;rw[hdr]at hrow';refine Wn8 hrow' aC λs' v84 hs'l e84 hs'=>?_;have hBt':BtR s' r v84 (λb=>Dn b/\¬InB so b/\b<v5.size\/v83.size<=b):=by
   refine⟨ps,λb=>Dn b/\¬InB so b/\b<v5.size,(RowO.loc _ _ _).mono hs'.o λb _ i=>⟨.inr i,λE=>O⟩,(BtO.loc _ _).keep0 ((BtO.loc _ _).keep0 ((BtO.loc _ _).mono ((BtO.loc _ _).cut hBr) λb _ i=>⟨i.1.1,i.1.2,i.2⟩) e83) e84,λb i=>.inl i,hj,S⟩
  have e584:Ext0 v5 v84:=e83.trans e84;refine nilP (hput v84 s' r _ (Ext0.to e584) (λb i=>i.elim (λi=>.inl (hDn b i.1)) λi=>.inr O) hBt' ha λv85 e85 h85=>?_);have hz84:=e84.1;have hz85:=e85.1;have e585:Ext _ v5 v85:=(Ext0.to e584).trans (e85.sub hD);have K85:=K5.to e585 h85 λb _ z=>by
   rcases z with z|z
   ·exact .inl z.1
   ·rcases z.1 with h1|h1
    ·exact .inl (hG b (hDn b h1.1))
    ·exact .inr O
  have hbv85:=K5.keepB e585 hbv5 (.inl (.inr rfl));have b85:Blk v85 v5.size _:=e85.blk (e84.blk b83 id) λE=>by have:=(K5.p _ (hD _ E)).2.2;omega
  have K85b:=K85.addB (B':=λb=>b=v5.size) λb i=>⟨O,O,λE=>by
   subst i;rcases E.1 with h1|h1
   ·have:=(K5.p _ h1.1).2.2;omega
   ·rcases h1.1 with h2|h2<;>omega⟩
  have hso5:=aH.keep (aH.keep0 (aH.cut hso1) e584) e85 λb _ i E=>hd b (hDn b i.1.1) E;have V:Wt H t .back=(Gh {H with ths:=H.ths.set t {g with hands:=r}} (H.own t) k xs,retH (Gh {H with ths:=H.ths.set t {g with hands:=r}} (H.own t) k xs) t,0,0):=by
   simp only[Wt,htg,hh,ZL hg]
  rw[V]at hR;refine⟨λu=>u=v85,rfl,⟨(k:Int),λu U=>by cases U;rw[add_lit,b85.cell];rfl,⟨so,λu U=>by cases U;rw[add_lit,b85.cell];rfl,?_⟩⟩⟩;refine WjJ K85b.h t ⟨rfl,Wlh K85b.h hol k hso5 (λb _ i E=>?_) hcap hxs hxl λv87 e87 h87=>?_⟩
  ·rcases E.1 with h1|h1
   ·exact h1.2 (hDn b i.1.1)
   ·rcases h1.1 with h2|h2
    ·exact h2.2.1 i.1.2
    ·have:=i.2;omega
  have K87:=K85b.to e87 h87 λb _ i=>i;have hbl7:(Gh {H with ths:=H.ths.set t {g with hands:=r}} (H.own t) k xs).ths.length=H.ths.length:=by
   rw[WaL];simp
  refine V0 K87.h (t:=t) (by rw[hbl7];exact ht) ?_;exact ret2 (n:=σ.size) K87 (.inl (.inl (.inr rfl))) (K85b.keepB e87 hbv85 (.inl (.inl (.inr rfl)))) λZ K'=>hR Z _ K'.e (K'.fin h)
 | give s a=>
  obtain⟨ha0,hal,hru⟩:0<=a/\a.toNat<H.ars.length/\∀A∈H.ars,∀r∈A.runs,r.1<=1000000:=hp;obtain⟨A2,hA2⟩:∃A,H.ars[a.toNat]?=some A:=⟨_,gGe hal⟩;have hae:a=((a.toNat:Nat):Int):=by omega
  refine nx1 aB (nx2 aB (nx2 aB (nx2 aB (nx0 aB (nx1 aB (nx1 aB (nx2 aB (nx0 aB (ye2 (nw (cs:=[.int .i64 0,.int .i64 0]) λv5 M W N=>?_))))))))));have K5:=K1.box W M;refine N.s1 aA λv5b o5 b5=>b5.s1 aA λv6 o6 b6=>?_;have K6:=(K5.own o5 (.inr rfl)).own o6 (.inr rfl);have S:σ.size≠v.size:=by omega
  have C:=Ws o6 (Ws o5 (W.blk i id) S) S;obtain⟨Y2,hY2,_,_⟩:=K6.h.ar hA2;refine nilP (K6.h.hd.rS rfl (b6.rI (x:=((a.toNat:Nat):Int)) (by rw[←hae];rfl) (K6.h.rA hY2 (b6.rI rfl ?_))));refine Wcq K6.h hA2 hY2 s (hru A2 (zE hA2)) λv7 X h7=>?_;have K7:=K6.to X h7 λb _ i=>i;have B:=K6.keepB X C (.inl (.inr rfl));have V:Wt H t (.give s a)=(H.setA a.toNat (QH A2 s),none,0,0):=by
   simp only[Wt,hA2]
  refine hJ v7 ⟨_,L.ts,⟨?_,K7.e,λb i=>⟨(K7.p b i).1,λE=>(K7.p b i).2.1 (.inl E),(K7.p b i).2.2⟩,λb i=>K7.b b (.inl i),K7.o⟩,B,by rw[V]⟩;rw[V];exact K7.h
 | drain=>
  refine nx1 aB (nx2 aB (nx2 aB (nx2 aB (nx0 aB (nx1 aB (nx1 aB (nx2 aB (nx0 aB (nx2 aB (ye0 (nw (cs:=[]) λv5 M W N=>?_)))))))))));have K5:=K1.box W M;have hbv5:=W.blk i id;refine nilP (ldP (K5.h.tc E hg ha (d:=0) O rfl) ?_);refine Wja hso K5.h E hg λv7 s Q X hQ hB h7=>?_;have K7:=K5.to X h7 λb _ i=>i.1;have B:=K5.keepB X hbv5 (.inl (.inr rfl));have hz0:=K5.e.1;have hg7:(H.setLs t g (Q8 ZX H.tb g.ls)).ths[t]?=some {g with ls:=Q8 ZX H.tb g.ls}:=by simp[Hw.setLs,ht]
  obtain⟨G,D,hG,hD,hd,aa,hr,hput⟩:=K7.h.stN (λb i=>i.2) E hg7 Q (λb _ i z=>i.1.2 z) (K5.o.1.sub λb i=>by have:=hQ b i;omega) (λz=>K5.o.2 (by have:=hQ _ z;omega));refine nilP (hput v7 s _ Q (Ext.refl _ _) (λb i=>.inr i) hB ha λv8 e8 h8=>?_);have e8':=e8.sub hD;have K8:=K7.toX e8' h8 λb _ z=>by
   rcases z with z|z
   ·exact .inl z.1
   ·have:=hQ b z.1;exact .inr (.inr ⟨.inr O,λhB=>by have:=(K5.b b hB).2;omega⟩)
  have hbv8:=K7.keepB e8' B (.inl (.inr rfl));have V:Wt H t .drain=({H with ths:=H.ths.set t {g with ls:=Q8 ZX H.tb g.ls,hands:=Kb ZX H.tb g.ls}},retH {H with ths:=H.ths.set t {g with ls:=Q8 ZX H.tb g.ls,hands:=Kb ZX H.tb g.ls}} t,0,0):=by
   simp only[Wt,ZL hg]
  have K9:=K8;simp only[Hw.setLs,zBO]at K9;rw[V]at hR;refine V0 K9.h (t:=t) (by simpa using ht) ?_;exact ret2 (n:=σ.size) K9 (.inl (.inr rfl)) hbv8 λZ K'=>hR Z _ K'.e (K'.fin h)
def setPh (H:Hw)(t:Nat)(p:Option Ph):Hw:=H.setT t λh=>{h with ph:=p}
theorem VC (H:Hw)(t:Nat)(f:Th->Th):(H.setT t f).ths.length=H.ths.length:=by simp[Hw.setT]
theorem Wkd (H:Hw)(t k:Nat)(x:Int):(putH H t k x).ths.length=H.ths.length:=by
 unfold putH;simp only;split<;>split<;>simp[VC,QV]
theorem WdM (H:Hw)(t:Nat)(p:Ph):(Wt H t p).1.ths.length=H.ths.length:=by
 cases p with
 | take k=>simp only[Wt];split<;>simp[VF,VC]
 | transfer k w=>
  simp only[Wt];split
  ·split<;>simp[QV,VC,Hw.setA]
  ·rfl
 | central k w=>simp only[Wt];split<;>simp[QV,VC,Hw.setA]
 | grow k w=>simp only[Wt];split<;>simp[Hw.setA]
 | fill=>simp only[Wt];split<;>simp[VF,VC]
 | large m=>simp only[Wt];split<;>simp[VF,Hw.setA]
 | find x=>
  simp only[Wt,U8];split
  ·rfl
  ·split<;>simp[QV,VC]
 | put k x=>exact Wkd H t k x
 | back=>simp only[Wt];split<;>simp[WaL,VC]
 | give s a=>simp only[Wt];split<;>simp[Hw.setA]
 | drain=>simp[Wt,VC]
def WbE (H:Hw)(t:Nat)(p:Ph):Prop:=WgG H t p/\∀g,H.ths[t]?=some g->g.hands.length<=900
def QU (H:Hw)(t:Nat)(p:Ph):Hw:=setPh (Wt H t p).1 t (Wt H t p).2.1
theorem WlE (hso:HY)(h:HH σ F L H)(hg:H.ths[t]?=some g){p:Ph}(hp:g.ph=some p)(hok:WbE H t p){R:Bool->Int->Int->Int->Hp->Prop}
 (hR:∀σ' ts',Ext F σ σ'->HH σ' (Grow F σ) {L with ts:=ts'} (QU H t p)->R (Wt H t p).2.1.isNone (Wt H t p).2.2.1 (Wt H t p).2.2.2 0 σ'):Y9.c (aW L.p) (t:Int) σ R:=by
 refine Y9.o ?_;unfold Y9.v;have N:=(gSi.1 hg).1;refine nw (cs:=[.int .i64 0,.int .i64 0]) λv hz e B=>?_;have K1:=(HK.start h).box e hz;obtain⟨x,g',Q,s⟩:=h.th N;rw[hg]at s;cases s;refine KB K1.h (ifF rfl (Wdq K1.h (t:Int) (ifF (by rw[zW O];rfl) ?_)));refine nilP (K1.h.hd.rS rfl (K1.h.tR Q hg ?_));rw[hp];refine⟨Wdt _,ifF (by rw[Wb1];rfl) (nilP (K1.h.hd.rS rfl (K1.h.tR Q hg ?_)))⟩;rw[hp];refine WjM hso K1.h N p hok.1 hok.2 λY M P Z=>?_;have K9:=K1.to P Z λb _ B=>B;have r:=K1.keepB P B (.inr rfl);refine nw (cs:=[.int .i64 0,.int .i64 0]) λv10 y z A=>?_;have K10:=K9.box z y;refine A.s1 aA λV j G=>G.s1 aA λW w D=>?_;have K12:=(K10.own j (.inr rfl)).own w (.inr rfl);have u:σ.size≠Y.size:=by have:=(K9.b σ.size (.inr rfl)).2;omega
 have i:=Ws w (Ws j (z.blk r id) u) u;have C:t<(Wt H t p).1.ths.length:=by rw[WdM];exact N
 obtain⟨x9,U,E,m⟩:=K12.h.th C;have J:QU H t p = {(Wt H t p).1 with ths:=(Wt H t p).1.ths.set t {U with ph:=(Wt H t p).2.1}}:=ZL m _;refine nilP (K12.h.hd.rS rfl (K12.h.stepP E m (Wt H t p).2.1 λX d K=>?_));have K13:=K12.to d K λb _ B=>.inl B;have a:=K12.keepB d D (.inr rfl);rw[←J]at K13;refine⟨Wdt _,a.rI rfl (a.rI rfl ?_)⟩;refine ret2 (n:=σ.size) K13 (.inl (.inr rfl)) (K12.keepB d i (.inl (.inr rfl))) λS K'=>?_;rw[Wb1];exact hR S M K'.e (K'.fin h)
theorem Wnl {p:Nat->Prop}(h:∃n,p n):∃n,p n/\∀m,p m->n<=m:=by
 obtain⟨n,d⟩:=h
 induction n using Nat.strongRecOn with
 | _ n ih=>
  by_cases hm:∃m,m<n/\p m
  ·obtain⟨m,a,b⟩:=hm;exact ih m a b
  ·exact⟨n,d,λm b=>Nat.le_of_not_lt λa=>hm ⟨m,a,b⟩⟩
theorem WnY {start:Fam []->Prop}{round:Fam []->Fam []}(Inv:Nat->Hp->Prop)(h0:start λh=>∃n,Inv n h)(hr:∀n h,Inv n h->∀J:Hp->Prop,(∀m h',m<n->Inv m h'->J h')->round J h):W8 [] start round:=by
 classical
 refine Wn4 (λh=>∃n,Inv n h) (λh=>if hx:∃n,Inv n h then(Wnl hx).choose else 0) h0 λh d=>?_
 have e:=(Wnl d).choose_spec;refine hr _ h e.1 _ λm h' g b=>⟨⟨m,b⟩,?_⟩;have a:∃n,Inv n h':=⟨m,b⟩;rw[dif_pos a,dif_pos d];exact Nat.lt_of_le_of_lt ((Wnl a).choose_spec.2 m b) g
inductive RunN:Nat->Hw->Nat->Ph->Hw->Int->Int->Prop
 | done {H:Hw} {t:Nat} {p:Ph}:WbE H t p->(Wt H t p).2.1=none->RunN 1 H t p (QU H t p) (Wt H t p).2.2.1 (Wt H t p).2.2.2
 | next {n:Nat} {H:Hw} {t:Nat} {p p':Ph} {H':Hw} {a e:Int}:WbE H t p->(Wt H t p).2.1=some p'->RunN n (QU H t p) t p' H' a e->RunN (n+1) H t p H' a e
theorem Wf3 {p:Ph}(ht:t<H.ths.length):∃g,(QU H t p).ths[t]?=some g/\g.ph=(Wt H t p).2.1:=by
 have a:t<(Wt H t p).1.ths.length:=by rw[WdM];exact ht
 exact⟨{(Wt H t p).1.ths[t]with ph:=(Wt H t p).2.1},by simp[QU,setPh,Hw.setT,zDB,gGe a],rfl⟩
end Go.Ar
namespace Go.Ar
open Go Go.Vc Go.Proofs
open Go.Bu (isPow)
variable {σ:Hp}{F:Rg}
def KO (size align:Int):Bool:=decide (1<=size)&&(decide (1<=align)&&(decide (align<=256)&&isPow align))
def clsV (tb:List Cls)(size align:Int):Option Nat:=tb.findIdx? λc=>decide (size<=(c.size:Int))&&((c.size:Int)%align==0)
theorem Wj3 (n:Int)(h1:1<=n)(h2:n<=256){R:aN}(hR:∀p:Int,(p != n) = !isPow n->R p σ):Qg.c n σ R:=by
 refine Qg.o ?_;unfold Qg.v;refine Ko (a:=bN) (bb:=bN) (λ(p q:Int) w=>w=σ/\(p=0/\q=1\/∃k:Nat,k<=8/\p=((2^k:Nat):Int)/\q=((2^(k+1):Nat):Int)/\p<=n)) (λp q _=>1000-q.toNat) ⟨rfl,.inl ⟨rfl,rfl⟩⟩ ?_;rintro(p:Int) (q:Int) w ⟨rfl,hpq⟩;refine ifD (λb=>?_) λg=>?_
 ·rcases hpq with⟨rfl,rfl⟩|⟨k,hk,rfl,rfl,hp⟩
  ·exact arN (m:=2) O O ⟨⟨rfl,.inr ⟨0,O,by simp,by simp,O⟩⟩,by simp⟩
  ·have r:k<=7:=by
    apply Classical.byContradiction;intro hc;have:2^9<=2^(k+1):=zBP aB O;omega
   have s:=zAG (k+1);exact arN (m:=2^(k+1+1)) (by rw[zAV 2 (k+1)];omega) (by rw[zAV 2 (k+1)];omega) ⟨⟨rfl,.inr ⟨k+1,O,rfl,rfl,b⟩⟩,by rw[zAV 2 (k+1)];omega⟩
 ·rcases hpq with⟨rfl,rfl⟩|⟨k,hk,rfl,rfl,hp⟩
  ·omega
  ·refine hR _ ?_;by_cases e:((2^k:Nat):Int)=n
   ·have:isPow n=true:=by
     unfold isPow;rw[zw];exact⟨k,zU.2 O,by simp[←e]⟩
    rw[this,e];simp
   ·have:isPow n=false:=by
     unfold isPow;rw[zAX];intro j hj he;have d:n=((2^j:Nat):Int):=by simpa using he
     rcases zCA j k with h3|h3|h3
     ·have:2^(j+1)<=2^k:=zBP aB h3;rw[zAV]at this;have:=zAG j;omega
     ·subst h3;exact e d.symm
     ·have:2^(k+1)<=2^j:=zBP aB h3;omega
    rw[this];simpa using e
theorem Wfv {s:Sl}{xs:List (Int×Int×Int)}(ha:Acts σ s xs)(hv:Qi xs=true)(size align:Int){R:Int->Int->Hp->Prop}
 (hR:∀σ',Ext0 σ σ'->R (if KO size align then((clsV (xs.map ZV) size align).getD 0:Nat)else 0) (if KO size align then(if(clsV (xs.map ZV) size align).isSome then 0 else 4)else 1) σ'):Z1.c s size align σ R:=by
 refine Z1.o ?_;unfold Z1.v;refine nw (cs:=[.int .i64 size]) λv hz e hb=>nw (cs:=[.int .i64 align]) λv1 Q A U=>?_;have W:=A.blk hb id;refine HJ (YO ha (e.trans A)) λu N=>?_;rw[hv];have G:=N.blk W id;have y:=N.blk U id;have x:=(e.trans A).trans N;refine ifF rfl ?_;have key:∀r,r = !KO size align->(If r (R 0 1 u) (Wl.c s ⟨80,#[],#[.pointer (some ⟨σ.size,0,none⟩),.pointer (some ⟨v.size,0,none⟩)]⟩ u λk v4=>If (decide (k<0)) (R 0 4 v4) (R k 0 v4))):=by
  intro r b;cases hok:KO size align with
  | false=>
   rw[hok]at b;have:=hR u x;rw[hok]at this;exact ifT (by rw[b];rfl) this
  | true=>
   rw[hok]at b;refine ifF (by rw[b];rfl) ?_;have H:=hok;simp only[KO,zF,zT]at H;refine Wl.o ?_;unfold Wl.v;have hlen:=ha.1;have hxl:=((Qq xs).1 hv).2.1;refine ZS (a:=bN) (λ(z:Int) w=>∃i:Nat,z=(i:Int)/\i<=xs.length/\Ext0 u w/\∀j c,j<i->(xs.map ZV)[j]?=some c->(decide (size<=(c.size:Int))&&((c.size:Int)%align==0))=false) (λz _=>xs.length-z.toNat) ⟨0,rfl,O,Ext.refl _ _,λj c h=>O⟩ ?_;rintro(z:Int) w ⟨i,rfl,hi,ew,hno⟩;refine ifD (λhlt=>?_) λhge=>?_
   ·have P:i<xs.length:=by omega
    have C:(xs.map ZV)[i]?=some (ZV xs[i]):=by simp[P]
    generalize ZV xs[i]=c at C;have E:=YO ha (x.trans ew);obtain⟨hx,hcok⟩:=UI E hv C;refine UV E hx ?_;refine Gr (all := #[.agg #[.int .i64 (c.size:Int),.int .i64 (c.pages:Int),.int .i64 (c.batch:Int)],.pointer (some ⟨σ.size,0,none⟩),.pointer (some ⟨v.size,0,none⟩)]) (by kernel_rfl) aA ?_;refine ZZ.o ?_;unfold ZZ.v;refine nw (cs:=[.int .i64 (c.size:Int),.int .i64 (c.pages:Int),.int .i64 (c.batch:Int)]) λL Q A K=>?_;have hs1:=A.blk (ew.blk G id) id;have aa:=A.blk (ew.blk y id) id;have F:=ew.trans A;have go:∀r,r=(decide (size<=(c.size:Int))&&((c.size:Int)%align==0))->If r (If (decide ((i:Int)<0)) (R 0 4 L) (R (i:Int) 0 L)) (Ar .i64 ((i:Int)+1) λD=>(∃i:Nat,D=(i:Int)/\i<=xs.length/\Ext0 u L/\∀j c,j<i->(xs.map ZV)[j]?=some c->(decide (size<=(c.size:Int))&&((c.size:Int)%align==0))=false)/\xs.length-D.toNat<xs.length-(i:Int).toNat):=by
     intro r b;refine iff_ (λY=>ifDF O ?_) λh0=>?_
     ·have X:clsV (xs.map ZV) size align=some i:=by
       obtain⟨S,rfl⟩:=gSi.1 C;exact zBQ.2 ⟨S,by rw[←b];exact Y,λj M=>by rw[hno j _ M (gGe O)];simp⟩
      have:=hR L (x.trans F);rw[hok,X]at this;exact this
     ·exact arN (m:=i+1) O O ⟨⟨i+1,rfl,O,F,λj d M hd=>by
       by_cases e:j=i
       ·subst e;rw[C]at hd;cases hd;rw[←b];exact h0
       ·exact hno j d O hd⟩,O⟩
    refine K.rI rfl (hs1.rI0 rfl ?_);refine UP (λr w=>w=L/\r=(decide (size<=(c.size:Int))&&((c.size:Int)%align==0))) (λr w ⟨hw,b⟩=>by subst hw;exact go r b) λJ B=>?_;refine ifD (λhge=>K.rI rfl (aa.rI0 rfl (nz O (B _ _ ⟨rfl,?_⟩)))) λhlt2=>B _ _ ⟨rfl,?_⟩
    ·rw[Q7 O,zW (by omega:size<=(c.size:Int)),zEI]
    ·rw[zd O,zDI]
   ·have X:clsV (xs.map ZV) size align=none:=by
     unfold clsV;rw[zDT];intro c C;obtain⟨j,M⟩:=zN C;have:=(gSi.1 M).1;simp at this;exact hno j c O M
    have:=hR w (x.trans ew);rw[hok,X]at this;exact ifDT aB this
 refine WkQ (λr w=>w=u/\r = !KO size align) (λr w ⟨hw,b⟩=>by subst hw;exact key r b) λJ B=>?_;have Z:∀m,m=u->cell m ⟨σ.size,0,none⟩=some (.int .i64 size):=λm V=>by rw[V,G.cell];rfl
 have g:∀m,m=u->cell m ⟨v.size,0,none⟩=some (.int .i64 align):=λm V=>by rw[V,y.cell];rfl
 refine⟨λm=>m=u,rfl,⟨size,Z,?_⟩⟩;refine ifD (λY=>B _ _ ⟨rfl,?_⟩) λY=>⟨align,g,ifD (λh2=>B _ _ ⟨rfl,?_⟩) λh2=>⟨align,g,ifD (λh3=>B _ _ ⟨rfl,?_⟩) λh3=>⟨align,g,⟨align,g,?_⟩⟩⟩⟩
 ·simp only[KO,zd (by omega:¬1<=size),zDI,zFJ]
 ·simp only[KO,zd (by omega:¬1<=align),zDI,zCX,zFJ]
 ·simp only[KO,zd (by omega:¬align<=256),zDI,zCX,zFJ]
 ·refine Wj3 align O O λp hp=>⟨rfl,B _ _ ⟨rfl,?_⟩⟩;rw[hp];simp only[KO,zW (by omega:1<=size),zW (by omega:1<=align),zW (by omega:align<=256),zEI]
end Go.Ar
namespace Go.Ar
open Go Go.Vc Go.Proofs
variable {σ u u':Hp}{F B P Q:Rg}{L:LayH}{H H':Hw}{t k n pb:Nat}{A:AR}{Y:Lay}{x:LayT}{g:Th}{c:Cls}{l:Li}{cs:List Value}
def clsT (c:Cls):Int×Int×Int:=((c.size:Int),(c.pages:Int),(c.batch:Int))
theorem Wk9 (tb:List Cls):(tb.map clsT).map ZV=tb:=by
 rw[zAC]
 conv=>rhs;rw[←zEK tb]
 apply zAH;intro c _;rfl
theorem GV {s:Sl}{tb:List Cls}(h:SlR s 3 (tabV tb) σ F):Acts σ s (tb.map clsT):=by
 have B:=h.1;rw[KA]at B;refine⟨by simp;omega,λi x y z j=>?_⟩;rw[zf,zCJ]at j;obtain⟨c,A,e⟩:=j;obtain⟨D,w,p⟩:=HG A;simp only[clsT,Prod.mk.injEq]at e;obtain⟨rfl,rfl,rfl⟩:=e;obtain⟨b,o,d,g⟩:=h.cell D;obtain⟨C,u,a,r⟩:=h.cell w;rw[d]at a;cases a;obtain⟨C,u,a,m⟩:=h.cell p;rw[d]at a;cases a;exact⟨b,o,d,QF g,by rw[show o+i*3=o+3*i by omega];exact g,by rw[show o+i*3+1=o+(3*i+1) by omega];exact r,by rw[show o+i*3+2=o+(3*i+2) by omega];exact m⟩
def TbOk (tb:List Cls):Prop:=Qi (tb.map clsT)=true
def reqH (tb:List Cls)(kind size align addr:Int):Option Ph:=
 if kind=0 then(if 1<=size/\size<=16384 then(if KO size align then(match clsV tb size align with
  | some k=>some (.take k)
  | none=>some (.large ((size+255).toNat/256)))else none)else none)
 else if kind=1 then some (.find addr)else if kind=2 then some .drain else none
theorem Wd9 (h:HH σ F L H)(hv:TbOk H.tb)(kind size align addr:Int){R:Value->Hp->Prop}(hR:∀σ',Ext0 σ σ'->R (phV (reqH H.tb kind size align addr)) σ'):Yu.c (aW L.p) kind size align addr σ R:=by
 refine Yu.o ?_;unfold Yu.v;refine nw (cs:=[.int .i64 kind,.int .i64 size,.int .i64 align,.int .i64 addr]) λv N e s=>s.rI rfl ?_;have D:=h.keep0 e;have a:=hR v e;refine iff_ (λA=>?_) λA=>?_
 ·have i:kind=0:=by simpa using A
  have K:reqH H.tb kind size align addr=(if 1<=size/\size<=16384 then(if KO size align then(match clsV H.tb size align with
   | some k=>some (.take k)
   | none=>some (.large ((size+255).toNat/256)))else none)else none):=by unfold reqH;rw[zB i]
  rw[K]at hR a;refine s.rI rfl (UP (λr w=>w=v/\r = !decide (1<=size/\size<=16384)) (λr w ⟨M,y⟩=>?_) λJ C=>?_)
  ·subst M;by_cases hs:1<=size/\size<=16384
   ·rw[zB hs]at hR;rw[zW hs]at y;refine ifF (by rw[y];rfl) ⟨λm=>m=w,rfl,nilP ⟨L.tab,λm x=>by rw[x,add_lit,D.hd.cell];rfl,⟨size,λm x=>by rw[x,add_lit,s.cell];rfl,⟨align,λm x=>by rw[x,add_lit,s.cell];rfl,?_⟩⟩⟩⟩;refine Wfv (GV D.tabS) hv size align λG B=>?_;rw[Wk9];have z:=B.blk s id;have b:=hR G (e.trans B);cases hok:KO size align with
    | false=>
     rw[hok]at b;exact ifF rfl (ifF rfl b)
    | true=>
     rw[hok]at b;simp only[zS]at b ⊢;cases hcl:clsV H.tb size align with
     | some k=>rw[hcl]at b;exact ifT rfl b
     | none=>
      rw[hcl]at b;refine ifF rfl (ifT rfl (z.rI rfl (ar O O (ar O O (nz aB (ar (by rw[YM O];omega) (by rw[YM O];omega) ?_))))));rw[YM O];have:(size+256-1)/256=(((size+255).toNat/256:Nat):Int):=by omega
      rw[this];exact b
   ·rw[zA hs]at a;rw[zd hs]at y;exact ifT (by rw[y];rfl) a
  ·refine ifD (λE=>C _ _ ⟨rfl,?_⟩) λE=>s.rI rfl (C _ _ ⟨rfl,?_⟩)
   ·rw[zd O];rfl
   ·by_cases h2:size>16384
    ·rw[zW h2,zd O];rfl
    ·rw[zd h2,zW O];rfl
 ·have i:kind≠0:=by simpa using A
  refine iff_ (λu=>s.rI rfl ?_) λu=>?_
  ·have d:kind=1:=by simpa using u
   unfold reqH at a;rw[zA i,zB d]at a;exact a
  ·have d:kind≠1:=by simpa using u
   refine iff_ (λj=>?_) λj=>?_
   ·have g:kind=2:=by simpa using j
    unfold reqH at a;rw[zA i,zA d,zB g]at a;exact a
   ·have g:kind≠2:=by simpa using j
    unfold reqH at a;rw[zA i,zA d,zA g]at a;exact a
def KH (H:Hw)(thread kind size align addr:Int):Int ⊕ (Nat×Ph):=
 if 0<=thread/\thread<(H.ths.length:Int)then(match H.ths[thread.toNat]? with
  | some g=>(if g.ph=none then(match reqH H.tb kind size align addr with
   | some p=>.inr (thread.toNat,p)
   | none=>.inl 1)else .inl 5)
  | none=>.inl 1)else .inl 1
theorem Wit (h:HH σ F L H)(hv:TbOk H.tb)(thread kind size align addr:Int){R:aN}(h0:∀e,KH H thread kind size align addr=.inl e->e≠0->∀σ',Ext F σ σ'->HH σ' (Grow F σ) L H->R e σ')
 (h1:∀t p,KH H thread kind size align addr=.inr (t,p)->thread=(t:Int)->t<H.ths.length->∀σ',Ext F σ σ'->HH σ' (Grow F σ) L (setPh H t (some p))->R 0 σ'):Yi.c (aW L.p) thread kind size align addr σ R:=by
 refine Yi.o ?_;unfold Yi.v;refine nw (cs:=[.int .i64 kind,.int .i64 size,.int .i64 align,.int .i64 addr]) λv z e d=>?_;have K1:=(HK.start h).box e z;refine KB K1.h (ifF rfl (Wdq K1.h thread ?_));by_cases hth:0<=thread/\thread<(H.ths.length:Int)
 ·obtain⟨t,rfl⟩:∃t:Nat,thread=(t:Int):=⟨thread.toNat,O⟩;have j:t<H.ths.length:=by omega
  obtain⟨x,g,m,i⟩:=h.th j;have a:KH H (t:Int) kind size align addr=(if g.ph=none then(match reqH H.tb kind size align addr with
   | some p=>.inr (t,p)
   | none=>.inl 1)else .inl 5):=by
   unfold KH;rw[zB hth,iTn,i]
  refine ifF (by rw[zW hth];rfl) (nilP (K1.h.hd.rS rfl (K1.h.tR m i ⟨Wdt _,?_⟩)));cases hp:g.ph with
  | some p=>
   rw[hp,zA aA]at a;exact ifT (by rw[Wb1];rfl) (h0 5 a aB v K1.e (K1.fin h))
  | none=>
   rw[hp,zB rfl]at a;refine ifF rfl (d.rI rfl (d.rI rfl (d.rI rfl (d.rI rfl (Wd9 K1.h hv kind size align addr λv3 s=>⟨Wdt _,?_⟩)))));have K3:=K1.fr s;rw[Wb1];cases hq:reqH H.tb kind size align addr with
   | none=>
    rw[hq]at a;exact ifT rfl (h0 1 a aB v3 K3.e (K3.fin h))
   | some p=>
    rw[hq]at a;refine ifF rfl (nilP (K3.h.hd.rS rfl (K3.h.stepP m i (some p) λy w u=>?_)));have K4:=K3.to w u λb _ d=>.inl d;have r:setPh H t (some p) = {H with ths:=H.ths.set t {g with ph:=some p}}:=ZL i _;rw[←r]at K4;exact h1 t p a rfl j y K4.e (K4.fin h)
 ·have a:KH H thread kind size align addr=.inl 1:=by unfold KH;rw[zA hth]
  exact ifT (by rw[zd hth];rfl) (h0 1 a aB v K1.e (K1.fin h))
theorem Wks {p:Option Ph}(ht:t<H.ths.length):∃g,(setPh H t p).ths[t]?=some g/\g.ph=p:=
 ⟨{H.ths[t]with ph:=p},by simp[setPh,Hw.setT,zDB,gGe ht],rfl⟩
theorem WcZ (hso:HY)(h:HH σ F L H)(hv:TbOk H.tb)(thread kind size align addr:Int){R:Int->Int->Hp->Prop}(h0:∀e,KH H thread kind size align addr=.inl e->e≠0->∀σ',Ext F σ σ'->HH σ' (Grow F σ) L H->R 0 e σ')
 (h1:∀t p,KH H thread kind size align addr=.inr (t,p)->∃n H' a e,RunN n (setPh H t (some p)) t p H' a e/\∀σ' ts',Ext F σ σ'->HH σ' (Grow F σ) {L with ts:=ts'} H'->R a e σ'):XY.c (aW L.p) thread kind size align addr σ R:=by
 refine XY.o ?_;unfold XY.v;refine nw (cs:=[.int .i64 kind,.int .i64 size,.int .i64 align,.int .i64 addr]) λv hz e i=>i.rI rfl (i.rI rfl (i.rI rfl (i.rI rfl ?_)));have K1:=(HK.start h).box e hz;refine Wit K1.h hv thread kind size align addr (λD he z v1 Q s=>?_) λt p U ae ht v1 Q s=>?_
 ·have K2:=K1.to Q s λb _ i=>i;exact ifT (by simpa using z) (h0 D he z v1 K2.e (K2.fin h))
 ·subst ae;have K2:=K1.to Q s λb _ i=>i;obtain⟨n,Hf,a,D,d,y⟩:=h1 t p U;refine ifF rfl (WnY (λn w=>∃(B P:Rg) (ts:List LayT) (H:Hw) (p:Ph),HK F σ B w P {L with ts:=ts} H/\(∃g,H.ths[t]?=some g/\g.ph=some p)/\RunN n H t p Hf a D) ⟨n,_,_,L.ts,_,p,K2,Wks ht,d⟩ ?_);rintro n w ⟨B,P,ts,H2,j,K,⟨g,hg,af⟩,d⟩ J hJ;have go:WbE H2 t j->((Wt H2 t j).2.1.isNone=true->(Wt H2 t j).2.2.1=a/\(Wt H2 t j).2.2.2=D/\QU H2 t j=Hf)->((Wt H2 t j).2.1.isNone=false->∃m M,m<n/\(Wt H2 t j).2.1=some M/\RunN m (QU H2 t j) t M Hf a D)->Y9.c (aW L.p) (t:Int) w λab x A t223 v3=>Nw (.cells #[.int .i64 0,.int .i64 0] 156 (0,0)) v3 λr v4=>St1 (r.add 0) (.int .i64 x) v4 λv5=>St1 (r.add 1) (.int .i64 A) v5 λu=>If ab (LdI .i64 (r.add 0) u λS=>LdI .i64 (r.add 1) u λY=>R S Y u) (J u):=by
   intro hok hd hn;refine WlE hso K.h hg af hok λv3 E e3 W=>?_;have K3:=K.to e3 W λb _ i=>i;refine nw (cs:=[.int .i64 0,.int .i64 0]) λv4 V e4 N=>?_;have K4:=K3.box e4 V;refine N.s1 aA λv5 o5 b5=>b5.s1 aA λu o6 b6=>?_;have K6:=(K4.own o5 (.inr rfl)).own o6 (.inr rfl);refine iff_ (λZ=>?_) λac=>?_
   ·obtain⟨q1,q2,q3⟩:=hd Z;rw[q3]at K6;refine b6.rI rfl (b6.rI rfl ?_);rw[q1,q2];exact y u E K6.e (K6.fin h)
   ·obtain⟨m,M,hm,ag,aa⟩:=hn ac;have ad:t<H2.ths.length:=(gSi.1 hg).1;obtain⟨g',X,C⟩:=Wf3 (p:=j) ad;exact hJ m u hm ⟨_,_,E,_,M,K6,⟨g',X,by rw[C,ag]⟩,aa⟩
  cases d with
  | done hok hnone=>exact go hok (λ_=>⟨rfl,rfl,rfl⟩) λG=>by rw[hnone]at G;cases G
  | next hok hsome hrun'=>exact go hok (λG=>by rw[hsome]at G;cases G) λ_=>⟨_,_,Nat.lt_succ_self _,hsome,hrun'⟩
end Go.Ar
namespace Go.Ar
open Go Go.Vc Go.Proofs
variable {σ u w w':Hp}{F B P Q:Rg}{n:Nat}{cs:List Value}{tb:List Cls}{cf:Cf}
def Ud (tb:List Cls)(cf:Cf):Hw:=⟨tb,cf,Vp cf.pages,List.replicate cf.arenas (newA cf.pages cf.room tb),List.replicate cf.threads ⟨List.replicate tb.length liN,[],none⟩,[]⟩
def Wc4 (p a t b r:Int):Bool:=decide (32<=p)&&decide (p<=1024)&&(p%16==0)&&decide (1<=a)&&decide (a<=4)&&decide (1<=t)&&decide (t<=4)&&decide (0<=b)&&decide (b<=65536)&&decide (0<=r)&&decide (r<=8)
theorem lvl {K:aO}{r:Bool}{a:Addr}{x:Int}{k:IntKind}{f:Int->Bool}(hl:∀{K':Int->Prop},K' x->LdI k a w K')(h:K (r&&f x) w):JnB K λJ=>If r (LdI k a w λt=>J (f t) w) (J false w):=
 JnB.intro (iff_ (λb=>hl (by rw[b]at h;exact h)) λb=>by rw[b]at h;exact h)
theorem WhV (p a t b r:Int){R:aO}(hR:∀σ',Ext0 σ σ'->R (Wc4 p a t b r) σ'):QB.c p a t b r σ R:=by
 refine QB.o ?_;unfold QB.v;refine nw (cs:=[.int .i64 p,.int .i64 a,.int .i64 t,.int .i64 b,.int .i64 r]) λv A e g=>g.rI rfl ?_;have i:=hR v e;unfold Wc4 at i;refine UP (λj w=>w=v/\j=(decide (32<=p)&&decide (p<=1024))) (λj w ⟨u,x⟩=>?_) λJ m=>?_
 ·subst u;subst x;refine UP (λj y=>y=w/\j=(decide (32<=p)&&decide (p<=1024)&&(p%16==0))) (λj y ⟨u,x⟩=>?_) λJ m=>?_
  ·rw[u];subst x;exact lvl (λd=>g.rI rfl d) (lvl (λd=>g.rI rfl d) (lvl (λd=>g.rI rfl d) (lvl (λd=>g.rI rfl d) (lvl (λd=>g.rI rfl d) (lvl (λd=>g.rI rfl d) (lvl (λd=>g.rI rfl d) (lvl (λd=>g.rI rfl d) i)))))))
  ·refine iff_ (λs=>g.rI rfl (nz aB (m _ _ ⟨rfl,?_⟩))) λz=>m _ _ ⟨rfl,?_⟩
   ·simp only[zF,zT]at s;rw[Q7 O,zW s.1,zW s.2];rfl
   ·rw[z];rfl
 ·refine ifD (λs=>g.rI rfl (m _ _ ⟨rfl,?_⟩)) λz=>m _ _ ⟨rfl,?_⟩
  ·rw[zW (by omega:32<=p)];rfl
  ·rw[zd O];rfl
structure NwS where
 p:Nat
 tab:Sl
 lm:Nat
 hs:Option Nat
 hp:Option Nat
 aw:Sl
 al:List Nat
 ha:Sl
 tw:Sl
 tl:List Value
 ht:Sl
 ys:List Lay
 cs:List LayC
def hdW (cf:Cf)(N:NwS):List Value:=[.slice N.tab.a N.tab.len N.tab.cap,.int .i64 (cf.pages:Int),.int .i64 (cf.arenas:Int),.int .i64 (cf.threads:Int),.int .i64 (cf.budget:Int),.int .i64 (cf.room:Int),
 .pointer (N.hp.map λq=>⟨q,0,none⟩),.slice N.ha.a N.ha.len N.ha.cap,.slice N.ht.a N.ht.len N.ht.cap,.map (some N.lm)]
def ArN (n room:Nat)(tb:List Cls)(y:Option Lay):Hp->Rg->Prop:=λσ F=>match y with
 | some Y=>AHY σ F Y (newA n room tb) (traT (newA n room tb) Y)
 | none=>True
def CaN (tb:List Cls)(bud:Nat)(y:Option LayC):Hp->Rg->Prop:=λσ F=>match y with
 | some Y=>CaY σ F Y tb bud (List.replicate tb.length liN)
 | none=>True
def SpN (n:Nat)(q:Option Nat):Hp->Rg->Prop:=λσ F=>match q with
 | some q=>SpH3 σ F q (Vp n)
 | none=>True
def CNW (tb:List Cls)(cf:Cf)(N:NwS):LbH->Hp->Rg->Prop
 | .hd=>BlkR N.p (hdW cf N)
 | .tab=>SlR N.tab 3 (tabV tb)
 | .sp=>SpN cf.pages N.hs
 | .arow=>RowR N.aw 1 (ptrV N.al)
 | .trow=>RowR N.tw 3 N.tl
 | .live=>MapR N.lm .i64 (.ag 4) []
 | .ar k=>ArN cf.pages cf.room tb N.ys[k]?
 | .ca k=>CaN tb cf.budget N.cs[k]?
 | .hn _=>λ_ _=>True
theorem ArN.loc (n room:Nat)(tb:List Cls)(y:Option Lay):Lcl (ArN n room tb y):=by
 intro σ σ' F G h hz hs;cases y with
 | some Y=>exact AHY.loc _ _ _ _ h hz hs
 | none=>trivial
theorem CaN.loc (tb:List Cls)(bud:Nat)(y:Option LayC):Lcl (CaN tb bud y):=by
 intro σ σ' F G h hz hs;cases y with
 | some Y=>exact CaY.loc _ _ _ _ h hz hs
 | none=>trivial
theorem SpN.loc (n:Nat)(q:Option Nat):Lcl (SpN n q):=by
 intro σ σ' F G h hz hs;cases q with
 | some q=>exact SpH3.loc _ _ _ _ h hz hs
 | none=>trivial
theorem CNW.loc {N:NwS}:∀i,Lcl (CNW tb cf N i)
 | .hd=>BlkR.loc _ _
 | .tab=>SlR.loc _ _ _
 | .sp=>SpN.loc _ _
 | .arow=>RowR.loc _ _ _
 | .trow=>RowR.loc _ _ _
 | .live=>MapR.loc _ _ _ _
 | .ar k=>ArN.loc _ _ _ _
 | .ca k=>CaN.loc _ _ _
 | .hn _=>λ_ _ _ _ _ _ _=>trivial
structure NK (σ:Hp) (B:Rg) (w:Hp) (P:Rg) (tb:List Cls) (cf:Cf) (N:NwS):Prop where
 sep:Sep (CNW tb cf N) w P
 e:Ext0 σ w
 p:∀b,P b->σ.size<=b/\¬B b/\b<w.size
 b:∀b,B b->σ.size<=b/\b<w.size
variable {N N':NwS}
theorem NK.fr (K:NK σ B w P tb cf N)(e:Ext0 w w'):NK σ B w' P tb cf N:=
 ⟨(Sep.loc CNW.loc).keep0 K.sep e,K.e.trans e,λb a=>⟨(K.p b a).1,(K.p b a).2.1,by have:=(K.p b a).2.2;have:=e.1;omega⟩,λb a=>by have:=K.b b a;have:=e.1;omega⟩
theorem NK.box (K:NK σ B w P tb cf N)(e:Ext0 w w')(hz:w'.size=w.size+1):NK σ (λb=>B b\/b=w.size) w' P tb cf N:=by
 have h:=K.fr e;have i:=K.e.1;exact⟨h.sep,h.e,λb a=>⟨(K.p b a).1,λg=>g.elim (K.p b a).2.1 λd=>by have:=(K.p b a).2.2;omega,(h.p b a).2.2⟩,λb a=>a.elim (h.b b) λd=>O⟩
theorem NK.drop (K:NK σ B w P tb cf N){B':Rg}(hb:∀b,B' b->B b):NK σ B' w P tb cf N:=⟨K.sep,K.e,λb h=>⟨(K.p b h).1,λa=>(K.p b h).2.1 (hb b a),(K.p b h).2.2⟩,λb h=>K.b b (hb b h)⟩
theorem NK.put (K:NK σ B w P tb cf N)(e:Ext0 w w')(i:LbH)(hj:∀j,j≠i->CNW tb cf N' j=CNW tb cf N j)(hi:CNW tb cf N' i w' (λb=>w.size<=b)):NK σ B w' (λb=>P b\/w.size<=b/\b<w'.size) tb cf N':=by
 have h:=K.fr e;have m:=K.e.1;refine⟨h.sep.put CNW.loc i (G:=λb=>w.size<=b/\b<w'.size) (λb a g=>by have:=(K.p b g).2.2;omega) hj ((CNW.loc i).mono hi λb a d=>⟨d,a⟩) (CNW.loc i),h.e,λb a=>?_,h.b⟩;rcases a with a|a
 ·exact h.p b a
 ·exact⟨O,λd=>by have:=(K.b b d).2;omega,a.2⟩
theorem NK.step (K:NK σ B w P tb cf N)(i:LbH):∃G:Rg,(∀b,G b->P b)/\CNW tb cf N i w G/\∀(w':Hp) (N':NwS) (G':Rg),(∀j,j≠i->CNW tb cf N' j=CNW tb cf N j)->Ext G w w'->(∀b,G' b->G b\/w.size<=b/\¬B b)->CNW tb cf N' i w' G'->(∀b,B b->b<w'.size) →
 NK σ B w' (λb=>(P b/\¬G b\/G' b)/\b<w'.size) tb cf N':=by
 obtain⟨G,m,s,_,g⟩:=K.sep.stepD CNW.loc i;refine⟨G,m,s,λw' N' G' y e r u x=>⟨?_,?_,λb a=>?_,λb a=>⟨(K.b b a).1,x b a⟩⟩⟩
 ·have:=g w' (CNW tb cf N') G' y e (λb a=>(r b a).imp id λd=>d.1) u (CNW.loc _);refine(Sep.loc CNW.loc).mono this λb a d=>⟨?_,a⟩;exact d.imp (λd=>⟨d.1,d.2.2⟩) id
 ·exact Ext.newT K.e e λb a=>.inr (K.p b (m b a)).1
 ·have z:=K.e.1;rcases a.1 with h1|h1
  ·exact⟨(K.p b h1.1).1,(K.p b h1.1).2.1,a.2⟩
  ·rcases r b h1 with h2|h2
   ·exact⟨(K.p b (m b h2)).1,(K.p b (m b h2)).2.1,a.2⟩
   ·exact⟨O,h2.2,a.2⟩
theorem jnPp {K:Fam [.p]}{body:Fam [.p]->Prop}(P:Option Addr->Hp->Prop)(h1:∀r w,P r w->K r w)(h2:∀J:Fam [.p],(∀r w,P r w->J r w)->body J):Jn [.p] K body:=Jn.intro (h2 K h1)
def nilS:Sl:=⟨none,0,0⟩
def tlv (cs:List LayC):List Value:=cs.flatMap λc=>[.pointer (some ⟨c.p,0,none⟩),.slice none 0 0,.nilIface]
def N0 (p:Nat)(tab:Sl)(lm:Nat):NwS:=⟨p,tab,lm,none,none,nilS,[],nilS,nilS,[],nilS,[],[]⟩
def NB (p:Nat)(tab:Sl)(lm q:Nat)(aw:Sl)(ys:List Lay)(tw:Sl)(cs:List LayC):NwS:=⟨p,tab,lm,some q,some q,aw,ys.map (·.p),aw,tw,tlv cs,tw,ys,cs⟩
theorem NK0 {p lm:Nat}{tab:Sl}{D:Rg}(e:Ext0 σ w)(hz:σ.size<w.size)(hp:Blk w p (hdW cf (N0 p tab lm)))(hm:MapL w lm .i64 (.ag 4) [])(ht:SlR tab 3 (tabV tb) w D)(hD:∀b,D b->σ.size<b/\b<w.size/\b≠p/\b≠lm)(hpl:p≠lm)(h1:σ.size<p)(h2:σ.size<lm) :
 NK σ (· = σ.size) w (λb=>D b\/b=p\/b=lm) tb cf (N0 p tab lm):=by
 have d:=hp.lt;have g:=hm.lt;refine⟨⟨λb=>if b=p then .hd else if b=lm then .live else .tab,λi=>?_⟩,e,λb a=>?_,λb a=>O⟩
 ·cases i with
  | hd=>exact⟨⟨.inr (.inl rfl),zB rfl⟩,hp⟩
  | live=>exact⟨⟨.inr (.inr rfl),by show(if lm=p then LbH.hd else if lm=lm then LbH.live else LbH.tab)=.live;rw[zA (Ne.symm hpl),zB rfl]⟩,hm⟩
  | tab=>exact aH.mono ht λb _ a=>⟨.inl a,by show(if b=p then LbH.hd else if b=lm then LbH.live else LbH.tab)=.tab;rw[zA (hD b a).2.2.1,zA (hD b a).2.2.2]⟩
  | sp=>trivial
  | arow=>exact RowR.nil _ _ _ _
  | trow=>exact RowR.nil _ _ _ _
  | ar k=>trivial
  | ca k=>trivial
  | hn k=>trivial
 ·rcases a with a|a|a
  ·have:=hD b a;omega
  ·omega
  ·omega
theorem NK.hdB (K:NK σ B w P tb cf N):P N.p/\Blk w N.p (hdW cf N):=by
 obtain⟨G,b,a⟩:=K.sep.get .hd;exact⟨b _ a.1,a.2⟩
theorem NK.hdr (K:NK σ B w P tb cf N)(N':NwS)(hN':∀j,j≠.hd->CNW tb cf N' j=CNW tb cf N j)(hp:N'.p=N.p){i:Nat}{v:Value}(hs:(hdW cf N).set i v=hdW cf N')(hi:i<10){Kk:aP}(hK:∀w' P',NK σ B w' P' tb cf N'->QD w w' N.p->Kk w'):St1 (Addr.add ⟨N.p,0,none⟩ i) v w Kk:=by
 obtain⟨G,m,a,d⟩:=K.step .hd;have a:BlkR N.p (hdW cf N) w G:=a;refine a.2.s1 (by simpa[hdW]using hi) λw' o g=>hK w' _ (d w' N' G hN' (o.ext.sub λx e=>by rw[e];exact a.1) (λx e=>.inl e) ?_ λx e=>by have:=(K.b x e).2;have:=o.1;omega) o;show BlkR N'.p (hdW cf N') w' G;rw[zG,hs]at g;rw[hp];exact⟨a.1,g⟩
theorem Wn9 {Y:Lay}(h:N'.ys=N.ys++[Y])(hr:∀j,(∀k,j≠.ar k)->CNW tb cf N' j=CNW tb cf N j):∀j,j≠LbH.ar N.ys.length->CNW tb cf N' j=CNW tb cf N j:=by
 intro j hj;cases j with
 | ar k=>
  have a:k≠N.ys.length:=λe=>hj (by rw[e]);show ArN _ _ _ N'.ys[k]?=ArN _ _ _ N.ys[k]?;rw[h]
  congr 1
  rcases Nat.lt_or_gt_of_ne a with h1|h1
  ·rw[ze h1]
  ·rw[zY aE,zY O]
 | _=>exact hr _ (λk e=>by cases e)
theorem Woc {Y:LayC}(h:N'.cs=N.cs++[Y])(hr:∀j,(∀k,j≠.ca k)->CNW tb cf N' j=CNW tb cf N j):∀j,j≠LbH.ca N.cs.length->CNW tb cf N' j=CNW tb cf N j:=by
 intro j hj;cases j with
 | ca k=>
  have a:k≠N.cs.length:=λe=>hj (by rw[e]);show CaN _ _ N'.cs[k]?=CaN _ _ N.cs[k]?;rw[h]
  congr 1
  rcases Nat.lt_or_gt_of_ne a with h1|h1
  ·rw[ze h1]
  ·rw[zY aE,zY O]
 | _=>exact hr _ (λk e=>by cases e)
end Go.Ar
namespace Go.Ar
open Go Go.Vc Go.Proofs
variable {σ u w w':Hp}{F B P Q:Rg}{n:Nat}{cs:List Value}{tb:List Cls}{cf:Cf}{N:NwS}
theorem WdW (p a t b r:Int):Wc4 p a t b r=true↔(32<=p/\p<=1024/\p%16=0)/\(1<=a/\a<=4)/\(1<=t/\t<=4)/\(0<=b/\b<=65536)/\0<=r/\r<=8:=by
 simp only[Wc4,zF,zT,zZ];omega
theorem Wmv (g:Gl σ)(gd:Gd σ):Off (λb=>σ.size<=b)/\¬(σ.size<=1):=by
 refine⟨?_,λh=>by have:=Wib gd;omega⟩;have d:Off (λ_=>False):=λb a=>a.elim;exact(d.grow g).sub λb a=>.inr a
theorem WnD (cs:List LayC)(ls:List Li):trV (cs.map λc=>⟨c,nilS⟩) (List.replicate cs.length ⟨ls,[],none⟩)=tlv cs:=by
 induction cs with
 | nil=>rfl
 | cons c cs ih=>
  have a:trV ((c::cs).map λc=>(⟨c,nilS⟩:LayT)) (List.replicate (c::cs).length ⟨ls,[],none⟩)=thV (⟨c,nilS⟩,⟨ls,[],none⟩)++trV (cs.map λc=>(⟨c,nilS⟩:LayT)) (List.replicate cs.length ⟨ls,[],none⟩):=rfl;rw[a,ih];rfl
theorem Wmg (cs:List LayC):(tlv cs).length=cs.length*3:=by
 induction cs with
 | nil=>rfl
 | cons c cs ih=>simp only[tlv,zBB,zK,zP,zAO]at *;omega
set_option maxRecDepth 8000 in
theorem We4 {s:Sl}{xs:List (Int×Int×Int)}(ha:Acts σ s xs)(g:Gl σ)(gd:Gd σ)(p a t b r:Int){R:Option Addr->Int->Hp->Prop}
 (h2:Qi xs=false->∀σ',Ext0 σ σ'->R none 2 σ')
 (h1:Qi xs=true->Wc4 p a t b r=false->∀σ',Ext0 σ σ'->R none 1 σ')
 (h0:Qi xs=true->Wc4 p a t b r=true->∀σ' L,Ext0 σ σ'->HH σ' (λq=>σ.size<=q) L (Ud (xs.map ZV) ⟨p.toNat,a.toNat,t.toNat,b.toNat,r.toNat⟩)->R (some ⟨L.p,0,none⟩) 0 σ') :
 Ku.c s p a t b r σ R:=by
 refine Ku.o ?_;unfold Ku.v;refine nw (cs:=[.int .i64 p,.int .i64 a,.int .i64 t,.int .i64 b,.int .i64 r]) λv hz e y=>?_;refine HJ (YO ha e) λv1 e1=>?_;cases hv:Qi xs with
 | false=>exact ifT rfl (h2 hv v1 (e.trans e1))
 | true=>
 have X:=e1.blk y id;refine ifF rfl (X.rI rfl (X.rI rfl (X.rI rfl (X.rI rfl (X.rI rfl (WhV p a t b r λv2 e2=>?_))))));have aa:=(e.trans e1).trans e2;cases hc:Wc4 p a t b r with
 | false=>exact ifT rfl (h1 hv hc v2 aa)
 | true=>
 have hcf:=(WdW p a t b r).1 hc;obtain⟨p,rfl⟩:∃n:Nat,p=(n:Int):=⟨p.toNat,O⟩;obtain⟨a,rfl⟩:∃n:Nat,a=(n:Int):=⟨a.toNat,O⟩;obtain⟨t,rfl⟩:∃n:Nat,t=(n:Int):=⟨t.toNat,O⟩;obtain⟨b,rfl⟩:∃n:Nat,b=(n:Int):=⟨b.toNat,O⟩;obtain⟨r,rfl⟩:∃n:Nat,r=(n:Int):=⟨r.toNat,O⟩;simp only[iTn]at h0;have h0:=h0 hv hc;have A:=e2.blk X id;have hxl:=(Qq xs).1 hv;have hz2:=aa.1;have hz02:σ.size<v2.size:=A.lt;generalize hcfd:(⟨p,a,t,b,r⟩:Cf)=cf at h0;generalize htbd:xs.map ZV=tb at h0;have hdE:∀(q:Nat) (tab:Sl) (C:Nat),hdW cf (N0 q tab C)=[.slice tab.a tab.len tab.cap,.int .i64 (p:Int),.int .i64 (a:Int),.int .i64 (t:Int),.int .i64 (b:Int),.int .i64 (r:Int),.pointer none,.slice none 0 0,.slice none 0 0,.map (some C)]:=λq tab C=>by rw[←hcfd];rfl
 refine ifF rfl (jnPp (λvh w=>∃P q tab C,vh=some ⟨q,0,none⟩/\NK σ (· = σ.size) w P tb cf (N0 q tab C)/\Blk w σ.size [.int .i64 (p:Int),.int .i64 (a:Int),.int .i64 (t:Int),.int .i64 (b:Int),.int .i64 (r:Int)]) (λvh w ⟨P,q,tab,C,hvh,K,hbw⟩=>?_) λJ hJ=>?_)
 ·subst hvh;refine hbw.rI rfl (Wjc (n:=p) O O λv4 sp e4 _ hS=>?_);have hp:cf.pages=p:=by rw[←hcfd]
  have hroom:cf.room=r:=by rw[←hcfd]
  have hbud:cf.budget=b:=by rw[←hcfd]
  have K1:NK σ (· = σ.size) v4 _ tb cf {N0 q tab C with hs:=some sp}:=K.put e4 .sp (λj M=>by cases j<;>first|rfl|exact absurd rfl M) (by
   show SpH3 v4 _ sp (Vp cf.pages);rw[hp];exact hS)
  have hbw4:=e4.blk hbw id;refine nilP (K1.hdr (NB q tab C sp nilS [] nilS []) (λj M=>by cases j<;>first|rfl|exact absurd rfl M) rfl (i:=6) rfl O λv5 P5 K5 o5=>?_)
  have ac:∀{w:Hp} {P:Rg} {N:NwS},NK σ (· = σ.size) w P tb cf N->σ.size≠N.p:=λK e=>(K.p _ K.hdB.1).2.1 e.symm;have hbw5:=Ws o5 hbw4 (ac K1);refine hbw5.rI rfl ?_;refine ZS (a:=bN) (λ(z:Int) w=>∃(P:Rg) (aw:Sl) (ys:List Lay),z=(ys.length:Int)/\ys.length<=a/\(∀Y∈ys,Y.hs=sp)/\NK σ (· = σ.size) w P tb cf (NB q tab C sp aw ys nilS [])/\Blk w σ.size [.int .i64 (p:Int),.int .i64 (a:Int),.int .i64 (t:Int),.int .i64 (b:Int),.int .i64 (r:Int)]) (λz _=>a-z.toNat) ⟨P5,nilS,[],rfl,by simp,by simp,K5,hbw5⟩ ?_;rintro(z:Int) w6 ⟨P6,aw,ys,rfl,hyl,hys,K6,hbw6⟩;refine ifD (λhlt=>?_) λhge=>?_
  ·refine⟨λu=>u=w6,rfl,nilP ⟨some ⟨sp,0,none⟩,λu hu=>by cases hu;rw[add_lit];exact(Blk.cell (b:=q) K6.hdB.2).trans rfl,⟨(r:Int),λu hu=>by cases hu;rw[add_lit,hbw6.cell];rfl,?_⟩⟩⟩;obtain⟨GS,hGS,hSp⟩:=K6.sep.get .sp;have hSp:SpH3 w6 GS sp (Vp cf.pages):=hSp;have hnl:(Vp cf.pages).st.length=p:=by rw[hp];simp[Vp]
   have hnE:newE xs (Vp cf.pages).st.length (r:Int)=0:=by
    unfold newE;rw[zB hv,hnl,zB O]
   refine WnH (YO ha K6.e) hSp (r:Int) (λhne=>absurd hnE hne) λ_ v7 Y e7 hYh hA=>?_;rw[hnl,iTn,htbd]at hA;have K7:NK σ (· = σ.size) v7 _ tb cf {NB q tab C sp aw ys nilS []with ys:=ys++[Y]}:=K6.put e7 (.ar ys.length) (Wn9 (N:=NB q tab C sp aw ys nilS []) rfl (λj M=>by
    cases j with
    | ar k=>exact absurd rfl (M k)
    | _=>rfl)) (by
    show ArN cf.pages cf.room tb (ys++[Y])[ys.length]? v7 _;rw[zm (zD _),zBY,hp,hroom];exact hA)
   have Q:=e7.blk hbw6 id;refine nilP (K7.hdB.2.rS (a:=aw.a) (n:=aw.len) (c:=aw.cap) rfl (nw (cs:=[.pointer (some ⟨Y.p,0,none⟩)]) λv8 hz8 e8 hb8=>?_));have K8:=K7.box e8 hz8;obtain⟨G,hG,d,ai⟩:=K8.step .arow;have d:RowR aw 1 (ptrV (ys.map (·.p))) v8 G:=d;have hal:aw.len=ys.length:=by have:=d.1;simp[ptrV]at this;omega
   refine d.app (ys:=[.pointer (some ⟨Y.p,0,none⟩)]) rfl rfl ?_ (by simp[one1]) ?_ ?_ zBG λs' v9 _ e9 hr9=>?_
   ·intro j u hu;rw[add_lit,zG,hb8.cell];exact hu
   ·simp only;omega
   ·simp only;omega
   have hz9:=e9.1;have hbw9:Blk v9 σ.size _:=e9.blk (e8.blk Q id) λF=>(K8.p _ (hG _ F)).2.1 (.inl rfl);have K9:=(ai v9 {NB q tab C sp aw ys nilS []with ys:=ys++[Y],aw:=s',al:=(ys++[Y]).map (·.p)} (λb=>Grow G v8 b/\b<v9.size) (λj M=>by cases j<;>first|rfl|exact absurd rfl M) e9 (λb y=>y.1.imp id λF=>⟨F,λhB=>by have:=(K8.b b hB).2;omega⟩) (by
    show RowR s' 1 (ptrV ((ys++[Y]).map (·.p))) v9 _;have:ptrV ((ys++[Y]).map (·.p))=ptrV (ys.map (·.p))++[.pointer (some ⟨Y.p,0,none⟩)]:=by simp[ptrV]
    rw[this];exact aI.mono hr9 λb y F=>⟨F,y⟩) λb hB=>by have:=(K8.b b hB).2;omega).drop (B':=(· = σ.size)) λb y=>.inl y
   refine nilP (K9.hdr (NB q tab C sp s' (ys++[Y]) nilS []) (λj M=>by cases j<;>first|rfl|exact absurd rfl M) rfl (i:=7) rfl O λv10 P10 K10 o10=>?_)
   have H:=Ws o10 hbw9 (ac K9);exact arN (m:=ys.length+1) O O ⟨⟨P10,s',ys++[Y],by simp,by simp;omega,λZ hZ=>(zR.1 hZ).elim (hys Z) λh=>by
    rw[zV]at h;rw[h];exact hYh,K10,H⟩,O⟩
  ·have hya:ys.length=a:=by omega
   refine hbw6.rI rfl ?_;refine ZS (a:=bN) (λ(z:Int) w=>∃(P:Rg) (tw:Sl) (cs:List LayC),z=(cs.length:Int)/\cs.length<=t/\NK σ (· = σ.size) w P tb cf (NB q tab C sp aw ys tw cs)/\Blk w σ.size [.int .i64 (p:Int),.int .i64 (a:Int),.int .i64 (t:Int),.int .i64 (b:Int),.int .i64 (r:Int)]) (λz _=>t-z.toNat) ⟨P6,nilS,[],rfl,by simp,K6,hbw6⟩ ?_;rintro(z:Int) w7 ⟨P7,tw,cs,rfl,hcsl,K7,Q⟩;refine ifD (λhlt=>?_) λhge2=>?_
   ·refine Q.rI rfl (Wmp (YO ha K7.e) (b:Int) (λhvf=>by rw[hv]at hvf;cases hvf) (λ_ hn=>absurd ⟨O,O⟩ hn) λ_ _ _ v8 Y e8 hC=>?_);rw[iTn,htbd]at hC;have K8:NK σ (· = σ.size) v8 _ tb cf {NB q tab C sp aw ys tw cs with cs:=cs++[Y]}:=K7.put e8 (.ca cs.length) (Woc (N:=NB q tab C sp aw ys tw cs) rfl (λj M=>by
     cases j with
     | ca k=>exact absurd rfl (M k)
     | _=>rfl)) (by
     show CaN tb cf.budget (cs++[Y])[cs.length]? v8 _;rw[zm (zD _),zBY,hbud];exact hC)
    have hbw8:=e8.blk Q id;refine nilP (K8.hdB.2.rS (a:=tw.a) (n:=tw.len) (c:=tw.cap) rfl (nw (cs:=[.pointer (some ⟨Y.p,0,none⟩),.slice none 0 0,.nilIface]) λv9 hz9 e9 hb9=>?_));have K9:=K8.box e9 hz9;obtain⟨G,hG,d,ai⟩:=K9.step .trow;have d:RowR tw 3 (tlv cs) v9 G:=d;have hal:tw.len=cs.length:=by have:=d.1;rw[Wmg]at this;omega
    refine d.app (ys:=[.pointer (some ⟨Y.p,0,none⟩),.slice none 0 0,.nilIface]) rfl rfl ?_ (by simp[one1]) ?_ ?_ zBG λs' v10 _ e10 hr10=>?_
    ·intro j u hu;rw[add_lit,zG,hb9.cell];exact hu
    ·simp only;omega
    ·simp only;omega
    have hz10:=e10.1;have H:Blk v10 σ.size _:=e10.blk (e9.blk hbw8 id) λF=>(K9.p _ (hG _ F)).2.1 (.inl rfl);have K10:=(ai v10 {NB q tab C sp aw ys tw cs with cs:=cs++[Y],tw:=s',tl:=tlv (cs++[Y])} (λb=>Grow G v9 b/\b<v10.size) (λj M=>by cases j<;>first|rfl|exact absurd rfl M) e10 (λb y=>y.1.imp id λF=>⟨F,λhB=>by have:=(K9.b b hB).2;omega⟩) (by
     show RowR s' 3 (tlv (cs++[Y])) v10 _;have:tlv (cs++[Y])=tlv cs++[.pointer (some ⟨Y.p,0,none⟩),.slice none 0 0,.nilIface]:=by simp[tlv]
     rw[this];exact aI.mono hr10 λb y F=>⟨F,y⟩) λb hB=>by have:=(K9.b b hB).2;omega).drop (B':=(· = σ.size)) λb y=>.inl y
    refine nilP (K10.hdr (NB q tab C sp aw ys s' (cs++[Y])) (λj M=>by cases j<;>first|rfl|exact absurd rfl M) rfl (i:=8) rfl O λv11 P11 K11 o11=>?_)
    have hbw11:=Ws o11 H (ac K10);exact arN (m:=cs.length+1) O O ⟨⟨P11,s',cs++[Y],by simp,by simp;omega,K11,hbw11⟩,O⟩
   ·have hct:cs.length=t:=by omega
    have U:cf.threads=cs.length:=by rw[←hcfd,hct]
    have ae:cf.arenas=ys.length:=by rw[←hcfd,hya]
    have hN:=Wmv g gd;refine h0 w7 ⟨q,sp,C,tab,aw,tw,ys,cs.map λc=>⟨c,nilS⟩⟩ K7.e ⟨⟨?_,hys,?_,?_,?_,?_,?_,?_⟩,?_,g.keep0 K7.e,gd.keep0 K7.e,hN.1,hN.2⟩
    ·simp[Ud,ae]
    ·simp[Ud,U]
    ·simp[Ud,ae];omega
    ·simp[Ud,ae];omega
    ·simp[Ud,U];omega
    ·simp[Ud,U];omega
    ·intro B hB;have:=zGQ hB;rw[this];rfl
    ·refine(Sep.loc CH.loc).mono (G:=λq=>σ.size<=q) ?_ λb _ y=>y;obtain⟨ρ,hs⟩:=(Sep.loc CNW.loc).mono K7.sep (G:=λq=>σ.size<=q) λb _ y=>(K7.p b y).1;refine⟨ρ,λi=>?_⟩;have S:=hs i;cases i with
     | hd=>exact S
     | tab=>exact S
     | sp=>exact S
     | arow=>exact RowR.slR S
     | trow=>
      show RowR tw 3 (trV (cs.map λc=>⟨c,nilS⟩) (List.replicate cf.threads ⟨List.replicate tb.length liN,[],none⟩)) w7 _;rw[U,WnD];exact S
     | live=>exact S
     | ar k=>
      show ArH ys[k]? (List.replicate cf.arenas (newA cf.pages cf.room tb))[k]? w7 _;have S:ArN cf.pages cf.room tb ys[k]? w7 _:=S;unfold ArH;by_cases hk:k<ys.length
      ·rw[zAU,zB O,gGe hk];rw[gGe hk]at S;exact S
      ·rw[zY O];trivial
     | ca k=>
      show CaH (cs.map λc=>(⟨c,nilS⟩:LayT))[k]? (List.replicate cf.threads (⟨List.replicate tb.length liN,[],none⟩:Th))[k]? tb cf.budget w7 _;have S:CaN tb cf.budget cs[k]? w7 _:=S;unfold CaH;by_cases hk:k<cs.length
      ·rw[zAU,zB O,zf,gGe hk];rw[gGe hk]at S;exact S
      ·rw[zf,zY O];trivial
     | hn k=>
      show HnH (cs.map λc=>(⟨c,nilS⟩:LayT))[k]? (List.replicate cf.threads (⟨List.replicate tb.length liN,[],none⟩:Th))[k]? w7 _;unfold HnH;by_cases hk:k<cs.length
      ·rw[zAU,zB O,zf,gGe hk];exact BtR.nil _ _ _
      ·rw[zf,zY O];trivial
 ·have rd:∀(i:Nat) (x:Int),[Value.int .i64 (p:Int),.int .i64 (a:Int),.int .i64 (t:Int),.int .i64 (b:Int),.int .i64 (r:Int)][i]?=some (.int .i64 x)->∀m,Blk m σ.size [.int .i64 (p:Int),.int .i64 (a:Int),.int .i64 (t:Int),.int .i64 (b:Int),.int .i64 (r:Int)]->cell m (Addr.add ⟨σ.size,0,none⟩ i)=some (.int .i64 x):=λi x F m hm=>by
   rw[add_lit,hm.cell,zG];exact F
  refine⟨λm=>Blk m σ.size [.int .i64 (p:Int),.int .i64 (a:Int),.int .i64 (t:Int),.int .i64 (b:Int),.int .i64 (r:Int)],A,⟨(p:Int),rd 0 _ rfl,⟨(a:Int),rd 1 _ rfl,⟨(t:Int),rd 2 _ rfl,⟨(b:Int),rd 3 _ rfl,⟨(r:Int),rd 4 _ rfl,⟨?_,?_⟩⟩⟩⟩⟩⟩⟩
  ·refine V8 (YO ha aa) hv λtab v16 V E=>⟨V.blk A id,WeU λv17 z17 ad hm=>⟨ad.blk (V.blk A id) id,?_⟩⟩;rw[htbd]at E;have hz16:=V.1;refine nw (cs:=[.slice tab.a tab.len tab.cap,.int .i64 (p:Int),.int .i64 (a:Int),.int .i64 (t:Int),.int .i64 (b:Int),.int .i64 (r:Int),.pointer none,.slice none 0 0,.slice none 0 0,.map (some v16.size)]) λv18 z18 ah hb18=>⟨ah.blk (ad.blk (V.blk A id) id) id,hJ _ _ ⟨_,v17.size,tab,v16.size,rfl,NK0 (D:=λq=>v2.size<=q/\q<v16.size) (((aa.trans V).trans ad).trans ah) O (by rw[hdE];exact hb18) (ah.mapL (hm .i64 (.ag 4)) id) ?_ (λb y=>O) O O O,ah.blk (ad.blk (V.blk A id) id) id⟩⟩;exact aH.keep0 (aH.keep0 (aH.mono E (G:=λq=>v2.size<=q/\q<v16.size) λb y F=>⟨F,y⟩) ad) ah
  ·refine WeU λv19 z19 ab hm=>⟨ab.blk A id,V8 (YO ha (aa.trans ab)) hv λtab v20 W E=>⟨W.blk (ab.blk A id) id,?_⟩⟩;rw[htbd]at E;have hz20:=W.1;refine nw (cs:=[.slice tab.a tab.len tab.cap,.int .i64 (p:Int),.int .i64 (a:Int),.int .i64 (t:Int),.int .i64 (b:Int),.int .i64 (r:Int),.pointer none,.slice none 0 0,.slice none 0 0,.map (some v2.size)]) λv21 z21 af hb21=>⟨af.blk (W.blk (ab.blk A id) id) id,hJ _ _ ⟨_,v20.size,tab,v2.size,rfl,NK0 (D:=λq=>v19.size<=q/\q<v20.size) (((aa.trans ab).trans W).trans af) O (by rw[hdE];exact hb21) (af.mapL (W.mapL (hm .i64 (.ag 4)) id) id) ?_ (λb y=>O) O O O,af.blk (W.blk (ab.blk A id) id) id⟩⟩;exact aH.keep0 (aH.mono E (G:=λq=>v19.size<=q/\q<v20.size) λb y F=>⟨F,y⟩) af
end Go.Ar
namespace Go.Ar
open Go Go.Vc Go.Proofs
variable {σ u w w':Hp}{F B P Q:Rg}{L:LayH}{H:Hw}{t:Nat}{g:Th}
def CfOk (H:Hw):Prop:=1<=H.cf.pages/\H.cf.threads=H.ths.length/\TbOk H.tb
end Go.Ar
namespace Go.Ar
open Go Go.Vc Go.Proofs
open Go.Bu (isPow)
variable {σ u w w':Hp}{F B P Q:Rg}{L:LayH}{H H':Hw}{t:Nat}{g:Th}
def Hb (H:Hw)(thread kind size align addr:Int)(H':Hw)(a e:Int):Prop:=
 (KH H thread kind size align addr=.inl e/\e≠0/\H'=H/\a=0)\/∃t p n,KH H thread kind size align addr=.inr (t,p)/\RunN n (setPh H t (some p)) t p H' a e
theorem Wap (hso:HY)(h:HH σ F L H)(hv:TbOk H.tb){thread kind size align addr:Int}{a e:Int}(hw:Hb H thread kind size align addr H' a e){R:Int->Int->Hp->Prop}
 (hR:∀σ' ts',Ext F σ σ'->HH σ' (Grow F σ) {L with ts:=ts'} H'->R a e σ'):XY.c (aW L.p) thread kind size align addr σ R:=by
 rcases hw with⟨hs,hne,rfl,rfl⟩|⟨t,p,n,hs,hr⟩
 ·exact WcZ hso h hv thread kind size align addr (λg b _ σ' d i=>by
   rw[hs]at b;cases b;exact hR σ' L.ts d i) λt p b=>by rw[hs]at b;cases b
 ·exact WcZ hso h hv thread kind size align addr (λg b=>by rw[hs]at b;cases b) λj m b=>by
   rw[hs]at b;cases b;exact⟨n,H',a,e,hr,hR⟩
theorem WgL (hso:HY)(h:HH σ F L H)(hv:TbOk H.tb){thread size align:Int}{a e:Int}(hw:Hb H thread 0 size align 0 H' a e){R:Int->Int->Hp->Prop}
 (hR:∀σ' ts',Ext F σ σ'->HH σ' (Grow F σ) {L with ts:=ts'} H'->R a e σ'):Yj.c (aW L.p) thread size align σ R:=by
 refine Yj.o ?_;unfold Yj.v;exact Wap hso h hv hw hR
theorem WjX (hso:HY)(h:HH σ F L H)(hv:TbOk H.tb){thread addr:Int}{a e:Int}(hw:Hb H thread 1 0 0 addr H' a e){R:aN}
 (hR:∀σ' ts',Ext F σ σ'->HH σ' (Grow F σ) {L with ts:=ts'} H'->R e σ'):Zq.c (aW L.p) thread addr σ R:=by
 refine Zq.o ?_;unfold Zq.v;exact Wap hso h hv hw hR
theorem WiM (hso:HY)(h:HH σ F L H)(hv:TbOk H.tb){thread:Int}{a e:Int}(hw:Hb H thread 2 0 0 0 H' a e){R:aN}
 (hR:∀σ' ts',Ext F σ σ'->HH σ' (Grow F σ) {L with ts:=ts'} H'->R e σ'):Zo.c (aW L.p) thread σ R:=by
 refine Zo.o ?_;unfold Zo.v;exact Wap hso h hv hw hR
def Z9 (H' H:Hw):Prop:=H'.tb=H.tb/\H'.cf=H.cf/\H'.ths.length=H.ths.length/\H'.ars.length=H.ars.length
theorem Z9.refl (H:Hw):Z9 H H:=⟨rfl,rfl,rfl,rfl⟩
theorem Z9.trans {H1 H2 H3:Hw}(a:Z9 H2 H1)(b:Z9 H3 H2):Z9 H3 H1:=⟨b.1.trans a.1,b.2.1.trans a.2.1,b.2.2.1.trans a.2.2.1,b.2.2.2.trans a.2.2.2⟩
theorem KG (H:Hw)(t:Nat)(f:Th->Th):Z9 (H.setT t f) H:=⟨rfl,rfl,by simp[Hw.setT],rfl⟩
theorem Z8 (H:Hw)(k:Nat)(A:AR)(sp:Sp):Z9 {H.setA k A with sp:=sp} H:=⟨rfl,rfl,rfl,by simp[Hw.setA]⟩
theorem WeO (H:Hw)(k:Nat)(part:Nat->List Int)(j:Nat):Z9 (Vb H k part (List.range j)) H:=by
 induction j with
 | zero=>exact Z9.refl H
 | succ j ih=>
  rw[Vm];split
  ·split
   ·exact ih
   ·exact ih.trans (Z8 _ _ _ _)
  ·exact ih
theorem Wh5 (H:Hw)(own k:Nat)(xs:List Int):Z9 (Gh H own k xs) H:=by
 unfold Gh;split
 ·split
  ·exact Z8 _ _ _ H.sp
  ·refine Z9.trans ?_ (WeO _ _ _ _);split
   ·exact Z8 _ _ _ H.sp
   ·exact Z9.refl H
 ·exact Z9.refl H
theorem Wk0 (H:Hw)(t k:Nat)(x:Int):Z9 (putH H t k x) H:=by
 unfold putH;simp only;split<;>split<;>exact⟨rfl,rfl,by simp[Hw.setT,QV],rfl⟩
theorem WjC (H:Hw)(t:Nat)(p:Ph):Z9 (Wt H t p).1 H:=by
 cases p with
 | take k=>simp only[Wt];split<;>exact⟨rfl,rfl,by simp[VF,QV,Hw.setT,Hw.setA],by simp[VF,QV,Hw.setT,Hw.setA]⟩
 | transfer k w=>
  simp only[Wt];split
  ·split
   ·exact(Z8 _ _ _ H.sp).trans (KG _ _ _)
   ·exact Z9.refl H
  ·exact Z9.refl H
 | central k w=>
  simp only[Wt];split
  ·exact Z8 _ _ _ H.sp
  ·exact(Z8 _ _ _ H.sp).trans (KG _ _ _)
 | grow k w=>simp only[Wt];split<;>exact Z8 _ _ _ _
 | fill=>
  simp only[Wt];split
  ·exact⟨rfl,rfl,by simp[VF,QV,Hw.setT,Hw.setA],by simp[VF,QV,Hw.setT,Hw.setA]⟩
  ·exact Z9.refl H
 | large m=>simp only[Wt];split<;>exact⟨rfl,rfl,by simp[VF,QV,Hw.setT,Hw.setA],by simp[VF,QV,Hw.setT,Hw.setA]⟩
 | find x=>
  simp only[Wt,U8];split
  ·exact Z9.refl H
  ·split
   ·exact⟨rfl,rfl,rfl,rfl⟩
   ·exact Z9.trans (H2:={H with live:=Go.Vc.mdel H.live x}) ⟨rfl,rfl,rfl,rfl⟩ (KG _ _ _)
 | put k x=>exact Wk0 H t k x
 | back=>
  simp only[Wt];split
  ·exact(KG _ _ _).trans (Wh5 _ _ _ _)
  ·exact Z9.refl H
 | give s a=>
  simp only[Wt];split
  ·exact Z8 _ _ _ H.sp
  ·exact Z9.refl H
 | drain=>exact KG _ _ _
theorem Gj (H:Hw)(t:Nat)(p:Ph):Z9 (QU H t p) H:=(WjC H t p).trans (KG _ _ _)
theorem WfO {n:Nat}{H H':Hw}{t:Nat}{p:Ph}{a e:Int}(h:RunN n H t p H' a e):Z9 H' H:=by
 induction h with
 | done=>exact Gj _ _ _
 | next _ _ _ ih=>exact(Gj _ _ _).trans ih
theorem CfOk.keep (h:CfOk H)(k:Z9 H' H):CfOk H':=⟨by rw[k.2.1];exact h.1,by rw[k.2.1,k.2.2.1];exact h.2.1,by rw[k.1];exact h.2.2⟩
end Go.Ar
namespace Go.Ar
variable {c:Cls}{ss:List SpA}
structure CenOk (c:Cls) (ss:List SpA):Prop where
 ok:c.ok
 tk:∀s∈ss,s.tk.length=c.n
 far:ss.Pairwise λa b=>a.st+c.pages<=b.st
def Tk (c:Cls)(ss:List SpA)(x:Int):Prop:=isTk c ss x=some true
def Cov (c:Cls)(ss:List SpA)(p:Nat):Prop:=∃s∈ss,s.st<=p/\p<s.st+c.pages
theorem CenOk.pos (h:CenOk c ss):0<c.size:=by have:=h.ok;unfold Cls.ok at this;omega
theorem CenOk.pg (h:CenOk c ss):1<=c.pages:=by have:=h.ok;unfold Cls.ok at this;omega
theorem CenOk.srt (h:CenOk c ss):ss.Pairwise λa b=>a.st<b.st:=h.far.imp λ{a b} d=>by have:=h.pg;omega
theorem CenOk.dis (h:CenOk c ss){i j:Nat}{s t:SpA}(hi:ss[i]?=some s)(hj:ss[j]?=some t)(hij:i<j):s.st+c.pages<=t.st:=by
 obtain⟨a,rfl⟩:=gSi.1 hi;obtain⟨b,rfl⟩:=gSi.1 hj;exact zAE.1 h.far i j a b hij
theorem CenOk.cov1 (h:CenOk c ss){i j:Nat}{s t:SpA}{p:Nat}(hi:ss[i]?=some s)(hj:ss[j]?=some t)(h1:s.st<=p)(h2:p<s.st+c.pages)(h3:t.st<=p)(h4:p<t.st+c.pages):i=j:=by
 rcases zCA i j with hl|hl|hl
 ·have:=h.dis hi hj hl;omega
 ·exact hl
 ·have:=h.dis hj hi hl;omega
theorem Wn0 (hp:0<c.size){s:SpA}{i:Nat}(hi:i<c.n):s.st*256<=at_ c s i/\at_ c s i+c.size<=(s.st+c.pages)*256:=by
 have b:=Cls.n_mul c;have a:(i+1)*c.size<=c.n*c.size:=zAJ _ hi;unfold at_;rw[zj]at a;omega
theorem HO (hp:0<c.size){s:SpA}{i x:Nat}(hi:i<c.n)(h1:at_ c s i<=x)(h2:x<at_ c s i+c.size):s.st<=x/256/\x/256<s.st+c.pages:=by
 have:=Wn0 hp (s:=s) hi;omega
theorem Ux (h:CenOk c ss){k l:Nat}{s t:SpA}{i j x:Nat}(hk:ss[k]?=some s)(hl:ss[l]?=some t)(hi:i<c.n)(hj:j<c.n)(h1:at_ c s i<=x)(h2:x<at_ c s i+c.size)(h3:at_ c t j<=x)(h4:x<at_ c t j+c.size):k=l/\s=t/\i=j:=by
 have b:=HO h.pos hi h1 h2;have a:=HO h.pos hj h3 h4;have e:=h.cov1 hk hl b.1 b.2 a.1 a.2;subst e;rw[hk]at hl;cases hl;refine⟨rfl,rfl,?_⟩;unfold at_ at *;have d:=h.pos;rcases zCA i j with hl|hl|hl
 ·have:(i+1)*c.size<=j*c.size:=zAJ _ hl;rw[zj]at this;omega
 ·exact hl
 ·have:(j+1)*c.size<=i*c.size:=zAJ _ hl;rw[zj]at this;omega
theorem WiZ (h:CenOk c ss){s:SpA}(hs:s∈ss){x:Int}{i:Nat}(hi:idx c s x=some i):i<c.n/\((s.st*256:Nat):Int)<=x/\x<(((s.st+c.pages)*256:Nat):Int)/\((at_ c s i:Nat):Int)<=x/\x<((at_ c s i+c.size:Nat):Int):=by
 obtain⟨d,b,a⟩:=(V6 h.pos).1 hi;rw[h.tk s hs]at a;have:=Wn0 h.pos (s:=s) a;have e:at_ c s (i+1)=at_ c s i+c.size:=by unfold at_;rw[zj];omega
 rw[e]at b;omega
theorem WlN (h:CenOk c ss){k:Nat}{s:SpA}{x:Int}{i:Nat}(hs:ss[k]?=some s)(hi:idx c s x=some i):ofS c ss x=some k:=by
 obtain⟨p,g⟩:=gSi.1 hs;refine zBQ.2 ⟨p,by rw[g,hi];rfl,λj r m=>?_⟩;have d:j<ss.length:=by omega
 obtain⟨u,e⟩:=zCB.1 m;have a:=WiZ h (zE hs) hi;have b:=WiZ h (zc d) e;have:=h.dis (gGe d) hs r;omega
theorem Wfj (h:CenOk c ss){x:Int}{b:Bool}:isTk c ss x=some b↔∃(k:Nat) (s:SpA) (i:Nat),ss[k]?=some s/\i<c.n/\x=((at_ c s i:Nat):Int)/\s.is i=b:=by
 constructor
 ·intro hx;obtain⟨k,s,i,_,a,d,g⟩:=G5 hx;obtain⟨m,j⟩:=(UK h.pos).1 d;rw[h.tk s (zE a)]at j;exact⟨k,s,i,a,j,m,g⟩
 ·rintro⟨k,s,i,a,hi,rfl,g⟩;have p:=h.tk s (zE a);have d:obj c s ((at_ c s i:Nat):Int)=some i:=(UK h.pos).2 ⟨rfl,O⟩;have e:idx c s ((at_ c s i:Nat):Int)=some i:=(V6 h.pos).2 ⟨zCH _,by have:=h.pos;unfold at_;rw[zj];omega,O⟩;rw[VM (WlN h a e) a,d,←g];rfl
theorem Ua (h:CenOk c ss){x:Int}:Tk c ss x↔∃(k:Nat) (s:SpA) (i:Nat),ss[k]?=some s/\i<c.n/\x=((at_ c s i:Nat):Int)/\s.is i=true:=Wfj h
theorem WdE (h:CenOk c ss){x:Int}{a:Nat}:Wb8 c ss x=some a↔∃(k:Nat) (s:SpA) (i:Nat),ss[k]?=some s/\i<c.n/\a=at_ c s i/\((at_ c s i:Nat):Int)<=x/\x<((at_ c s i+c.size:Nat):Int):=by
 constructor
 ·intro hf;cases ho:ofS c ss x with
  | none=>rw[WbN ho]at hf;cases hf
  | some k=>
   have j:=(zBQ.1 ho).1;have b:ss[k]?=some ss[k]:=gGe j;rw[Gy ho b]at hf;obtain⟨i,g,rfl⟩:=zCJ.1 hf;have:=WiZ h (zE b) g;exact⟨k,_,i,b,this.1,rfl,this.2.2.2.1,this.2.2.2.2⟩
 ·rintro⟨k,s,i,b,g,rfl,h1,h2⟩;have m:=h.tk s (zE b);have e:at_ c s (i+1)=at_ c s i+c.size:=by unfold at_;rw[zj];omega
  have d:idx c s x=some i:=(V6 h.pos).2 ⟨h1,by rw[e];exact h2,O⟩;rw[Gy (WlN h b d) b,d];rfl
theorem CenOk.put (h:CenOk c ss){k i:Nat}{s:SpA}(hs:ss[k]?=some s)(v:Bool):CenOk c (ss.set k (s.put i v)):=by
 have r:=(gSi.1 hs).1;refine⟨h.ok,λt p=>?_,?_⟩
 ·rcases zEW p with p|rfl
  ·exact h.tk t p
  ·rw[show(s.put i v).tk.length=s.tk.length by simp[SpA.put]];exact h.tk s (zE hs)
 ·rw[zAE];intro a b ha hb hab;have m:a<ss.length:=by simpa using ha
  have d:b<ss.length:=by simpa using hb
  have g:∀j (hj:j<(ss.set k (s.put i v)).length) (hj':j<ss.length),(ss.set k (s.put i v))[j].st=ss[j].st:=by
   intro j hj hj';rw[List.getElem_set];split
   ·rename_i e;subst e;have:ss[k]=s:=(gSi.1 hs).2;rw[this];rfl
   ·rfl
  rw[g a ha m,g b hb d];exact zAE.1 h.far a b m d hab
theorem Wbw {k i:Nat}{s:SpA}(hs:ss[k]?=some s)(v:Bool):(ss.set k (s.put i v)).map (·.st)=ss.map (·.st):=by
 apply zu;intro j;simp only[zf];by_cases hjk:j=k
 ·subst hjk;rw[zL (gSi.1 hs).1,hs];rfl
 ·rw[zi (Ne.symm hjk)]
theorem WjH {s:SpA}{i j:Nat}{v:Bool}(hi:i<s.tk.length):(s.put i v).is j=if j=i then v else s.is j:=by
 unfold SpA.is SpA.put;simp only[zM];by_cases hj:j=i
 ·subst hj;rw[zL hi,zB rfl];rfl
 ·rw[zi (Ne.symm hj),zA hj]
theorem WlK (h:CenOk c ss){k i:Nat}{s:SpA}(hs:ss[k]?=some s)(hi:i<c.n)(v:Bool){y:Int}:Tk c (ss.set k (s.put i v)) y↔(y=((at_ c s i:Nat):Int)/\v=true)\/(y≠((at_ c s i:Nat):Int)/\Tk c ss y):=by
 have b:=(gSi.1 hs).1;have m:=h.tk s (zE hs);have g:=h.pos;rw[Ua (h.put hs v),Ua h];constructor
 ·rintro⟨l,t,j,ht,hj,rfl,hb⟩;by_cases hlk:l=k
  ·subst hlk;rw[zL b]at ht;cases ht;rw[WjH O]at hb;by_cases a:j=i
   ·subst a;rw[zB rfl]at hb;exact .inl ⟨rfl,hb⟩
   ·rw[zA a]at hb;refine .inr ⟨λe=>a ?_,l,s,j,hs,hj,rfl,hb⟩;have d:at_ c s j=at_ c s i:=by have:=Int.ofNat.inj e;exact this
    exact(Ux h hs hs hj hi (zD _) O O O).2.2
  ·rw[zi (Ne.symm hlk)]at ht;refine .inr ⟨λe=>hlk ?_,l,t,j,ht,hj,rfl,hb⟩;have d:at_ c t j=at_ c s i:=Int.ofNat.inj e;exact(Ux h ht hs hj hi (zD _) O O O).1
 ·rintro(⟨rfl,rfl⟩|⟨hne,l,t,j,ht,hj,rfl,hb⟩)
  ·exact⟨k,s.put i true,i,zL b,hi,rfl,by rw[WjH O,zB rfl]⟩
  ·by_cases hlk:l=k
   ·subst hlk;rw[hs]at ht;cases ht;have a:j≠i:=λe=>hne (by rw[e]);exact⟨l,s.put i v,j,zL b,hj,rfl,by rw[WjH O,zA a];exact hb⟩
   ·exact⟨l,t,j,(zi (Ne.symm hlk)).trans ht,hj,rfl,hb⟩
theorem WiI {p:Nat}:Cov c ss p↔∃x∈ss.map (·.st),x<=p/\p<x+c.pages:=by
 constructor
 ·rintro⟨s,a,h⟩;exact⟨_,zC.2 ⟨s,a,rfl⟩,h⟩
 ·rintro⟨x,hx,h⟩;obtain⟨s,a,rfl⟩:=zC.1 hx;exact⟨s,a,h⟩
theorem WoP {ss':List SpA}(e:ss'.map (·.st)=ss.map (·.st)){p:Nat}:Cov c ss' p↔Cov c ss p:=by rw[WiI,WiI,e]
theorem WjB (h:CenOk c ss){x:Nat}{ss':List SpA}(ho:oneS c ss=some (x,ss')):CenOk c ss'/\ss'.map (·.st)=ss.map (·.st)/\¬Tk c ss (x:Int)/\∀y,Tk c ss' y↔y=(x:Int)\/Tk c ss y:=by
 unfold oneS at ho;split at ho
 ·rename_i k hk;obtain⟨_,s,g,m⟩:=QT hk;rw[g]at ho;simp only at ho;split at ho
  ·rename_i i hi;cases ho;obtain⟨r,w,u,p⟩:=GZ m;rw[hi]at w;cases w;have j:i<c.n:=by rw[←h.tk s (zE g)];exact u
   have d:¬Tk c ss ((at_ c s i:Nat):Int):=λa=>by
    have z:=(Wfj h (x:=((at_ c s i:Nat):Int)) (b:=false)).2 ⟨k,s,i,g,j,rfl,p⟩;unfold Tk at a;rw[z]at a;cases a
   refine⟨h.put g true,Wbw g true,d,λy=>?_⟩;rw[WlK h g j];constructor
   ·rintro(⟨e,_⟩|⟨_,a⟩)
    ·exact .inl e
    ·exact .inr a
   ·rintro(e|a)
    ·exact .inl ⟨e,rfl⟩
    ·exact .inr ⟨λe=>d (e▸a),a⟩
  ·cases ho
 ·cases ho
theorem HR:∀(m:Nat) {ss:List SpA},CenOk c ss->CenOk c (Q6 c m ss).2/\(Q6 c m ss).2.map (·.st)=ss.map (·.st)/\(Q6 c m ss).1.length<=m/\(Q6 c m ss).1.Nodup/\(∀x∈(Q6 c m ss).1,¬Tk c ss (x:Int))/\∀y,Tk c (Q6 c m ss).2 y↔(∃x∈(Q6 c m ss).1,y=((x:Nat):Int))\/Tk c ss y
 | 0,ss,h=>⟨h,rfl,zD _,zCQ,by simp[Q6],by simp[Q6]⟩
 | m+1,ss,h=>by
  cases ho:oneS c ss with
  | none=>
   have e:Q6 c (m+1) ss=([],ss):=by simp[Q6,ho]
   rw[e];exact⟨h,rfl,by simp,zCQ,by simp,by simp⟩
  | some r=>
   obtain⟨x,p⟩:=r;rw[Gu ho];obtain⟨u,d,j,a⟩:=WjB h ho;obtain⟨g,w,B,s,b,i⟩:=HR m u;refine⟨g,w.trans d,by simp;omega,zo.2 ⟨λA=>b x A ((a _).2 (.inl rfl)),s⟩,?_,λy=>?_⟩
   ·intro y hy;rcases zQ.1 hy with rfl|hy
    ·exact j
    ·exact λz=>b y hy ((a _).2 (.inr z))
   ·rw[i,a];simp only[zQ,exists_eq_or_imp];constructor
    ·rintro(h|h|h)
     ·exact .inl (.inr h)
     ·exact .inl (.inl h)
     ·exact .inr h
    ·rintro((h|h)|h)
     ·exact .inr (.inl h)
     ·exact .inl h
     ·exact .inr (.inr h)
theorem WdI:∀(xs:List Int) {ss:List SpA},CenOk c ss->AllT c ss xs->CenOk c (xs.foldl (put1 c) ss)/\(xs.foldl (put1 c) ss).map (·.st)=ss.map (·.st)/\∀y,Tk c (xs.foldl (put1 c) ss) y↔Tk c ss y/\y∉xs
 | [],ss,h,_=>⟨h,rfl,by simp⟩
 | x::xs,ss,h,hA=>by
  have hx:=hA.1 x aA;obtain⟨k,s,i,r,d,j,_⟩:=G5 hx;obtain⟨b,a⟩:=(UK h.pos).1 j;rw[h.tk s (zE d)]at a;have e:=Wb2 r d j;have p:=h.put d false (i:=i);have g:=hA.next h.pos;obtain⟨m,u,w⟩:=WdI xs (ss:=put1 c ss x) (by rw[e];exact p) g;rw[zAI];refine⟨m,u.trans (by rw[e];exact Wbw d false),λy=>?_⟩;rw[w,e,WlK h d a,←b];simp only[zb,and_false,false_or,zQ,not_or];constructor
  ·rintro⟨⟨b,a⟩,h3⟩;exact⟨a,b,h3⟩
  ·rintro⟨a,b,h3⟩;exact⟨⟨b,a⟩,h3⟩
theorem WiN {s:SpA}(h0:s.many=0)(i:Nat):s.is i=false:=by
 unfold SpA.many at h0;rw[zEY]at h0;unfold SpA.is;rw[zM];cases hi:s.tk[i]? with
 | none=>rfl
 | some b=>
  cases b
  ·rfl
  ·exact absurd (zE hi) h0
theorem CenOk.sweep (h:CenOk c ss):CenOk c (Go.Ar.sweep ss):=⟨h.ok,λs a=>h.tk s (zH.1 a).1,h.far.filter _⟩
theorem WfR (h:CenOk c ss){y:Int}:Tk c (sweep ss) y↔Tk c ss y:=by
 rw[Ua h.sweep,Ua h];constructor
 ·rintro⟨k,s,i,hs,hi,rfl,hb⟩;obtain⟨l,a⟩:=zN (zH.1 (zE hs)).1;exact⟨l,s,i,a,hi,rfl,hb⟩
 ·rintro⟨k,s,i,hs,hi,rfl,hb⟩;have:s∈sweep ss:=zH.2 ⟨zE hs,by
   have:s.many≠0:=λb=>by rw[WiN b i]at hb;cases hb
   simpa using this⟩
  obtain⟨l,a⟩:=zN this;exact⟨l,s,i,a,hi,rfl,hb⟩
theorem Was {x:Nat}:x∈Z7 ss↔∃s∈ss,s.many=0/\s.st=x:=by
 unfold Z7;simp only[zC,zH,zZ,and_assoc]
theorem WdA (h:CenOk c ss){p:Nat}:Cov c (sweep ss) p↔Cov c ss p/\¬∃x∈Z7 ss,x<=p/\p<x+c.pages:=by
 constructor
 ·rintro⟨s,hs,h1,h2⟩;have d:=zH.1 hs;refine⟨⟨s,d.1,h1,h2⟩,?_⟩;rintro⟨x,hx,h3,h4⟩;obtain⟨t,m,b,rfl⟩:=Was.1 hx;obtain⟨i,g⟩:=zN d.1;obtain⟨j,a⟩:=zN m;have e:=h.cov1 g a h1 h2 h3 h4;subst e;rw[g]at a;cases a;simp[b]at d
 ·rintro⟨⟨s,hs,h1,h2⟩,hn⟩;refine⟨s,zH.2 ⟨hs,?_⟩,h1,h2⟩;have:s.many≠0:=λb=>hn ⟨s.st,Was.2 ⟨s,hs,b,rfl⟩,h1,h2⟩;simpa using this
theorem WiS (h:CenOk c ss):(Z7 ss).Pairwise λa b=>a+c.pages<=b:=by
 unfold Z7;rw[zCN];exact h.far.filter _
theorem VD {st:Nat}{t:SpA}:t∈addS c ss st↔t=⟨st,List.replicate c.n false⟩\/t∈ss:=by
 unfold addS;rw[zR,zQ];have:t∈ss↔t∈ss.takeWhile (λs=>decide (s.st<st))\/t∈ss.dropWhile (λs=>decide (s.st<st)):=by
  rw[←zR,zGR]
 rw[this];constructor
 ·rintro(h|h|h)
  ·exact .inr (.inl h)
  ·exact .inl h
  ·exact .inr (.inr h)
 ·rintro(h|h|h)
  ·exact .inr (.inl h)
  ·exact .inl h
  ·exact .inr (.inr h)
theorem Wip (h:CenOk c ss){st:Nat}(hd:∀s∈ss,s.st+c.pages<=st\/st+c.pages<=s.st):CenOk c (addS c ss st):=by
 refine⟨h.ok,λs m=>?_,?_⟩
 ·rcases VD.1 m with rfl|m
  ·simp
  ·exact h.tk s m
 ·have g:=HT h.srt st;have u:=h.pg;rw[WaB];refine zBT.2 ⟨h.far.sublist (zGM _ _),zAR.2 ⟨λb e=>?_,h.far.sublist (zGO _ _)⟩,λa r b e=>?_⟩
  ·obtain⟨i,d⟩:=zN e;rw[zn]at d;have:=g.2 _ _ d;rcases hd b (zCL e)with h1|h1
   ·omega
   ·exact h1
  ·obtain⟨i,d⟩:=zN r;rw[zX]at d;split at d
   ·rename_i hlt;rcases zQ.1 e with rfl|e
    ·have:=(g.2 _ _ d).2 hlt;rcases hd a (zE d)with h1|h1
     ·exact h1
     ·omega
    ·obtain⟨j,p⟩:=zN e;rw[zn]at p;exact h.dis d p O
   ·cases d
theorem WiV (h:CenOk c ss){st:Nat}(hd:∀s∈ss,s.st+c.pages<=st\/st+c.pages<=s.st){y:Int}:Tk c (addS c ss st) y↔Tk c ss y:=by
 rw[Ua (Wip h hd),Ua h];constructor
 ·rintro⟨k,s,i,hs,hi,rfl,hb⟩;rcases VD.1 (zE hs)with rfl|hm
  ·have:(⟨st,List.replicate c.n false⟩:SpA).is i=false:=WiN (by simp[SpA.many,zFM]) i;rw[this]at hb;cases hb
  ·obtain⟨l,a⟩:=zN hm;exact⟨l,s,i,a,hi,rfl,hb⟩
 ·rintro⟨k,s,i,hs,hi,rfl,hb⟩;obtain⟨l,a⟩:=zN (VD.2 (.inr (zE hs)):s∈addS c ss st);exact⟨l,s,i,a,hi,rfl,hb⟩
theorem WkZ {st:Nat}(hd:∀s∈ss,s.st+c.pages<=st\/st+c.pages<=s.st):GR c ss st=0:=by
 unfold GR;rw[zA];simp only[zw,zT,not_exists,not_and];intro s hs hlt;rcases hd s hs with h|h<;>omega
end Go.Ar
namespace Go.Ar
open Go.Bu (Zf QL runS Zu Wbn allF Vj V1 give take Kl Kj Bounded)
def gf (st:List Nat)(p:Nat):Nat:=st.getD p 0
def AR.f (A:AR)(p:Nat):Nat:=gf A.st p
def inR (rs:List (Nat×Nat))(p:Nat):Prop:=∃r∈rs,r.1<=p/\p<r.1+r.2
theorem WoW {st:List Nat}{p:Nat}(h:gf st p≠0):p<st.length:=by
 apply Classical.byContradiction;intro hn;exact h (by unfold gf;rw[zM,zY O];rfl)
theorem He {st:List Nat}{a b v p:Nat}(hb:b<=st.length):gf (setR st a b v) p=if a<=p/\p<b then v else gf st p:=by
 unfold gf;rw[zM,zM,HL];by_cases hp:p<st.length
 ·rw[gGe hp];simp only[zg,zBU]
 ·rw[zY O,zA O];rfl
theorem Vk {n a m:Nat}:Zf n (a:Int) (m:Int)=true↔1<=m/\a+m<=n:=by
 simp only[Zf,zF,zT];omega
theorem Wdf {st:List Nat}{a m:Nat}{fr:List Nat}(hl:a+m<=st.length):WgO st a m fr=true↔∀p,a<=p->p<a+m->gf st p∈fr:=by
 unfold WgO;rw[zAA];constructor
 ·intro h p h1 h2;have d:p<st.length:=by omega
  have:st[p]∈(st.drop a).take m:=by
   refine zE (i:=p-a) ?_;rw[zX,zB O,zn,show a+(p-a)=p by omega,gGe d]
  have:=h _ this;unfold gf;rw[zM,gGe d];simpa using this
 ·intro h x hx;obtain⟨i,b⟩:=zN hx;rw[zX]at b;split at b
  ·rename_i hlt;rw[zn]at b;have:=h (a+i) O O;unfold gf at this;rw[zM,b]at this;simpa using this
  ·cases b
theorem Wcl {st:List Nat}{a m v:Nat}{fr:List Nat}(h1:1<=m)(hl:a+m<=st.length)(h:∀p,a<=p->p<a+m->gf st p∈fr):VO st (a:Int) (m:Int) v fr=setR st a (a+m) v:=by
 unfold VO GO;rw[zB (Vk.2 ⟨h1,hl⟩),iTn,iTn,(Wdf hl).2 h];rfl
theorem WhW {st:List Nat}{a m v:Nat}(hl:a+m<=st.length):WkE st a m v=false↔∀p,a<=p->p<a+m->gf st p≠v:=by
 have:=Wdf (fr:=[v]) hl;unfold WkE;constructor
 ·intro h p h1 h2 e;have g:p<st.length:=by omega
  have d:st[p]∈(st.drop a).take m:=by
   refine zE (i:=p-a) ?_;rw[zX,zB O,zn,show a+(p-a)=p by omega,gGe g]
  have j:st[p]=v:=by
   unfold gf at e;rw[zM,gGe g]at e;exact e
  rw[j]at d;rw[zDC.2 d]at h;cases h
 ·intro h;apply zAT.2;intro hc;obtain⟨i,b⟩:=zN (zDC.1 hc);rw[zX]at b;split at b
  ·rename_i hlt;rw[zn]at b;refine h (a+i) O O ?_;unfold gf;rw[zM,b];rfl
  ·cases b
structure PG (A:AR):Prop where
 len:A.st.length=A.n
 n1:32<=A.n
 n2:A.n<=1024
 n16:A.n%16=0
 le:∀p,A.f p<=3
 us:∀p,A.f p=1↔A.ow p≠0
 fr:∀p,A.S p=true↔2<=A.f p
 hp:∀p,A.f p=0↔A.f (p/16*16)=0
theorem PG.lt {A:AR}(h:PG A){p:Nat}(hp:A.f p≠0):p<A.n:=h.len▸WoW hp
theorem PG.bnd {A:AR}(h:PG A):Bounded A.S A.n:=λp a=>h.lt (by have:=(h.fr p).1 a;omega)
theorem PG.hp2 {A:AR}(h:PG A){p q:Nat}(e:p/16=q/16):A.f p=0↔A.f q=0:=by rw[h.hp p,h.hp q,e]
theorem PG.same {A B:AR}(h:PG A)(e1:B.n=A.n)(e2:B.st=A.st)(e3:B.S=A.S)(e4:B.ow=A.ow):PG B:=by
 have a:∀p,B.f p=A.f p:=λp=>by unfold AR.f;rw[e2]
 exact⟨by rw[e2,e1];exact h.len,by rw[e1];exact h.n1,by rw[e1];exact h.n2,by rw[e1];exact h.n16,λp=>by rw[a];exact h.le p,λp=>by rw[a,e4];exact h.us p,λp=>by rw[a,e3];exact h.fr p,λp=>by rw[a,a];exact h.hp p⟩
theorem Wid {ow:Nat->Nat}{a m no:Nat}(h1:1<=m)(h2:a+m<=1024)(p:Nat):setO ow a m no p=if a<=p/\p<a+m then no else ow p:=by
 unfold setO;rw[zB (Vk.2 ⟨h1,h2⟩)]
theorem Wfs {n:Nat}{S:Nat->Bool}{a m:Nat}(h1:1<=m)(h2:a+m<=n)(h:∀p,a<=p->p<a+m->S p=false):QL n S (a:Int) (m:Int)=give S a (a+m):=by
 unfold QL;rw[Vk.2 ⟨h1,h2⟩,iTn,iTn,Vj.2 h];rfl
theorem WnB {n:Nat}{S:Nat->Bool}{a m:Nat}(h1:1<=m)(h2:a+m<=n)(h:∀p,a<=p->p<a+m->S p=true):runS n S (a:Int) (m:Int)=take S a (a+m):=by
 unfold runS;rw[Vk.2 ⟨h1,h2⟩,iTn,iTn,V1.2 h];rfl
structure Out (A B:AR) (a b:Nat):Prop where
 n:B.n=A.n
 len:B.st.length=A.st.length
 f:∀p,¬(a<=p/\p<b)->B.f p=A.f p
 ow:∀p,¬(a<=p/\p<b)->B.ow p=A.ow p
 S:∀p,¬(a<=p/\p<b)->B.S p=A.S p
theorem Out.pg {A B:AR}{a b v:Nat}(o:Out A B a b)(h:PG A)(hv:v<=3)(hf:∀p,a<=p->p<b->B.f p=v)(hw:∀p,a<=p->p<b->(v=1↔B.ow p≠0))(hS:∀p,a<=p->p<b->(B.S p=true↔2<=v))
 (hz:∀p,B.f p=0↔B.f (p/16*16)=0):PG B:=by
 refine⟨by rw[o.len,o.n];exact h.len,by rw[o.n];exact h.n1,by rw[o.n];exact h.n2,by rw[o.n];exact h.n16,λp=>?_,λp=>?_,λp=>?_,hz⟩
 ·by_cases hp:a<=p/\p<b
  ·rw[hf p hp.1 hp.2];exact hv
  ·rw[o.f p hp];exact h.le p
 ·by_cases hp:a<=p/\p<b
  ·rw[hf p hp.1 hp.2];exact hw p hp.1 hp.2
  ·rw[o.f p hp,o.ow p hp];exact h.us p
 ·by_cases hp:a<=p/\p<b
  ·rw[hf p hp.1 hp.2];exact hS p hp.1 hp.2
  ·rw[o.f p hp,o.S p hp];exact h.fr p
theorem Out.zero {A B:AR}{a b v:Nat}(o:Out A B a b)(h:PG A)(hf:∀p,a<=p->p<b->B.f p=v)(hv:v≠0)(hA:∀p,a<=p->p<b->A.f p≠0):∀p,B.f p=0↔A.f p=0:=by
 intro p;by_cases hp:a<=p/\p<b
 ·rw[hf p hp.1 hp.2];exact⟨λe=>(hv e).elim,λe=>(hA p hp.1 hp.2 e).elim⟩
 ·rw[o.f p hp]
theorem Wno {A B:AR}(h:PG A)(e:∀p,B.f p=0↔A.f p=0):∀p,B.f p=0↔B.f (p/16*16)=0:=λp=>by rw[e,e];exact h.hp p
theorem Wf2 {A:AR}(h:PG A){a m:Nat}(h1:1<=m)(hu:∀p,a<=p->p<a+m->A.f p=1):Out A (V2 A (a,m)) a (a+m)/\(∀p,a<=p->p<a+m->(V2 A (a,m)).f p=2/\(V2 A (a,m)).ow p=0)/\PG (V2 A (a,m))/\∀p,(V2 A (a,m)).f p=0↔A.f p=0:=by
 have i:a+m<=A.n:=by have:=h.lt (p:=a+m-1) (by rw[hu _ O O];omega);omega
 have y:=h.n2;have r:(V2 A (a,m)).st=setR A.st a (a+m) 2:=Wcl h1 (by rw[h.len];exact i) λp d b=>by
  have:=hu p d b;unfold AR.f at this;rw[this];simp
 have j:(V2 A (a,m)).S=give A.S a (a+m):=Wfs h1 i λp d b=>by
  apply zAT.2;intro hS;have:=(h.fr p).1 hS;have:=hu p d b;omega
 have x:∀p,(V2 A (a,m)).ow p=if a<=p/\p<a+m then 0 else A.ow p:=λp=>Wid h1 O p
 have u:∀p,(V2 A (a,m)).f p=if a<=p/\p<a+m then 2 else A.f p:=λp=>by unfold AR.f;rw[r,He (by rw[h.len];exact i)]
 have o:Out A (V2 A (a,m)) a (a+m):=⟨rfl,by rw[r,Ql],λp e=>by rw[u,zA e],λp e=>by rw[x,zA e],λp e=>by
  rw[j];unfold give;have:(decide (a<=p)&&decide (p<a+m))=false:=by simp;omega
  rw[this,Bool.or_false]⟩
 have g:∀p,a<=p->p<a+m->(V2 A (a,m)).f p=2:=λp d b=>by rw[u,zB ⟨d,b⟩]
 have w:∀p,a<=p->p<a+m->(V2 A (a,m)).ow p=0:=λp d b=>by rw[x,zB ⟨d,b⟩]
 have s:=o.zero h g O λp d b=>by rw[hu p d b];omega
 refine⟨o,λp d b=>⟨g p d b,w p d b⟩,o.pg h O g (λp d b=>by rw[w p d b];simp) (λp d b=>?_) (Wno h s),s⟩;rw[j,Kl];exact⟨λ_=>zD _,λ_=>.inr ⟨d,b⟩⟩
structure Backd (A B:AR) (rs:List (Nat×Nat)):Prop where
 pg:PG B
 n:B.n=A.n
 tb:B.tb=A.tb
 room:B.room=A.room
 tra:B.tra=A.tra
 cen:B.cen=A.cen
 runs:B.runs=A.runs
 i:∀p,inR rs p->B.f p=2/\B.ow p=0
 o:∀p,¬inR rs p->B.f p=A.f p/\B.ow p=A.ow p
 z:∀p,B.f p=0↔A.f p=0
theorem Wfo:∀(rs:List (Nat×Nat)) {A:AR},PG A->(∀r∈rs,1<=r.2)->(∀r∈rs,∀p,r.1<=p->p<r.1+r.2->A.f p=1)->rs.Pairwise (λa b=>a.1+a.2<=b.1\/b.1+b.2<=a.1)->Backd A (VP A rs) rs
 | [],A,h,_,_,_=>⟨h,rfl,rfl,rfl,rfl,rfl,rfl,λp ⟨r,hr,_⟩=>by simp at hr,λp _=>⟨rfl,rfl⟩,λp=>Iff.rfl⟩
 | (a,m)::rs,A,h,hp,hu,hd=>by
  have hd':=zAR.1 hd;obtain⟨o,B,w,C⟩:=Wf2 h (hp _ (zAP ..)) (hu _ (zAP ..));have d:=Wfo rs w (λr hr=>hp r (zAM _ hr)) (λr hr p u s=>by
   have:=hd'.1 r hr;simp only at this;rw[o.f p O];exact hu r (zAM _ hr) p u s) hd'.2
  have e:VP A ((a,m)::rs)=VP (V2 A (a,m)) rs:=rfl;rw[e];refine⟨d.pg,d.n,d.tb,d.room,d.tra,d.cen,d.runs,λp g=>?_,λp g=>?_,λp=>(d.z p).trans (C p)⟩
  ·by_cases j:inR rs p
   ·exact d.i p j
   ·have:=d.o p j;obtain⟨r,hr,u,s⟩:=g;rcases zQ.1 hr with rfl|hr
    ·rw[this.1,this.2];exact B p u s
    ·exact(j ⟨r,hr,u,s⟩).elim
  ·have j:¬inR rs p:=λ⟨r,hr,x⟩=>g ⟨r,zAM _ hr,x⟩;have y:¬(a<=p/\p<a+m):=λx=>g ⟨(a,m),zAP ..,x⟩;have:=d.o p j;exact⟨this.1.trans (o.f p y),this.2.trans (o.ow p y)⟩
theorem We6 {A:AR}(h:PG A){a m no:Nat}(h1:1<=m)(hn:no≠0)(hS:∀p,a<=p->p<a+m->A.S p=true):Out A (useA A a m no) a (a+m)/\(∀p,a<=p->p<a+m->(useA A a m no).f p=1/\(useA A a m no).ow p=no)/\PG (useA A a m no)/\∀p,(useA A a m no).f p=0↔A.f p=0:=by
 have i:∀p,a<=p->p<a+m->2<=A.f p:=λp d b=>(h.fr p).1 (hS p d b);have s:a+m<=A.n:=by have:=h.lt (p:=a+m-1) (by have:=i (a+m-1) O O;omega);omega
 have z:=h.n2;have j:(useA A a m no).st=setR A.st a (a+m) 1:=Wcl h1 (by rw[h.len];exact s) λp d b=>by
  have y:=i p d b;have B:=h.le p;unfold AR.f at y B;have:gf A.st p=2\/gf A.st p=3:=by omega
  simpa using this
 have x:∀p,(useA A a m no).ow p=if a<=p/\p<a+m then no else A.ow p:=λp=>Wid h1 O p
 have u:∀p,(useA A a m no).f p=if a<=p/\p<a+m then 1 else A.f p:=λp=>by unfold AR.f;rw[j,He (by rw[h.len];exact s)]
 have o:Out A (useA A a m no) a (a+m):=⟨rfl,by rw[j,Ql],λp e=>by rw[u,zA e],λp e=>by rw[x,zA e],λp e=>by
  show take A.S a (a+m) p=A.S p;unfold take;have:(decide (a<=p)&&decide (p<a+m))=false:=by simp;omega
  rw[this];simp⟩
 have g:∀p,a<=p->p<a+m->(useA A a m no).f p=1:=λp d b=>by rw[u,zB ⟨d,b⟩]
 have w:∀p,a<=p->p<a+m->(useA A a m no).ow p=no:=λp d b=>by rw[x,zB ⟨d,b⟩]
 have r:=o.zero h g O λp d b=>by have:=i p d b;omega
 refine⟨o,λp d b=>⟨g p d b,w p d b⟩,o.pg h O g (λp d b=>by rw[w p d b];simp[hn]) (λp d b=>?_) (Wno h r),r⟩;show take A.S a (a+m) p=true↔_;rw[Kj];constructor
 ·rintro⟨_,hx⟩;exact(hx ⟨d,b⟩).elim
 ·intro hx;omega
theorem Wjd:∀(m:Nat) {st:List Nat} {a:Nat},(a+m)*16<=st.length->(∀p,a*16<=p->p<(a+m)*16->gf st p=0)->(UL st a m).length=st.length/\∀p,gf (UL st a m) p=if a*16<=p/\p<(a+m)*16 then 3 else gf st p
 | 0,st,a,hl,hz=>⟨rfl,λp=>by rw[zA O];rfl⟩
 | m+1,st,a,hl,hz=>by
  obtain⟨i1,i2⟩:=Wjd m (st:=st) (a:=a) O λp d g=>hz p d O;rw[WbB];have b:gf (UL st a m) (16*(a+m))=0:=by rw[i2,zA O];exact hz _ O O
  have ok:addE (UL st a m) ((a+m:Nat):Int)=0:=by
   unfold addE;rw[UE (by rw[i1];omega),zB rfl,iTn];unfold gf at b;rw[zB b]
  have e:addT (UL st a m) ((a+m:Nat):Int)=setR (UL st a m) (16*(a+m)) (16*(a+m)+16) 3:=by
   unfold addT;rw[zB ok,iTn]
  rw[e];refine⟨by rw[Ql,i1],λp=>?_⟩;rw[He (by rw[i1];omega),i2];by_cases h1:16*(a+m)<=p/\p<16*(a+m)+16
  ·rw[zB h1,zB O]
  ·rw[zA h1];by_cases h2:a*16<=p/\p<(a+m)*16
   ·rw[zB h2,zB O]
   ·rw[zA h2,zA O]
theorem WaY {sp:Sp}{s m:Nat}(h:mapE sp (s:Int) (m:Int)=0):1<=m/\s+m<=sp.st.length/\∀p,s<=p->p<s+m->gf sp.st p=0:=by
 unfold mapE at h;split at h
 ·rename_i hr;obtain⟨d,b⟩:=Vk.1 hr;rw[iTn,iTn]at h;split at h
  ·cases h
  ·rename_i hn;refine⟨d,b,λp j g=>?_⟩;have a:p<sp.st.length:=by omega
   have e:sp.st[p]∈(sp.st.drop s).take m:=by
    refine zE (i:=p-s) ?_;rw[zX,zB O,zn,show s+(p-s)=p by omega,gGe a]
   simp only[zw,not_exists,not_and]at hn;have:=hn _ e;unfold gf;rw[zM,gGe a];simpa using this
 ·cases h
structure Grown (A B:AR) (sp sp':Sp) (s size:Nat):Prop where
 pg:PG B
 n:B.n=A.n
 tb:B.tb=A.tb
 room:B.room=A.room
 tra:B.tra=A.tra
 cen:B.cen=A.cen
 runs:B.runs=A.runs
 ow:B.ow=A.ow
 s16:s%16=0
 s1:16<=s
 sl:s+size<=A.n
 un:∀p,s<=p->p<s+size->gf sp.st p=0
 i:∀p,s<=p->p<s+size->B.f p=3/\gf sp'.st p=1
 o:∀p,¬(s<=p/\p<s+size)->B.f p=A.f p/\gf sp'.st p=gf sp.st p
 w:∀x,¬(s*32<=x/\x<(s+size)*32)->sp'.wd x=sp.wd x
 l:sp'.st.length=sp.st.length
 pk:sp'.pk=sp.pk
theorem UT {sp:Sp}{size s:Nat}(h1:1<=size)(h:growStart sp size=some s):mapE sp (s:Int) (size:Int)=0/\s≠0/\(∃j,s=j*size)/\∀j,j*size<s->1<=j->mapE sp ((j*size:Nat):Int) (size:Int)≠0:=by
 unfold growStart at h;obtain⟨m,us,vs,u,z⟩:=List.find?_eq_some_iff_append.1 h;simp only[zF,bne_iff_ne,ne_eq,zZ]at m;have e:s∈(List.range (sp.st.length/size)).map (· * size):=by rw[u];simp
 obtain⟨j,A,rfl⟩:=zC.1 e;rw[zU]at A;refine⟨m.2,m.1,⟨j,rfl⟩,λi y x=>?_⟩;have w:i<j:=Nat.lt_of_mul_lt_mul_right y;have:i*size∈us:=by
  have g:i*size∈(List.range (sp.st.length/size)).map (· * size):=zC.2 ⟨i,zU.2 O,rfl⟩;have d:((List.range (sp.st.length/size)).map (· * size)).Pairwise (· < ·):=by
   rw[zCN];exact List.pairwise_lt_range.imp λ{a b} p=>Nat.mul_lt_mul_of_pos_right p O
  rw[u]at g d;rcases zR.1 g with h|h
  ·exact h
  ·rcases zQ.1 h with h|h
   ·have:=zEP O h;omega
   ·have:=(zAR.1 (zBT.1 d).2.1).1 _ h;omega
 have:=z _ this;have r:i*size≠0:=by
  have:=Nat.mul_pos (show 0<i by omega) (show 0<size by omega);omega
 simpa[r]using this
theorem WhT {sp:Sp}{s m:Nat}(h:mapE sp (s:Int) (m:Int)=0):(mapS sp (s:Int) (m:Int)).st.length=sp.st.length/\(∀p,gf (mapS sp (s:Int) (m:Int)).st p=if s<=p/\p<s+m then 1 else gf sp.st p)/\(∀x,¬(s*32<=x/\x<(s+m)*32)->(mapS sp (s:Int) (m:Int)).wd x=sp.wd x)/\(mapS sp (s:Int) (m:Int)).pk=sp.pk:=by
 obtain⟨d,a,_⟩:=WaY h;unfold mapS;rw[zB h,iTn,iTn];refine⟨by simp[Sp.set,Ql],λp=>He a,λx b=>?_,rfl⟩;show(if s*32<=x/\x<(s+m)*32 then 0 else sp.wd x)=_
 rw[zA b]
theorem WlH {A:AR}{sp:Sp}(h:PG A)(hl:sp.st.length=A.n)(hz:∀p,gf sp.st p=0->A.f p=0){size:Nat}(hs:size=16\/size=32\/size=64){B:AR}{sp':Sp}(hg:UO A sp size=some (B,sp')) :
 ∃s,growStart sp size=some s/\Grown A B sp sp' s size:=by
 unfold UO at hg;split at hg
 ·cases hg
 ·rename_i s hgs;cases hg;obtain⟨y,H,⟨j,M⟩,_⟩:=UT O hgs;obtain⟨L,x,C⟩:=WaY y;have u:s%16=0:=by rcases hs with rfl|rfl|rfl<;>omega
  have E:size%16=0:=by rcases hs with rfl|rfl|rfl<;>omega
  have z:s/16*16=s:=by omega
  have m:(s/16+size/16)*16=s+size:=by omega
  have e:∀p,s<=p->p<s+size->A.f p=0:=λp d b=>hz p (C p d b);obtain⟨F,g⟩:=Wjd (size/16) (st:=A.st) (a:=s/16) (by rw[m,h.len,←hl];exact x) (by rw[z,m];exact e);rw[z,m]at g;obtain⟨J,w,G,K⟩:=WhT y;have i:s+size<=A.n:=by rw[←hl];exact x
  have D:QL A.n A.S (s:Int) (size:Int)=give A.S s (s+size):=Wfs L i λp d b=>by
   apply zAT.2;intro hS;have:=(h.fr p).1 hS;have:=e p d b;omega
  refine⟨s,hgs,⟨?_,rfl,rfl,rfl,rfl,rfl,rfl,rfl,u,O,i,C,λp d b=>⟨?_,?_⟩,λp hp=>⟨?_,?_⟩,G,J,K⟩⟩
  ·have o:Out A {A with st:=UL A.st (s/16) (size/16),S:=QL A.n A.S (s:Int) (size:Int)} s (s+size):=⟨rfl,F,λp hp=>by show gf _ p=_;rw[g,zA hp];rfl,λp hp=>rfl,λp hp=>by
    show QL A.n A.S (s:Int) (size:Int) p=A.S p;rw[D];unfold give;have:(decide (s<=p)&&decide (p<s+size))=false:=by simp;omega
    rw[this,Bool.or_false]⟩
   have r:∀p,s<=p->p<s+size->AR.f {A with st:=UL A.st (s/16) (size/16),S:=QL A.n A.S (s:Int) (size:Int)} p=3:=λp d b=>by show gf _ p=3;rw[g,zB ⟨d,b⟩]
   refine o.pg h (zD _) r (λp d b=>?_) (λp d b=>?_) λp=>?_
   ·have H:=e p d b;have:=h.us p;constructor
    ·intro hx;omega
    ·intro hx;have:=this.2 hx;omega
   ·show QL A.n A.S (s:Int) (size:Int) p=true↔_;rw[D,Kl];exact⟨λ_=>O,λ_=>.inr ⟨d,b⟩⟩
   ·by_cases hp:s<=p/\p<s+size
    ·rw[r p hp.1 hp.2,r (p/16*16) O O]
    ·rw[o.f p hp,o.f (p/16*16) O];exact h.hp p
  ·show gf (UL A.st (s/16) (size/16)) p=3;rw[g,zB ⟨d,b⟩]
  ·rw[w,zB ⟨d,b⟩]
  ·show gf (UL A.st (s/16) (size/16)) p=A.f p;rw[g,zA hp];rfl
  ·rw[w,zA hp]
end Go.Ar
namespace Go.Ar
open Go.Bu (Zf QL runS Zu Wbn allF Vj V1 give take Kl Kj Bounded full can YP VS ZM QS ZR Kh QQ Qc)
def Cl (A:AR)(k:Nat)(c:Cls)(ss:List SpA):Prop:=A.tb[k]?=some c/\A.cen[k]?=some ss
def TkA (A:AR)(k:Nat)(x:Int):Prop:=∃c ss,Cl A k c ss/\Tk c ss x
def InT (A:AR)(k:Nat)(x:Int):Prop:=∃t,A.tra[k]?=some t/\x∈t.bs.flatten
structure GA (A:AR):Prop where
 pg:PG A
 tb:A.tb.length<=40
 lc:A.cen.length=A.tb.length
 lt:A.tra.length=A.tb.length
 cen:∀k c ss,Cl A k c ss->CenOk c ss
 one:∀k c ss,Cl A k c ss->∀s∈ss,s.st/16=(s.st+c.pages-1)/16
 ow:∀k c ss,Cl A k c ss->∀p,A.ow p=k+1↔Cov c ss p
 ow41:∀p,A.ow p=41↔inR A.runs p
 owb:∀p,A.ow p=41\/A.ow p<=A.tb.length
 rpos:∀r∈A.runs,1<=r.2
 rdis:A.runs.Pairwise λa b=>a.1+a.2<=b.1\/b.1+b.2<=a.1
 trn:∀(k:Nat) (t:TrA),A.tra[k]?=some t->t.bs.flatten.Nodup
 trt:∀(k:Nat) c ss (t:TrA),Cl A k c ss->A.tra[k]?=some t->∀x∈t.bs.flatten,Tk c ss x
 trb:∀(k:Nat) (c:Cls) (t:TrA),A.tb[k]?=some c->A.tra[k]?=some t->∀xs∈t.bs,xs.length=c.batch
structure Kp (A B:AR):Prop where
 n:B.n=A.n
 tb:B.tb=A.tb
 room:B.room=A.room
 z:∀p,B.f p=0↔A.f p=0
 t:∀p,B.f p=3->A.f p=3
theorem Kp.refl (A:AR):Kp A A:=⟨rfl,rfl,rfl,λ_=>Iff.rfl,λ_=>id⟩
theorem Kp.trans {A B C:AR}(h:Kp A B)(k:Kp B C):Kp A C:=⟨k.n.trans h.n,k.tb.trans h.tb,k.room.trans h.room,λp=>(k.z p).trans (h.z p),λp a=>h.t p (k.t p a)⟩
theorem Kp.pages {A B:AR}(e1:B.n=A.n)(e2:B.tb=A.tb)(e3:B.room=A.room)(e4:B.st=A.st):Kp A B:=⟨e1,e2,e3,λp=>by unfold AR.f;rw[e4],λp=>by unfold AR.f;rw[e4];exact id⟩
variable {A:AR}{k:Nat}{c:Cls}{ss:List SpA}
theorem Cl.lt (h:Cl A k c ss):k<A.tb.length:=(gSi.1 h.1).1
theorem Cl.eq {c':Cls}{ss':List SpA}(h:Cl A k c ss)(h':Cl A k c' ss'):c=c'/\ss=ss':=⟨Option.some.inj (h.1.symm.trans h'.1),Option.some.inj (h.2.symm.trans h'.2)⟩
theorem GA.cl (h:GA A){k:Nat}(hk:k<A.tb.length):∃c ss t,Cl A k c ss/\A.tra[k]?=some t:=by
 have a:=h.lc;have b:=h.lt;exact⟨A.tb[k],A.cen[k],A.tra[k],⟨by simp,by simp⟩,by simp⟩
theorem GA.used (h:GA A)(hk:Cl A k c ss){s:SpA}(hs:s∈ss){p:Nat}(h1:s.st<=p)(h2:p<s.st+c.pages):A.f p=1/\A.ow p=k+1:=by
 have:=(h.ow k c ss hk p).2 ⟨s,hs,h1,h2⟩;exact⟨(h.pg.us p).2 O,this⟩
theorem GA.usedR (h:GA A){r:Nat×Nat}(hr:r∈A.runs){p:Nat}(h1:r.1<=p)(h2:p<r.1+r.2):A.f p=1/\A.ow p=41:=by
 have:=(h.ow41 p).2 ⟨r,hr,h1,h2⟩;exact⟨(h.pg.us p).2 O,this⟩
theorem GA.runs_uniq (h:GA A){r s:Nat×Nat}(hr:r∈A.runs)(hs:s∈A.runs){x:Nat}(h1:r.1<=x)(h2:x<r.1+r.2)(h3:s.1<=x)(h4:x<s.1+s.2):r=s:=by
 obtain⟨i,d⟩:=zN hr;obtain⟨j,e⟩:=zN hs;obtain⟨a,rfl⟩:=gSi.1 d;obtain⟨b,rfl⟩:=gSi.1 e;rcases zCA i j with hl|hl|hl
 ·have:=zAE.1 h.rdis i j a b hl;omega
 ·subst hl;rfl
 ·have:=zAE.1 h.rdis j i b a hl;omega
theorem GA.fit (h:GA A){r:Nat×Nat}(hr:r∈A.runs):r.1+r.2<=A.n:=by
 have:=h.rpos r hr;have:=h.pg.lt (p:=r.1+r.2-1) (by rw[(h.usedR hr (p:=r.1+r.2-1) O O).1];omega);omega
theorem GA.runsOk (h:GA A):RunsOk A:=by
 have u:=h.pg.n2;refine⟨λr b s m x g d j i=>h.runs_uniq b m g d j i,λx p a=>?_,λx p w a=>?_,λr b=>?_⟩
 ·obtain⟨r,b,g,d⟩:=(h.ow41 x).1 a;unfold Wdk;rw[zGP];exact⟨r,b,by simp[g,d]⟩
 ·rcases h.owb x with e|e
  ·exact(a e).elim
  ·exact e
 ·have:=h.fit b;omega
theorem Uo (hk:Cl A k c ss){ss':List SpA}{j:Nat}{d:Cls}{tt:List SpA}(h:Cl {A with cen:=A.cen.set k ss'} j d tt):(j=k/\d=c/\tt=ss')\/(j≠k/\Cl A j d tt):=by
 obtain⟨b,a⟩:=h;by_cases hjk:j=k
 ·subst hjk;have e:=(gSi.1 hk.2).1;simp only[zL e]at a;exact .inl ⟨rfl,Option.some.inj (b.symm.trans hk.1),(Option.some.inj a).symm⟩
 ·simp only[zi (Ne.symm hjk)]at a;exact .inr ⟨hjk,b,a⟩
theorem U3 (hk:Cl A k c ss)(ss':List SpA):Cl {A with cen:=A.cen.set k ss'} k c ss':=⟨hk.1,zL (gSi.1 hk.2).1⟩
theorem WiH {ss':List SpA}{j:Nat}{d:Cls}{tt:List SpA}(hjk:j≠k)(h:Cl A j d tt):Cl {A with cen:=A.cen.set k ss'} j d tt:=⟨h.1,(zi (Ne.symm hjk)).trans h.2⟩
theorem GA.setCen (h:GA A)(hk:Cl A k c ss){ss':List SpA}(hC:CenOk c ss')(hst:ss'.map (·.st)=ss.map (·.st))(ht:∀t,A.tra[k]?=some t->∀x∈t.bs.flatten,Tk c ss' x):GA {A with cen:=A.cen.set k ss'}:=by
 refine⟨h.pg.same rfl rfl rfl rfl,h.tb,by simp[h.lc],h.lt,λj d b a=>?_,λj d b a s i=>?_,λj d b a p=>?_,h.ow41,h.owb,h.rpos,h.rdis,h.trn,λj d b t a g=>?_,h.trb⟩
 ·rcases Uo hk a with⟨rfl,rfl,rfl⟩|⟨hne,a⟩
  ·exact hC
  ·exact h.cen j d b a
 ·rcases Uo hk a with⟨rfl,rfl,rfl⟩|⟨hne,a⟩
  ·have:s.st∈ss.map (·.st):=by rw[←hst];exact zC.2 ⟨s,i,rfl⟩
   obtain⟨t,ht,e⟩:=zC.1 this;rw[←e];exact h.one _ _ _ hk t ht
  ·exact h.one j d b a s i
 ·rcases Uo hk a with⟨rfl,rfl,rfl⟩|⟨hne,a⟩
  ·rw[WoP hst];exact h.ow _ _ _ hk p
  ·exact h.ow j d b a p
 ·rcases Uo hk a with⟨rfl,rfl,rfl⟩|⟨hne,a⟩
  ·exact ht t g
  ·exact h.trt j d b t a g
theorem WcF (hk:Cl A k c ss){ss':List SpA}{j:Nat}{x:Int}:TkA {A with cen:=A.cen.set k ss'} j x↔(j=k/\Tk c ss' x)\/(j≠k/\TkA A j x):=by
 constructor
 ·rintro⟨d,tt,hj,hx⟩;rcases Uo hk hj with⟨rfl,rfl,rfl⟩|⟨hne,hj⟩
  ·exact .inl ⟨rfl,hx⟩
  ·exact .inr ⟨hne,d,tt,hj,hx⟩
 ·rintro(⟨rfl,hx⟩|⟨hne,d,tt,hj,hx⟩)
  ·exact⟨c,ss',U3 hk ss',hx⟩
  ·exact⟨d,tt,WiH hne hj,hx⟩
theorem KR (hk:Cl A k c ss){x:Int}:TkA A k x↔Tk c ss x:=by
 constructor
 ·rintro⟨d,tt,hj,hx⟩;obtain⟨rfl,rfl⟩:=hk.eq hj;exact hx
 ·intro hx;exact⟨c,ss,hk,hx⟩
def swp (A:AR)(k:Nat)(c:Cls)(ss:List SpA):AR:=VP {A with cen:=A.cen.set k (sweep ss)} ((Z7 ss).map λs=>(s,c.pages))
theorem Wbb {p:Nat}:inR ((Z7 ss).map λs=>(s,c.pages)) p↔∃x∈Z7 ss,x<=p/\p<x+c.pages:=by
 unfold inR;simp only[zC];constructor
 ·rintro⟨_,⟨x,hx,rfl⟩,h⟩;exact⟨x,hx,h⟩
 ·rintro⟨x,hx,h⟩;exact⟨_,⟨x,hx,rfl⟩,h⟩
theorem GA.swept_used (h:GA A)(hk:Cl A k c ss){x:Nat}(hx:x∈Z7 ss){p:Nat}(h1:x<=p)(h2:p<x+c.pages):A.f p=1/\A.ow p=k+1:=by
 obtain⟨s,a,_,rfl⟩:=Was.1 hx;exact h.used hk a h1 h2
theorem GA.swpB (h:GA A)(hk:Cl A k c ss):Backd {A with cen:=A.cen.set k (sweep ss)} (swp A k c ss) ((Z7 ss).map λs=>(s,c.pages)):=by
 have g:=h.cen k c ss hk;refine Wfo _ (h.pg.same rfl rfl rfl rfl) (λr d=>?_) (λr d p m j=>?_) ?_
 ·obtain⟨x,_,rfl⟩:=zC.1 d;exact g.pg
 ·obtain⟨x,i,rfl⟩:=zC.1 d;exact(h.swept_used hk i m j).1
 ·rw[zCN];exact(WiS g).imp λ{a b} e=>.inl e
theorem GA.swp (h:GA A)(hk:Cl A k c ss):GA (Go.Ar.swp A k c ss):=by
 have b:=h.swpB hk;have w:=h.cen k c ss hk;have C:=hk.lt;have D:=h.tb;have cl:∀{j d m},Cl (Go.Ar.swp A k c ss) j d m->(j=k/\d=c/\m=sweep ss)\/(j≠k/\Cl A j d m):=λ{j d m} a=>Uo hk ⟨by rw[←b.tb];exact a.1,by rw[←b.cen];exact a.2⟩;have own:∀p,inR ((Z7 ss).map λs=>(s,c.pages)) p->A.ow p=k+1:=λp g=>by
  obtain⟨x,u,E,z⟩:=Wbb.1 g;exact(h.swept_used hk u E z).2
 have tra:(Go.Ar.swp A k c ss).tra=A.tra:=b.tra;have tb:(Go.Ar.swp A k c ss).tb=A.tb:=b.tb;have runs:(Go.Ar.swp A k c ss).runs=A.runs:=b.runs;refine⟨b.pg,by rw[tb];exact h.tb,by rw[b.cen,tb];simp[h.lc],by rw[tra,tb];exact h.lt,λj d m a=>?_,λj d m a s y=>?_,λj d m a p=>?_,λp=>?_,λp=>?_,by rw[runs];exact h.rpos,by rw[runs];exact h.rdis,by rw[tra];exact h.trn,λj d m t a r=>?_,by rw[tra,tb];exact h.trb⟩
 ·rcases cl a with⟨rfl,rfl,rfl⟩|⟨hne,a⟩
  ·exact w.sweep
  ·exact h.cen j d m a
 ·rcases cl a with⟨rfl,rfl,rfl⟩|⟨hne,a⟩
  ·exact h.one _ _ _ hk s (zH.1 y).1
  ·exact h.one j d m a s y
 ·by_cases g:inR ((Z7 ss).map λs=>(s,c.pages)) p
  ·rw[(b.i p g).2];have F:=own p g;rcases cl a with⟨rfl,rfl,rfl⟩|⟨hne,a⟩
   ·rw[WdA w];constructor
    ·intro e;omega
    ·rintro⟨_,hn⟩;exact(hn (Wbb.1 g)).elim
   ·rw[←h.ow j d m a p,F];omega
  ·rw[(b.o p g).2];rcases cl a with⟨rfl,rfl,rfl⟩|⟨hne,a⟩
   ·rw[WdA w];show A.ow p=_↔_;rw[h.ow _ _ _ hk p];exact⟨λu=>⟨u,λB=>g (Wbb.2 B)⟩,λu=>u.1⟩
   ·exact h.ow j d m a p
 ·rw[runs];by_cases g:inR ((Z7 ss).map λs=>(s,c.pages)) p
  ·rw[(b.i p g).2,←h.ow41,own p g];omega
  ·rw[(b.o p g).2];exact h.ow41 p
 ·rw[tb];by_cases g:inR ((Z7 ss).map λs=>(s,c.pages)) p
  ·rw[(b.i p g).2];omega
  ·rw[(b.o p g).2];exact h.owb p
 ·rw[tra]at r;rcases cl a with⟨rfl,rfl,rfl⟩|⟨hne,a⟩
  ·intro x u;exact(WfR w).2 (h.trt _ _ _ t hk r x u)
  ·exact h.trt j d m t a r
theorem GA.swpK (h:GA A)(hk:Cl A k c ss):Kp A (Go.Ar.swp A k c ss):=by
 have b:=h.swpB hk;refine⟨b.n,b.tb,b.room,b.z,λp a=>?_⟩;by_cases hi:inR ((Z7 ss).map λs=>(s,c.pages)) p
 ·rw[(b.i p hi).1]at a;omega
 ·rw[(b.o p hi).1]at a;exact a
theorem GA.swpT (h:GA A)(hk:Cl A k c ss){j:Nat}{x:Int}:TkA (Go.Ar.swp A k c ss) j x↔TkA A j x:=by
 have b:=h.swpB hk;have a:=h.cen k c ss hk;have e:TkA (Go.Ar.swp A k c ss) j x↔TkA {A with cen:=A.cen.set k (sweep ss)} j x:=by unfold TkA Cl;rw[b.tb,b.cen]
 rw[e,WcF hk,WfR a];constructor
 ·rintro(⟨rfl,hx⟩|⟨_,hx⟩)
  ·exact(KR hk).2 hx
  ·exact hx
 ·intro hx;by_cases hjk:j=k
  ·subst hjk;exact .inl ⟨rfl,(KR hk).1 hx⟩
  ·exact .inr ⟨hjk,hx⟩
theorem HN {k:Int}:A.ck k=true↔∃j:Nat,k=j/\j<A.tb.length:=by
 unfold AR.ck;simp only[zF,zT];constructor
 ·intro h;exact⟨k.toNat,O,O⟩
 ·rintro⟨j,rfl,h⟩;omega
structure Ob (A B:AR):Prop where
 ga:GA B
 kp:Kp A B
 runs:B.runs=A.runs
theorem WbK (h:GA A)(k m:Int):Ob A (YQ A k m)/\(YQ A k m).tra=A.tra/\(Yt A k m).Nodup/\(Yt A k m≠[]->∃j:Nat,k=j/\j<A.tb.length)/\(∀x∈Yt A k m,¬TkA A k.toNat (x:Int)) ∧
 ∀j y,TkA (YQ A k m) j y↔TkA A j y\/(j=k.toNat/\∃x∈Yt A k m,y=((x:Nat):Int)):=by
 by_cases h0:QI A k m=0
 ·have p:A.ck k=true:=by
   unfold QI at h0;split at h0
   ·assumption
   ·cases h0
  obtain⟨j,rfl,u⟩:=HN.1 p;obtain⟨c,ss,t,b,E⟩:=h.cl u;have s:Vs A (j:Int) m=Q6 c m.toNat ss:=by unfold Vs;rw[iTn,b.1,b.2]
  have d:YQ A (j:Int) m = {A with cen:=A.cen.set j (Q6 c m.toNat ss).2}:=by unfold YQ;rw[zB h0,s,iTn]
  have g:Yt A (j:Int) m=(Q6 c m.toNat ss).1:=by unfold Yt;rw[zB h0,s]
  rw[d,g];obtain⟨s1,z,D,w,B,r⟩:=HR m.toNat (h.cen j c ss b);refine⟨⟨h.setCen b s1 z λC e x a=>(r x).2 (.inr (h.trt j c ss C b e x a)),Kp.pages rfl rfl rfl rfl,rfl⟩,rfl,w,λ_=>⟨j,rfl,u⟩,λx a=>?_,λi y=>?_⟩
  ·rw[iTn,KR b];exact B x a
  ·rw[WcF b,r,iTn];by_cases hij:i=j
   ·subst hij;rw[KR b];constructor
    ·rintro(⟨_,a|a⟩|⟨a,_⟩)
     ·exact .inr ⟨rfl,a⟩
     ·exact .inl a
     ·exact(a rfl).elim
    ·rintro(a|⟨_,a⟩)
     ·exact .inl ⟨rfl,.inr a⟩
     ·exact .inl ⟨rfl,.inl a⟩
   ·constructor
    ·rintro(⟨a,_⟩|⟨_,a⟩)
     ·exact(hij a).elim
     ·exact .inl a
    ·rintro(a|⟨a,_⟩)
     ·exact .inr ⟨hij,a⟩
     ·exact(hij a).elim
 ·have d:YQ A k m=A:=by unfold YQ;rw[zA h0]
  have g:Yt A k m=[]:=by unfold Yt;rw[zA h0]
  rw[d,g];exact⟨⟨h,Kp.refl A,rfl⟩,rfl,zCQ,by simp,by simp,by simp⟩
theorem Wi8 {xs:List Int}(h:AllT c ss xs):putE c ss xs=0:=by
 unfold putE;have a:xs.any (λx=>(isTk c ss x).isNone)=false:=by
  rw[zAX];intro x hx;rw[h.1 x hx];simp
 have b:xs.any (λx=>isTk c ss x==some false)=false:=by
  rw[zAX];intro x hx;rw[h.1 x hx];simp
 rw[a,b,zW h.2];rfl
theorem Gb (h:GA A)(hk:Cl A k c ss)(xs:List Int):QW A (k:Int) xs=putE c ss xs:=by
 unfold QW;rw[HN.2 ⟨k,rfl,hk.lt⟩,zB rfl,iTn,hk.1,hk.2]
theorem Wal (h:GA A){k:Int}{xs:List Int}(h0:QW A k xs=0):∃(j:Nat) (c:Cls) (ss:List SpA),k=j/\Cl A j c ss/\AllT c ss xs:=by
 have a:A.ck k=true:=by
  unfold QW at h0;split at h0
  ·assumption
  ·cases h0
 obtain⟨j,rfl,d⟩:=HN.1 a;obtain⟨c,ss,t,b,e⟩:=h.cl d;rw[Gb h b]at h0;exact⟨j,c,ss,rfl,b,WhR h0⟩
theorem Wcx (h:GA A){k:Int}{xs:List Int}(hd:QW A k xs=0->∀x∈xs,¬InT A k.toNat x):Ob A (Ze A k xs)/\(Ze A k xs).tra=A.tra ∧
 (QW A k xs=0->∀j y,TkA (Ze A k xs) j y↔TkA A j y/\¬(j=k.toNat/\y∈xs))/\(QW A k xs≠0->Ze A k xs=A):=by
 by_cases h0:QW A k xs=0
 ·obtain⟨j,c,g,rfl,e,B⟩:=Wal h h0;obtain⟨D,z,u⟩:=WdI xs (h.cen j c g e) B;have p:=h.setCen e D z λt s x a=>(u x).2 ⟨h.trt j c g t e s x a,λw=>hd h0 x w ⟨t,by rw[iTn];exact s,a⟩⟩;have d:=U3 e (xs.foldl (put1 c) g);have r:Ze A (j:Int) xs=swp {A with cen:=A.cen.set j (xs.foldl (put1 c) g)} j c (xs.foldl (put1 c) g):=by
   unfold Ze swp;rw[zB h0,iTn,e.1,e.2];simp only[zBO]
  have b:=p.swpB d;rw[r];refine⟨⟨p.swp d,(Kp.pages rfl rfl rfl rfl:Kp A {A with cen:=A.cen.set j (xs.foldl (put1 c) g)}).trans (p.swpK d),b.runs⟩,b.tra,λ_ i y=>?_,λC=>(C h0).elim⟩;rw[p.swpT d,WcF e,u,iTn];by_cases hij:i=j
  ·subst hij;rw[KR e];constructor
   ·rintro(⟨_,a,hy⟩|⟨a,_⟩)
    ·exact⟨a,λm=>hy m.2⟩
    ·exact(a rfl).elim
   ·rintro⟨a,hy⟩;exact .inl ⟨rfl,a,λm=>hy ⟨rfl,m⟩⟩
  ·constructor
   ·rintro(⟨a,_⟩|⟨_,a⟩)
    ·exact(hij a).elim
    ·exact⟨a,λm=>hij m.1⟩
   ·rintro⟨a,_⟩;exact .inr ⟨hij,a⟩
 ·have r:Ze A k xs=A:=by unfold Ze;rw[zA h0]
  rw[r];exact⟨⟨h,Kp.refl A,rfl⟩,rfl,λa=>(h0 a).elim,λ_=>rfl⟩
theorem GA.setTra (h:GA A){k:Nat}{t':TrA}(h1:t'.bs.flatten.Nodup)(h2:∀x∈t'.bs.flatten,TkA A k x)(h3:∀c,A.tb[k]?=some c->∀xs∈t'.bs,xs.length=c.batch):GA {A with tra:=A.tra.set k t'}:=by
 have get:∀{j t},(A.tra.set k t')[j]?=some t->(j=k/\t=t')\/(j≠k/\A.tra[j]?=some t):=by
  intro j t a;by_cases hjk:j=k
  ·subst hjk;have g:j<A.tra.length:=by have:=(gSi.1 a).1;simpa using this
   rw[zL g]at a;exact .inl ⟨rfl,(Option.some.inj a).symm⟩
  ·rw[zi (Ne.symm hjk)]at a;exact .inr ⟨hjk,a⟩
 refine⟨h.pg.same rfl rfl rfl rfl,h.tb,h.lc,by simp[h.lt],h.cen,h.one,h.ow,h.ow41,h.owb,h.rpos,h.rdis,λj t a=>?_,λj c e t b a x d=>?_,λj c t b a=>?_⟩
 ·rcases get a with⟨rfl,rfl⟩|⟨_,a⟩
  ·exact h1
  ·exact h.trn j t a
 ·rcases get a with⟨rfl,rfl⟩|⟨_,a⟩
  ·exact(KR b).1 (h2 x d)
  ·exact h.trt j c e t b a x d
 ·rcases get a with⟨rfl,rfl⟩|⟨_,a⟩
  ·exact h3 c b
  ·exact h.trb j c t b a
theorem Wck {t':TrA}{j:Nat}{x:Int}(hk:k<A.tra.length):InT {A with tra:=A.tra.set k t'} j x↔(j=k/\x∈t'.bs.flatten)\/(j≠k/\InT A j x):=by
 by_cases hjk:j=k
 ·subst hjk;have a:(A.tra.set j t')[j]?=some t':=zL hk;constructor
  ·rintro⟨t,e,hx⟩;have e:(A.tra.set j t')[j]?=some t:=e;rw[a]at e;cases e;exact .inl ⟨rfl,hx⟩
  ·rintro(⟨_,hx⟩|⟨hx,_⟩)
   ·exact⟨_,a,hx⟩
   ·exact(hx rfl).elim
 ·have a:(A.tra.set k t')[j]?=A.tra[j]? := zi (Ne.symm hjk);constructor
  ·rintro⟨t,e,hx⟩;have e:(A.tra.set k t')[j]?=some t:=e;rw[a]at e;exact .inr ⟨hjk,t,e,hx⟩
  ·rintro(⟨hx,_⟩|⟨_,t,e,hx⟩)
   ·exact(hjk hx).elim
   ·exact⟨t,a.trans e,hx⟩
theorem Gi {t:TrA}(ht:A.tra[k]?=some t){x:Int}:InT A k x↔x∈t.bs.flatten:=by
 constructor
 ·rintro⟨t',e,hx⟩;rw[ht]at e;cases e;exact hx
 ·intro hx;exact⟨t,ht,hx⟩
theorem WdZ (h:GA A)(k:Int):Ob A (ZQ A k)/\(∀j y,TkA (ZQ A k) j y↔TkA A j y)/\(∀x∈YL A k,InT A k.toNat x)/\(YL A k).Nodup/\(YL A k≠[]->∃j:Nat,k=j/\j<A.tb.length) ∧
 ∀j y,InT (ZQ A k) j y↔InT A j y/\¬(j=k.toNat/\y∈YL A k):=by
 by_cases h0:Z6 A k=0
 ·have r:A.ck k=true:=by
   unfold Z6 at h0;split at h0
   ·assumption
   ·cases h0
  obtain⟨j,rfl,D⟩:=HN.1 r;obtain⟨c,H,t,E,m⟩:=h.cl D;have hne:t.bs≠[]:=by
   intro e;unfold Z6 at h0;rw[r,zB rfl,iTn,m]at h0;simp[e]at h0
  have B:ZQ A (j:Int) = {A with tra:=A.tra.set j t.rem}:=by unfold ZQ;rw[zB h0,iTn,KZ m]
  have C:YL A (j:Int)=t.bs.getLast?.getD []:=by unfold YL;rw[zB h0,iTn,m]
  have u:t.bs=t.bs.dropLast++[t.bs.getLast hne]:=(List.dropLast_concat_getLast hne).symm;have J:YL A (j:Int)=t.bs.getLast hne:=by rw[C,List.getLast?_eq_some_getLast hne];rfl
  have d:t.bs.flatten=t.bs.dropLast.flatten++t.bs.getLast hne:=by
   conv=>lhs;rw[u]
   simp
  have s:=h.trn j t m;rw[d]at s;have b:=zBJ.1 s;have g:t.rem.bs=t.bs.dropLast:=rfl;rw[B,J];refine⟨⟨h.setTra (by rw[g];exact b.1) (λx a=>(KR E).2 (h.trt j c H t E m x (by rw[d];exact zBF _ a))) λF z G w=>h.trb j F t z m G ((List.dropLast_sublist _).subset w),Kp.pages rfl rfl rfl rfl,rfl⟩,λ_ _=>Iff.rfl,λx a=>?_,b.2.1,λ_=>⟨j,rfl,D⟩,λi y=>?_⟩
  ·rw[iTn,Gi m,d];exact zBV _ a
  ·rw[Wck (by rw[h.lt];exact D),g,iTn];by_cases hij:i=j
   ·subst hij;rw[Gi m,d,zR];constructor
    ·rintro(⟨_,a⟩|⟨a,_⟩)
     ·exact⟨.inl a,λp=>b.2.2 y a y p.2 rfl⟩
     ·exact(a rfl).elim
    ·rintro⟨a|a,p⟩
     ·exact .inl ⟨rfl,a⟩
     ·exact(p ⟨rfl,a⟩).elim
   ·constructor
    ·rintro(⟨a,_⟩|⟨_,a⟩)
     ·exact(hij a).elim
     ·exact⟨a,λp=>hij p.1⟩
    ·rintro⟨a,_⟩;exact .inr ⟨hij,a⟩
 ·have B:ZQ A k=A:=by unfold ZQ;rw[zA h0]
  have C:YL A k=[]:=by unfold YL;rw[zA h0]
  rw[B,C];exact⟨⟨h,Kp.refl A,rfl⟩,λ_ _=>Iff.rfl,by simp,zCQ,by simp,by simp⟩
theorem WmS (h:GA A)(k:Int){xs:List Int}(hn:xs.Nodup)(hd:∀x∈xs,¬InT A k.toNat x):Ob A (Q9 A k xs)/\(∀j y,TkA (Q9 A k xs) j y↔TkA A j y) ∧
 (Vi A k xs=true->(∃j:Nat,k=j/\j<A.tb.length)/\(∀x∈xs,TkA A k.toNat x)/\∀j y,InT (Q9 A k xs) j y↔InT A j y\/(j=k.toNat/\y∈xs))/\(Vi A k xs=false->Q9 A k xs=A):=by
 by_cases h0:Vi A k xs=true
 ·have B:Hj A k xs=0:=by
   unfold Vi at h0;simp only[zF,zT]at h0;exact h0.1
  have z:A.ck k=true:=by
   unfold Hj at B;split at B
   ·assumption
   ·cases B
  obtain⟨j,rfl,E⟩:=HN.1 z;obtain⟨c,G,t,s,u⟩:=h.cl E;have m:=B;unfold Hj at m;rw[z,zB rfl,iTn,s.1,s.2]at m;simp only at m;have p:xs.length=c.batch:=by
   apply Classical.byContradiction;intro d;rw[zA d]at m;cases m
  rw[zB p]at m;have w:∀x∈xs,TkA A j x:=by
   intro x d;split at m
   ·rename_i C;rw[zAA]at C;rw[KR s];simpa[Tk]using C x d
   ·cases m
  have D:Q9 A (j:Int) xs = {A with tra:=A.tra.set j {t with bs:=t.bs++[xs]}}:=by unfold Q9;rw[zB h0,iTn,KZ u]
  have r:(t.bs++[xs]).flatten=t.bs.flatten++xs:=by simp
  rw[D];refine⟨⟨h.setTra ?_ ?_ ?_,Kp.pages rfl rfl rfl rfl,rfl⟩,λ_ _=>Iff.rfl,λ_=>⟨⟨j,rfl,E⟩,by rw[iTn];exact w,λi y=>?_⟩,λF=>by rw[F]at h0;cases h0⟩
  ·show(t.bs++[xs]).flatten.Nodup;rw[r,zBJ];exact⟨h.trn j t u,hn,λa C b H e=>hd b H (by subst e;rw[iTn,Gi u];exact C)⟩
  ·intro x d;have d:x∈(t.bs++[xs]).flatten:=d;rw[r,zR]at d;rcases d with d|d
   ·exact(KR s).2 (h.trt j c G t s u x d)
   ·exact w x d
  ·intro c' hc' ys g;have g:ys∈t.bs++[xs]:=g;rcases zR.1 g with g|g
   ·exact h.trb j c' t hc' u ys g
   ·simp only[zV]at g;rw[s.1]at hc';cases hc';rw[g];exact p
  ·rw[Wck (by rw[h.lt];exact E),iTn];show(i=j/\y∈(t.bs++[xs]).flatten)\/_↔_;rw[r,zR];by_cases hij:i=j
   ·subst hij;rw[Gi u];constructor
    ·rintro(⟨_,d|d⟩|⟨d,_⟩)
     ·exact .inl d
     ·exact .inr ⟨rfl,d⟩
     ·exact(d rfl).elim
    ·rintro(d|⟨_,d⟩)
     ·exact .inl ⟨rfl,.inl d⟩
     ·exact .inl ⟨rfl,.inr d⟩
   ·constructor
    ·rintro(⟨d,_⟩|⟨_,d⟩)
     ·exact(hij d).elim
     ·exact .inl d
    ·rintro(d|⟨d,_⟩)
     ·exact .inr ⟨hij,d⟩
     ·exact(hij d).elim
 ·have D:Q9 A k xs=A:=by unfold Q9;rw[zA h0]
  rw[D];exact⟨⟨h,Kp.refl A,rfl⟩,λ_ _=>Iff.rfl,λd=>(h0 d).elim,λ_=>rfl⟩
end Go.Ar
namespace Go.Ar
open Go.Bu (Zf QL runS Zu Wbn allF Vj V1 give take Kl Kj Bounded full can YP VS ZM QS ZR Kh QQ Qc V5 U1 take_in)
variable {A:AR}{sp:Sp}{k:Nat}{c:Cls}{ss:List SpA}
structure Ow (A:AR) (sp:Sp):Prop where
 l:sp.st.length=A.n
 own:∀p,A.f p≠0->gf sp.st p≠0
 cl:∀p,A.f p=3->gf sp.st p=1
 le:∀p,gf sp.st p<=2
structure St (A B:AR) (sp sp':Sp):Prop where
 ga:GA B
 ow:Ow B sp'
 n:B.n=A.n
 tb:B.tb=A.tb
 room:B.room=A.room
 same:∀p,A.f p=0->B.f p=0->gf sp'.st p=gf sp.st p
 gone:∀p,A.f p≠0->B.f p=0->gf sp'.st p=0
 new:∀p,A.f p=0->B.f p≠0->gf sp.st p=0/\16<=p
theorem St.refl (h:GA A)(hw:Ow A sp):St A A sp sp:=⟨h,hw,rfl,rfl,rfl,λ_ _ _=>rfl,λp a b=>(a b).elim,λp a b=>(b a).elim⟩
theorem Ow.len {B C:AR}{sp sp':Sp}(h:Ow B sp)(k:Ow C sp')(e:C.n=B.n):sp'.st.length=sp.st.length:=by rw[h.l,k.l,e]
theorem St.trans {B C:AR}{sp' sp'':Sp}(h:St A B sp sp')(k:St B C sp' sp''):St A C sp sp'':=by
 refine⟨k.ga,k.ow,k.n.trans h.n,k.tb.trans h.tb,k.room.trans h.room,λp a b=>?_,λp a b=>?_,λp a b=>?_⟩
 ·by_cases hB:B.f p=0
  ·rw[k.same p hB b,h.same p a hB]
  ·rw[k.gone p hB b,(h.new p a hB).1]
 ·by_cases hB:B.f p=0
  ·rw[k.same p hB b,h.gone p a hB]
  ·exact k.gone p hB b
 ·by_cases hB:B.f p=0
  ·have:=k.new p hB b;rw[h.same p a hB]at this;exact this
  ·exact h.new p a hB
theorem Ow.kp {B:AR}(hw:Ow A sp)(h:Kp A B):Ow B sp:=⟨hw.l.trans h.n.symm,λp a=>hw.own p λe=>a ((h.z p).2 e),λp a=>hw.cl p (h.t p a),hw.le⟩
theorem St.kp {B:AR}(hg:GA B)(hw:Ow A sp)(h:Kp A B):St A B sp sp:=
 ⟨hg,hw.kp h,h.n,h.tb,h.room,λ_ _ _=>rfl,λp a b=>(a ((h.z p).1 b)).elim,λp a b=>(b ((h.z p).2 a)).elim⟩
theorem Ob.st {B:AR}(o:Ob A B)(hw:Ow A sp):St A B sp sp:=St.kp o.ga hw o.kp
theorem GA.grown (h:GA A){B:AR}{sp':Sp}{s size:Nat}(g:Grown A B sp sp' s size):GA B:=by
 have e:∀{j d tt},Cl B j d tt↔Cl A j d tt:=λ{j d tt}=>by unfold Cl;rw[g.tb,g.cen]
 exact⟨g.pg,by rw[g.tb];exact h.tb,by rw[g.cen,g.tb];exact h.lc,by rw[g.tra,g.tb];exact h.lt,λj d tt a=>h.cen j d tt (e.1 a),λj d tt a=>h.one j d tt (e.1 a),λj d tt a p=>by rw[g.ow];exact h.ow j d tt (e.1 a) p,
  λp=>by rw[g.ow,g.runs];exact h.ow41 p,λp=>by rw[g.ow,g.tb];exact h.owb p,by rw[g.runs];exact h.rpos,by rw[g.runs];exact h.rdis,by rw[g.tra];exact h.trn,λj d tt t a b=>h.trt j d tt t (e.1 a) (by rw[←g.tra];exact b),by rw[g.tb,g.tra];exact h.trb⟩
theorem Grown.st (h:GA A)(hw:Ow A sp){B:AR}{sp':Sp}{s size:Nat}(g:Grown A B sp sp' s size):St A B sp sp':=by
 have d:∀p,B.f p≠A.f p->s<=p/\p<s+size:=λp b=>by
  apply Classical.byContradiction;intro hn;exact b (g.o p hn).1
 refine⟨h.grown g,⟨g.l.trans (hw.l.trans g.n.symm),λp b=>?_,λp b=>?_,λp=>?_⟩,g.n,g.tb,g.room,λp j e=>?_,λp j e=>?_,λp j e=>?_⟩
 ·by_cases a:s<=p/\p<s+size
  ·rw[(g.i p a.1 a.2).2];omega
  ·rw[(g.o p a).2];rw[(g.o p a).1]at b;exact hw.own p b
 ·by_cases a:s<=p/\p<s+size
  ·rw[(g.i p a.1 a.2).2]
  ·rw[(g.o p a).2];rw[(g.o p a).1]at b;exact hw.cl p b
 ·by_cases a:s<=p/\p<s+size
  ·rw[(g.i p a.1 a.2).2];omega
  ·rw[(g.o p a).2];exact hw.le p
 ·refine(g.o p λa=>?_).2;rw[(g.i p a.1 a.2).1]at e;omega
 ·have:=d p O;rw[(g.i p this.1 this.2).1]at e;omega
 ·have:=d p O;exact⟨g.un p this.1 this.2,by have:=g.s1;omega⟩
theorem WeL {n:Nat}{S:Nat->Bool}(hb:Bounded S n)(hn:n<=1024){j q m a:Nat}(hf:full S j q=true)(hm:m<=2^j)(ha:a<=2^j):Zu n S m a≠none:=by
 intro h0;have s:S (q*2^j)=true:=YP.1 hf _ (zFW _ (zAG j));obtain⟨i,e⟩:=VS hb s;have g:j<=i:=by
  apply Classical.byContradiction;intro hlt;exact QS e hf rfl (zFW _ (zAG j)) O
 have r:=ZR hb (ZM.1 e).1;have d:i<11:=by
  apply Classical.byContradiction;intro hge;have:2^11<=2^i:=zBP O O;omega
 have p:2^j<=2^i:=zBP O g;have:=U1 h0 i d O O;have b:=(QQ hb (k:=i)).2 ⟨_,rfl,e⟩;rw[this]at b;simp at b
theorem Wan (m:Nat):Q4 m=16\/Q4 m=32\/Q4 m=64:=by
 unfold Q4;split
 ·exact .inl rfl
 ·split
  ·exact .inr (.inl rfl)
  ·exact .inr (.inr rfl)
theorem Wi4 {m:Nat}(h:m<=64):m<=Q4 m:=by
 unfold Q4;split
 ·omega
 ·split<;>omega
theorem Wbv (h:GA A)(hw:Ow A sp){m a no:Nat}(h1:1<=m)(h2:m<=64)(ha:1<=a/\a<=16) :
 (getA A sp m a no=(none,A,sp)/\Zu A.n A.S m a=none/\growStart sp (Q4 (max m a))=none) ∨
 ∃x A1 sp1,getA A sp m a no=(some x,useA A1 x m no,sp1)/\Zu A1.n A1.S m a=some x/\(A1=A/\sp1=sp\/Zu A.n A.S m a=none/\∃s,growStart sp (Q4 (max m a))=some s/\Grown A A1 sp sp1 s (Q4 (max m a))):=by
 cases ht:Zu A.n A.S m a with
 | some x=>exact .inr ⟨x,A,sp,by unfold getA;rw[ht],ht,.inl ⟨rfl,rfl⟩⟩
 | none=>
  cases hg:UO A sp (Q4 (max m a))with
  | none=>
   refine .inl ⟨by unfold getA;rw[ht,hg],rfl,?_⟩;unfold UO at hg;split at hg
   ·assumption
   ·cases hg
  | some r=>
   obtain⟨A1,sp1⟩:=r;obtain⟨s,w,g⟩:=WlH h.pg hw.l (λp b=>Classical.byContradiction λC=>hw.own p C b) (Wan _) hg;have d:Zu A1.n A1.S m a≠none:=by
    have z:=Wi4 (m:=max m a) O;obtain⟨_,_,⟨i,y⟩,_⟩:=UT (by have:=Wan (max m a);omega) w;have key:∃j,Q4 (max m a)=2^j:=by
     rcases Wan (max m a)with e|e|e
     ·exact⟨4,e⟩
     ·exact⟨5,e⟩
     ·exact⟨6,e⟩
    obtain⟨j,B⟩:=key;refine WeL g.pg.bnd g.pg.n2 (j:=j) (q:=i) (YP.2 λp b=>?_) O O;rw[g.pg.fr];rw[Qc,←B,←y]at b;rw[(g.i p b.1 b.2).1];omega
   obtain⟨x,u⟩:=Option.ne_none_iff_exists'.1 d;exact .inr ⟨x,A1,sp1,by unfold getA;rw[ht,hg];simp only;rw[u],u,.inr ⟨rfl,s,w,g⟩⟩
theorem WdJ (h:PG A){m a x:Nat}(hx:Zu A.n A.S m a=some x):∀p,x<=p->p<x+m->A.S p=true:=λp d b=>(take_in h.bnd hx).2 p d b
theorem Wkx (h:PG A){m a x:Nat}(h1:1<=m)(h4:m<=4)(hx:Zu A.n A.S m a=some x):x/16=(x+m-1)/16:=by
 obtain⟨j,_,b,_,d,_⟩:=V5 hx;obtain⟨q,rfl,g⟩:=(QQ h.bnd).1 (List.mem_of_head? d)
 match j,b with
 | 0,b=>
  have:m=1:=by omega
  subst this;rfl
 | 1,b=>
  have:m<=2:=by omega
  simp only[Nat.pow_one]at *;omega
 | j+2,b=>
  have e:2^(j+2)=4*2^j:=by rw[Nat.pow_add];omega
  rw[e,←zEL,Nat.mul_comm q 4,zEL];generalize q*2^j=z;omega
theorem Wi5 (h:PG A){a m no:Nat}(h1:1<=m)(hn:no≠0)(hS:∀p,a<=p->p<a+m->A.S p=true):Kp A (useA A a m no):=by
 obtain⟨o,d,e,g⟩:=We6 h h1 hn hS;refine⟨rfl,rfl,rfl,g,λp b=>?_⟩;by_cases hin:a<=p/\p<a+m
 ·rw[(d p hin.1 hin.2).1]at b;omega
 ·rw[o.f p hin]at b;exact b
theorem GA.addSpan (h:GA A)(hk:Cl A k c ss){x:Nat}(hS:∀p,x<=p->p<x+c.pages->A.S p=true)(h1:x/16=(x+c.pages-1)/16) :
 GA {useA A x c.pages (k+1)with cen:=(useA A x c.pages (k+1)).cen.set k (addS c ss x)}/\(∀s∈ss,s.st+c.pages<=x\/x+c.pages<=s.st):=by
 have m:=h.cen k c ss hk;have r:=m.pg;have B:=hk.lt;have D:=h.tb;obtain⟨o,i,pg,F⟩:=We6 h.pg r (no:=k+1) O hS;have u:∀p,x<=p->p<x+c.pages->A.ow p=0:=λp E C=>by
  have z:=(h.pg.fr p).1 (hS p E C);apply Classical.byContradiction;intro hne;have:=(h.pg.us p).2 hne;omega
 have hd:∀s∈ss,s.st+c.pages<=x\/x+c.pages<=s.st:=λs b=>by
  apply Classical.byContradiction;intro hn;have z:=u (max x s.st) O O;have:=(h.used hk b (p:=max x s.st) O O).2;omega
 refine⟨?_,hd⟩;have e:Cl (useA A x c.pages (k+1)) k c ss:=hk;refine⟨pg.same rfl rfl rfl rfl,h.tb,by show(A.cen.set k _).length=_;simp[h.lc];rfl,h.lt,λj d g a=>?_,λj d g a s b=>?_,λj d g a p=>?_,λp=>?_,λp=>?_,h.rpos,h.rdis,h.trn,λj d g t a w=>?_,h.trb⟩
 ·rcases Uo e a with⟨rfl,rfl,rfl⟩|⟨hne,a⟩
  ·exact Wip m hd
  ·exact h.cen j d g a
 ·rcases Uo e a with⟨rfl,rfl,rfl⟩|⟨hne,a⟩
  ·rcases VD.1 b with rfl|b
   ·exact h1
   ·exact h.one _ _ _ hk s b
  ·exact h.one j d g a s b
 ·show(useA A x c.pages (k+1)).ow p=j+1↔_;by_cases hp:x<=p/\p<x+c.pages
  ·rw[(i p hp.1 hp.2).2];rcases Uo e a with⟨rfl,rfl,rfl⟩|⟨hne,a⟩
   ·exact⟨λ_=>⟨_,VD.2 (.inl rfl),hp.1,hp.2⟩,λ_=>rfl⟩
   ·rw[←h.ow j d g a p,u p hp.1 hp.2];omega
  ·rw[o.ow p hp];rcases Uo e a with⟨rfl,rfl,rfl⟩|⟨hne,a⟩
   ·rw[h.ow _ _ _ hk p];constructor
    ·rintro⟨s,b,h3⟩;exact⟨s,VD.2 (.inr b),h3⟩
    ·rintro⟨s,b,h3⟩;rcases VD.1 b with rfl|b
     ·exact(hp h3).elim
     ·exact⟨s,b,h3⟩
   ·exact h.ow j d g a p
 ·show(useA A x c.pages (k+1)).ow p=41↔inR A.runs p;by_cases hp:x<=p/\p<x+c.pages
  ·rw[(i p hp.1 hp.2).2,←h.ow41,u p hp.1 hp.2];omega
  ·rw[o.ow p hp];exact h.ow41 p
 ·show(useA A x c.pages (k+1)).ow p=41\/(useA A x c.pages (k+1)).ow p<=A.tb.length;by_cases hp:x<=p/\p<x+c.pages
  ·rw[(i p hp.1 hp.2).2];omega
  ·rw[o.ow p hp];exact h.owb p
 ·rcases Uo e a with⟨rfl,rfl,rfl⟩|⟨hne,a⟩
  ·intro y hy;exact(WiV m hd).2 (h.trt _ _ _ t hk w y hy)
  ·exact h.trt j d g t a w
theorem GA.addRun (h:GA A){x m:Nat}(hm:1<=m)(hS:∀p,x<=p->p<x+m->A.S p=true):GA {useA A x m 41 with runs:=A.runs++[(x,m)]}:=by
 have y:=h.tb;obtain⟨o,e,pg,B⟩:=We6 h.pg hm (no:=41) O hS;have g:∀p,x<=p->p<x+m->A.ow p=0:=λp z w=>by
  have u:=(h.pg.fr p).1 (hS p z w);apply Classical.byContradiction;intro hne;have:=(h.pg.us p).2 hne;omega
 refine⟨pg.same rfl rfl rfl rfl,h.tb,h.lc,h.lt,h.cen,h.one,λj d tt b p=>?_,λp=>?_,λp=>?_,λr a=>?_,?_,h.trn,h.trt,h.trb⟩
 ·have b:Cl A j d tt:=b;have:=b.lt;show(useA A x m 41).ow p=j+1↔_;by_cases hp:x<=p/\p<x+m
  ·rw[(e p hp.1 hp.2).2,←h.ow j d tt b p,g p hp.1 hp.2];omega
  ·rw[o.ow p hp];exact h.ow j d tt b p
 ·show(useA A x m 41).ow p=41↔inR (A.runs++[(x,m)]) p;by_cases hp:x<=p/\p<x+m
  ·rw[(e p hp.1 hp.2).2];exact⟨λ_=>⟨(x,m),by simp,hp⟩,λ_=>rfl⟩
  ·rw[o.ow p hp,h.ow41];constructor
   ·rintro⟨r,a,h3⟩;exact⟨r,by simp[a],h3⟩
   ·rintro⟨r,a,h3⟩;rcases zR.1 a with a|a
    ·exact⟨r,a,h3⟩
    ·simp only[zV]at a;subst a;exact(hp h3).elim
 ·show(useA A x m 41).ow p=41\/(useA A x m 41).ow p<=A.tb.length;by_cases hp:x<=p/\p<x+m
  ·rw[(e p hp.1 hp.2).2];omega
  ·rw[o.ow p hp];exact h.owb p
 ·rcases zR.1 a with a|a
  ·exact h.rpos r a
  ·simp only[zV]at a;subst a;exact hm
 ·refine zBT.2 ⟨h.rdis,by simp,λr a s i=>?_⟩;simp only[zV]at i;subst i;apply Classical.byContradiction;intro hn;simp only at hn;have:=h.rpos r a;have u:=g (max x r.1) O O;have:=(h.usedR a (p:=max x r.1) O O).2;omega
theorem Wjk {l:List (Nat×Nat)}{x m:Nat}(h:∀r∈l,r.1≠x):takeAS.mset2 l x m=l++[(x,m)]:=by
 unfold takeAS.mset2;rw[zA];simp only[zw,zZ,not_exists,not_and];exact h
theorem WaD (h:GA A)(hw:Ow A sp)(k:Int) :
 ((growS A sp k=(A,sp))/\KP A sp k≠0) ∨
 ∃(j:Nat) (c:Cls) (ss:List SpA) (x:Nat) (A1:AR) (sp1:Sp),k=j/\Cl A j c ss/\Cl A1 j c ss/\KP A sp k=0/\growS A sp k=({useA A1 x c.pages (j+1)with cen:=(useA A1 x c.pages (j+1)).cen.set j (addS c ss x)},sp1) ∧
  St A A1 sp sp1/\A1.runs=A.runs/\A1.tra=A.tra/\A1.cen=A.cen/\Zu A1.n A1.S c.pages 1=some x/\(∀s∈ss,s.st+c.pages<=x\/x+c.pages<=s.st)/\St A (growS A sp k).1 sp (growS A sp k).2:=by
 by_cases hck:A.ck k=true
 ·obtain⟨j,rfl,F⟩:=HN.1 hck;obtain⟨c,ss,t,b,H⟩:=h.cl F;have G:=h.cen j c ss b;have w:=G.ok;unfold Cls.ok at w;have C:=b.lt;rcases Wbv h hw (m:=c.pages) (a:=1) (no:=j+1) O O O with⟨hg,_⟩|⟨x,A1,sp1,hg,htk,hor⟩
  ·left;have y:KP A sp (j:Int)=6:=by unfold KP;rw[hck,zB rfl,iTn,b.1,b.2];simp only;rw[hg]
   have E:growS A sp (j:Int)=(A,sp):=by unfold growS;rw[hck,zB rfl,iTn,b.1,b.2];simp only;rw[hg]
   rw[E,y];exact⟨rfl,by simp⟩
  ·right;have y:KP A sp (j:Int)=GR c ss x:=by unfold KP;rw[hck,zB rfl,iTn,b.1,b.2];simp only;rw[hg]
   have u:GA A1:=by
    rcases hor with⟨rfl,rfl⟩|⟨_,s,_,g⟩
    ·exact h
    ·exact h.grown g
   have d:St A A1 sp sp1:=by
    rcases hor with⟨rfl,rfl⟩|⟨_,s,_,g⟩
    ·exact St.refl h hw
    ·exact g.st h hw
   have e:A1.runs=A.runs/\A1.tra=A.tra/\A1.cen=A.cen:=by
    rcases hor with⟨rfl,rfl⟩|⟨_,s,_,g⟩
    ·exact⟨rfl,rfl,rfl⟩
    ·exact⟨g.runs,g.tra,g.cen⟩
   have i:Cl A1 j c ss:=⟨by rw[d.tb];exact b.1,by rw[e.2.2];exact b.2⟩;have B:=WdJ u.pg htk;obtain⟨D,hd⟩:=u.addSpan i B (Wkx u.pg O O htk);have z:=WkZ hd;have p:growS A sp (j:Int)=({useA A1 x c.pages (j+1)with cen:=(useA A1 x c.pages (j+1)).cen.set j (addS c ss x)},sp1):=by
    unfold growS;rw[hck,zB rfl,iTn,b.1,b.2];simp only;rw[hg];simp only;rw[zB z]
   refine⟨j,c,ss,x,A1,sp1,rfl,b,i,by rw[y];exact z,p,d,e.1,e.2.1,e.2.2,htk,hd,?_⟩;rw[p];have kp:=Wi5 u.pg (no:=j+1) O O B;exact d.trans (St.kp D d.ow (kp.trans (Kp.pages rfl rfl rfl rfl)))
 ·left;have r:A.ck k=false:=by simpa using hck
  unfold growS KP;rw[r];exact⟨rfl,by simp⟩
theorem Wlg (h:GA A)(hw:Ow A sp)(k:Int):St A (growS A sp k).1 sp (growS A sp k).2/\(growS A sp k).1.runs=A.runs/\(growS A sp k).1.tra=A.tra/\(∀j y,TkA (growS A sp k).1 j y↔TkA A j y)/\(KP A sp k≠0->growS A sp k=(A,sp)):=by
 rcases WaD h hw k with⟨e,_⟩|⟨j,c,ss,x,A1,sp1,rfl,hk,hk1,hE,e,hst,r1,r2,r3,_,hd,hS⟩
 ·rw[e];exact⟨St.refl h hw,rfl,rfl,λ_ _=>Iff.rfl,λ_=>rfl⟩
 ·refine⟨hS,by rw[e];exact r1,by rw[e];exact r2,λi y=>?_,λg=>(g hE).elim⟩;rw[e];have b:Cl (useA A1 x c.pages (j+1)) j c ss:=hk1;rw[WcF b,WiV (h.cen j c ss hk) hd];have d:TkA (useA A1 x c.pages (j+1)) i y↔TkA A i y:=by
   have:(useA A1 x c.pages (j+1)).tb=A.tb/\(useA A1 x c.pages (j+1)).cen=A.cen:=⟨hst.tb,r3⟩;unfold TkA Cl;rw[this.1,this.2]
  rw[d];by_cases hij:i=j
  ·subst hij;rw[KR hk];exact⟨λa=>by rcases a with⟨_,a⟩|⟨a,_⟩;exact a;exact(a rfl).elim,λa=>.inl ⟨rfl,a⟩⟩
  ·exact⟨λa=>by rcases a with⟨a,_⟩|⟨_,a⟩;exact(hij a).elim;exact a,λa=>.inr ⟨hij,a⟩⟩
theorem WeB {m a:Int}(h:Kc m a=true):∃x y:Nat,m=x/\a=y/\1<=x/\x<=64/\(y=1\/y=2\/y=4\/y=8\/y=16):=by
 unfold Kc at h;simp only[zF,zT,zBL,zZ]at h;exact⟨m.toNat,a.toNat,O,O,O,O,O⟩
theorem Wc2 (h:GA A)(hw:Ow A sp)(m a:Int) :
 (takeAS A sp m a=(A,sp)/\Qz A sp m a≠0/\(Kc m a=true->Qz A sp m a=6/\Zu A.n A.S m.toNat a.toNat=none/\growStart sp (Q4 (max m.toNat a.toNat))=none)) ∨
 ∃(x:Nat) (A1:AR) (sp1:Sp),Kc m a=true/\Qz A sp m a=0/\Z5 A sp m a=x/\takeAS A sp m a=({useA A1 x m.toNat 41 with runs:=A.runs++[(x,m.toNat)]},sp1) ∧
  Zu A1.n A1.S m.toNat a.toNat=some x/\(A1=A/\sp1=sp\/Zu A.n A.S m.toNat a.toNat=none/\∃s,growStart sp (Q4 (max m.toNat a.toNat))=some s/\Grown A A1 sp sp1 s (Q4 (max m.toNat a.toNat))) ∧
  St A (takeAS A sp m a).1 sp (takeAS A sp m a).2/\(takeAS A sp m a).1.tra=A.tra/\(∀j y,TkA (takeAS A sp m a).1 j y↔TkA A j y):=by
 by_cases hp:Kc m a=true
 ·obtain⟨b,w,rfl,rfl,K,J,V⟩:=WeB hp;have G:Qz A sp (b:Int) (w:Int)=if(getA A sp b w 41).1.isSome then 0 else 6:=by unfold Qz;rw[zB hp,iTn,iTn]
  have Q:Z5 A sp (b:Int) (w:Int)=(getA A sp b w 41).1.getD 0:=by unfold Z5;rw[zB hp,iTn,iTn]
  rcases Wbv h hw (m:=b) (a:=w) (no:=41) K J O with⟨hg,hn1,hn2⟩|⟨x,A1,sp1,hg,htk,hor⟩
  ·left;have P:takeAS A sp (b:Int) (w:Int)=(A,sp):=by unfold takeAS;rw[zB hp,iTn,iTn,hg]
   rw[P,G,hg,iTn,iTn];exact⟨rfl,by simp,λ_=>⟨rfl,hn1,hn2⟩⟩
  ·right;have z:GA A1:=by
    rcases hor with⟨rfl,rfl⟩|⟨_,s,_,g⟩
    ·exact h
    ·exact h.grown g
   have u:St A A1 sp sp1:=by
    rcases hor with⟨rfl,rfl⟩|⟨_,s,_,g⟩
    ·exact St.refl h hw
    ·exact g.st h hw
   have d:A1.runs=A.runs/\A1.tra=A.tra/\A1.cen=A.cen:=by
    rcases hor with⟨rfl,rfl⟩|⟨_,s,_,g⟩
    ·exact⟨rfl,rfl,rfl⟩
    ·exact⟨g.runs,g.tra,g.cen⟩
   have D:=WdJ z.pg htk;have C:∀r∈A.runs,r.1≠x:=λr L e=>by
    have B:r∈A1.runs:=by rw[d.1];exact L
    have:=z.rpos r B;have U:=(z.usedR B (p:=x) O O).1;have R:=(z.pg.fr x).1 (D x O O);omega
   have i:takeAS A sp (b:Int) (w:Int)=({useA A1 x b 41 with runs:=A.runs++[(x,b)]},sp1):=by
    unfold takeAS;rw[zB hp,iTn,iTn,hg];show({useA A1 x b 41 with runs:=takeAS.mset2 A1.runs x b},sp1)=_;rw[d.1,Wjk C]
   have F:=z.addRun O D;rw[d.1]at F;have kp:=Wi5 z.pg (no:=41) O O D;refine⟨x,A1,sp1,hp,by rw[G,hg];rfl,by rw[Q,hg];rfl,by rw[iTn];exact i,by rw[iTn,iTn];exact htk,by rw[iTn,iTn];exact hor,?_,by rw[i];exact d.2.1,λj y=>?_⟩
   ·rw[i];exact u.trans (St.kp F u.ow (kp.trans (Kp.pages rfl rfl rfl rfl)))
   ·rw[i];have N:({useA A1 x b 41 with runs:=A.runs++[(x,b)]}:AR).tb=A.tb:=u.tb;have H:({useA A1 x b 41 with runs:=A.runs++[(x,b)]}:AR).cen=A.cen:=d.2.2;unfold TkA Cl;rw[N,H]
 ·left;have E:Kc m a=false:=by simpa using hp
  unfold takeAS Qz;rw[E];exact⟨rfl,by simp,λM=>by cases M⟩
theorem Wga {x:Int}{r:Nat×Nat}(h:Wbl A x=some r):r∈A.runs/\x=(r.1:Int):=by
 unfold Wbl at h;exact⟨zDF h,by have:=zDE h;simpa using Eq.symm (by simpa using this)⟩
theorem WiF (h:GA A)(x:Int):(Kp A (QH A x)/\GA (QH A x))/\(QH A x).tra=A.tra/\(∀j y,TkA (QH A x) j y↔TkA A j y)/\(KQ A x≠0->QH A x=A) ∧
 (KQ A x=0->∃r∈A.runs,x=(r.1:Int)/\(QH A x).runs=A.runs.filter λq=>!(q==r)):=by
 cases hr:Wbl A x with
 | none=>
  have e:QH A x=A:=by unfold QH;rw[hr]
  have E:KQ A x=8:=by unfold KQ;rw[hr];rfl
  rw[e,E];exact⟨⟨Kp.refl A,h⟩,rfl,λ_ _=>Iff.rfl,λ_=>rfl,λi=>by cases i⟩
 | some r=>
  obtain⟨b,i⟩:=Wga hr;have s:=h.rpos r b;have u:A.runs.filter (λq=>!((q.1:Int)==x))=A.runs.filter λq=>!(q==r):=by
   apply zFG;intro q g;have:((q.1:Int)==x)=(q==r):=by
    rw[zBD];simp only[zZ];constructor
    ·intro e;have J:=h.rpos q g;exact h.runs_uniq g b (x:=q.1) O O O O
    ·rintro rfl;exact i.symm
   rw[this]
  have e:QH A x=V2 {A with runs:=A.runs.filter λq=>!(q==r)} r:=by unfold QH;rw[hr];simp only;rw[u]
  have E:KQ A x=0:=by unfold KQ;rw[hr];rfl
  obtain⟨a,m⟩:=r;obtain⟨o,B,pg,H⟩:=Wf2 (A:={A with runs:=A.runs.filter λq=>!(q==(a,m))}) (h.pg.same rfl rfl rfl rfl) s (λp F D=>(h.usedR b F D).1);have own:∀p,a<=p->p<a+m->A.ow p=41:=λp F D=>(h.usedR b F D).2;have G:=h.tb;rw[e,E];refine⟨⟨⟨rfl,rfl,rfl,H,λp C=>?_⟩,?_⟩,rfl,λ_ _=>Iff.rfl,λi=>(i rfl).elim,λ_=>⟨_,b,i,rfl⟩⟩
  ·by_cases hin:a<=p/\p<a+m
   ·rw[(B p hin.1 hin.2).1]at C;omega
   ·rw[o.f p hin]at C;exact C
  ·refine⟨pg,h.tb,h.lc,h.lt,h.cen,h.one,λj d tt z p=>?_,λp=>?_,λp=>?_,λq g=>h.rpos q (zH.1 g).1,h.rdis.filter _,h.trn,h.trt,h.trb⟩
   ·have z:Cl A j d tt:=z;have:=z.lt;by_cases hin:a<=p/\p<a+m
    ·rw[(B p hin.1 hin.2).2,←h.ow j d tt z p,own p hin.1 hin.2];omega
    ·rw[o.ow p hin];exact h.ow j d tt z p
   ·show _↔inR (A.runs.filter λq=>!(q==(a,m))) p;by_cases hin:a<=p/\p<a+m
    ·rw[(B p hin.1 hin.2).2];constructor
     ·intro i;omega
     ·rintro⟨q,g,q1,q2⟩;have w:=zH.1 g;have:=h.runs_uniq w.1 b q1 q2 hin.1 hin.2;subst this;simp at w
    ·rw[o.ow p hin];show A.ow p=41↔_;rw[h.ow41];constructor
     ·rintro⟨q,g,q1⟩;refine⟨q,zH.2 ⟨g,?_⟩,q1⟩;have:q≠(a,m):=by rintro rfl;exact hin q1
      simpa using this
     ·rintro⟨q,g,q1⟩;exact⟨q,(zH.1 g).1,q1⟩
   ·by_cases hin:a<=p/\p<a+m
    ·rw[(B p hin.1 hin.2).2];omega
    ·rw[o.ow p hin];exact h.owb p
theorem Wis (hk:Cl A k c ss):QN A k=swp A k c ss:=by unfold QN swp;rw[hk.1,hk.2]
theorem Wdl (h:GA A):∀m,m<=A.tb.length->Ob A ((List.range m).foldl QN A)/\((List.range m).foldl QN A).tra=A.tra/\∀j y,TkA ((List.range m).foldl QN A) j y↔TkA A j y
 | 0,_=>⟨⟨h,Kp.refl A,rfl⟩,rfl,λ_ _=>Iff.rfl⟩
 | m+1,hm=>by
  obtain⟨o,e,t⟩:=Wdl h m O;rw[zAB,zAS,zAI,List.foldl_nil];generalize (List.range m).foldl QN A=B at o e t;obtain⟨c,d,_,a,_⟩:=o.ga.cl (k:=m) (by rw[o.kp.tb];omega);rw[Wis a];have b:=o.ga.swpB a;exact⟨⟨o.ga.swp a,o.kp.trans (o.ga.swpK a),b.runs.trans o.runs⟩,b.tra.trans e,λj y=>(o.ga.swpT a).trans (t j y)⟩
theorem Uw (h:GA A):Ob A (YK A)/\(YK A).tra=A.tra/\∀j y,TkA (YK A) j y↔TkA A j y:=Wdl h _ (zD _)
theorem Weh (k:Nat):∀(outs:List (List Int)) {A:AR},GA A->outs.flatten.Nodup->(∀x∈outs.flatten,TkA A k x/\¬InT A k x) →
 Ob A (outs.foldl (λA' xs=>Ze A' (k:Int) xs) A)/\(outs.foldl (λA' xs=>Ze A' (k:Int) xs) A).tra=A.tra/\∀j y,TkA (outs.foldl (λA' xs=>Ze A' (k:Int) xs) A) j y↔TkA A j y/\¬(j=k/\y∈outs.flatten)
 | [],A,h,_,_=>⟨⟨h,Kp.refl A,rfl⟩,rfl,by simp⟩
 | xs::outs,A,h,hn,ht=>by
  rw[zDU]at hn ht;have hn':=zBJ.1 hn;have m:∀x∈xs,TkA A k x/\¬InT A k x:=λx i=>ht x (zBF _ i);rw[zAI];cases xs with
  | nil=>
   have s:Ze A (k:Int) []=A\/QW A (k:Int) []=0:=by
    by_cases w:QW A (k:Int) []=0
    ·exact .inr w
    ·exact .inl (by unfold Ze;rw[zA w])
   obtain⟨o,e,t,_⟩:=Wcx h (k:=(k:Int)) (xs:=[]) (λ_=>by simp);have u:∀j y,TkA (Ze A (k:Int) []) j y↔TkA A j y:=λj y=>by
    rcases s with s|s
    ·rw[s]
    ·rw[t s];simp
   have p:∀j y,InT (Ze A (k:Int) []) j y↔InT A j y:=λj y=>by unfold InT;rw[e]
   obtain⟨o2,z,B⟩:=Weh k outs o.ga hn'.2.1 λx i=>by rw[u,p];exact ht x (zBV _ i)
   exact⟨⟨o2.ga,o.kp.trans o2.kp,o2.runs.trans o.runs⟩,z.trans e,λj y=>by rw[B,u];simp⟩
  | cons x0 xs=>
   obtain⟨c,D,C,_⟩:=(m x0 aA).1;have w:QW A (k:Int) (x0::xs)=0:=by
    rw[Gb h C];exact Wi8 ⟨λx i=>(KR C).1 (m x i).1,hn'.1⟩
   obtain⟨o,e,t,_⟩:=Wcx h (k:=(k:Int)) (xs:=x0::xs) (λ_ x i=>by rw[iTn];exact(m x i).2);have u:=t w;have p:∀j y,InT (Ze A (k:Int) (x0::xs)) j y↔InT A j y:=λj y=>by unfold InT;rw[e]
   obtain⟨o2,z,B⟩:=Weh k outs o.ga hn'.2.1 λx i=>by
    rw[u,p];have:=ht x (zBV _ i);exact⟨⟨this.1,λg=>hn'.2.2 x g.2 x i rfl⟩,this.2⟩
   refine⟨⟨o2.ga,o.kp.trans o2.kp,o2.runs.trans o.runs⟩,z.trans e,λj y=>?_⟩;rw[B,u,iTn,zDU,zR];constructor
   ·rintro⟨⟨a,b⟩,d⟩;refine⟨a,λ⟨r,g⟩=>?_⟩;rcases g with g|g
    ·exact b ⟨r,g⟩
    ·exact d ⟨r,g⟩
   ·rintro⟨a,b⟩;exact⟨⟨a,λ⟨r,g⟩=>b ⟨r,.inl g⟩⟩,λ⟨r,g⟩=>b ⟨r,.inr g⟩⟩
structure Tck (A B:AR):Prop where
 ob:Ob A B
 sub:∀j y,InT B j y->InT A j y
 tk:∀j y,TkA B j y↔TkA A j y/\(InT A j y->InT B j y)
theorem Tck.trans {B C:AR}(h:Tck A B)(k:Tck B C):Tck A C:=
 ⟨⟨k.ob.ga,h.ob.kp.trans k.ob.kp,k.ob.runs.trans h.ob.runs⟩,λj y g=>h.sub j y (k.sub j y g),λj y=>by
  rw[k.tk,h.tk];exact⟨λ⟨⟨a,b⟩,d⟩=>⟨a,λe=>d (b e)⟩,λ⟨a,b⟩=>⟨⟨a,λe=>k.sub j y (b e)⟩,λe=>b (h.sub j y e)⟩⟩⟩
theorem WhQ (h:GA A)(hk:k<A.tb.length):Tck A (Ks A k):=by
 obtain⟨c,J,t,F,m⟩:=h.cl hk;have p:k<A.tra.length:=by rw[h.lt];exact hk
 have e:Ks A k=t.out.foldl (λA' w=>Ze A' (k:Int) w) {A with tra:=A.tra.set k t.tick}:=by unfold Ks;rw[m]
 have z:t.bs=t.out++t.tick.bs:=(zBE ((t.low+1)/2) t.bs).symm;have i:t.bs.flatten=t.out.flatten++t.tick.bs.flatten:=by conv=>lhs;rw[z];rw[zGD]
 have s:=h.trn k t m;rw[i]at s;have g:=zBJ.1 s;have r:∀x∈t.bs.flatten,TkA A k x:=λx d=>(KR F).2 (h.trt k c J t F m x d);have G:GA {A with tra:=A.tra.set k t.tick}:=h.setTra g.2.1 (λx d=>r x (by rw[i];exact zBV _ d)) λH C w B=>h.trb k H t C m w (t.tick_sub w B);obtain⟨o,D,E⟩:=Weh k t.out G g.1 λx d=>by
  refine⟨r x (by rw[i];exact zBF _ d),?_⟩;rw[Wck p];rintro(⟨_,hy⟩|⟨hy,_⟩)
  ·exact g.2.2 x d x hy rfl
  ·exact hy rfl
 rw[←e]at o D E;have u:∀j y,InT (Ks A k) j y↔(j=k/\y∈t.tick.bs.flatten)\/(j≠k/\InT A j y):=λj y=>by
  rw[←Wck p];unfold InT;rw[D]
 refine⟨⟨o.ga,(Kp.pages rfl rfl rfl rfl:Kp A {A with tra:=A.tra.set k t.tick}).trans o.kp,o.runs⟩,λj y d=>?_,λj y=>?_⟩
 ·rcases(u j y).1 d with⟨rfl,hy⟩|⟨_,hy⟩
  ·rw[Gi m,i];exact zBV _ hy
  ·exact hy
 ·rw[E,u];show TkA A j y/\_↔_;by_cases hjk:j=k
  ·subst hjk;rw[Gi m,i,zR];constructor
   ·rintro⟨a,b⟩;refine⟨a,λd=>?_⟩;rcases d with d|d
    ·exact(b ⟨rfl,d⟩).elim
    ·exact .inl ⟨rfl,d⟩
   ·rintro⟨a,b⟩;refine⟨a,λ⟨_,d⟩=>?_⟩;rcases b (.inl d)with⟨_,hy⟩|⟨hy,_⟩
    ·exact g.2.2 y d y hy rfl
    ·exact hy rfl
  ·exact⟨λ⟨a,_⟩=>⟨a,λd=>.inr ⟨hjk,d⟩⟩,λ⟨a,_⟩=>⟨a,λ⟨d,_⟩=>hjk d⟩⟩
theorem Wfk (h:GA A):∀m,m<=A.tb.length->Tck A ((List.range m).foldl Ks A)
 | 0,_=>⟨⟨h,Kp.refl A,rfl⟩,λ_ _=>id,λ_ _=>⟨λa=>⟨a,id⟩,λa=>a.1⟩⟩
 | m+1,hm=>by
  have t:=Wfk h m O;rw[zAB,zAS,zAI,List.foldl_nil];exact t.trans (WhQ t.ob.ga (by rw[t.ob.kp.tb];omega))
theorem WjW (h:GA A):Tck A (U4 A):=Wfk h _ (by rw[h.lt];exact zD _)
end Go.Ar
namespace Go.Ar
open Go.Bu (Zf QL runS Zu Wbn allF Vj V1 give take Kl Kj Bounded)
variable {A:AR}{sp:Sp}{k:Nat}{c:Cls}{ss:List SpA}
theorem Wcp {st:List Nat}{a m v:Nat}(hl:a+m<=st.length):v∈(st.drop a).take m↔∃p,a<=p/\p<a+m/\gf st p=v:=by
 constructor
 ·intro hm;obtain⟨i,b⟩:=zN hm;rw[zX]at b;split at b
  ·rename_i hlt;rw[zn]at b;refine⟨a+i,O,O,?_⟩;unfold gf;rw[zM,b];rfl
  ·cases b
 ·rintro⟨p,h1,h2,h3⟩;have d:p<st.length:=by omega
  unfold gf at h3;rw[zM,gGe d]at h3;refine zE (i:=p-a) ?_;rw[zX,zB O,zn,show a+(p-a)=p by omega,gGe d];exact congrArg some h3
theorem Hc {st:List Nat}{a b v:Nat}(hab:a<=b)(hb:b<=st.length):cntR st a b v=0↔∀p,a<=p->p<b->gf st p≠v:=by
 unfold cntR;rw[zEY,Wcp O];constructor
 ·intro h p d g e;exact h ⟨p,d,O,e⟩
 ·rintro h ⟨p,d,g,e⟩;exact h p d O e
theorem WcV {s m v:Nat}(h1:1<=m)(h2:s+m<=sp.st.length)(h:∀p,s<=p->p<s+m->gf sp.st p≠0):leaveS sp (s:Int) (m:Int) v=sp.set s m v:=by
 unfold leaveS leaveE;rw[zB (Vk.2 ⟨h1,h2⟩),iTn,iTn,(WhW h2).2 h];rfl
theorem Wl4 {s m v:Nat}(h2:s+m<=sp.st.length)(p:Nat):gf (sp.set s m v).st p=if s<=p/\p<s+m then v else gf sp.st p:=He h2
theorem WlS {s m v x:Nat}(h:¬(s<=x/32/\x/32<s+m)):(sp.set s m v).wd x=sp.wd x:=by
 show(if s*32<=x/\x<(s+m)*32 then 0 else sp.wd x)=_
 rw[zA O]
structure Trm (A B:AR) (sp sp':Sp) (l:List Nat):Prop where
 st:St A B sp sp'
 f:∀p,B.f p=if p/16∈l then 0 else A.f p
 ow:B.ow=A.ow
 tra:B.tra=A.tra
 cen:B.cen=A.cen
 runs:B.runs=A.runs
 wd:∀x,x/32/16∉l->sp'.wd x=sp.wd x
 gf:∀p,p/16∉l->gf sp'.st p=gf sp.st p
 pk:sp'.pk=sp.pk
theorem Wls (h:GA A)(hw:Ow A sp){g:Nat}(hg:16*g+16<=A.n)(hi:∀p,p/16=g->2<=A.f p):Trm A (Ve (A,sp) g).1 sp (Ve (A,sp) g).2 [g]:=by
 have w:∀p,16*g<=p/\p<16*g+16↔p/16=g:=λp=>by omega
 have D:(Ve (A,sp) g).1.st=setR A.st (16*g) (16*g+16) 0:=by
  show remT A.st (g:Int)=_;have C:WgM A.st g=true:=by
   unfold WgM;have u:=hi (16*g) O;have i:=(Hc (st:=A.st) (a:=16*g) (b:=16*g+16) (v:=1) O (by rw[h.pg.len];exact hg)).2 λp F E e=>by
    have:=hi p O;unfold AR.f at this;omega
   unfold AR.f gf at u;have z:A.st.getD (16*g) 0≠0:=by omega
   rw[i,bne_iff_ne.2 z];rfl
  unfold remT remE;rw[UE (by rw[h.pg.len];exact hg),zB rfl,iTn,C];rfl
 have G:(Ve (A,sp) g).1.S=take A.S (g*16) (g*16+16):=WnB (n:=A.n) (S:=A.S) (a:=g*16) (m:=16) O O λp F E=>by rw[h.pg.fr];exact hi p O
 have y:(Ve (A,sp) g).2=sp.set (g*16) 16 0:=WcV (sp:=sp) (s:=g*16) (m:=16) (v:=0) O (by rw[hw.l];omega) λp F E=>hw.own p (by have:=hi p O;omega);have B:g*16+16<=sp.st.length:=by rw[hw.l];omega
 have j:∀p,(Ve (A,sp) g).1.f p=if p/16=g then 0 else A.f p:=λp=>by
  unfold AR.f;rw[D,He (by rw[h.pg.len];exact hg)];by_cases hp:p/16=g
  ·rw[zB hp,zB ((w p).2 hp)]
  ·rw[zA hp,zA (λd=>hp ((w p).1 d))]
 have r:∀p,gf (Ve (A,sp) g).2.st p=if p/16=g then 0 else gf sp.st p:=λp=>by
  rw[y,Wl4 B];by_cases hp:p/16=g
  ·rw[zB hp,zB O]
  ·rw[zA hp,zA O]
 have pg:PG (Ve (A,sp) g).1:=by
  refine⟨by rw[D,Ql];exact h.pg.len,h.pg.n1,h.pg.n2,h.pg.n16,λp=>?_,λp=>?_,λp=>?_,λp=>?_⟩
  ·rw[j];have:=h.pg.le p;split<;>omega
  ·rw[j];show _↔A.ow p≠0;have:=h.pg.us p;by_cases hp:p/16=g
   ·rw[zB hp];have:=hi p hp;constructor
    ·intro d;omega
    ·intro d;have:=(h.pg.us p).2 d;omega
   ·rw[zA hp];exact this
  ·rw[j,G,Kj];have:=h.pg.fr p;by_cases hp:p/16=g
   ·rw[zB hp];constructor
    ·rintro⟨_,d⟩;exact(d O).elim
    ·intro d;omega
   ·rw[zA hp];constructor
    ·rintro⟨d,_⟩;exact this.1 d
    ·intro d;exact⟨this.2 d,O⟩
  ·rw[j,j];have e:p/16*16/16=p/16:=by omega
   rw[e];split
   ·exact Iff.rfl
   ·exact h.pg.hp p
 have J:GA (Ve (A,sp) g).1:=⟨pg,h.tb,h.lc,h.lt,h.cen,h.one,h.ow,h.ow41,h.owb,h.rpos,h.rdis,h.trn,h.trt,h.trb⟩;refine⟨⟨J,⟨by rw[y];show(setR _ _ _ _).length=A.n;rw[Ql];exact hw.l,λp hp=>?_,λp hp=>?_,λp=>?_⟩,rfl,rfl,rfl,λp u i=>?_,λp u i=>?_,λp u i=>?_⟩,λp=>?_,rfl,rfl,rfl,rfl,λx d=>?_,λp hp=>?_,?_⟩
 ·rw[j]at hp;rw[r];split at hp
  ·exact(hp rfl).elim
  ·rename_i hn;rw[zA hn];exact hw.own p hp
 ·rw[j]at hp;rw[r];split at hp
  ·cases hp
  ·rename_i hn;rw[zA hn];exact hw.cl p hp
 ·rw[r];have:=hw.le p;split<;>omega
 ·rw[r];by_cases hp:p/16=g
  ·have:=hi p hp;omega
  ·rw[zA hp]
 ·rw[j]at i;rw[r];split at i
  ·rename_i hp;rw[zB hp]
  ·exact(u i).elim
 ·rw[j]at i;split at i
  ·exact(i rfl).elim
  ·exact(i u).elim
 ·rw[j];simp
 ·rw[y];exact WlS λH=>d aE
 ·rw[r,zA (by simpa using hp)]
 ·rw[y];rfl
theorem WfT:∀(l:List Nat) {A:AR} {sp:Sp},GA A->Ow A sp->l.Nodup->(∀g∈l,16*g+16<=A.n/\∀p,p/16=g->2<=A.f p)->Trm A (l.foldl Ve (A,sp)).1 sp (l.foldl Ve (A,sp)).2 l
 | [],A,sp,h,hw,_,_=>⟨St.refl h hw,λp=>by simp,rfl,rfl,rfl,rfl,λ_ _=>rfl,λ_ _=>rfl,rfl⟩
 | g::l,A,sp,h,hw,hn,hi=>by
  have hn':=zo.1 hn;have t:=Wls h hw (hi g aA).1 (hi g aA).2;have k:=WfT l (A:=(Ve (A,sp) g).1) (sp:=(Ve (A,sp) g).2) t.st.ga t.st.ow hn'.2 λe a=>by
   refine⟨by rw[t.st.n];exact(hi e (by simp[a])).1,λp b=>?_⟩;rw[t.f,zA (by simp;rintro rfl;exact hn'.1 (b▸a))];exact(hi e (by simp[a])).2 p b
  rw[zAI];refine⟨t.st.trans k.st,λp=>?_,k.ow.trans t.ow,k.tra.trans t.tra,k.cen.trans t.cen,k.runs.trans t.runs,λx d=>?_,λp b=>?_,k.pk.trans t.pk⟩
  ·rw[k.f,t.f];by_cases h1:p/16∈l
   ·rw[zB h1,zB (by simp[h1])]
   ·rw[zA h1];by_cases h2:p/16=g
    ·rw[zB (by simp[h2]),zB (by simp[h2])]
    ·rw[zA (by simp[h2]),zA (by simp[h1,h2])]
  ·simp only[zQ,not_or]at d;exact(k.wd x d.2).trans (t.wd x (by simpa using d.1))
  ·simp only[zQ,not_or]at b;exact(k.gf p b.2).trans (t.gf p (by simpa using b.1))
theorem Wd0 (h:GA A){g:Nat}:g∈Ki A.st 0↔16*g+16<=A.n/\∀p,p/16=g->2<=A.f p:=by
 have u:=h.pg.n16;unfold Ki;rw[zH,zU,h.pg.len];have m:∀(d:16*g+16<=A.n),(KN A.st g==0)=true↔∀p,p/16=g->A.f p≠1:=λd=>by
  have i:=Hc (st:=A.st) (a:=16*g) (b:=16*g+16) (v:=1) O (by rw[h.pg.len];exact d);have e:(KN A.st g==0)=true↔cntR A.st (16*g) (16*g+16) 1=0:=by
   unfold KN;split
   ·rename_i hx;simp[hx]
   ·rename_i hx;constructor
    ·intro hy;split at hy<;>simp at hy
    ·intro hy;exact(hx hy).elim
  rw[e,i];constructor
  ·intro hx p j;exact hx p O O
  ·intro hx p p1 p2;exact hx p O
 simp only[zF,bne_iff_ne,ne_eq];constructor
 ·rintro⟨h1,i,h3⟩;have d:16*g+16<=A.n:=by omega
  refine⟨d,λp j=>?_⟩;have r:=(m d).1 h3 p j;have s:A.f p≠0:=λe=>i ((h.pg.hp2 (q:=16*g) O).1 e);omega
 ·rintro⟨d,i⟩;refine⟨O,λe=>?_,(m d).2 λp j e=>?_⟩
  ·have e:A.f (16*g)=0:=e;have:=i (16*g) O;omega
  ·have:=i p j;omega
theorem WeQ (st:List Nat)(k:Nat):(Ki st k).Nodup:=List.nodup_range.filter _
theorem Wki (h:GA A)(hw:Ow A sp):Trm A (trimS A sp).1 sp (trimS A sp).2 (Ki A.st 0):=WfT _ h hw (WeQ _ _) λg a=>(Wd0 h).1 a
structure Rlz (A B:AR) (sp sp':Sp) (rs:List (Nat×Nat)):Prop where
 st:St A B sp sp'
 i:∀p,inR rs p->A.f p=2/\B.f p=3/\gf sp'.st p=1
 o:∀p,¬inR rs p->B.f p=A.f p/\gf sp'.st p=gf sp.st p
 ow:B.ow=A.ow
 tra:B.tra=A.tra
 cen:B.cen=A.cen
 runs:B.runs=A.runs
 wd:∀x,¬inR rs (x/32)->sp'.wd x=sp.wd x
 pk:sp'.pk=sp.pk
theorem Wmx (h:GA A)(hw:Ow A sp){a m:Nat}(h1:1<=m)(hi:∀p,a<=p->p<a+m->A.f p=2):Rlz A (rel1 (A,sp) (a,m)).1 sp (rel1 (A,sp) (a,m)).2 [(a,m)]:=by
 have w:a+m<=A.n:=by have:=h.pg.lt (p:=a+m-1) (by rw[hi _ O O];omega);omega
 have g:∀p,inR [(a,m)] p↔a<=p/\p<a+m:=λp=>by simp[inR]
 have B:(rel1 (A,sp) (a,m)).1.st=setR A.st a (a+m) 3:=Wcl h1 (by rw[h.pg.len];exact w) λp z y=>by
  have:=hi p z y;unfold AR.f at this;rw[this];simp
 have j:a+m<=sp.st.length:=by rw[hw.l];exact w
 have s:(rel1 (A,sp) (a,m)).2=sp.set a m 1:=WcV h1 j λp z y=>hw.own p (by rw[hi p z y];omega);have d:∀p,(rel1 (A,sp) (a,m)).1.f p=if a<=p/\p<a+m then 3 else A.f p:=λp=>by unfold AR.f;rw[B,He (by rw[h.pg.len];exact w)]
 have i:∀p,gf (rel1 (A,sp) (a,m)).2.st p=if a<=p/\p<a+m then 1 else gf sp.st p:=λp=>by rw[s,Wl4 j]
 have u:∀p,(rel1 (A,sp) (a,m)).1.f p=0↔A.f p=0:=λp=>by
  rw[d];split
  ·rename_i b;rw[hi p b.1 b.2];omega
  ·exact Iff.rfl
 have pg:PG (rel1 (A,sp) (a,m)).1:=by
  refine⟨by rw[B,Ql];exact h.pg.len,h.pg.n1,h.pg.n2,h.pg.n16,λp=>?_,λp=>?_,λp=>?_,Wno h.pg u⟩
  ·rw[d];have:=h.pg.le p;split<;>omega
  ·rw[d];show _↔A.ow p≠0;rw[←h.pg.us p];split
   ·rename_i b;rw[hi p b.1 b.2];omega
   ·exact Iff.rfl
  ·rw[d];show A.S p=true↔_;rw[h.pg.fr p];split
   ·rename_i b;rw[hi p b.1 b.2];omega
   ·exact Iff.rfl
 have D:GA (rel1 (A,sp) (a,m)).1:=⟨pg,h.tb,h.lc,h.lt,h.cen,h.one,h.ow,h.ow41,h.owb,h.rpos,h.rdis,h.trn,h.trt,h.trb⟩;refine⟨⟨D,⟨by rw[s];show(setR _ _ _ _).length=A.n;rw[Ql];exact hw.l,λp b=>?_,λp b=>?_,λp=>?_⟩,rfl,rfl,rfl,λp h1 r=>?_,λp h1 r=>(h1 ((u p).1 r)).elim,λp h1 r=>(r ((u p).2 h1)).elim⟩,λp b=>?_,λp b=>?_,rfl,rfl,rfl,rfl,λx C=>?_,?_⟩
 ·rw[i];split
  ·omega
  ·rename_i hn;exact hw.own p λe=>b ((u p).2 e)
 ·rw[d]at b;rw[i];split at b
  ·rename_i hn;rw[zB hn]
  ·rename_i hn;rw[zA hn];exact hw.cl p b
 ·rw[i];have:=hw.le p;split<;>omega
 ·rw[i,zA λb=>by have:=hi p b.1 b.2;omega]
 ·rw[g]at b;rw[d,i,zB b,zB b];exact⟨hi p b.1 b.2,rfl,rfl⟩
 ·rw[g]at b;rw[d,i,zA b,zA b];exact⟨rfl,rfl⟩
 ·rw[g]at C;rw[s];exact WlS C
 ·rw[s];rfl
theorem WjA:∀(rs:List (Nat×Nat)) {A:AR} {sp:Sp},GA A->Ow A sp->(∀r∈rs,1<=r.2/\∀p,r.1<=p->p<r.1+r.2->A.f p=2)->rs.Pairwise (λa b=>a.1+a.2<=b.1\/b.1+b.2<=a.1) →
 Rlz A (rs.foldl rel1 (A,sp)).1 sp (rs.foldl rel1 (A,sp)).2 rs
 | [],A,sp,h,hw,_,_=>⟨St.refl h hw,λp ⟨r,hr,_⟩=>by simp at hr,λp _=>⟨rfl,rfl⟩,rfl,rfl,rfl,rfl,λ_ _=>rfl,rfl⟩
 | (a,m)::rs,A,sp,h,hw,hi,hd=>by
  have hd':=zAR.1 hd;have j:=hi (a,m) (zAP ..);have t:=Wmx h hw j.1 j.2;have e:∀p,inR [(a,m)] p↔a<=p/\p<a+m:=λp=>by simp[inR]
  have d:∀p,inR ((a,m)::rs) p↔(a<=p/\p<a+m)\/inR rs p:=λp=>by simp[inR]
  have k:=WjA rs (A:=(rel1 (A,sp) (a,m)).1) (sp:=(rel1 (A,sp) (a,m)).2) t.st.ga t.st.ow (λr hr=>by
   have:=hi r (zAM _ hr);refine⟨this.1,λp C B=>?_⟩;have w:=hd'.1 r hr;simp only at w;rw[(t.o p (by rw[e];omega)).1];exact this.2 p C B) hd'.2
  rw[zAI];refine⟨t.st.trans k.st,λp u=>?_,λp u=>?_,k.ow.trans t.ow,k.tra.trans t.tra,k.cen.trans t.cen,k.runs.trans t.runs,λx w=>?_,k.pk.trans t.pk⟩
  ·by_cases s:inR rs p
   ·have:=k.i p s;refine⟨?_,this.2⟩;by_cases g:a<=p/\p<a+m
    ·exact j.2 p g.1 g.2
    ·rw[←(t.o p (by rw[e];exact g)).1];exact this.1
   ·have g:a<=p/\p<a+m:=((d p).1 u).resolve_right s;have y:=t.i p ((e p).2 g);have z:=k.o p s;exact⟨y.1,z.1.trans y.2.1,z.2.trans y.2.2⟩
  ·rw[d]at u;have s:¬inR rs p:=λh=>u (.inr h);have g:¬inR [(a,m)] p:=λh=>u (.inl ((e p).1 h));exact⟨(k.o p s).1.trans (t.o p g).1,(k.o p s).2.trans (t.o p g).2⟩
  ·rw[d]at w;exact(k.wd x λh=>w (.inr h)).trans (t.wd x λh=>w (.inl ((e _).1 h)))
theorem Wjh {st:List Nat}{p m:Nat}(hl:p+m<=st.length):runL st p m<=m/\(∀x,p<=x->x<p+runL st p m->gf st x=2)/\(runL st p m<m->gf st (p+runL st p m)≠2):=by
 have key:∀(l:List Nat),(l.takeWhile (· == 2)).length<=l.length/\(∀i,i<(l.takeWhile (· == 2)).length->l[i]?=some 2)/\((l.takeWhile (· == 2)).length<l.length->l[(l.takeWhile (· == 2)).length]?≠some 2):=by
  intro l
  induction l with
  | nil=>simp
  | cons x l ih=>
   rw[zEV];by_cases hx:x=2
   ·subst hx;simp only[beq_self_eq_true,zS,zP];refine⟨O,λi g=>?_,λa=>?_⟩
    ·cases i with
     | zero=>rfl
     | succ i=>simpa using ih.2.1 i O
    ·simpa using ih.2.2 O
   ·have:(x==2)=false:=by simpa using hx
    simp[this,hx]
 have k:=key ((st.drop p).take m);have d:((st.drop p).take m).length=m:=by simp;omega
 have get:∀i,i<m->((st.drop p).take m)[i]?=some (gf st (p+i)):=λi g=>by
  rw[zX,zB g,zn];unfold gf;rw[zM,gGe O];rfl
 rw[d]at k;refine⟨k.1,λx s j=>?_,λa=>?_⟩
 ·have b:=k.2.1 (x-p) (by unfold runL at j;omega);have r:runL st p m<=m:=k.1;rw[get _ O,show p+(x-p)=x by omega]at b;exact Option.some.inj b
 ·have b:=k.2.2 a;have e:(((st.drop p).take m).takeWhile (· == 2)).length=runL st p m:=rfl;rw[e,get _ a]at b;exact λe=>b (congrArg some e)
theorem Vu {st:List Nat}{e:Nat}(he:e<=st.length):∀(f p:Nat),(∀r∈QX st e f p,1<=r.2/\p<=r.1/\r.1+r.2<=e/\∀x,r.1<=x->x<r.1+r.2->gf st x=2)/\(QX st e f p).Pairwise (λa b=>a.1+a.2<=b.1) ∧
 (e-p<f->∀x,p<=x->x<e->gf st x=2->inR (QX st e f p) x)/\((QX st e f p).map (·.2)).sum<=e-p
 | 0,p=>⟨by simp[QX],by simp[QX],λh=>O,by simp[QX]⟩
 | f+1,p=>by
  rw[QX];split
  ·rename_i hp;exact⟨by simp,by simp,λ_ x h1 h2=>O,by simp⟩
  ·rename_i hp;have hr:=Wjh (st:=st) (p:=p) (m:=e-p) O;split
   ·rename_i h0;obtain⟨i,j,s,w⟩:=Vu he f (p+1);refine⟨λr d=>?_,j,λu x h1 h2 g=>?_,O⟩
    ·have:=i r d;exact⟨this.1,O,this.2.2⟩
    ·by_cases hx:x=p
     ·subst hx;rw[h0]at hr;exact(hr.2.2 O (by simpa using g)).elim
     ·exact s O x O h2 g
   ·rename_i h0;obtain⟨i,j,s,w⟩:=Vu he f (p+runL st p (e-p)+1);refine⟨λr d=>?_,zAR.2 ⟨λr d=>?_,j⟩,λu x h1 h2 g=>?_,?_⟩
    ·rcases zQ.1 d with rfl|d
     ·exact⟨by simp only;omega,zD _,by simp only;omega,hr.2.1⟩
     ·have:=i r d;exact⟨this.1,O,this.2.2⟩
    ·have:=i r d;simp only;omega
    ·by_cases hx:x<p+runL st p (e-p)
     ·exact⟨_,zAP ..,h1,hx⟩
     ·by_cases hx2:x=p+runL st p (e-p)
      ·subst hx2;exact(hr.2.2 O g).elim
      ·obtain⟨r,d,y⟩:=s O x O h2 g;exact⟨r,zAM _ d,y⟩
    ·simp only[zJ,zr];omega
theorem Wiz (st:List Nat)(l:List Nat)(h:Nat):(insH st l h).Perm (h::l):=by
 unfold insH;refine List.perm_middle.trans ?_;rw[zGR]
theorem WdF (st:List Nat):(ordT st).Perm ((List.range (st.length/16)).filter λh=>0<cntR st (16*h) (16*h+16) 2):=by
 unfold ordT;have key:∀(l m:List Nat),(l.foldl (insH st) m).Perm (l++m):=by
  intro l
  induction l with
  | nil=>intro m;exact List.Perm.refl _
  | cons x l ih=>
   intro m;rw[zAI,zAL];refine(ih _).trans ?_;refine((Wiz st m x).append_left l).trans ?_;exact List.perm_middle
 simpa using key _ []
theorem WcR (want:Int):∀(x:Nat) (l:List (Nat×Nat)),(cutW want x l).Sublist l
 | x,[]=>by simp[cutW]
 | x,r::l=>by
  rw[cutW];split
  ·exact List.nil_sublist _
  ·exact(WcR want (x+r.2) l).cons_cons r
theorem WdS {want:Int}:∀(x:Nat) (l:List (Nat×Nat)),(∀r∈l,1<=r.2)->((x+(l.map (·.2)).sum:Nat):Int)<=want->cutW want x l=l
 | x,[],_,_=>by simp[cutW]
 | x,r::l,hp,hs=>by
  have:=hp r aA;simp only[zJ,zr]at hs;rw[cutW,zA O,WdS (x+r.2) l (λq a=>hp q (by simp[a])) O]
theorem WkT {st:List Nat}(h16:st.length%16=0):(∀r∈(ordT st).flatMap (KK st),1<=r.2/\∀x,r.1<=x->x<r.1+r.2->gf st x=2)/\((ordT st).flatMap (KK st)).Pairwise (λa b=>a.1+a.2<=b.1\/b.1+b.2<=a.1) ∧
 (∀x,gf st x=2->inR ((ordT st).flatMap (KK st)) x)/\(((ordT st).flatMap (KK st)).map (·.2)).sum<=st.length:=by
 have p:=WdF st;have d:∀h∈ordT st,16*h+16<=st.length:=λh u=>by
  have:=(zH.1 (p.subset u)).1;rw[zU]at this;omega
 have w:(ordT st).Nodup:=p.nodup_iff.2 (List.nodup_range.filter _);have C:(ordT st).length<=st.length/16:=by
  rw[p.length_eq];exact zI (zBA _ _) aA
 refine⟨λr j=>?_,?_,λx D=>?_,?_⟩
 ·obtain⟨h,u,j⟩:=zCP.1 j;have:=(Vu (d h u) 17 (16*h)).1 r j;exact⟨this.1,this.2.2.2⟩
 ·have key:∀l:List Nat,l.Nodup->(∀h∈l,16*h+16<=st.length)->(l.flatMap (KK st)).Pairwise (λa b=>a.1+a.2<=b.1\/b.1+b.2<=a.1):=by
   intro l
   induction l with
   | nil=>intro _ _;simp
   | cons h l ih=>
    intro s hl;have s:=zo.1 s;rw[zBB];refine zBT.2 ⟨(Vu (hl h aA) 17 (16*h)).2.1.imp λ{a b} y=>.inl y,ih s.2 λg i=>hl g (by simp[i]),λa F b z=>?_⟩;obtain⟨g,i,z⟩:=zCP.1 z;have m:=(Vu (hl h aA) 17 (16*h)).1 a F;have E:=(Vu (hl g (by simp[i])) 17 (16*g)).1 b z;have G:h≠g:=λe=>s.1 (e▸i);omega
  exact key _ w d
 ·have H:x<st.length:=WoW O;have B:x/16∈ordT st:=p.symm.subset (zH.2 ⟨zU.2 O,by
   have:cntR st (16*(x/16)) (16*(x/16)+16) 2≠0:=λA=>by
    rw[Hc O O]at A;exact A x O O D
   simp;omega⟩)
  obtain⟨r,j,m⟩:=(Vu (d _ B) 17 (16*(x/16))).2.2.1 O x O O D;exact⟨r,zCP.2 ⟨_,B,j⟩,m⟩
 ·have key:∀l:List Nat,(∀h∈l,16*h+16<=st.length)->((l.flatMap (KK st)).map (·.2)).sum<=16*l.length:=by
   intro l
   induction l with
   | nil=>intro _;simp
   | cons h l ih=>
    intro hl;have m:=(Vu (hl h aA) 17 (16*h)).2.2.2;have E:=ih λg i=>hl g (by simp[i]);rw[zBB,zAD,zDK,zP];have m:((KK st h).map (·.2)).sum<=16*h+16-16*h:=m;omega
  have:=key _ d;omega
theorem Whl (h:GA A)(hw:Ow A sp){want:Int}(h0:0<=want):Rlz (YK A) (relS A sp want).1 sp (relS A sp want).2 (VU A want)/\(1024<=want->∀p,(relS A sp want).1.f p≠2):=by
 obtain⟨o,_,_⟩:=Uw h;have d:(YK A).st.length%16=0:=by rw[o.ga.pg.len];exact o.ga.pg.n16
 obtain⟨m,u,x,w⟩:=WkT d;have a:=WcR want 0 ((ordT (YK A).st).flatMap (KK (YK A).st));have e:relS A sp want=(VU A want).foldl rel1 (YK A,sp):=by unfold relS;rw[zA O]
 rw[e];have t:=WjA (VU A want) o.ga (hw.kp o.kp) (λr j=>m r (a.subset j)) (u.sublist a);refine⟨t,λs p g=>?_⟩;have y:=o.ga.pg.n2;have b:VU A want=(ordT (YK A).st).flatMap (KK (YK A).st):=WdS 0 _ (λr j=>(m r j).1) (by
  rw[o.ga.pg.len]at w;omega)
 by_cases hi:inR (VU A want) p
 ·rw[(t.i p hi).2.1]at g;omega
 ·rw[(t.o p hi).1]at g;exact hi (by rw[b];exact x p g)
theorem WmG (h:GA A)(hw:Ow A sp)(want:Int):St A (relS A sp want).1 sp (relS A sp want).2/\(relS A sp want).1.runs=A.runs/\(relS A sp want).1.tra=A.tra/\∀j y,TkA (relS A sp want).1 j y↔TkA A j y:=by
 by_cases h0:0<=want
 ·obtain⟨t,_⟩:=Whl h hw h0;obtain⟨o,e,k⟩:=Uw h;refine⟨(o.st hw).trans t.st,t.runs.trans o.runs,t.tra.trans e,λj y=>?_⟩;rw[←k];unfold TkA Cl;rw[t.cen,t.st.tb]
 ·have e:relS A sp want=(A,sp):=by unfold relS;rw[zB O]
  rw[e];exact⟨St.refl h hw,rfl,rfl,λ_ _=>Iff.rfl⟩
end Go.Ar
namespace Go.Ar
structure Pc where
 k:Nat
 cls:Int
 addr:Nat
 size:Nat
 moved:Bool
 deriving DecidableEq
structure Wd where
 tb:List Cls
 sp:Sp
 ars:List AR
 held:List Pc
structure Act where
 kd:Int
 ar:Int
 cl:Int
 a:Int
 b:Int
 l:List Int
abbrev Key:=Nat×Int×Nat
def Pc.key (p:Pc):Key:=(p.k,p.cls,p.addr)
def isAt (k:Nat)(cls x:Int)(p:Pc):Bool:=p.k==k&&(p.cls==cls&&((p.addr:Int)==x && !p.moved))
def atW (held:List Pc)(k:Nat)(cls x:Int):Option Nat:=held.findIdx? (isAt k cls x)
def ownW (held:List Pc)(k:Nat)(cls:Int)(l:List Int):Bool:=l.all (λx=>(atW held k cls x).isSome)&&decide l.Nodup
def drop1 (k:Nat)(cls:Int)(held:List Pc)(x:Int):List Pc:=match atW held k cls x with
 | some i=>held.take i++held.drop (i+1)
 | none=>held
def Wiy (held:List Pc)(k:Nat)(cls:Int)(l:List Int):List Pc:=l.foldl (drop1 k cls) held
def isOf (k:Nat)(cls:Int)(l:List Int)(p:Pc):Bool:=p.k==k&&(p.cls==cls&&l.contains (p.addr:Int))
def HX (held:List Pc)(k:Nat)(cls:Int)(l:List Int)(m:Bool):List Pc:=held.map λp=>if isOf k cls l p then{p with moved:=m}else p
def Wg0 (us:List AR)(held:List Pc):List Pc:=held.filter λp=>!p.moved||(match us[p.k]? with
 | some A=>Whz A (p.addr:Int)
 | none=>false)
def szOf (tb:List Cls)(k:Int):Nat:=((tb[k.toNat]?).map (·.size)).getD 0
def Wd.put (W:Wd)(k:Nat)(A:AR)(sp:Sp)(held:List Pc):Wd:={W with sp:=sp,ars:=W.ars.set k A,held:=held}
def Hd (A:AR)(p:Pc):Prop:=(p.cls = -1/\p.moved=false/\∃r∈A.runs,p.addr=r.1*256/\p.size=r.2*256) ∨
 ∃(j:Nat) (c:Cls),p.cls=j/\A.tb[j]?=some c/\p.size=c.size/\TkA A j (p.addr:Int)/\(p.moved=true↔InT A j (p.addr:Int))
structure WI (W:Wd):Prop where
 ga:∀(k:Nat) (A:AR),W.ars[k]?=some A->GA A
 ow:∀(k:Nat) (A:AR),W.ars[k]?=some A->Ow A W.sp
 tb:∀(k:Nat) (A:AR),W.ars[k]?=some A->A.tb=W.tb
 low:∀(k:Nat) (A:AR),W.ars[k]?=some A->∀p,p<16->A.f p=0
 own:∀p,gf W.sp.st p≠0->∃(k:Nat) (A:AR),W.ars[k]?=some A/\A.f p≠0
 one:∀p (k l:Nat) (A B:AR),W.ars[k]?=some A->W.ars[l]?=some B->A.f p≠0->B.f p≠0->k=l
 hk:(W.held.map Pc.key).Nodup
 hf:∀p∈W.held,∃A,W.ars[p.k]?=some A/\Hd A p
 ht:∀(k:Nat) (A:AR),W.ars[k]?=some A->∀(j:Nat) (y:Int),TkA A j y->∃p∈W.held,p.k=k/\p.cls=j/\(p.addr:Int)=y
 hr:∀(k:Nat) (A:AR),W.ars[k]?=some A->∀r∈A.runs,∃p∈W.held,p.k=k/\p.cls = -1/\p.addr=r.1*256
variable {W:Wd}{k:Nat}{A:AR}
theorem Vo {α:Type}{l:List α}{k j:Nat}{x y:α}(h:(l.set k x)[j]?=some y):(j=k/\y=x/\k<l.length)\/(j≠k/\l[j]?=some y):=by
 by_cases hjk:j=k
 ·subst hjk;have a:j<l.length:=by have:=(gSi.1 h).1;simpa using this
  rw[zL a]at h;exact .inl ⟨rfl,(Option.some.inj h).symm,a⟩
 ·rw[zi (Ne.symm hjk)]at h;exact .inr ⟨hjk,h⟩
theorem WI.unique (h:WI W){p q:Pc}(hp:p∈W.held)(hq:q∈W.held)(e:p.key=q.key):p=q:=by
 obtain⟨i,d⟩:=zN hp;obtain⟨j,g⟩:=zN hq;obtain⟨a,rfl⟩:=gSi.1 d;obtain⟨b,rfl⟩:=gSi.1 g;have:=zAE.1 h.hk;rcases zCA i j with hl|hl|hl
 ·exact(this i j (by simpa using a) (by simpa using b) hl (by simpa using e)).elim
 ·subst hl;rfl
 ·exact(this j i (by simpa using b) (by simpa using a) hl (by simpa using e.symm)).elim
theorem WI.step (h:WI W)(hk:W.ars[k]?=some A){B:AR}{sp':Sp}{held':List Pc}(s:St A B W.sp sp')(h1:(held'.map Pc.key).Nodup)(h2:∀p∈held',p.k=k->Hd B p)(h3:∀p,p.k≠k->(p∈held'↔p∈W.held))
 (h4:∀(j:Nat) (y:Int),TkA B j y->∃p∈held',p.k=k/\p.cls=j/\(p.addr:Int)=y) (h5:∀r∈B.runs,∃p∈held',p.k=k/\p.cls = -1/\p.addr=r.1*256):WI (W.put k B sp' held'):=by
 have G:=(gSi.1 hk).1;have m:(W.ars.set k B)[k]?=some B:=zL G;have K:∀{j:Nat} {C:AR},j≠k->W.ars[j]?=some C->(W.ars.set k B)[j]?=some C:=λa e=>(zi (Ne.symm a)).trans e;have g:∀{j:Nat} {C:AR},j≠k->W.ars[j]?=some C->∀p,C.f p≠0->A.f p=0/\B.f p=0/\gf sp'.st p=gf W.sp.st p:=by
  intro j C a e p b;have u:A.f p=0:=Classical.byContradiction λz=>a (h.one p j k C A e hk b z);have w:B.f p=0:=Classical.byContradiction λz=>by
   have:=(s.new p u z).1;exact(h.ow j C e).own p b this
  exact⟨u,w,s.same p u w⟩
 refine⟨λj C a=>?_,λj C a=>?_,λj C a=>?_,λj C a p b=>?_,λp b=>?_,λp j l C D a L e F=>?_,h1,λp b=>?_,λj C a i y J=>?_,λj C a r hr=>?_⟩
 ·rcases Vo a with⟨rfl,rfl,_⟩|⟨_,a⟩
  ·exact s.ga
  ·exact h.ga j C a
 ·rcases Vo a with⟨rfl,rfl,_⟩|⟨d,a⟩
  ·exact s.ow
  ·have o:=h.ow j C a;have N:=h.ow k A hk;refine⟨?_,λp b=>?_,λp b=>?_,s.ow.le⟩
   ·show sp'.st.length=C.n;rw[s.ow.l,s.n,←N.l,o.l]
   ·show gf sp'.st p≠0;rw[(g d a p b).2.2];exact o.own p b
   ·show gf sp'.st p=1;rw[(g d a p O).2.2];exact o.cl p b
 ·rcases Vo a with⟨rfl,rfl,_⟩|⟨_,a⟩
  ·exact s.tb.trans (h.tb _ A hk)
  ·exact h.tb j C a
 ·rcases Vo a with⟨rfl,rfl,_⟩|⟨_,a⟩
  ·apply Classical.byContradiction;intro z;have:=s.new p (h.low _ A hk p b) z;omega
  ·exact h.low j C a p b
 ·have b:gf sp'.st p≠0:=b;by_cases w:B.f p=0
  ·by_cases u:A.f p=0
   ·rw[s.same p u w]at b;obtain⟨j,C,a,e⟩:=h.own p b;have d:j≠k:=by
     rintro rfl;rw[hk]at a;cases a;exact e u
    exact⟨j,C,K d a,e⟩
   ·exact(b (s.gone p u w)).elim
  ·exact⟨k,B,m,w⟩
 ·rcases Vo a with⟨rfl,rfl,_⟩|⟨d,hj'⟩
  ·rcases Vo L with⟨rfl,rfl,_⟩|⟨hne2,hl'⟩
   ·rfl
   ·exact(e (g hne2 hl' p F).2.1).elim
  ·rcases Vo L with⟨rfl,rfl,_⟩|⟨hne2,hl'⟩
   ·exact(F (g d hj' p e).2.1).elim
   ·exact h.one p j l C D hj' hl' e F
 ·by_cases hpk:p.k=k
  ·exact⟨B,by rw[hpk];exact m,h2 p b hpk⟩
  ·obtain⟨C,e,M⟩:=h.hf p ((h3 p hpk).1 b);exact⟨C,K hpk e,M⟩
 ·rcases Vo a with⟨rfl,rfl,_⟩|⟨d,a⟩
  ·exact h4 i y J
  ·obtain⟨p,b,x,E,H⟩:=h.ht j C a i y J;exact⟨p,(h3 p (by rw[x];exact d)).2 b,x,E,H⟩
 ·rcases Vo a with⟨rfl,rfl,_⟩|⟨d,a⟩
  ·exact h5 r hr
  ·obtain⟨p,b,x,E,H⟩:=h.hr j C a r hr;exact⟨p,(h3 p (by rw[x];exact d)).2 b,x,E,H⟩
theorem Hd.to {B:AR}{p:Pc}(h:Hd A p)(e1:B.tb=A.tb)(e2:B.runs=A.runs)(e3:∀j y,TkA A j y->TkA B j y)(e4:∀j y,InT B j y↔InT A j y):Hd B p:=by
 rcases h with⟨h1,h2,r,hr,h3⟩|⟨j,c,h1,h2,h3,h4,h5⟩
 ·exact .inl ⟨h1,h2,r,by rw[e2];exact hr,h3⟩
 ·exact .inr ⟨j,c,h1,by rw[e1];exact h2,h3,e3 _ _ h4,by rw[e4];exact h5⟩
theorem WI.hd (h:WI W)(hk:W.ars[k]?=some A){p:Pc}(hp:p∈W.held)(e:p.k=k):Hd A p:=by
 obtain⟨C,a,b⟩:=h.hf p hp;rw[e,hk]at a;cases a;exact b
theorem WI.stepSame (h:WI W)(hk:W.ars[k]?=some A){B:AR}{sp':Sp}(s:St A B W.sp sp')(e2:B.runs=A.runs)(e3:∀j y,TkA B j y↔TkA A j y)(e4:B.tra=A.tra):WI (W.put k B sp' W.held):=
 h.step hk s h.hk (λp a e=>(h.hd hk a e).to s.tb e2 (λj y=>(e3 j y).2) λj y=>by unfold InT;rw[e4]) (λ_ _=>Iff.rfl) (λj y b=>h.ht k A hk j y ((e3 j y).1 b)) λr hr=>h.hr k A hk r (by rw[←e2];exact hr)
theorem WI.cls (h:WI W){p:Pc}(hp:p∈W.held){j:Nat}(e:p.cls=j)(hk:W.ars[p.k]?=some A):∃c,A.tb[j]?=some c/\p.size=c.size/\TkA A j (p.addr:Int)/\(p.moved=true↔InT A j (p.addr:Int)):=by
 rcases h.hd hk hp rfl with⟨h1,_⟩|⟨i,c,h1,h2,h3,h4,h5⟩
 ·omega
 ·obtain rfl:i=j:=by omega
  exact⟨c,h2,h3,h4,h5⟩
theorem WI.run (h:WI W){p:Pc}(hp:p∈W.held)(e:p.cls = -1)(hk:W.ars[p.k]?=some A):p.moved=false/\∃r∈A.runs,p.addr=r.1*256/\p.size=r.2*256:=by
 rcases h.hd hk hp rfl with⟨_,h2⟩|⟨i,c,h1,_⟩
 ·exact h2
 ·omega
theorem Kz {k:Nat}{cls x:Int}{p:Pc}:isAt k cls x p=true↔p.k=k/\p.cls=cls/\(p.addr:Int)=x/\p.moved=false:=by
 simp[isAt]
theorem Z4 {k:Nat}{cls:Int}{l:List Int}{p:Pc}:isOf k cls l p=true↔p.k=k/\p.cls=cls/\(p.addr:Int)∈l:=by
 simp[isOf]
theorem Wkm {held:List Pc}{k:Nat}{cls x:Int}{i:Nat}(h:atW held k cls x=some i):∃p,held[i]?=some p/\isAt k cls x p=true:=by
 obtain⟨a,b,_⟩:=zBQ.1 h;exact⟨held[i],gGe a,b⟩
theorem WoS {held:List Pc}{k:Nat}{cls x:Int}{p:Pc}(hp:p∈held)(h:isAt k cls x p=true):(atW held k cls x).isSome=true:=by
 unfold atW;rw[List.findIdx?_isSome,zw];exact⟨p,hp,h⟩
theorem KD {held:List Pc}{k:Nat}{cls:Int}{l:List Int}:ownW held k cls l=true↔(∀x∈l,∃p∈held,isAt k cls x p=true)/\l.Nodup:=by
 unfold ownW;rw[zF,zAA,zT];refine and_congr_left λ_=>forall_congr' λx=>imp_congr_right λa=>?_;unfold atW;rw[List.findIdx?_isSome,zw]
theorem WdT {held:List Pc}(hn:(held.map Pc.key).Nodup){i:Nat}{p:Pc}(hi:held[i]?=some p):held.take i++held.drop (i+1)=held.filter λq=>!(q.key==p.key):=by
 induction held generalizing i with
 | nil=>simp at hi
 | cons q l ih=>
  rw[zJ,zo]at hn;cases i with
  | zero=>
   simp only[zEX,Option.some.injEq]at hi;subst hi;have:l.filter (λr=>!(r.key==q.key))=l:=by
    rw[zBK];intro r hr;have:r.key≠q.key:=λe=>hn.1 (zC.2 ⟨r,hr,e⟩);simpa using this
   simp[this]
  | succ i=>
   have hi:l[i]?=some p:=by simpa using hi
   have a:q.key≠p.key:=λe=>hn.1 (zC.2 ⟨p,zE hi,e.symm⟩);rw[zCZ,zFP,zAL,ih hn.2 hi,zCK];have:(!(q.key==p.key))=true:=by simpa using a
   rw[this];rfl
theorem VW {held:List Pc}(hn:(held.map Pc.key).Nodup)(f:Pc->Bool):((held.filter f).map Pc.key).Nodup:=hn.sublist (List.filter_sublist.map _)
theorem Wfp {k:Nat}{cls:Int}:∀(l:List Int) {held:List Pc},(held.map Pc.key).Nodup->(∀x∈l,∃p∈held,isAt k cls x p=true)->l.Nodup->Wiy held k cls l=held.filter λp=>!isOf k cls l p
 | [],held,_,_,_=>by
  have:∀p,isOf k cls [] p=false:=λp=>by simp[isOf]
  exact(zBK.2 λp _=>by rw[this];rfl).symm
 | x::l,held,hn,ho,hl=>by
  obtain⟨p,A,B⟩:=ho x aA;obtain⟨i,w⟩:=zCB.1 (WoS A B);obtain⟨q,D,j⟩:=Wkm w;have g:=zo.1 hl;have C:drop1 k cls held x=held.filter λr=>!(r.key==q.key):=by unfold drop1;rw[w];exact WdT hn D
  obtain⟨H,E,G,F⟩:=Kz.1 j;have m:=Wfp l (held:=held.filter λr=>!(r.key==q.key)) (VW hn _) (λy s=>by
   obtain⟨r,u,d⟩:=ho y (by simp[s]);refine⟨r,zH.2 ⟨u,?_⟩,d⟩;have:r.key≠q.key:=λe=>by
    have J:r.addr=q.addr:=congrArg (λz:Key=>z.2.2) e;have:=(Kz.1 d).2.2.1;have:y=x:=by omega
    subst this;exact g.1 s
   simpa using this) g.2
  unfold Wiy at m ⊢;rw[zAI,C,m,zGE];apply zFG;intro r u;have e:(r.key==q.key)=(r.k==k&&(r.cls==cls&&(r.addr:Int)==x)):=by
   rw[zBD];simp only[Pc.key,zZ,zF,Prod.mk.injEq];constructor
   ·rintro⟨a,b,c⟩;exact⟨O,O,O⟩
   ·rintro⟨a,b,c⟩;exact⟨O,O,O⟩
  rw[e];unfold isOf;rw[List.contains_cons];cases r.k==k<;>cases r.cls==cls<;>cases((r.addr:Int)==x)<;>cases l.contains (r.addr:Int)<;>rfl
theorem QK {held:List Pc}{k:Nat}{cls:Int}{l:List Int}{m:Bool}{p:Pc}:p∈HX held k cls l m↔∃q∈held,p=if isOf k cls l q then{q with moved:=m}else q:=by
 unfold HX;rw[zC];constructor
 ·rintro⟨q,hq,rfl⟩;exact⟨q,hq,rfl⟩
 ·rintro⟨q,hq,rfl⟩;exact⟨q,hq,rfl⟩
theorem Wg5 {held:List Pc}{k:Nat}{cls:Int}{l:List Int}{m:Bool}:(HX held k cls l m).map Pc.key=held.map Pc.key:=by
 unfold HX;rw[zAC];apply zAH;intro p _;simp only[Function.comp];split<;>rfl
theorem GY (hk:W.ars[k]?=some A)(h:WI W):WI (W.put k A W.sp W.held):=h.stepSame hk (St.refl (h.ga k A hk) (h.ow k A hk)) rfl (λ_ _=>Iff.rfl) rfl
theorem Wik (h:GA A){j:Nat}{c:Cls}{ss:List SpA}(hc:Cl A j c ss){l:Nat}{s:SpA}{i:Nat}(hs:ss[l]?=some s)(hi:i<c.n){x:Nat}(h1:at_ c s i<=x)(h2:x<at_ c s i+c.size):UY A (x:Int)=some ((j:Int),at_ c s i):=by
 have d:=h.cen j c ss hc;have b:=HO d.pos hi h1 h2;have a:=h.used hc (zE hs) b.1 b.2;have e:=h.pg.lt (p:=x/256) (by rw[a.1];omega);have r:=h.pg.n2;have g:=hc.lt;have m:=h.tb;unfold UY;rw[zA O,iTn];simp only;rw[zB (show x/256<1024 by omega),a.2,zA O,zA O,zGU,hc.1,hc.2];simp only;rw[(WdE d).2 ⟨l,s,i,hs,hi,rfl,O,O⟩];rfl
theorem WcY (h:GA A){r:Nat×Nat}(hr:r∈A.runs){x:Nat}(h1:r.1*256<=x)(h2:x<(r.1+r.2)*256):UY A (x:Int)=some (-1,r.1*256):=by
 have a:=h.usedR hr (p:=x/256) O O;have b:=h.pg.lt (p:=x/256) (by rw[a.1];omega);have d:=h.pg.n2;unfold UY;rw[zA O,iTn];simp only;rw[zB (show x/256<1024 by omega),a.2,zA O,zB rfl,WcK h.runsOk hr O O];rfl
theorem Wg1 (h:GA A){x:Int}{k:Int}{a:Nat}(hf:UY A x=some (k,a)):(k = -1/\∃r∈A.runs,a=r.1*256/\((r.1*256:Nat):Int)<=x/\x<(((r.1+r.2)*256:Nat):Int)) ∨
 ∃(j:Nat) (c:Cls) (ss:List SpA) (l:Nat) (s:SpA) (i:Nat),k=j/\Cl A j c ss/\ss[l]?=some s/\i<c.n/\a=at_ c s i/\((at_ c s i:Nat):Int)<=x/\x<((at_ c s i+c.size:Nat):Int):=by
 unfold UY at hf;split at hf
 ·cases hf
 ·rename_i hx;obtain⟨y,rfl⟩:=zk (show 0<=x by omega);rw[iTn]at hf;simp only at hf;by_cases hlt:y/256<1024
  ·rw[zB hlt]at hf;split at hf
   ·cases hf
   ·split at hf
    ·rename_i h0 h41;obtain⟨r,e,b⟩:=zCJ.1 hf;have z:=zDF e;have p:=zDE e;simp at p;cases b;exact .inl ⟨rfl,r,z,rfl,O,O⟩
    ·rename_i h0 h41;split at hf
     ·rename_i c ss h1 h2;obtain⟨C,u,b⟩:=zCJ.1 hf;cases b;have d:Cl A (A.ow (y/256)-1) c ss:=⟨h1,h2⟩;obtain⟨l,s,i,B,g,rfl,w,m⟩:=(WdE (h.cen _ _ _ d)).1 u;exact .inr ⟨_,c,ss,l,s,i,rfl,d,B,g,rfl,w,m⟩
     ·cases hf
  ·rw[zA hlt,zB rfl]at hf;cases hf
theorem TkA.find (h:GA A){j:Nat}{x:Int}(hx:TkA A j x):∃y:Nat,x=y/\UY A x=some ((j:Int),y):=by
 obtain⟨c,g,a,m⟩:=hx;have b:=h.cen j c g a;obtain⟨l,s,i,e,d,rfl,p⟩:=(Ua b).1 m;exact⟨_,rfl,Wik h a e d (zD _) (by have:=b.pos;omega)⟩
theorem Waz (h:GA A){x:Int}:Whz A x=true↔(∃j,TkA A j x)\/∃r∈A.runs,x=((r.1*256:Nat):Int):=by
 constructor
 ·intro hx;unfold Whz at hx;split at hx
  ·rename_i k a e;split at hx
   ·rename_i he;rcases Wg1 h e with⟨rfl,r,hr,rfl,_⟩|⟨j,c,d,l,s,i,rfl,b,hs,hi,rfl,_⟩
    ·exact .inr ⟨r,hr,he.symm⟩
    ·rw[zA O,iTn,b.1,b.2]at hx;exact .inl ⟨j,c,d,b,by simpa[Tk]using hx⟩
   ·cases hx
  ·cases hx
 ·rintro(⟨j,hj⟩|⟨r,hr,rfl⟩)
  ·obtain⟨y,rfl,e⟩:=hj.find h;obtain⟨c,d,b,g⟩:=hj;unfold Whz;rw[e];simp only;rw[zB True.intro,zA O,iTn,b.1,b.2];unfold Tk at g;show(isTk c d (y:Int)==some true)=true;rw[g];rfl
  ·unfold Whz;have:=h.rpos r hr;rw[WcY h hr (zD _) O];simp
theorem WI.own1 (h:WI W)(hk:W.ars[k]?=some A){cl:Int}{l:List Int}(ho:ownW W.held k cl l=true){j:Nat}(e:cl=j):∀x∈l,¬InT A j x:=by
 intro x hx hin;obtain⟨p,g,a⟩:=(KD.1 ho).1 x hx;obtain⟨m,i,r,b⟩:=Kz.1 a;obtain⟨c,_,_,_,d⟩:=h.cls g (j:=j) (by rw[i,e]) (by rw[m];exact hk);rw[r]at d;rw[d.2 hin]at b;cases b
theorem WI.grow (h:WI W)(hk:W.ars[k]?=some A)(x:Int):WI (W.put k (growS A W.sp x).1 (growS A W.sp x).2 W.held):=by
 obtain⟨s,b,a,d,_⟩:=Wlg (h.ga k A hk) (h.ow k A hk) x;exact h.stepSame hk s b d a
theorem WI.from (h:WI W)(hk:W.ars[k]?=some A)(cl m:Int):WI (W.put k (YQ A cl m) W.sp (W.held++(Yt A cl m).map λy=>⟨k,cl,y,szOf W.tb cl,false⟩)):=by
 obtain⟨o,E,H,Q,D,B⟩:=WbK (h.ga k A hk) cl m;have tb:(YQ A cl m).tb=A.tb:=o.kp.tb;have i:∀y∈Yt A cl m,∃j:Nat,cl=j/\j<A.tb.length:=λy g=>Q (λe=>by rw[e]at g;simp at g);have s:∀y∈Yt A cl m,∀p∈W.held,¬(p.k=k/\p.cls=cl/\p.addr=y):=by
  rintro y g p d ⟨J,G,L⟩;obtain⟨j,rfl,_⟩:=i y g;obtain⟨c,_,_,ht,_⟩:=h.cls d G (by rw[J];exact hk);rw[L]at ht;exact D y g (by rw[iTn];exact ht)
 refine h.step hk (o.st (h.ow k A hk)) ?_ (λp d e=>?_) (λp z=>?_) (λj y g=>?_) λr hr=>?_
 ·rw[zAD,zBJ];refine⟨h.hk,?_,λa K b P e=>?_⟩
  ·rw[zAC];exact List.Pairwise.map (R:=(· ≠ ·)) _ (λa b C e=>C (by simpa[Pc.key]using e)) H
  ·subst e;obtain⟨p,d,rfl⟩:=zC.1 K;obtain⟨q,M,e⟩:=zC.1 P;obtain⟨y,g,rfl⟩:=zC.1 M;simp only[Pc.key,Prod.mk.injEq]at e;exact s y g p d ⟨e.1.symm,e.2.1.symm,e.2.2.symm⟩
 ·rcases zR.1 d with d|d
  ·exact(h.hd hk d e).to tb o.runs (λj y w=>(B j y).2 (.inl w)) λj y=>by unfold InT;rw[E]
  ·obtain⟨y,g,rfl⟩:=zC.1 d;obtain⟨j,rfl,w⟩:=i y g;refine .inr ⟨j,A.tb[j],rfl,by rw[tb];exact gGe w,?_,(B j y).2 (.inr ⟨(iTn j).symm,y,g,rfl⟩),?_⟩
   ·show szOf W.tb (j:Int)=_;unfold szOf;rw[iTn,←h.tb k A hk,gGe w];rfl
   ·constructor
    ·intro hx;cases hx
    ·rintro⟨t,ht,hx⟩;rw[E]at ht;obtain⟨c,N,S,F,u⟩:=(h.ga k A hk).cl w;rw[ht]at u;cases u;exact(D y g (by rw[iTn];exact(KR F).2 ((h.ga k A hk).trt j c N t F ht _ hx))).elim
 ·rw[zR];constructor
  ·rintro(d|d)
   ·exact d
   ·obtain⟨y,_,rfl⟩:=zC.1 d;exact(z rfl).elim
  ·exact .inl
 ·rcases(B j y).1 g with g|⟨rfl,x,hx,rfl⟩
  ·obtain⟨p,d,q⟩:=h.ht k A hk j y g;exact⟨p,zBF _ d,q⟩
  ·obtain⟨j,rfl,_⟩:=i x hx;exact⟨_,zBV _ (zC.2 ⟨x,hx,rfl⟩),rfl,by simp,rfl⟩
 ·rw[o.runs]at hr;obtain⟨p,d,q⟩:=h.hr k A hk r hr;exact⟨p,zBF _ d,q⟩
theorem WI.drp (h:WI W){cl:Int}{l:List Int}(ho:ownW W.held k cl l=true):Wiy W.held k cl l=W.held.filter λp=>!isOf k cl l p:=
 Wfp l h.hk (KD.1 ho).1 (KD.1 ho).2
theorem WI.toC (h:WI W)(hk:W.ars[k]?=some A){cl:Int}{l:List Int}(ho:ownW W.held k cl l=true):WI (W.put k (Ze A cl l) W.sp (if QW A cl l=0 then Wiy W.held k cl l else W.held)):=by
 have ga:=h.ga k A hk;obtain⟨o,K,s,M⟩:=Wcx ga (k:=cl) (xs:=l) λg x m=>by
  obtain⟨j,c,L,rfl,_⟩:=Wal ga g;rw[iTn];exact h.own1 hk ho rfl x m
 by_cases g:QW A cl l=0
 ·rw[zB g,h.drp ho];obtain⟨j,c,L,rfl,P,Q⟩:=Wal ga g;have s:=s g;rw[iTn]at s;refine h.step hk (o.st (h.ow k A hk)) (VW h.hk _) (λp u e=>?_) (λp F=>?_) (λi y H=>?_) λr hr=>?_
  ·have w:=zH.1 u;have E:isOf k (j:Int) l p=false:=by simpa using w.2
   rcases h.hd hk w.1 e with⟨h1,h2,r,hr,h3⟩|⟨i,d,h1,h2,h3,h4,h5⟩
   ·exact .inl ⟨h1,h2,r,by rw[o.runs];exact hr,h3⟩
   ·refine .inr ⟨i,d,h1,by rw[o.kp.tb];exact h2,h3,(s i _).2 ⟨h4,λ⟨a,b⟩=>?_⟩,by unfold InT at h5 ⊢;rw[K];exact h5⟩;have:isOf k (j:Int) l p=true:=Z4.2 ⟨e,by rw[h1,a],b⟩;rw[E]at this;cases this
  ·rw[zH];have:isOf k (j:Int) l p=false:=by
    apply zAT.2;intro m;exact F (Z4.1 m).1
   rw[this];simp
  ·obtain⟨D,G⟩:=(s i y).1 H;obtain⟨p,u,C,B,z⟩:=h.ht k A hk i y D;refine⟨p,zH.2 ⟨u,?_⟩,C,B,z⟩;have:isOf k (j:Int) l p=false:=by
    apply zAT.2;intro m;obtain⟨_,N,J⟩:=Z4.1 m;exact G ⟨O,by rw[←z];exact J⟩
   rw[this];rfl
  ·rw[o.runs]at hr;obtain⟨p,u,C,B,z⟩:=h.hr k A hk r hr;refine⟨p,zH.2 ⟨u,?_⟩,C,B,z⟩;have:isOf k (j:Int) l p=false:=by
    apply zAT.2;intro m;have:=(Z4.1 m).2.1;omega
   rw[this];rfl
 ·rw[zA g,M g];exact GY hk h
theorem WI.move (h:WI W)(hk:W.ars[k]?=some A){B:AR}{j:Nat}{l:List Int}{m:Bool}(o:Ob A B)(e1:∀i y,TkA B i y↔TkA A i y)(e2:∀i y,InT B i y↔if i=j/\y∈l then m=true else InT A i y):WI (W.put k B W.sp (HX W.held k (j:Int) l m)):=by
 refine h.step hk (o.st (h.ow k A hk)) (by rw[Wg5];exact h.hk) (λp a e=>?_) (λp b=>?_) (λi y g=>?_) λr hr=>?_
 ·obtain⟨q,z,rfl⟩:=QK.1 a;have d:q.k=k:=by
   split at e<;>exact e
  rcases h.hd hk z d with⟨h1,h2,r,hr,h3⟩|⟨i,c,h1,h2,h3,h4,h5⟩
  ·have:isOf k (j:Int) l q=false:=by
    apply zAT.2;intro hx;have:=(Z4.1 hx).2.1;omega
   rw[this];exact .inl ⟨h1,h2,r,by rw[o.runs];exact hr,h3⟩
  ·by_cases hx:isOf k (j:Int) l q=true
   ·rw[zB hx];obtain⟨_,D,C⟩:=Z4.1 hx;have w:i=j:=by omega
    refine .inr ⟨i,c,h1,by rw[o.kp.tb];exact h2,h3,(e1 _ _).2 h4,?_⟩;show m=true↔InT B i (q.addr:Int);rw[e2,zB ⟨w,C⟩]
   ·rw[zA hx];refine .inr ⟨i,c,h1,by rw[o.kp.tb];exact h2,h3,(e1 _ _).2 h4,?_⟩;rw[e2,zA λg=>hx (Z4.2 ⟨d,by rw[h1,g.1],g.2⟩)];exact h5
 ·rw[QK];constructor
  ·rintro⟨q,z,rfl⟩;have:isOf k (j:Int) l q=false:=by
    apply zAT.2;intro hx;rw[zB hx]at b;exact b (Z4.1 hx).1
   rw[this];exact z
  ·intro a;refine⟨p,a,?_⟩;have:isOf k (j:Int) l p=false:=by
    apply zAT.2;intro hx;exact b (Z4.1 hx).1
   rw[this];rfl
 ·obtain⟨p,a,u,s,x⟩:=h.ht k A hk i y ((e1 i y).1 g);refine⟨_,QK.2 ⟨p,a,rfl⟩,?_,?_,?_⟩
  ·split<;>exact u
  ·split<;>exact s
  ·split<;>exact x
 ·rw[o.runs]at hr;obtain⟨p,a,u,s,x⟩:=h.hr k A hk r hr;refine⟨_,QK.2 ⟨p,a,rfl⟩,?_,?_,?_⟩
  ·split<;>exact u
  ·split<;>exact s
  ·split<;>exact x
theorem Wil {held:List Pc}{k:Nat}{cls:Int}{m:Bool}:HX held k cls [] m=held:=by
 unfold HX;have:∀p,isOf k cls [] p=false:=λp=>by simp[isOf]
 simp[this]
theorem WI.fromT (h:WI W)(hk:W.ars[k]?=some A)(cl:Int):WI (W.put k (ZQ A cl) W.sp (HX W.held k cl (YL A cl) false)):=by
 obtain⟨o,b,u,w,m,a⟩:=WdZ (h.ga k A hk) cl;by_cases hv:YL A cl=[]
 ·rw[hv,Wil];have s:∀j y,InT (ZQ A cl) j y↔InT A j y:=λj y=>by rw[a,hv];simp
  refine h.step hk (o.st (h.ow k A hk)) h.hk (λp d e=>(h.hd hk d e).to o.kp.tb o.runs (λj y=>(b j y).2) s) (λ_ _=>Iff.rfl) (λj y g=>h.ht k A hk j y ((b j y).1 g)) λr hr=>h.hr k A hk r (by rw[←o.runs];exact hr)
 ·obtain⟨j,rfl,_⟩:=m hv;rw[iTn]at a;exact h.move hk o b λi y=>by
   rw[a];split
   ·rename_i hx;simp[hx]
   ·rename_i hx;simp[hx]
theorem WI.toT (h:WI W)(hk:W.ars[k]?=some A){cl:Int}{l:List Int}(ho:ownW W.held k cl l=true):WI (W.put k (Q9 A cl l) W.sp (if Vi A cl l then HX W.held k cl l true else W.held)):=by
 by_cases a:Vi A cl l=true
 ·have b:∃j:Nat,cl=j:=by
   have g:Hj A cl l=0:=by
    unfold Vi at a;simp only[zF,zT]at a;exact a.1
   have b:A.ck cl=true:=by
    unfold Hj at g;split at g
    ·assumption
    ·cases g
   obtain⟨j,p,_⟩:=HN.1 b;exact⟨j,p⟩
  obtain⟨j,rfl⟩:=b;obtain⟨o,m,d,_⟩:=WmS (h.ga k A hk) (j:Int) (xs:=l) (KD.1 ho).2 (by rw[iTn];exact h.own1 hk ho rfl);obtain⟨_,_,d⟩:=d a;rw[iTn]at d;rw[a,zB rfl];exact h.move hk o m λi y=>by
   rw[d];split
   ·rename_i hx;simp[hx]
   ·rename_i hx;simp[hx]
 ·have a:Vi A cl l=false:=by simpa using a
  have e:Q9 A cl l=A:=by unfold Q9;rw[a];rfl
  rw[a,e];exact GY hk h
theorem WI.takeP (h:WI W)(hk:W.ars[k]?=some A)(m a:Int):WI (W.put k (takeAS A W.sp m a).1 (takeAS A W.sp m a).2 (if Qz A W.sp m a=0 then W.held++[⟨k, -1,Z5 A W.sp m a*256,m.toNat*256,false⟩]else W.held)):=by
 rcases Wc2 (h.ga k A hk) (h.ow k A hk) m a with⟨e,hE,_⟩|⟨x,A1,sp1,g,hE,hV,e,htk,hor,s,et,ek⟩
 ·rw[zA hE,e];exact GY hk h
 ·rw[zB hE,hV];have z:(takeAS A W.sp m a).1.runs=A.runs++[(x,m.toNat)]:=by rw[e]
  have w:∀r∈A.runs,r.1≠x:=by
   have hd:=s.ga.rdis;rw[z]at hd;intro r hr D;have u:=(zBT.1 hd).2.2 r hr (x,m.toNat) aA;have B:=(h.ga k A hk).rpos r hr;have i:=s.ga.rpos (x,m.toNat) (by rw[z];simp);simp only at u i;omega
  refine h.step hk s ?_ (λp g e=>?_) (λp C=>?_) (λj y E=>?_) λr hr=>?_
  ·rw[zAD,zBJ];refine⟨h.hk,by simp,λb F d hd D=>?_⟩;subst D;obtain⟨p,g,rfl⟩:=zC.1 F;simp only[zJ,zCC,zV,Pc.key,Prod.mk.injEq]at hd;obtain⟨_,r,hr,i,_⟩:=h.run g hd.2.1 (A:=A) (by rw[hd.1];exact hk);exact w r hr O
  ·rcases zR.1 g with g|g
   ·rcases h.hd hk g e with⟨u,B,r,hr,i⟩|⟨j,c,u,B,i,h4,h5⟩
    ·exact .inl ⟨u,B,r,by rw[z];exact zBF _ hr,i⟩
    ·exact .inr ⟨j,c,u,by rw[s.tb];exact B,i,(ek _ _).2 h4,by unfold InT at h5 ⊢;rw[et];exact h5⟩
   ·simp only[zV]at g;subst g;exact .inl ⟨rfl,rfl,(x,m.toNat),by rw[z];simp,rfl,rfl⟩
  ·rw[zR];constructor
   ·rintro(g|g)
    ·exact g
    ·simp only[zV]at g;subst g;exact(C rfl).elim
   ·exact .inl
  ·obtain⟨p,g,q⟩:=h.ht k A hk j y ((ek j y).1 E);exact⟨p,zBF _ g,q⟩
  ·rw[z]at hr;rcases zR.1 hr with hr|hr
   ·obtain⟨p,g,q⟩:=h.hr k A hk r hr;exact⟨p,zBF _ g,q⟩
   ·simp only[zV]at hr;subst hr;exact⟨_,zBV _ (zV.2 rfl),rfl,rfl,rfl⟩
theorem WI.giveOwn (h:WI W)(hk:W.ars[k]?=some A){r:Nat×Nat}(hr:r∈A.runs):ownW W.held k (-1) [(r.1:Int)*256]=true:=by
 refine KD.2 ⟨λx e=>?_,by simp⟩;simp only[zV]at e;subst e;obtain⟨p,d,b,a,g⟩:=h.hr k A hk r hr;exact⟨p,d,Kz.2 ⟨b,a,O,(h.run d a (by rw[b];exact hk)).1⟩⟩
theorem WI.giveP (h:WI W)(hk:W.ars[k]?=some A)(x:Int):WI (W.put k (QH A x) W.sp (if KQ A x=0 then Wiy W.held k (-1) [x*256]else W.held)):=by
 have ga:=h.ga k A hk;obtain⟨⟨kp,g⟩,N,G,M,K⟩:=WiF ga x;by_cases h0:KQ A x=0
 ·rw[zB h0];obtain⟨r,hr,rfl,J⟩:=K h0;rw[h.drp (h.giveOwn hk hr)];have m:∀p:Pc,isOf k (-1) [(r.1:Int)*256] p=true↔p.k=k/\p.cls = -1/\p.addr=r.1*256:=λp=>by
   rw[Z4];simp only[zV];constructor
   ·rintro⟨a,b,c⟩;exact⟨a,b,O⟩
   ·rintro⟨a,b,c⟩;exact⟨a,b,O⟩
  refine h.step hk (St.kp g (h.ow k A hk) kp) (VW h.hk _) (λp s e=>?_) (λp F=>?_) (λi y L=>?_) λq d=>?_
  ·have w:=zH.1 s;have z:¬isOf k (-1) [(r.1:Int)*256] p=true:=by simpa using w.2
   rw[m]at z;rcases h.hd hk w.1 e with⟨h1,h2,q,d,u⟩|⟨j,c,h1,h2,u,H,E⟩
   ·refine .inl ⟨h1,h2,q,?_,u⟩;rw[J,zH];refine⟨d,?_⟩;have:q≠r:=by rintro rfl;exact z ⟨e,h1,u.1⟩
    simpa using this
   ·exact .inr ⟨j,c,h1,by rw[kp.tb];exact h2,u,(G _ _).2 H,by unfold InT at E ⊢;rw[N];exact E⟩
  ·rw[zH];have:isOf k (-1) [(r.1:Int)*256] p=false:=by
    apply zAT.2;intro hx;exact F (Z4.1 hx).1
   rw[this];simp
  ·obtain⟨p,s,C,B,D⟩:=h.ht k A hk i y ((G i y).1 L);refine⟨p,zH.2 ⟨s,?_⟩,C,B,D⟩;have:isOf k (-1) [(r.1:Int)*256] p=false:=by
    apply zAT.2;intro hx;have:=((m p).1 hx).2.1;omega
   rw[this];rfl
  ·rw[J,zH]at d;obtain⟨p,s,C,B,D⟩:=h.hr k A hk q d.1;refine⟨p,zH.2 ⟨s,?_⟩,C,B,D⟩;have:isOf k (-1) [(r.1:Int)*256] p=false:=by
    apply zAT.2;intro hx;have u:=((m p).1 hx).2.2;have H:=ga.rpos q d.1;have E:=ga.rpos r hr;have:q=r:=ga.runs_uniq d.1 hr (x:=q.1) O O O O;subst this;simp at d
   rw[this];rfl
 ·rw[zA h0,M h0];exact GY hk h
theorem WI.tick (h:WI W)(hk:W.ars[k]?=some A):WI (W.put k (U4 A) W.sp (Wg0 (W.ars.set k (U4 A)) W.held)):=by
 have ga:=h.ga k A hk;have t:=WjW ga;have u:=(gSi.1 hk).1;have d:(W.ars.set k (U4 A))[k]?=some (U4 A):=zL u;have keep:∀p∈W.held,p∈Wg0 (W.ars.set k (U4 A)) W.held↔(p.k=k->∀j:Nat,p.cls=j->TkA (U4 A) j (p.addr:Int)):=by
  intro p a;unfold Wg0;rw[zH];simp only[a,zDO,zBL,zAW];by_cases hpk:p.k=k
  ·rw[hpk,d];simp only[true_implies];rcases h.hd hk a hpk with⟨h1,h2,r,hr,h3⟩|⟨j,c,h1,h2,h3,h4,h5⟩
   ·exact⟨λ_ j D=>O,λ_=>.inl h2⟩
   ·constructor
    ·intro hx i F;obtain rfl:i=j:=by omega
     rcases hx with hx|hx
     ·refine(t.tk i _).2 ⟨h4,λz=>?_⟩;rw[h5.2 z]at hx;cases hx
     ·rcases(Waz t.ob.ga).1 hx with⟨j',hj'⟩|⟨r,hr,e⟩
      ·obtain⟨y,e,hf⟩:=((t.tk j' _).1 hj').1.find ga;obtain⟨L,J,b⟩:=h4.find ga;rw[hf]at b;have:j'=i:=by
        have:=congrArg Prod.fst (Option.some.inj b);simp only at this;omega
       rw[←this];exact hj'
      ·rw[t.ob.runs]at hr;have:=ga.rpos r hr;have K:=WcY ga hr (x:=r.1*256) (zD _) O;obtain⟨L,J,b⟩:=h4.find ga;rw[e,K]at b;have:=congrArg Prod.fst (Option.some.inj b);simp only at this;omega
    ·intro hx;by_cases hm:p.moved=true
     ·exact .inr ((Waz t.ob.ga).2 (.inl ⟨j,hx j h1⟩))
     ·exact .inl (by simpa using hm)
  ·constructor
   ·intro _ hx;exact(hpk hx).elim
   ·intro _;obtain⟨C,G,H⟩:=h.hf p a;rw[zi (Ne.symm hpk),G];rcases H with⟨h1,h2,_⟩|⟨j,c,_,_,_,h4,_⟩
    ·exact .inl h2
    ·exact .inr ((Waz (h.ga _ C G)).2 (.inl ⟨j,h4⟩))
 have sub:∀p,p∈Wg0 (W.ars.set k (U4 A)) W.held->p∈W.held:=λp a=>(zH.1 a).1;refine h.step hk (t.ob.st (h.ow k A hk)) (VW h.hk _) (λp a e=>?_) (λp w=>⟨sub p,λa=>(keep p a).2 λe=>(w e).elim⟩) (λj y E=>?_) λr hr=>?_
 ·have B:=(keep p (sub p a)).1 a e;rcases h.hd hk (sub p a) e with⟨h1,h2,r,hr,h3⟩|⟨j,c,h1,h2,h3,h4,h5⟩
  ·exact .inl ⟨h1,h2,r,by rw[t.ob.runs];exact hr,h3⟩
  ·have D:=B j h1;refine .inr ⟨j,c,h1,by rw[t.ob.kp.tb];exact h2,h3,D,?_⟩;rw[h5];exact⟨((t.tk j _).1 D).2,t.sub j _⟩
 ·obtain⟨p,a,s,m,g⟩:=h.ht k A hk j y ((t.tk j y).1 E).1;refine⟨p,(keep p a).2 λ_ i F=>?_,s,m,g⟩;obtain rfl:i=j:=by omega
  rw[g];exact E
 ·rw[t.ob.runs]at hr;obtain⟨p,a,s,m,g⟩:=h.hr k A hk r hr;exact⟨p,(keep p a).2 λ_ i F=>O,s,m,g⟩
theorem WI.page (h:WI W){p:Pc}(hp:p∈W.held)(hk:W.ars[p.k]?=some A){x:Nat}(h1:p.addr<=x)(h2:x<p.addr+p.size):A.f (x/256)=1:=by
 have ga:=h.ga _ A hk;rcases h.hd hk hp rfl with⟨_,_,r,hr,e1,e2⟩|⟨j,c,_,hc,e1,ht,_⟩
 ·exact(ga.usedR hr O O).1
 ·obtain⟨d,w,a,b⟩:=ht;have:d=c:=Option.some.inj (a.1.symm.trans hc);subst this;have g:=ga.cen j d w a;obtain⟨l,s,i,u,m,e,_⟩:=(Ua g).1 b;have y:p.addr=at_ d s i:=Int.ofNat.inj e;have:=HO g.pos m (s:=s) (x:=x) O O;exact(ga.used a (zE u) this.1 this.2).1
theorem TkA.lt (h:GA A){j:Nat}{x:Int}(hx:TkA A j x):∃y:Nat,x=y/\y<262144:=by
 obtain⟨c,m,b,r⟩:=hx;have a:=h.cen j c m b;obtain⟨l,s,i,g,e,rfl,w⟩:=(Ua a).1 r;have d:=HO a.pos (s:=s) (x:=at_ c s i) e (zD _) (by have:=a.pos;omega);have u:=(h.used b (zE g) d.1 d.2).1;have:=h.pg.lt (p:=at_ c s i/256) O;have:=h.pg.n2;exact⟨_,rfl,O⟩
theorem GA.traI (h:GA A):TraI A:=by
 intro t ht xs hxs x hx;obtain⟨k,d⟩:=zN ht;have a:k<A.tb.length:=by rw[←h.lt];exact(gSi.1 d).1
 obtain⟨c,e,g,b,_⟩:=h.cl a;obtain⟨y,rfl,i⟩:=TkA.lt h ((KR b).2 (h.trt k c e t b d x (List.mem_flatten.2 ⟨xs,hxs,hx⟩)));unfold I63;omega
theorem WI.addr_lt (h:WI W){p:Pc}(hp:p∈W.held):p.addr<262144/\p.addr+p.size<=270000:=by
 obtain⟨A,d,m⟩:=h.hf p hp;have ga:=h.ga _ A d;have x:=ga.pg.n2;rcases m with⟨_,_,r,hr,h1,h2⟩|⟨j,c,_,hc,h2,h3,_⟩
 ·have w:=ga.fit hr;have u:=ga.rpos r hr;omega
 ·obtain⟨y,e,s⟩:=h3.lt ga;obtain⟨i,g,a,_⟩:=h3;have:i=c:=Option.some.inj (a.1.symm.trans hc);subst this;have b:=(ga.cen j _ g a).ok;unfold Cls.ok at b;omega
theorem Wcf:∀(N:Nat) (l:List Nat),l.Nodup->(∀x∈l,x<N)->l.length<=N
 | 0,l,_,h=>by
  cases l with
  | nil=>simp
  | cons x l=>have:=h x aA;omega
 | N+1,l,hn,h=>by
  have i:=Wcf N (l.filter (· != N)) (hn.sublist zCT) λx b=>by
   have b:=zH.1 b;have:=h x b.1;have:x≠N:=by simpa using b.2
   omega
  have d:=List.length_eq_countP_add_countP (l:=l) (p:=(· != N));have g:l.countP (λa=>¬(a != N)=true)<=1:=by
   have e:l.countP (λa=>¬(a != N)=true)=l.count N:=by
    unfold List.count;apply zFX;intro x _;simp
   rw[e];exact zGX.1 hn N
  rw[zES]at d;omega
theorem WI.apart (h:WI W){p q:Pc}(hp:p∈W.held)(hq:q∈W.held){x:Nat}(p1:p.addr<=x)(p2:x<p.addr+p.size)(q1:q.addr<=x)(q2:x<q.addr+q.size):p=q:=by
 obtain⟨A,y,G⟩:=h.hf p hp;obtain⟨B,m,C⟩:=h.hf q hq;have N:=h.page hp y p1 p2;have M:=h.page hq m q1 q2;have z:p.k=q.k:=h.one (x/256) p.k q.k A B y m O O;rw[←z,y]at m;cases m;have ga:=h.ga _ A y;have J:=ga.tb;have own:∀{r:Pc},Hd A r->r.addr<=x->x<r.addr+r.size->(r.cls = -1/\A.ow (x/256)=41/\∃u∈A.runs,r.addr=u.1*256/\u.1<=x/256/\x/256<u.1+u.2) ∨
  ∃(j:Nat) (c:Cls) (b:List SpA) (l:Nat) (s:SpA) (i:Nat),r.cls=j/\A.ow (x/256)=j+1/\Cl A j c b/\b[l]?=some s/\i<c.n/\r.addr=at_ c s i/\r.size=c.size:=by
  intro r hr r1 r2;rcases hr with⟨c1,_,u,hu,c2,c3⟩|⟨j,c,c1,c2,c3,c4,_⟩
  ·exact .inl ⟨c1,(ga.usedR hu O O).2,u,hu,c2,O,O⟩
  ·obtain⟨d,b,a,H⟩:=c4;have:d=c:=Option.some.inj (a.1.symm.trans c2);subst this;have F:=ga.cen j d b a;obtain⟨l,s,i,D,E,e,_⟩:=(Ua F).1 H;have K:r.addr=at_ d s i:=Int.ofNat.inj e;have g:=HO F.pos (s:=s) (x:=x) E O O;exact .inr ⟨j,d,b,l,s,i,c1,(ga.used a (zE D) g.1 g.2).2,a,D,E,K,c3⟩
 refine h.unique hp hq ?_;rcases own G p1 p2 with⟨a1,a2,u,hu,a3,a4,a5⟩|⟨j,c,b,l,s,i,a1,a2,a3,a4,a5,a6,a7⟩
 ·rcases own C q1 q2 with⟨b1,b2,w,hw,b3,b4,b5⟩|⟨j',d,ss',l',s',i',b1,b2,b3,b4,b5,b6,b7⟩
  ·have:=ga.runs_uniq hu hw a4 a5 b4 b5;subst this;unfold Pc.key;rw[z,a1,b1,a3,b3]
  ·have:=b3.lt;omega
 ·rcases own C q1 q2 with⟨b1,b2,w,hw,b3,b4,b5⟩|⟨j',d,ss',l',s',i',b1,b2,b3,b4,b5,b6,b7⟩
  ·have:=a3.lt;omega
  ·have L:j=j':=by omega
   subst L;obtain⟨rfl,rfl⟩:=a3.eq b3;have:=Ux (ga.cen j c b a3) a4 b4 a5 b5 (x:=x) O O O O;unfold Pc.key;rw[z,a1,b1,a6,b6,this.2.1,this.2.2]
theorem WI.size_pos (h:WI W){p:Pc}(hp:p∈W.held):8<=p.size/\p.size%8=0:=by
 obtain⟨A,i,g⟩:=h.hf p hp;have ga:=h.ga _ A i;rcases g with⟨_,_,r,hr,h1,h2⟩|⟨j,c,_,hc,h2,h3,_⟩
 ·have m:=ga.rpos r hr;omega
 ·obtain⟨e,d,a,_⟩:=h3;have:e=c:=Option.some.inj (a.1.symm.trans hc);subst this;have b:=(ga.cen j _ d a).ok;unfold Cls.ok at b;omega
theorem WI.len (h:WI W):W.held.length<=262144:=by
 have w:(W.held.map (·.addr)).Nodup:=by
  have m:=zAE.1 h.hk;refine zAE.2 λi j s u d e=>?_;have a:i<W.held.length:=by simpa using s
  have b:j<W.held.length:=by simpa using u
  refine m i j (by simpa using a) (by simpa using b) d ?_;simp only[zCU]at e ⊢;have s1:=(h.size_pos (zc a)).1;have y:=(h.size_pos (zc b)).1;rw[h.apart (zc a) (zc b) (x:=W.held[i].addr) (zD _) O O O]
 have:=Wcf 262144 _ w λx r=>by
  obtain⟨p,g,rfl⟩:=zC.1 r;exact(h.addr_lt g).1
 simpa using this
end Go.Ar
namespace Go.Ar
open Go.Vc (mget mset mdel)
def cnV (live:List (Int×Bk))(k x:Int):Nat:=live.countP λe=>e.2.2.2.1==k&&e.1==x
def cnL (ls:List Li)(k x:Int):Nat:=if 0<=k then(ls.getD k.toNat liN).os.count x else 0
def cnB (bs:List Bt)(k x:Int):Nat:=(bs.map λb=>if(b.1:Int)=k then b.2.count x else 0).sum
def cnP (p:Option Ph)(k x:Int):Nat:=match p with
 | some (.give s _)=>if k = -1/\x=s*256 then 1 else 0
 | _=>0
def cnT (g:Th)(k x:Int):Nat:=cnL g.ls k x+cnB g.hands k x+cnP g.ph k x
def cnH (H:Hw)(k x:Int):Nat:=cnV H.live k x+(H.ths.map λg=>cnT g k x).sum
def Um (held:List Pc)(k x:Int):Prop:=∃p∈held,p.moved=false/\p.cls=k/\(p.addr:Int)=x
open Classical in
noncomputable def cnW (held:List Pc)(k x:Int):Nat:=if Um held k x then 1 else 0
theorem WlR (held:List Pc)(k x:Int):cnW held k x<=1:=by unfold cnW;split<;>omega
theorem Wek {held:List Pc}{k x:Int}(h:1<=cnW held k x):Um held k x:=by
 unfold cnW at h;split at h
 ·assumption
 ·omega
theorem KM {held:List Pc}{k x:Int}(h:Um held k x):cnW held k x=1:=by unfold cnW;rw[zB h]
theorem QP {held:List Pc}{k x:Int}(h:¬Um held k x):cnW held k x=0:=by unfold cnW;rw[zA h]
theorem Wkc {held held':List Pc}(h:∀k x,Um held' k x↔Um held k x)(k x:Int):cnW held' k x=cnW held k x:=by
 by_cases hu:Um held k x
 ·rw[KM hu,KM ((h k x).2 hu)]
 ·rw[QP hu,QP λa=>hu ((h k x).1 a)]
theorem WlX {l:List Int}(hn:l.Nodup)(x:Int):l.count x=if x∈l then 1 else 0:=by
 split
 ·rename_i h;have a:=zGX.1 hn x;have b:=zGY.2 h;omega
 ·rename_i h;exact zEY.2 h
theorem WeR {held held':List Pc}{cl:Int}{l:List Int}(hn:l.Nodup)(h0:∀x∈l,¬Um held cl x)(h:∀k x,Um held' k x↔Um held k x\/(k=cl/\x∈l))(k x:Int):cnW held' k x=cnW held k x+(if cl=k then l.count x else 0):=by
 by_cases hk:cl=k
 ·subst hk;rw[zB rfl,WlX hn];by_cases hx:x∈l
  ·rw[zB hx,QP (h0 x hx),KM ((h _ _).2 (.inr ⟨rfl,hx⟩))]
  ·rw[zA hx,zp];by_cases hu:Um held cl x
   ·rw[KM hu,KM ((h _ _).2 (.inl hu))]
   ·rw[QP hu,QP λa=>by rcases(h _ _).1 a with a|⟨_,a⟩;exact hu a;exact hx a]
 ·rw[zA hk,zp];by_cases hu:Um held k x
  ·rw[KM hu,KM ((h _ _).2 (.inl hu))]
  ·rw[QP hu,QP λa=>by rcases(h _ _).1 a with a|⟨a,_⟩;exact hu a;exact hk a.symm]
theorem WhB {held held':List Pc}{cl:Int}{l:List Int}(hn:l.Nodup)(h0:∀x∈l,Um held cl x)(h:∀k x,Um held' k x↔Um held k x/\¬(k=cl/\x∈l))(k x:Int):cnW held k x=cnW held' k x+(if cl=k then l.count x else 0):=by
 by_cases hk:cl=k
 ·subst hk;rw[zB rfl,WlX hn];by_cases hx:x∈l
  ·rw[zB hx,KM (h0 x hx),QP λa=>((h _ _).1 a).2 ⟨rfl,hx⟩]
  ·rw[zA hx,zp];by_cases hu:Um held cl x
   ·rw[KM hu,KM ((h _ _).2 ⟨hu,λa=>hx a.2⟩)]
   ·rw[QP hu,QP λa=>hu ((h _ _).1 a).1]
 ·rw[zA hk,zp];by_cases hu:Um held k x
  ·rw[KM hu,KM ((h _ _).2 ⟨hu,λa=>hk a.1.symm⟩)]
  ·rw[QP hu,QP λa=>hu ((h _ _).1 a).1]
theorem Whs {α:Type}(f:α->Nat):∀{l:List α} {t:Nat} {g:α} (g':α),l[t]?=some g->((l.set t g').map f).sum+f g=(l.map f).sum+f g'
 | [],t,g,g',h=>by simp at h
 | a::l,0,g,g',h=>by
  simp only[zEX,Option.some.injEq]at h;subst h;simp only[List.set_cons_zero,zJ,zr];omega
 | a::l,t+1,g,g',h=>by
  have:=Whs f (l:=l) (t:=t) g' (by simpa using h);simp only[zCY,zJ,zr];omega
theorem Wea {α:Type}(f:α->Nat){l:List α}{g:α}(h:g∈l):f g<=(l.map f).sum:=by
 induction l with
 | nil=>simp at h
 | cons a l ih=>
  simp only[zJ,zr];rcases zQ.1 h with rfl|h
  ·omega
  ·have:=ih h;omega
theorem WaW (ls:List Li)(k:Nat)(x:Int):cnL ls (k:Int) x=(ls.getD k liN).os.count x:=by
 unfold cnL;rw[zB O,iTn]
theorem WfD {ls:List Li}{j:Nat}(l:Li)(k:Nat)(h:j<ls.length):(ls.set j l).getD k liN=if k=j then l else ls.getD k liN:=by
 rw[zM,zBH];by_cases hkj:k=j
 ·subst hkj;simp[h]
 ·rw[zA hkj,zA (Ne.symm hkj),zM]
theorem WnU {ls:List Li}{j:Nat}(l:Li)(h:j<ls.length)(k x:Int):cnL (ls.set j l) k x+(if(j:Int)=k then(ls.getD j liN).os.count x else 0)=cnL ls k x+(if(j:Int)=k then l.os.count x else 0):=by
 by_cases hk:0<=k
 ·obtain⟨k,rfl⟩:=zk hk;rw[WaW,WaW,WfD l k h];by_cases hjk:j=k
  ·subst hjk;simp;omega
  ·have:¬(j:Int)=(k:Int):=by omega
   rw[zA (Ne.symm hjk),zA this,zA this]
 ·unfold cnL;rw[zA hk,zA hk,zA O,zA O]
theorem VG (k x:Int):cnB [] k x=0:=rfl
theorem Kx (b:Bt)(bs:List Bt)(k x:Int):cnB (b::bs) k x=(if(b.1:Int)=k then b.2.count x else 0)+cnB bs k x:=by
 unfold cnB;rw[zJ,zr]
theorem WbF (a b:List Bt)(k x:Int):cnB (a++b) k x=cnB a k x+cnB b k x:=by
 unfold cnB;rw[zAD,zDK]
theorem cnF {f:Cls->Li->List Int×Li}(hf:∀c l x,(f c l).1.count x+(f c l).2.os.count x=l.os.count x){tb:List Cls}{ls:List Li}(hl:ls.length=tb.length)(k x:Int):cnB (Kb f tb ls) k x+cnL (Q8 f tb ls) k x=cnL ls k x:=by
 have key:∀n,n<=tb.length->cnB ((List.range n).filterMap λk=>match tb[k]?,ls[k]? with
  | some c,some l=>if(f c l).1=[]then none else some (k,(f c l).1)
  | _,_=>none) k x=if 0<=k/\k<(n:Int)then(match tb[k.toNat]?,ls[k.toNat]? with
  | some c,some l=>(f c l).1.count x
  | _,_=>0)else 0:=by
  intro n
  induction n with
  | zero=>intro _;rw[zA O];rfl
  | succ n i=>
   intro hn;have i:=i O;rw[zAB,zDZ,WbF,i];have d:tb[n]?=some tb[n]:=gGe O;have a:ls[n]?=some ls[n]:=gGe O;have e:cnB ([n].filterMap λk=>match tb[k]?,ls[k]? with
    | some c,some l=>if(f c l).1=[]then none else some (k,(f c l).1)
    | _,_=>none) k x=if(n:Int)=k then(f tb[n] ls[n]).1.count x else 0:=by
    rw[zGF,d,a];simp only;by_cases he:(f tb[n] ls[n]).1=[]
    ·rw[zB he,he];simp[VG]
    ·rw[zA he];simp only[List.filterMap_nil,Kx,VG,zp]
   rw[e];by_cases b:0<=k/\k<(n:Int)
   ·rw[zB b,zA (show ¬(n:Int)=k by omega),zp,zB (show 0<=k/\k<((n+1:Nat):Int)from⟨b.1,O⟩)]
   ·rw[zA b,zG];by_cases g:(n:Int)=k
    ·subst g;rw[zB rfl,zB (show(0:Int)<=(n:Int)/\(n:Int)<((n+1:Nat):Int)from⟨O,O⟩),iTn,d,a]
    ·rw[zA g,zA O]
 have b:=key tb.length (zD _);have e:Kb f tb ls=(List.range tb.length).filterMap λk=>match tb[k]?,ls[k]? with
  | some c,some l=>if(f c l).1=[]then none else some (k,(f c l).1)
  | _,_=>none:=rfl
 rw[e,b];by_cases hk:0<=k
 ·obtain⟨k,rfl⟩:=zk hk;rw[WaW,WaW,iTn];by_cases hkl:k<tb.length
  ·have d:tb[k]?=some tb[k]:=gGe hkl;have a:ls[k]?=some ls[k]:=gGe O;rw[zB ⟨O,O⟩,d,a];simp only;have:(Q8 f tb ls).getD k liN=(f tb[k] ls[k]).2:=by
    unfold Q8;rw[zM,zGW,d,a];rfl
   rw[this,zM,a];exact hf _ _ _
  ·rw[zA O,zG];have b:(Q8 f tb ls).getD k liN=liN:=by
    unfold Q8;rw[zM,zY (by rw[List.length_zipWith];omega)];rfl
   have g:ls.getD k liN=liN:=by rw[zM,zY O];rfl
   rw[b,g]
 ·rw[zA O,zG];unfold cnL;rw[zA hk,zA hk]
theorem WeE (m:Nat)(l:Li)(x:Int):(oldL m l).1.count x+(oldL m l).2.os.count x=l.os.count x:=by
 show(l.os.take m).count x+(l.os.drop m).count x=_;rw[←zEF,zBE]
theorem Wk3 (c:Cls)(l:Li)(x:Int):(KJ c l).1.count x+(KJ c l).2.os.count x=l.os.count x:=WeE _ l x
theorem WiB (c:Cls)(l:Li)(x:Int):(ZX c l).1.count x+(ZX c l).2.os.count x=l.os.count x:=WeE _ l x
theorem Wmh (c:Cls)(y:Int)(l:Li)(hl:l.os.length<=255)(x:Int):(putL c y l).1.count x+(putL c y l).2.os.count x=l.os.count x + [y].count x:=by
 have a:(addL [y] l).os=l.os++[y]:=by
  unfold addL;rw[zA aE]
 unfold putL;rw[zA O];split
 ·rw[a,List.count_nil,zG,zEF]
 ·rw[WeE];have:(upL c (addL [y] l)).os=(addL [y] l).os:=by unfold upL;split<;>rfl
  rw[this,a,zEF]
theorem Wfh {c:Cls}{l l':Li}{y:Int}(h:Ka c l=(some y,l'))(x:Int):l.os.count x=l'.os.count x + [y].count x:=by
 unfold Ka at h;split at h
 ·simp at h
 ·rename_i z hz;cases h;have:l.os=l.os.dropLast++[y]:=by
   obtain⟨b,a⟩:=List.getLast?_eq_some_iff.1 hz;rw[a];simp
  conv=>lhs;rw[this]
  rw[zEF]
theorem Wh7 {c:Cls}{l l':Li}(h:Ka c l=(none,l')):l.os=[]/\l'.os=[]:=by
 unfold Ka at h;split at h
 ·rename_i hz;have:l.os=[]:=by simpa using hz
  cases h;refine⟨this,?_⟩;split<;>exact this
 ·simp at h
theorem Wb0 {live:List (Int×Bk)}{x:Int}(b:Bk)(h:mget live x=none)(k y:Int):cnV (mset live x b) k y=cnV live k y+(if b.2.2.1=k then[x].count y else 0):=by
 have a:live.any (λe=>e.1==x)=false:=by
  rw[zAX];intro e he hx;unfold mget at h;rw[zCO,zBM]at h;exact h e he hx
 unfold mset;rw[a,zA aA];unfold cnV;rw[zDQ]
 congr 1
 rw[zCI,List.countP_nil,zG];by_cases h1:b.2.2.1=k
 ·by_cases h2:x=y
  ·subst h2;simp[h1]
  ·simp[h1,h2]
 ·simp[h1]
theorem Wct {live:List (Int×Bk)}{x:Int}{b:Bk}(h:mget live x=none){e:Int×Bk}:e∈mset live x b↔e∈live\/e=(x,b):=by
 have a:live.any (λe=>e.1==x)=false:=by
  rw[zAX];intro e he hx;unfold mget at h;rw[zCO,zBM]at h;exact h e he hx
 unfold mset;rw[a,zA aA,zR,zV]
theorem Wcm {live:List (Int×Bk)}{x:Int}{e:Int×Bk}:e∈mdel live x↔e∈live/\e.1≠x:=by
 unfold mdel;rw[zH];simp
theorem Wcr:∀{live:List (Int×Bk)} {x:Int} {b:Bk},(live.map (·.1)).Nodup->mget live x=some b->∀k y,cnV live k y=cnV (mdel live x) k y+(if b.2.2.1=k then[x].count y else 0)
 | [],x,b,_,h,_,_=>by simp[mget]at h
 | e::l,x,b,hn,h,k,y=>by
  rw[zJ,zo]at hn;by_cases he:e.1=x
  ·have hb:e.2=b:=by
    unfold mget at h;rw[List.find?_cons_of_pos (by simpa using he)]at h;simpa using h
   have hd:mdel (e::l) x=l:=by
    unfold mdel;rw[zDL (by simpa using he),zBK];intro a ha;have:a.1≠x:=λi=>hn.1 (zC.2 ⟨a,ha,i.trans he.symm⟩);simpa using this
   rw[hd];unfold cnV;rw[zCI,hb,he]
   congr 1
   by_cases h1:b.2.2.1=k
   ·by_cases h2:x=y
    ·subst h2;simp[h1]
    ·simp[h1,h2]
   ·simp[h1]
  ·have g:mget l x=some b:=by
    unfold mget at h ⊢
    rwa [List.find?_cons_of_neg (by simpa using he)]at h
   have d:=Wcr hn.2 g k y;have hd:mdel (e::l) x=e::mdel l x:=by
    unfold mdel;rw[zDM (by simpa using he)]
   rw[hd];unfold cnV at d ⊢;rw[zCI,zCI,d];omega
theorem Wju {live:List (Int×Bk)}{e:Int×Bk}(h:e∈live):1<=cnV live e.2.2.2.1 e.1:=by
 unfold cnV;exact List.countP_pos_iff.2 ⟨e,h,by simp⟩
structure Sim (s s':Sp):Prop where
 l:s'.st.length=s.st.length
 z:∀p,gf s'.st p=0↔gf s.st p=0
 w:s'.wd=s.wd
def PhI (m:Nat)(g:Th):Prop:=match g.ph with
 | none=>g.hands=[]
 | some (.take k)=>g.hands=[]/\k<m
 | some (.transfer k w)=>g.hands=[]/\k<m/\(g.li k).os=[]/\1<=w/\w<=32
 | some (.central k w)=>g.hands=[]/\k<m/\(g.li k).os=[]/\1<=w/\w<=32
 | some (.grow k w)=>g.hands=[]/\k<m/\(g.li k).os=[]/\1<=w/\w<=32
 | some .fill=>∃k x xs,g.hands=[(k,x::xs)]/\k<m/\(g.li k).os=[]/\xs.length<=128
 | some (.large n)=>g.hands=[]/\1<=n/\n<=64
 | some (.find x)=>g.hands=[]/\I63 x
 | some (.put k x)=>g.hands=[(k,[x])]/\k<m
 | some .back=>g.hands≠[]
 | some (.give _ _)=>g.hands=[]
 | some .drain=>g.hands=[]
structure ThI (m:Nat) (g:Th):Prop where
 ll:g.ls.length=m
 lo:∀l∈g.ls,LiOk l/\l.os.length<=128
 hb:∀b∈g.hands,b.1<m/\b.2≠[]/\b.2.length<=256
 hl:g.hands.length<=41
 ph:PhI m g
def Lv (held:List Pc)(e:Int×Bk):Prop:=e.2.1=e.1/\∃p∈held,p.moved=false/\p.cls=e.2.2.2.1/\(p.addr:Int)=e.1/\e.2.2.1=(p.size:Int)/\e.2.2.2.2=(p.k:Int)
def Gv (held:List Pc)(s a:Int):Prop:=∃p∈held,p.moved=false/\p.cls = -1/\(p.addr:Int)=s*256/\a=(p.k:Int)
structure HI (H:Hw) (held:List Pc) (s0:Sp):Prop where
 wi:WI ⟨H.tb,s0,H.ars,held⟩
 sim:Sim s0 H.sp
 cn:∀k x,cnH H k x=cnW held k x
 lk:(H.live.map (·.1)).Nodup
 lv:∀e∈H.live,Lv held e
 gv:∀g∈H.ths,∀s a,g.ph=some (.give s a)->Gv held s a
 th:∀g∈H.ths,ThI H.tb.length g
 ok:∀c∈H.tb,c.ok
 a1:1<=H.ars.length
 sl:H.sp.st.length=H.cf.pages
variable {H:Hw}{held:List Pc}{s0:Sp}{t k:Nat}{g:Th}{A:AR}
theorem Sim.refl (s:Sp):Sim s s:=⟨rfl,λ_=>Iff.rfl,rfl⟩
theorem HI.apart (h:HI H held s0){p q:Pc}(hp:p∈held)(hq:q∈held){x:Nat}(p1:p.addr<=x)(p2:x<p.addr+p.size)(q1:q.addr<=x)(q2:x<q.addr+q.size):p=q:=h.wi.apart hp hq p1 p2 q1 q2
theorem WI.same {W:Wd}(h:WI W){p q:Pc}(hp:p∈W.held)(hq:q∈W.held)(e:p.addr=q.addr):p=q:=by
 have a:=(h.size_pos hp).1;have b:=(h.size_pos hq).1;exact h.apart hp hq (x:=p.addr) (zD _) O O O
theorem WI.um {W:Wd}(h:WI W){p:Pc}(hp:p∈W.held){k x:Int}(hu:Um W.held k x)(e:(p.addr:Int)=x):p.moved=false/\p.cls=k:=by
 obtain⟨q,d,a,b,g⟩:=hu;obtain rfl:=h.same hp d O;exact⟨a,b⟩
theorem HI.live_um (h:HI H held s0){e:Int×Bk}(he:e∈H.live):Um held e.2.2.2.1 e.1:=by
 obtain⟨_,p,g,a,b,d,_⟩:=h.lv e he;exact⟨p,g,a,b,d⟩
theorem HI.cnT_le (h:HI H held s0){g:Th}(hg:g∈H.ths)(k x:Int):cnT g k x<=cnW held k x:=by
 rw[←h.cn];unfold cnH;have:=Wea (λg=>cnT g k x) hg;omega
theorem HI.um_t (h:HI H held s0){g:Th}(hg:g∈H.ths){k x:Int}(hc:1<=cnT g k x):Um held k x:=Wek (zI hc (h.cnT_le hg k x))
theorem HI.not_live (h:HI H held s0){g:Th}(hg:g∈H.ths){k x:Int}(hc:1<=cnT g k x):mget H.live x=none:=by
 cases hm:mget H.live x with
 | none=>rfl
 | some b=>
  have e:=KU hm;have i:=h.um_t hg hc;obtain⟨q,r,w,p,s⟩:=h.live_um e;have u:k=b.2.2.1:=by
   have:=(h.wi.um (W:=⟨H.tb,s0,H.ars,held⟩) r i s).2;exact this.symm.trans p
  have j:=Wju e;have d:=h.cn k x;have m:=WlR held k x;have a:=Wea (λg=>cnT g k x) hg;simp only at j a;unfold cnH at d;rw[u]at d m a hc;omega
theorem HI.not_um (h:HI H held s0){x:Int}(hn:∀k,¬Um held k x):mget H.live x=none:=by
 cases hm:mget H.live x with
 | none=>rfl
 | some b=>exact(hn _ (h.live_um (KU hm))).elim
theorem HI.upd (h:HI H held s0)(hg:H.ths[t]?=some g){g':Th}{live':List (Int×Bk)}{s0' sp':Sp}{ars':List AR}{held':List Pc}(wi:WI ⟨H.tb,s0',ars',held'⟩)(sim:Sim s0' sp')(hsl:sp'.st.length=H.sp.st.length)(hl:ars'.length=H.ars.length)
 (sub:∀p∈held',p.moved=false->p∈held\/∀k,¬Um held k (p.addr:Int))
 (cn:∀k x,cnV live' k x+cnT g' k x+cnW held k x=cnV H.live k x+cnT g k x+cnW held' k x)
 (lk:(live'.map (·.1)).Nodup) (lv:∀e∈live',e∈H.live\/Lv held' e) (gv:∀s a,g'.ph=some (.give s a)->Gv held' s a) (th:ThI H.tb.length g') :
 HI {H with live:=live',sp:=sp',ars:=ars',ths:=H.ths.set t g'} held' s0':=by
 have u:∀k x,cnH {H with live:=live',sp:=sp',ars:=ars',ths:=H.ths.set t g'} k x=cnW held' k x:=λk x=>by
  have d:=h.cn k x;have r:=cn k x;have i:=Whs (λg=>cnT g k x) g' hg;unfold cnH at d ⊢;simp only at i ⊢;omega
 have G:=(gSi.1 hg).1;have keep:∀p∈held,p.moved=false->Um held' p.cls (p.addr:Int)->p∈held':=λp m D ⟨q,B,d,r,i⟩=>by
  rcases sub q B d with hs|hs
  ·have:q=p:=h.wi.same (W:=⟨H.tb,s0,H.ars,held⟩) hs m O;rw[←this];exact B
  ·exact(hs p.cls ⟨p,m,D,rfl,i.symm⟩).elim
 refine⟨wi,sim,u,lk,λe A=>?_,λw b s a m=>?_,λw b=>?_,h.ok,by simp only;rw[hl];exact h.a1,hsl.trans h.sl⟩
 ·rcases lv e A with he'|he'
  ·obtain⟨E,p,m,d,r,i,z⟩:=h.lv e he';refine⟨E,p,keep p m d ?_,d,r,i,z⟩;rw[r,i];apply Wek;rw[←u];have:1<=cnV live' e.2.2.2.1 e.1:=Wju A;unfold cnH;simp only;omega
  ·exact he'
 ·rcases List.mem_iff_getElem?.1 b with⟨j,hj⟩;rcases Vo hj with⟨rfl,rfl,_⟩|⟨hne,hj'⟩
  ·exact gv s a m
  ·obtain⟨p,y,d,r,i,z⟩:=h.gv w (zE hj') s a m;refine⟨p,keep p y d ?_,d,r,i,z⟩;rw[r,i];apply Wek;rw[←u];have C:=Wea (λg=>cnT g (-1) (s*256)) b;have F:1<=cnT w (-1) (s*256):=by unfold cnT;rw[m];simp[cnP]
   unfold cnH;simp only at C ⊢;omega
 ·rcases List.mem_iff_getElem?.1 b with⟨j,hj⟩;rcases Vo hj with⟨rfl,rfl,_⟩|⟨hne,hj'⟩
  ·exact th
  ·exact h.th w (zE hj')
theorem HI.updT (h:HI H held s0)(hg:H.ths[t]?=some g){g':Th}{live':List (Int×Bk)}(cn:∀k x,cnV live' k x+cnT g' k x=cnV H.live k x+cnT g k x)(lk:(live'.map (·.1)).Nodup)(lv:∀e∈live',e∈H.live\/Lv held e)
 (gv:∀s a,g'.ph=some (.give s a)->Gv held s a) (th:ThI H.tb.length g'):HI {H with live:=live',ths:=H.ths.set t g'} held s0:=
 h.upd hg h.wi h.sim rfl rfl (λp b _=>.inl b) (λk x=>by have:=cn k x;omega) lk lv gv th
theorem HI.updA (h:HI H held s0){s0' sp':Sp}{ars':List AR}{held':List Pc}(wi:WI ⟨H.tb,s0',ars',held'⟩)(sim:Sim s0' sp')(hsl:sp'.st.length=H.sp.st.length)(hl:ars'.length=H.ars.length)(um:∀k x,Um held' k x↔Um held k x)(sub:∀p∈held',p.moved=false->p∈held) :
 HI {H with sp:=sp',ars:=ars'} held' s0':=by
 have keep:∀p∈held,p.moved=false->p∈held':=λp d y=>by
  obtain⟨q,m,b,i,z⟩:=(um p.cls (p.addr:Int)).2 ⟨p,d,y,rfl,rfl⟩;have:q=p:=h.wi.same (W:=⟨H.tb,s0,H.ars,held⟩) (sub q m b) d O;rw[←this];exact m
 refine⟨wi,sim,λk x=>(h.cn k x).trans (Wkc um k x).symm,h.lk,λe u=>?_,λg r s a d=>?_,h.th,h.ok,by simp only;rw[hl];exact h.a1,hsl.trans h.sl⟩
 ·obtain⟨w,p,d,b,i⟩:=h.lv e u;exact⟨w,p,keep p d b,b,i⟩
 ·obtain⟨p,j,b,i⟩:=h.gv g r s a d;exact⟨p,keep p j b,b,i⟩
theorem Wgr {A:AR}{x:Int}:UN A x=true↔0<=x/\A.f x.toNat≠0:=by
 unfold UN AR.f gf;simp
theorem WI.owner {W:Wd}(h:WI W){p:Pc}(hp:p∈W.held){x:Nat}(h1:p.addr<=x)(h2:x<p.addr+p.size):YJ W.ars (x:Int)=(p.k:Int):=by
 obtain⟨A,b,_⟩:=h.hf p hp;have g:=h.page hp b h1 h2;have a:=(gSi.1 b).1;have own:∀(j:Nat) (B:AR),W.ars[j]?=some B->(UN B ((x:Int)/256)=true↔j=p.k):=λj B d=>by
  have e:((x:Int)/256).toNat=x/256:=by omega
  rw[Wgr,e];constructor
  ·rintro⟨_,hf⟩;exact h.one (x/256) j p.k B A d b hf O
  ·rintro rfl;rw[b]at d;cases d;exact⟨O,O⟩
 unfold YJ;rw[zA O];have hf:W.ars.findIdx? (λA=>UN A ((x:Int)/256))=some p.k:=by
  rw[zBQ];refine⟨a,(own p.k _ (gGe a)).2 rfl,λj i=>?_⟩;have:=own j W.ars[j] (gGe O);intro hx;have:=this.1 hx;omega
 rw[hf]
theorem HI.owner (h:HI H held s0){p:Pc}(hp:p∈held){x:Nat}(h1:p.addr<=x)(h2:x<p.addr+p.size):YJ H.ars (x:Int)=(p.k:Int):=h.wi.owner (W:=⟨H.tb,s0,H.ars,held⟩) hp h1 h2
theorem HI.owner0 (h:HI H held s0){p:Pc}(hp:p∈held):YJ H.ars (p.addr:Int)=(p.k:Int):=h.owner hp (zD _) (by have:=(h.wi.size_pos (W:=⟨H.tb,s0,H.ars,held⟩) hp).1;omega)
theorem HI.i63 (h:HI H held s0){k x:Int}(hu:Um held k x):I63 x/\0<=x/\0<=YJ H.ars x:=by
 obtain⟨p,a,_,_,rfl⟩:=hu;have:=(h.wi.addr_lt (W:=⟨H.tb,s0,H.ars,held⟩) a).1;refine⟨by unfold I63;omega,O,?_⟩;rw[h.owner0 a];omega
end Go.Ar