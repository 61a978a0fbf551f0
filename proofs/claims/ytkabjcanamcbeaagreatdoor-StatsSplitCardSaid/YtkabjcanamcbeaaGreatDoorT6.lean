/- Texts joined. -/
import Derived.Test.YtkabjcanamcbeaaGreatDoorT5
set_option linter.unusedVariables false
set_option linter.unusedSimpArgs false
namespace Go.Ar
open Go Go.Vc Go.Proofs
variable {σ u u':Hp}{F B P Q:Rg}{L:dP}{H H':Hw}{t k n pb:Nat}{A:AR}{Y:Lay}{x:eH}{g:Th}{c:bX}{l:Li}{cs:List Value}
set_option maxRecDepth 8000 in
theorem WkH (hso:Gj)(h:HH σ F L H)(ht:t<H.bS.length)(p:Ph)(hp:vF H t p)(hlen:∀g,H.bS[t]?=some g->g.bP.length<=900){R:Value->Int->Int->Hp->Prop}(hR:OE σ F L (Wt H t p) R) :
 ZI.c (aW L.p) (t:Int) (og (some p)) σ R:=by
 refine ZI.o ?_;have hlen':∀g,H.bS[t]?=some g->g.bP.length<=1000:=λg hg=>by have:=hlen g hg;omega
 refine nw (cs:=[.int .i64 0,.int .i64 0]) λv hz e i=>?_;have K1:=(HK.start h).box e hz;obtain⟨x,g,E,hg⟩:=h.th ht;have hlen:=hlen g hg;have htg:=G6 hg;have hol:=kG h.s t;obtain⟨A,hA⟩:∃A,H.bT[H.own t]?=some A:=⟨_,cL hol⟩;have hAe:=Cw hA;obtain⟨Y,hY,_,_⟩:=h.ar hA;refine aG (K1.h.hd.rS rfl ?_);refine Es K1.h.kK K1.h.s.ts E hg (d:=0) O rfl λtb0 to0 ha _=>?_;have hS1:nY (λu=>u=v) L H.tb:=λm hm=>by cases hm;exact⟨_,L.ts,H,K1.h,rfl⟩
 refine⟨λu=>u=v,rfl,aG (hS1.fY (Ih K1.h t ⟨rfl,K1.h.rA hY ⟨rfl,?_⟩⟩))⟩;refine qi (λw=>∃P ts',HK F σ (λb=>False\/b=σ.size) w P {L with ts:=ts'} (Wt H t p).1/\bW w σ.size [.int .i64 0,.int .i64 0]/\(Wt H t p).2=(none,0,0)) (λw ⟨P,ts',K,hbw,X⟩=>?_) λJ hJ=>?_
 ·refine gY (n:=σ.size) K (.inr rfl) hbw λw' K'=>?_;have:=hR w' ts' K'.e (K'.fin h);rw[X]at this;exact this
 cases p with
 | take k=>
  obtain⟨hk,hy9⟩:k<H.tb.length/\∀y l,Kj (H.cls k) ((H.kE t).li k)=(some y,l)->iF y:=hp;obtain⟨c,hc⟩:∃c,H.tb[k]?=some c:=⟨_,cL hk⟩;have hll:=h.Cn E hg;obtain⟨l,hl⟩:∃l,g.ls[k]?=some l:=⟨_,cL (by rw[hll];exact hk)⟩;have hce:=Uo hc;have hle:=Ab hl;rw[hce,htg,hle]at hy9;refine DW (nw (cs:=[.int .i64 0]) λv5 M V N=>?_);have K5:=K1.box V M;refine N.s0 aA λv6 o6 hb6=>?_;have K6:=K5.own o6 (.inr rfl);have C:=Wp o6 (V.cA i id) O;refine⟨λu=>u=v6,rfl,aG ⟨some ⟨x.c.p,0,none⟩,λu U=>by cases U;exact K6.h.tc E hg ha O rfl,⟨(k:Int),λu U=>by cases U;rw[add_lit,hb6.cell];rfl,?_⟩⟩⟩;refine ML K6.h E hg hc hl λv7 ts7 W h7=>?_;have K7:=K6.to W h7 λb _ i=>i;have hb7:=K6.cW W hb6 (.inr rfl);have B:=K6.cW W C (.inl (.inr rfl));cases htk:Kj c l with
  | mk o l'=>
  rw[htk]at h7 K7;cases o with
  | some y=>
   have X:Wt H t (.take k)=(VP (H.dY t g (g.ls.set k l')) y (c.size:Int) (k:Int),none,y,0):=by
    simp only[Wt,hce,htg,hle,htk,ZS hg];rfl
   rw[X]at hR;have hS2:nY (λu=>(∃P ts H',HH u P {L with ts:=ts} H'/\H'.tb=H.tb)/\bW u v.size [.int .i64 (k:Int)]) L H.tb:=λm hm=>hm.1;refine cJ rfl ⟨λu=>(∃P ts H',HH u P {L with ts:=ts} H'/\H'.tb=H.tb)/\bW u v.size [.int .i64 (k:Int)],⟨⟨_,_,_,K7.h,rfl⟩,hb7⟩,aG (hS2.dF ⟨(k:Int),λu U=>by rw[add_lit,U.2.cell];rfl,?_⟩)⟩;refine nY.rC (L:={L with ts:=ts7}) (H:=H.dY t g (g.ls.set k l')) hS2 K7.h hc ⟨(k:Int),λu U=>by rw[add_lit,U.2.cell];rfl,?_⟩;refine Ex K7.h y (c.size:Int) (k:Int) (hy9 y l' htk) λv8 e8 h8=>?_;have K8:=K7.to e8 h8 λb _ i=>.inl i;refine⟨⟨⟨_,_,_,h8,rfl⟩,K7.cW e8 hb7 (.inr rfl)⟩,?_⟩;exact gY (n:=σ.size) K8 (.inl (.inr rfl)) (K7.cW e8 B (.inl (.inr rfl))) λw' K'=>hR w' ts7 K'.e (K'.fin h)
  | none=>
   have X:Wt H t (.take k)=(H.dY t g (g.ls.set k l'),some (.cO k (p8 c l')),0,0):=by
    simp only[Wt,hce,htg,hle,htk,ZS hg];rfl
   rw[X]at hR;have htlt:=(cS.1 hg).1;have hklt:=(cS.1 hl).1;have hg7:(H.dY t g (g.ls.set k l')).bS[t]?=some {g with ls:=g.ls.set k l'}:=by simp[Hw.dY,htlt]
   obtain⟨x7,g7,hx7,_⟩:=K7.h.th (t:=t) (by simp[Hw.dY,htlt]);have hl7:({g with ls:=g.ls.set k l'}:Th).ls[k]?=some l':=by simp[hklt]
   refine cF rfl ⟨λu=>u=v7,rfl,aG ⟨some ⟨x7.c.p,0,none⟩,λu U=>by cases U;exact K7.h.tc hx7 hg7 ha O rfl,⟨(k:Int),λu U=>by cases U;rw[add_lit,hb7.cell];rfl,?_⟩⟩⟩;refine υ K7.h hx7 hg7 hc hl7 λv8 ts8 e8 h8=>?_;have K8:=K7.to e8 h8 λb _ i=>i;refine(K7.cW e8 hb7 (.inr rfl)).rI rfl ?_;exact gY (n:=σ.size) K8 (.inl (.inr rfl)) (K7.cW e8 B (.inl (.inr rfl))) λw' K'=>hR w' ts8 K'.e (K'.fin h)
 | cO k w=>
  obtain⟨hk,hne0⟩:k<H.tb.length/\(Qd (H.eN t) (k:Int)=0->YP (H.eN t) (k:Int)≠[]):=hp;rw[hAe]at hne0;obtain⟨c,hc⟩:∃c,H.tb[k]?=some c:=⟨_,cL hk⟩;have hce:=Uo hc;refine lW aB (xu (nw (cs:=[.int .i64 0,.int .i64 0]) λv5 M V N=>?_));have K5:=K1.box V M;refine N.s1 aA λv5b o5 b5=>b5.s1 aA λv6 o6 b6=>?_;have K6:=(K5.own o5 (.inr rfl)).own o6 (.inr rfl);have S:σ.size≠v.size:=by omega
  have C:=Wp o6 (Wp o5 (V.cA i id) S) S;refine qi (λu=>(∃P',HK F σ (λb=>(False\/b=σ.size)\/b=v.size) u P' L H)/\bW u σ.size [.int .i64 0,.int .i64 0]/\bW u v.size [.int .i64 (k:Int),.int .i64 (w:Int)]/\Wt H t (.cO k w)=(H,some (.cQ k w),0,0)) (λu ⟨⟨P',K⟩,hbw,hbx,X⟩=>?_) λJ1 hJ1=>?_
  ·rw[X]at hR;exact hbx.rI rfl (hbx.rI rfl (gY (n:=σ.size) K (.inl (.inr rfl)) hbw λw' K'=>hR w' L.ts K'.e (K'.fin h)))
  ·refine b6.rI rfl (aG (K6.h.hd.rS rfl (b6.rI rfl (uX K6.h.jW hc (d:=2) O ?_))));simp only[zA (show ¬(2=0) by omega),zA (show ¬(2=1) by omega)];refine cN (λheq=>b6.rI rfl ?_) λhne'=>hJ1 v6 ⟨⟨_,K6⟩,C,b6,?_⟩
   ·have heq':w=c.batch:=by simp only[zZ]at heq;omega
    refine MA K6.h hA hY (k:Int) λs v7 Q W hQ hs7 hcap h7=>?_;have K7:=K6.to W h7 λb _ i=>i.1;have b7:=K6.cW W b6 (.inr rfl);have B:=K6.cW W C (.inl (.inr rfl));refine cN (λh0=>b7.rI rfl ?_) λhn0=>?_
    ·have h0':Qd A (k:Int)=0:=by simpa using h0
     have X:Wt H t (.cO k w)=(Q0 (H.cB (H.own t) (ZW A (k:Int))) t k (YP A (k:Int)),some .fill,0,0):=by
      simp only[Wt,hce,hAe,heq',h0',zV]
     rw[X]at hR;refine AY K7.h (t:=t) ht k hs7 hcap (hne0 h0') (λb _ z E=>E.1.2 z) (K6.h.o.sub hQ) (λz=>K6.h.o2 (hQ _ z)) hlen' λv8 ts8 e8 h8=>?_;have K8:=K7.tf e8 h8 λb i z=>by
      rcases z with z|z
      ·exact z.imp id .inl
      ·exact .inr (.inr ⟨(K6.p b (hQ b z)).1,(K6.p b (hQ b z)).2.1⟩)
     exact gY (n:=σ.size) K8 (.inl (.inr rfl)) (K7.cW e8 B (.inl (.inr rfl))) λw' K'=>hR w' ts8 K'.e (K'.fin h)
    ·have hn0':Qd A (k:Int)≠0:=by simpa using hn0
     have hsame:ZW A (k:Int)=A:=by unfold ZW;rw[zA hn0']
     rw[hsame,Mg hA]at K7;refine hJ1 v7 ⟨⟨_,K7⟩,B,b7,?_⟩;simp only[Wt,hce,hAe,heq',zA hn0',zV]
   ·have hne2:w≠c.batch:=λe=>by rw[e]at hne';simp at hne'
    simp only[Wt,hce,zA hne2]
 | cQ k w=>
  refine lW aB (jJ aB (xu (nw (cs:=[.int .i64 0,.int .i64 0]) λv5 M V N=>?_)));have K5:=K1.box V M;refine N.s1 aA λv5b o5 b5=>b5.s1 aA λv6 o6 b6=>?_;have K6:=(K5.own o5 (.inr rfl)).own o6 (.inr rfl);have S:σ.size≠v.size:=by omega
  have C:=Wp o6 (Wp o5 (V.cA i id) S) S;refine b6.rI rfl (b6.rI rfl (O4 K6.h hA hY (k:Int) (w:Int) λs v7 Q W hQ hs7 h7=>?_));have K7:=K6.to W h7 λb _ i=>i.1;have b7:=K6.cW W b6 (.inr rfl);have B:=K6.cW W C (.inl (.inr rfl));have hsl:s.len=(Yy A (k:Int) (w:Int)).length:=by have:=hs7.1;simp[ints]at this;omega
  by_cases hemp:Yy A (k:Int) (w:Int)=[]
  ·have X:Wt H t (.cQ k w)=(H.cB (H.own t) (YS A (k:Int) (w:Int)),some (.grow k w),0,0):=by
    simp only[Wt,hAe,zB hemp]
   rw[X]at hR;refine fH (by rw[hsl,hemp];simp) (b7.rI rfl (b7.rI rfl ?_));exact gY (n:=σ.size) K7 (.inl (.inr rfl)) B λw' K'=>hR w' L.ts K'.e (K'.fin h)
  ·have X:Wt H t (.cQ k w)=(Q0 (H.cB (H.own t) (YS A (k:Int) (w:Int))) t k ((Yy A (k:Int) (w:Int)).map λ(x:Nat)=>(x:Int)),some .fill,0,0):=by
    simp only[Wt,hAe,zA hemp]
   rw[X]at hR;have hpos:=qC.2 hemp;refine mh (by rw[hsl];omega) (b7.rI rfl ?_);have hs7':=bR.fP hs7;rw[Χ]at hs7';have hz6:=K6.e.1;refine AY K7.h (t:=t) ht k hs7' (bR.rG hs7) (by simpa using hemp) (λb _ z E=>E.1.2 z) (K6.o.1.sub λb i=>by have:=hQ b i;omega) (λz=>K6.o.2 (by have:=hQ _ z;omega)) hlen' λv8 ts8 e8 h8=>?_;have K8:=K7.tf e8 h8 λb i z=>by
    rcases z with z|z
    ·exact z.imp id .inl
    ·have:=hQ b z;exact .inr (.inr ⟨.inr O,λhB=>by have:=(K6.b b hB).2;omega⟩)
   exact gY (n:=σ.size) K8 (.inl (.inr rfl)) (K7.cW e8 B (.inl (.inr rfl))) λw' K'=>hR w' ts8 K'.e (K'.fin h)
 | grow k w=>
  refine lW aB (jJ aB (jJ aB (xu (nw (cs:=[.int .i64 0,.int .i64 0]) λv5 M V N=>?_))));have K5:=K1.box V M;refine N.s1 aA λv5b o5 b5=>b5.s1 aA λv6 o6 b6=>?_;have K6:=(K5.own o5 (.inr rfl)).own o6 (.inr rfl);have S:σ.size≠v.size:=by omega
  have C:=Wp o6 (Wp o5 (V.cA i id) S) S;refine b6.rI rfl (MO K6.h hA hY (k:Int) λv7 W h7=>?_);have K7:=K6.to W h7 λb _ i=>i;have b7:=K6.cW W b6 (.inr rfl);have B:=K6.cW W C (.inl (.inr rfl));refine cN (λhn0=>?_) λh0=>?_
  ·have hn0':KV A H.sp (k:Int)≠0:=by simpa using hn0
   have X:Wt H t (.grow k w)=({H.cB (H.own t) (cR A H.sp (k:Int)).1 with sp:=(cR A H.sp (k:Int)).2},none,0,KV A H.sp (k:Int)):=by
    simp only[Wt,hAe,zA hn0']
   rw[X]at hR;exact gY (n:=σ.size) K7 (.inl (.inr rfl)) B λw' K'=>hR w' L.ts K'.e (K'.fin h)
  ·have h0':KV A H.sp (k:Int)=0:=by simpa using h0
   have X:Wt H t (.grow k w)=({H.cB (H.own t) (cR A H.sp (k:Int)).1 with sp:=(cR A H.sp (k:Int)).2},some (.cQ k w),0,0):=by
    simp only[Wt,hAe,zB h0']
   rw[X]at hR;refine b7.rI rfl (b7.rI rfl ?_);exact gY (n:=σ.size) K7 (.inl (.inr rfl)) B λw' K'=>hR w' L.ts K'.e (K'.fin h)
 | fill=>
  obtain⟨k,y,ys,r,hh,hk,hy9,hfit⟩:∃k x xs r,(H.kE t).bP=(k,x::xs)::r/\k<H.tb.length/\iF x/\((H.kE t).li k).os.length+xs.length<=256:=hp;rw[htg]at hh hfit;obtain⟨c,hc⟩:∃c,H.tb[k]?=some c:=⟨_,cL hk⟩;have hll:=h.Cn E hg;obtain⟨l,hl⟩:∃l,g.ls[k]?=some l:=⟨_,cL (by rw[hll];exact hk)⟩;have hce:=Uo hc;have hle:=Ab hl;rw[hle]at hfit;refine lW aB (jJ aB (jJ aB (jJ aB (Ej (nw (cs:=[]) λv5 M V N=>?_)))));have K5:=K1.box V M;have hbv5:=V.cA i id;obtain⟨G,D,hG,hD,hd,Z,hr,hput⟩:=K5.h.xe (λb i=>(K5.p b i).2.2) E hg (λ_=>False) (λb _ _ z=>z) (K5.o.1.sub λb i=>i.elim) (λz=>z);rw[hh]at Z;obtain⟨so,ps,Dn,hrow,hso1,hcap,hBr,hDn,hj,S,hxne⟩:=Z.nt;have hz5':=K5.e.1;have hsol:so.len=ys.length+1:=by have:=hso1.1;simp[Wv]at this;omega
  refine aG (ox (K5.h.tc E hg ha (d:=1) O rfl) (Jx (dQ.fP hrow) λa ha0 ha1=>nV ha0 (ox ha1 ?_)));refine nw (cs:=[.int .i64 0,.slice none 0 0]) λv43 hz43 e43 hb43=>hb43.s1 aA λv44 o44 b44=>b44.s1 aA λv45 o45 b45=>?_;have e45:bO v5 v45:=(e43.only o44 (.inr (zC _))).only o45 (.inr (zC _));have hz45:v5.size<v45.size:=b45.lt;refine aG (hput v45 ⟨none,0,0⟩ [] (λ_=>False) (bO.to e45) (λb i=>i.elim) (im.nil _ _ _) ha λv46 e46 h46=>?_);have hz46:=e46.1;have e546:Ext _ v5 v46:=(bO.to e45).trans (e46.sub hD);have K46:=K5.to e546 h46 λb _ z=>by
   rcases z with z|z
   ·exact .inl z.1
   ·exact z.1.elim
  have hbv46:=K5.cW e546 hbv5 (.inl (.inr rfl));have b46:bW v46 v5.size _:=e46.cA b45 λE=>by have:=(K5.p _ (hD _ E)).2.2;omega
  have K46b:=K46.wx (B':=λb=>b=v5.size) λb i=>⟨O,O,λE=>by
   subst i;rcases E.1 with h1|h1
   ·have:=(K5.p _ h1.1).2.2;omega
   ·exact h1.1⟩
  have hso46:=aH.bU (aH.bK (aH.cut hso1) e45) e46 λb _ i E=>hd b (hDn b i.1.1) E;have hXn:∀b,(Dn b/\lE so b)/\b<v5.size->¬Cut (λb=>(Cut F σ b/\¬G b)\/False/\b<v45.size) v46 b:=λb i E=>by
   rcases E.1 with h1|h1
   ·exact h1.2 (hDn b i.1.1)
   ·exact h1.1
  have hg46:({H with bS:=H.bS.set t {g with bP:=[]}}:Hw).bS[t]?=some {g with bP:=[]}:=by simp[ht]
  have hx46:(L.ts.set t {x with h:=⟨none,0,0⟩})[t]?=some {x with h:=⟨none,0,0⟩}:=zM (cS.1 E).1;refine aG (tD (K46b.h.tc hx46 hg46 ha (d:=0) O rfl) (b46.rI rfl (b46.rS (a:=so.a) (n:=so.len) (c:=so.cap) rfl (ji (lo:=1) (by show 1<=so.len;omega) hcap (zC _) ?_))));have hsub:=cP.sub hso46 (lo:=1) (hi:=so.len) (mx:=so.cap) O (zC _) hcap;have hsx:((Wv (y::ys)).drop (1*1)).take ((so.len-1)*1)=Wv ys:=by
   rw[mc (by simp[Wv];omega)];rfl
  rw[hsx]at hsub;have hl46:({g with bP:=[]}:Th).ls[k]?=some l:=hl;refine SW K46b.h hx46 hg46 hc hl46 hsub hXn hfit λv47 ts47 e47 h47=>?_;have K47:=K46b.to e47 h47 λb _ i=>i;have hso47:=aH.bU hso46 e47 λb _ i E=>hXn b i E;have b47:=K46b.cW e47 b46 (.inr rfl);have hbv47:=K46b.cW e47 hbv46 (.inl (.inl (.inr rfl)));have X:Wt H t .fill=(VP {H with bS:=H.bS.set t {g with ls:=g.ls.set k (eO ys.reverse l),bP:=[]}} y (c.size:Int) (k:Int),none,y,0):=by
   simp only[Wt,htg,hh,ZS hg,hle,hce]
  rw[X]at hR;obtain⟨b0,o0,ha0',hc0⟩:=hso47.cell (j:=0) (v:=.int .i64 y) rfl;have hS4:nY (λu=>((∃P ts H',HH u P {L with ts:=ts} H'/\H'.tb=H.tb)/\bW u v5.size [.int .i64 (k:Int),.slice so.a so.len so.cap])/\cell u ⟨b0,o0+0,none⟩=some (.int .i64 y)) L H.tb:=λm hm=>hm.1.1;refine⟨λu=>((∃P ts H',HH u P {L with ts:=ts} H'/\H'.tb=H.tb)/\bW u v5.size [.int .i64 (k:Int),.slice so.a so.len so.cap])/\cell u ⟨b0,o0+0,none⟩=some (.int .i64 y),⟨⟨⟨_,_,_,K47.h,rfl⟩,b47⟩,hc0⟩,⟨so,λu U=>by rw[add_lit,U.1.2.cell];rfl,?_⟩⟩;refine Ξ ha0' O ⟨y,λu U=>U.2,aG (hS4.dF ⟨(k:Int),λu U=>by rw[add_lit,U.1.2.cell];rfl,?_⟩)⟩;refine nY.rC (L:={L with ts:=ts47}) (H:=Hw.dY {H with bS:=H.bS.set t {g with bP:=[]}} t {g with bP:=[]} (g.ls.set k (eO ys.reverse l))) hS4 K47.h hc ⟨(k:Int),λu U=>by rw[add_lit,U.1.2.cell];rfl,?_⟩;refine Ex K47.h y (c.size:Int) (k:Int) hy9 λv48 e48 h48=>?_;have K48:=K47.to e48 h48 λb _ i=>.inl i;have hz4747:=e47.1;have hso48:=aH.bU hso47 e48 λb _ i E=>by
   rcases E.1 with h1|h1
   ·exact hXn b i h1
   ·have:=i.2;omega
  refine⟨⟨⟨⟨_,_,_,h48,rfl⟩,K47.cW e48 b47 (.inr rfl)⟩,?_⟩,?_⟩
  ·obtain⟨b1,o1,ha1',hc1⟩:=hso48.cell (j:=0) (v:=.int .i64 y) rfl;rw[ha0']at ha1';cases ha1';exact hc1
  ·have K49:=K48;simp only[Hw.dY,oD]at K49;exact gY (n:=σ.size) K49 (.inl (.inl (.inr rfl))) (K47.cW e48 hbv47 (.inl (.inl (.inr rfl)))) λw' K'=>hR w' ts47 K'.e (K'.fin h)
 | eT m=>
  have hp:Qb (H.eN t) H.sp (m:Int) 1<=1000000:=hp;rw[hAe]at hp;refine lW aB (jJ aB (jJ aB (jJ aB (sH aB (DW (nw (cs:=[.int .i64 0]) λv5 M V N=>?_))))));have K5:=K1.box V M;refine N.s0 aA λv6 o6 b6=>?_;have K6:=K5.own o6 (.inr rfl);have C:=Wp o6 (V.cA i id) O;refine b6.rI rfl (Rx K6.h hA hY (m:Int) 1 λv7 W h7=>?_);have K7:=K6.to W h7 λb _ i=>i;have b7:=K6.cW W b6 (.inr rfl);have B:=K6.cW W C (.inl (.inr rfl));refine cN (λhn0=>?_) λh0=>?_
  ·have hn0':QH A H.sp (m:Int) 1≠0:=by simpa using hn0
   have X:Wt H t (.eT m)=({H.cB (H.own t) (cD A H.sp (m:Int) 1).1 with sp:=(cD A H.sp (m:Int) 1).2},none,0,QH A H.sp (m:Int) 1):=by
    simp only[Wt,hAe,zA hn0']
   rw[X]at hR;exact gY (n:=σ.size) K7 (.inl (.inr rfl)) B λw' K'=>hR w' L.ts K'.e (K'.fin h)
  ·have h0':QH A H.sp (m:Int) 1=0:=by simpa using h0
   have hm:m<=64:=by
    unfold QH at h0';split at h0'
    ·rename_i hpo;simp only[Ko,zF,zR]at hpo;omega
    ·omega
   have X:Wt H t (.eT m)=(VP {H.cB (H.own t) (cD A H.sp (m:Int) 1).1 with sp:=(cD A H.sp (m:Int) 1).2} ((Qb A H.sp (m:Int) 1*256:Nat):Int) ((m*256:Nat):Int) (-1),none,((Qb A H.sp (m:Int) 1*256:Nat):Int),0):=by
    simp only[Wt,hAe,zB h0']
   rw[X]at hR;refine bZ (m:=Qb A H.sp (m:Int) 1*256) O O (b7.rI rfl (bZ (m:=m*256) O O ?_));refine Ex K7.h _ _ _ O λv8 e8 h8=>?_;have K8:=K7.to e8 h8 λb _ i=>.inl i;exact gY (n:=σ.size) K8 (.inl (.inr rfl)) (K7.cW e8 B (.inl (.inr rfl))) λw' K'=>hR w' L.ts K'.e (K'.fin h)
 | find x=>
  obtain⟨hx9,hro,hlv⟩:iF x/\(bV H.live x=none->∀A∈H.bT,iO A)/\∀b,bV H.live x=some b->0<=x:=hp;refine lW aB (jJ aB (jJ aB (jJ aB (sH aB (lW aB (DW (nw (cs:=[.int .i64 0]) λv5 M V N=>?_)))))));have K5:=K1.box V M;refine N.s0 aA λv6 o6 b6=>?_;have K6:=K5.own o6 (.inr rfl);have C:=Wp o6 (V.cA i id) O;refine b6.rI rfl (Nd K6.h ht x hx9 hro hlen' hlv λv7 ts7 W h7=>?_);have K7:=K6.to W h7 λb _ i=>i;have B:=K6.cW W C (.inl (.inr rfl));exact gY (n:=σ.size) K7 (.inl (.inr rfl)) B λw' K'=>hR w' ts7 K'.e (K'.fin h)
 | put k y=>
  obtain⟨hk,hne0⟩:k<H.tb.length/\(H.kE t).bP≠[]:=hp;rw[htg]at hne0;obtain⟨c,hc⟩:∃c,H.tb[k]?=some c:=⟨_,cL hk⟩;have hll:=h.Cn E hg;obtain⟨l,hl⟩:∃l,g.ls[k]?=some l:=⟨_,cL (by rw[hll];exact hk)⟩;have hce:=Uo hc;have hle:=Ab hl;refine lW aB (jJ aB (jJ aB (jJ aB (sH aB (lW aB (lW aB (xu (nw (cs:=[.int .i64 0,.int .i64 0]) λv5 M V N=>?_))))))));have K5:=K1.box V M;refine N.s1 aA λv5b o5 b5=>b5.s1 aA λv6 o6 b6=>?_;have K6:=(K5.own o5 (.inr rfl)).own o6 (.inr rfl);have S:σ.size≠v.size:=by omega
  have C:=Wp o6 (Wp o5 (V.cA i id) S) S;generalize hgg:(if(dS c y l).1=[]then({g with ls:=g.ls.set k (dS c y l).2}:Th)else{g with ls:=g.ls.set k (dS c y l).2,bP:=g.bP++[(k,(dS c y l).1)]})=g2
  have hg2n:g2.bP≠[]/\g2.bP.length<=901:=by
   rw[←hgg];split
   ·exact⟨hne0,by simp;omega⟩
   ·exact⟨by simp,by simp;omega⟩
  refine qi (λw=>∃P ts',HK F σ (λb=>(False\/b=σ.size)\/b=v.size) w P {L with ts:=ts'} {H with bS:=H.bS.set t g2}/\bW w σ.size [.int .i64 0,.int .i64 0]) (λw ⟨P,ts2,K,hbw⟩=>?_) λJ2 hJ2=>?_
  ·have hg3:({H with bS:=H.bS.set t g2}:Hw).bS[t]?=some g2:=by simp[ht]
   obtain⟨x2,_,hx2,_⟩:=K.h.th (t:=t) (by simpa using ht);obtain⟨G,D,hG,hD,hd,Z,hr,hput⟩:=K.h.xe (λb i=>(K.p b i).2.2) hx2 hg3 (λ_=>False) (λb _ _ z=>z) (K.o.1.sub λb i=>i.elim) (λz=>z);have hbl:=Z.len;have hbc:=Z.cap;obtain⟨b0,r0,hbr⟩:∃b r,g2.bP=b::r:=by
    cases hh:g2.bP with
    | nil=>exact absurd hh hg2n.1
    | cons b r=>exact⟨b,r,rfl⟩
   have pe:g2.bP.drop 1=r0:=by rw[hbr];rfl
   rw[hbr]at Z;have hpos:1<=x2.h.len:=by rw[hbl,hbr];simp
   refine aG (ox (K.h.tc hx2 hg3 ha (d:=1) O rfl) ?_);refine ji (lo:=1) hpos hbc (zC _) ?_;refine aG (hput w _ _ G (Ext.refl _ _) (λb i=>.inl i) Z.mR ha λw1 e1 h1=>?_);have e1':=e1.sub hD;have K1b:=K.to e1' h1 λb _ z=>by
    rcases z with z|z
    ·exact .inl z.1
    ·exact .inl (hG b z.1)
   have hbw1:=K.cW e1' hbw (.inl (.inr rfl));have K3:=K1b;simp only[oD]at K3;generalize hg3':({g2 with bP:=r0}:Th)=g3 at K3;have hl3:g3.bP=r0/\g3.ls=g2.ls:=by rw[←hg3'];exact⟨rfl,rfl⟩
   have hr0:r0.length<=900:=by have:=hg2n.2;rw[hbr]at this;simp at this;omega
   have hg3e:({H with bS:=H.bS.set t g3}:Hw).bS[t]?=some g3:=by simp[ht]
   have hpe:iJ H t k y=(if H.cf.dB<QB H.tb g3.ls then{H with bS:=H.bS.set t {g3 with ls:=Kg KQ H.tb g3.ls,bP:=g3.bP++Ki KQ H.tb g3.ls}}else{H with bS:=H.bS.set t g3}):=by
    have e2:(if(dS c y l).1=[]then H.eA t λh=>h.iL k (dS c y l).2 else Q0 (H.eA t λh=>h.iL k (dS c y l).2) t k (dS c y l).1) = {H with bS:=H.bS.set t g2}:=by
     rw[←hgg];split
     ·rw[ZS hg];rfl
     ·rw[ZS hg];unfold Q0 Hw.eA;simp only;rw[Vg (t:=g.iL k (dS c y l).2) (by simp[ht]),oD];rfl
    have e3:({H with bS:=H.bS.set t g2}:Hw).eA t (λh=>{h with bP:=h.bP.drop 1}) = {H with bS:=H.bS.set t g3}:=by
     rw[ZS hg3];simp only[oD,pe,hg3']
    unfold iJ;simp only[hce,htg,hle,e2,e3,G6 hg3e,ZS hg3e,oD]
   have hx3:(ts2.set t {x2 with h:=⟨if x2.h.cap=1 then x2.h.a else x2.h.a.map (·.add (1*2)),x2.h.len-1,x2.h.cap-1⟩})[t]?=some {x2 with h:=⟨if x2.h.cap=1 then x2.h.a else x2.h.a.map (·.add (1*2)),x2.h.len-1,x2.h.cap-1⟩}:=zM (cS.1 hx2).1
   generalize hx3':({x2 with h:=⟨if x2.h.cap=1 then x2.h.a else x2.h.a.map (·.add (1*2)),x2.h.len-1,x2.h.cap-1⟩}:eH)=x3 at hx3 K3
   generalize ts2.set t x3=ts3 at hx3 K3;refine qi (λw=>∃P ts',HK F σ (λb=>(False\/b=σ.size)\/b=v.size) w P {L with ts:=ts'} (iJ H t k y)/\bW w σ.size [.int .i64 0,.int .i64 0]) (λw ⟨P,ts',K,hbw⟩=>?_) λJ3 hJ3=>?_
   ·have X:Wt H t (.put k y)=(iJ H t k y,kO (iJ H t k y) t,0,0):=rfl;rw[X]at hR;refine Uf K.h (t:=t) ?_ ?_
    ·rw[hpe];split<;>simpa using ht
    ·exact gY (n:=σ.size) K (.inl (.inr rfl)) hbw λw' K'=>hR w' ts' K'.e (K'.fin h)
   ·refine aG (tD (K3.h.tc hx3 hg3e ha (d:=0) O rfl) ?_);refine Re K3.h hx3 hg3e λv10 e10=>?_;have K10:=K3.fr e10;have hbw10:=e10.cA hbw1 id;refine cH (λhov=>?_) λhno=>hJ3 v10 ⟨_,ts3,by rw[hpe,zA hno];exact K10,hbw10⟩;refine⟨λu=>cell u (Addr.add ⟨tb0,to0+3*t,none⟩ 1)=some (.slice x3.h.a x3.h.len x3.h.cap)/\cell u (Addr.add ⟨tb0,to0+3*t,none⟩ 0)=some (.pointer (some ⟨x3.c.p,0,none⟩)),⟨K10.h.tc hx3 hg3e ha (d:=1) O rfl,K10.h.tc hx3 hg3e ha (d:=0) O rfl⟩,aG ⟨x3.h,λu U=>U.1,aG ⟨some ⟨x3.c.p,0,none⟩,λu U=>U.2,?_⟩⟩⟩;refine Wea hso K10.h hx3 hg3e λv11 s Q e11 hQ hB h11=>?_;have K11:=K10.to e11 h11 λb _ i=>i.1;have hbw11:=K10.cW e11 hbw10 (.inl (.inr rfl));have hg11:(Hw.dY {H with bS:=H.bS.set t g3} t g3 (Kg KQ H.tb g3.ls)).bS[t]?=some {g3 with ls:=Kg KQ H.tb g3.ls}:=by simp[Hw.dY,ht]
    refine⟨⟨K11.h.tc hx3 hg11 ha (d:=1) O rfl,K11.h.tc hx3 hg11 ha (d:=0) O rfl⟩,?_⟩;have hz0:=K10.e.1;obtain⟨G,D,hG,hD,hd,Z,hr,hput⟩:=K11.h.xe (λb i=>i.2) hx3 hg11 (λb=>Q b\/v11.size<=b) (λb i hP z=>z.elim (λz=>hP.1.2 z) λz=>O) (K10.o.1.sub λb i=>i.elim (λi=>by have:=hQ b i;omega) λi=>by have:=K11.e.1;omega) (λz=>K10.o.2 (z.elim (λi=>by have:=hQ _ i;omega) λi=>by have:=K11.e.1;omega));refine im.app Z hB (λb hg z=>(hG b hg).1.2 z) ?_ λs' v12 e12 hB12=>?_
    ·have:=DV KQ H.tb g3.ls;have:H.tb.length<=40:=K3.h.ng;simp only[hl3.1];omega
    have hcell:∀{d:Nat} {w:Value},d<3->(jO (x3,({g3 with ls:=Kg KQ H.tb g3.ls}:Th)))[d]?=some w->cell v12 (Addr.add ⟨tb0,to0+3*t,none⟩ d)=some w:=λhd3 hv=>by
     obtain⟨b',o',ha',hc'⟩:=Us (hr v12 e12) hx3 hg11 hd3 hv;rw[ha]at ha';cases ha';rw[add_lit,qv];exact hc'
    refine⟨⟨hcell (d:=1) O rfl,hcell (d:=0) O rfl⟩,aG (hput v12 s' _ _ e12 (λb i=>i.imp id id) hB12 ha λv13 e13 h13=>?_)⟩;have e13':=(e12.sub hG).trans (e13.sub hD);have K13:=K11.tf e13' h13 λb i z=>by
     rcases z with z|z
     ·exact .inl z.1
     ·rcases z.1 with h1|h1|h1
      ·exact .inl (hG b h1)
      ·have:=hQ b h1;exact .inr (.inr ⟨.inr O,λhB=>by have:=(K10.b b hB).2;omega⟩)
      ·exact .inr (.inl h1)
    have hbw13:=K11.cW e13' hbw11 (.inl (.inr rfl));have K14:=K13;simp only[Hw.dY,oD]at K14;have hpe':=hpe;rw[zB hov]at hpe';rw[hpe']at hJ3;exact hJ3 v13 ⟨_,_,K14,hbw13⟩
  ·refine⟨λu=>u=v6,rfl,aG ⟨some ⟨x.c.p,0,none⟩,λu U=>by cases U;exact K6.h.tc E hg ha (d:=0) O rfl,⟨(k:Int),λu U=>by cases U;rw[add_lit,b6.cell];rfl,⟨y,λu U=>by cases U;rw[add_lit,b6.cell];rfl,?_⟩⟩⟩⟩;refine Wn3 K6.h E hg hc hl y λv7 ts7 s ee Q W hQ hs7 h7=>?_;have K7:=K6.to W h7 λb _ i=>i.1;have b7:=K6.cW W b6 (.inr rfl);have B:=K6.cW W C (.inl (.inr rfl));have hsl:s.len=(dS c y l).1.length:=by have:=hs7.1;simp[Wv]at this;omega
   by_cases hemp:(dS c y l).1=[]
   ·rw[zB hemp]at hgg;rw[←hgg]at hJ2;exact fH (by rw[hsl,hemp];simp) (hJ2 v7 ⟨_,ts7,K7,B⟩)
   ·rw[zA hemp]at hgg;have hpos:=qC.2 hemp;have hz6:=K6.e.1;refine mh (by rw[hsl];omega) (b7.rI rfl ?_);refine AY K7.h (t:=t) (by simpa[Hw.dY]using ht) k (bR.fP hs7) (bR.rG hs7) hemp (λb _ z E=>E.1.2 z) (K6.o.1.sub λb i=>by have:=hQ b i;omega) (λz=>K6.o.2 (by have:=hQ _ z;omega)) (λg' hg'=>?_) λv8 ts8 e8 h8=>?_
    ·have:(H.dY t g (g.ls.set k (dS c y l).2)).bS[t]?=some {g with ls:=g.ls.set k (dS c y l).2}:=by simp[Hw.dY,ht]
     rw[this]at hg';cases hg';simp only;omega
    ·have K8:=K7.tf e8 h8 λb i z=>by
      rcases z with z|z
      ·exact z.imp id .inl
      ·have:=hQ b z;exact .inr (.inr ⟨.inr O,λhB=>by have:=(K6.b b hB).2;omega⟩)
     have e9:Q0 (H.dY t g (g.ls.set k (dS c y l).2)) t k (dS c y l).1 = {H with bS:=H.bS.set t g2}:=by
      rw[←hgg];unfold Q0 Hw.eA Hw.dY;simp only;rw[Vg (t:={g with ls:=g.ls.set k (dS c y l).2}) (by simp[ht]),oD]
     rw[e9]at K8;exact hJ2 v8 ⟨_,ts8,K8,K7.cW e8 B (.inl (.inr rfl))⟩
 | back=>
  obtain⟨k,xs,r,hh,hxs,hxl⟩:∃k xs r,(H.kE t).bP=(k,xs)::r/\(∀x∈xs,iF x/\0<=Ye H.bT x)/\xs.length<=1000000:=hp;rw[htg]at hh;refine lW aB (jJ aB (jJ aB (jJ aB (sH aB (lW aB (lW aB (jJ aB (Ej (nw (cs:=[]) λv5 M V N=>?_)))))))));have K5:=K1.box V M;have hbv5:=V.cA i id;obtain⟨G,D,hG,hD,hd,Z,hr,hput⟩:=K5.h.xe (λb i=>(K5.p b i).2.2) E hg (λb=>v5.size<=b) (λb i _ z=>O) K5.h.nJ.1 K5.h.nJ.2;have hbl:=Z.len;have hbc:=Z.cap;rw[hh]at Z;obtain⟨so,ps,Dn,hrow,hso1,hcap,hBr,hDn,hj,S,hxne⟩:=Z.nt;have hz5':=K5.e.1;refine aG (ox (K5.h.tc E hg ha (d:=1) O rfl) (Jx (dQ.fP hrow) λa ha0 ha1=>nV ha0 (ox ha1 ?_)));refine nw (cs:=[.int .i64 0,.slice none 0 0]) λv81 hz81 e81 hb81=>hb81.s1 aA λv82 o82 b82=>b82.s1 aA λv83 o83 b83=>?_;have e83:bO v5 v83:=(e81.only o82 (.inr (zC _))).only o83 (.inr (zC _));have hz83:v5.size<v83.size:=b83.lt;have hcell:∀{u1:Hp},Ext G v5 u1->∀{d:Nat} {w:Value},d<3->(jO (x,g))[d]?=some w->cell u1 (Addr.add ⟨tb0,to0+3*t,none⟩ d)=some w:=λhe _ _ hd3 hv=>by
   obtain⟨b',o',ha',hc'⟩:=Us (hr _ he) E hg hd3 hv;rw[ha]at ha';cases ha';rw[add_lit,qv];exact hc'
  refine aG (ox (hcell (bO.to e83) (d:=1) (w:=.slice x.h.a x.h.len x.h.cap) O rfl) ?_);have hpos:1<=x.h.len:=by rw[hbl,hh];simp
  refine ji (lo:=1) hpos hbc (zC _) ?_;have hrow':=aH.bK (aH.cut (dQ.fP (hrow.from (lo:=1) hpos))) e83;have pe:(fO ((k,so)::ps)).drop (1*2)=fO ps:=rfl;rw[pe]at hrow';refine Oc hrow' aC λs' v84 hs'l e84 hs'=>?_;have hBt':im s' r v84 (λb=>Dn b/\¬lE so b/\b<v5.size\/v83.size<=b):=by
   refine⟨ps,λb=>Dn b/\¬lE so b/\b<v5.size,(dQ.loc _ _ _).mono hs'.o λb _ i=>⟨.inr i,λE=>O⟩,(kW.loc _ _).bK ((kW.loc _ _).bK ((kW.loc _ _).mono ((kW.loc _ _).cut hBr) λb _ i=>⟨i.1.1,i.1.2,i.2⟩) e83) e84,λb i=>.inl i,hj,S⟩
  have e584:bO v5 v84:=e83.trans e84;refine aG (hput v84 s' r _ (bO.to e584) (λb i=>i.elim (λi=>.inl (hDn b i.1)) λi=>.inr O) hBt' ha λv85 e85 h85=>?_);have hz84:=e84.1;have hz85:=e85.1;have e585:Ext _ v5 v85:=(bO.to e584).trans (e85.sub hD);have K85:=K5.to e585 h85 λb _ z=>by
   rcases z with z|z
   ·exact .inl z.1
   ·rcases z.1 with h1|h1
    ·exact .inl (hG b (hDn b h1.1))
    ·exact .inr O
  have hbv85:=K5.cW e585 hbv5 (.inl (.inr rfl));have b85:bW v85 v5.size _:=e85.cA (e84.cA b83 id) λE=>by have:=(K5.p _ (hD _ E)).2.2;omega
  have K85b:=K85.wx (B':=λb=>b=v5.size) λb i=>⟨O,O,λE=>by
   subst i;rcases E.1 with h1|h1
   ·have:=(K5.p _ h1.1).2.2;omega
   ·rcases h1.1 with h2|h2<;>omega⟩
  have hso5:=aH.bU (aH.bK (aH.cut hso1) e584) e85 λb _ i E=>hd b (hDn b i.1.1) E;have X:Wt H t .back=(Gk {H with bS:=H.bS.set t {g with bP:=r}} (H.own t) k xs,kO (Gk {H with bS:=H.bS.set t {g with bP:=r}} (H.own t) k xs) t,0,0):=by
   simp only[Wt,htg,hh,ZS hg]
  rw[X]at hR;refine⟨λu=>u=v85,rfl,⟨(k:Int),λu U=>by cases U;rw[add_lit,b85.cell];rfl,⟨so,λu U=>by cases U;rw[add_lit,b85.cell];rfl,?_⟩⟩⟩;refine Ih K85b.h t ⟨rfl,Tf K85b.h hol k hso5 (λb _ i E=>?_) hcap hxs hxl λv87 e87 h87=>?_⟩
  ·rcases E.1 with h1|h1
   ·exact h1.2 (hDn b i.1.1)
   ·rcases h1.1 with h2|h2
    ·exact h2.2.1 i.1.2
    ·have:=i.2;omega
  have K87:=K85b.to e87 h87 λb _ i=>i;have hbl7:(Gk {H with bS:=H.bS.set t {g with bP:=r}} (H.own t) k xs).bS.length=H.bS.length:=by
   rw[EC];simp
  refine Uf K87.h (t:=t) (by rw[hbl7];exact ht) ?_;exact gY (n:=σ.size) K87 (.inl (.inl (.inr rfl))) (K85b.cW e87 hbv85 (.inl (.inl (.inr rfl)))) λw' K'=>hR w' _ K'.e (K'.fin h)
 | dK s a=>
  obtain⟨ha0,hal,hru⟩:0<=a/\a.toNat<H.bT.length/\∀A∈H.bT,∀r∈A.runs,r.1<=1000000:=hp;obtain⟨A2,hA2⟩:∃A,H.bT[a.toNat]?=some A:=⟨_,cL hal⟩;have hae:a=((a.toNat:Nat):Int):=by omega
  refine lW aB (jJ aB (jJ aB (jJ aB (sH aB (lW aB (lW aB (jJ aB (sH aB (xu (nw (cs:=[.int .i64 0,.int .i64 0]) λv5 M V N=>?_))))))))));have K5:=K1.box V M;refine N.s1 aA λv5b o5 b5=>b5.s1 aA λv6 o6 b6=>?_;have K6:=(K5.own o5 (.inr rfl)).own o6 (.inr rfl);have S:σ.size≠v.size:=by omega
  have C:=Wp o6 (Wp o5 (V.cA i id) S) S;obtain⟨Y2,hY2,_,_⟩:=K6.h.ar hA2;refine aG (K6.h.hd.rS rfl (b6.rI (x:=((a.toNat:Nat):Int)) (by rw[←hae];rfl) (K6.h.rA hY2 (b6.rI rfl ?_))));refine On K6.h hA2 hY2 s (hru A2 (zE hA2)) λv7 W h7=>?_;have K7:=K6.to W h7 λb _ i=>i;have B:=K6.cW W C (.inl (.inr rfl));have X:Wt H t (.dK s a)=(H.cB a.toNat (QL A2 s),none,0,0):=by
   simp only[Wt,hA2]
  refine hJ v7 ⟨_,L.ts,⟨?_,K7.e,λb i=>⟨(K7.p b i).1,λE=>(K7.p b i).2.1 (.inl E),(K7.p b i).2.2⟩,λb i=>K7.b b (.inl i),K7.o⟩,B,by rw[X]⟩;rw[X];exact K7.h
 | drain=>
  refine lW aB (jJ aB (jJ aB (jJ aB (sH aB (lW aB (lW aB (jJ aB (sH aB (jJ aB (Ej (nw (cs:=[]) λv5 M V N=>?_)))))))))));have K5:=K1.box V M;have hbv5:=V.cA i id;refine aG (tD (K5.h.tc E hg ha (d:=0) O rfl) ?_);refine OG hso K5.h E hg λv7 s Q W hQ hB h7=>?_;have K7:=K5.to W h7 λb _ i=>i.1;have B:=K5.cW W hbv5 (.inl (.inr rfl));have hz0:=K5.e.1;have hg7:(H.dY t g (Kg Z2 H.tb g.ls)).bS[t]?=some {g with ls:=Kg Z2 H.tb g.ls}:=by simp[Hw.dY,ht]
  obtain⟨G,D,hG,hD,hd,Z,hr,hput⟩:=K7.h.xe (λb i=>i.2) E hg7 Q (λb _ i z=>i.1.2 z) (K5.o.1.sub λb i=>by have:=hQ b i;omega) (λz=>K5.o.2 (by have:=hQ _ z;omega));refine aG (hput v7 s _ Q (Ext.refl _ _) (λb i=>.inr i) hB ha λv8 e8 h8=>?_);have e8':=e8.sub hD;have K8:=K7.tf e8' h8 λb _ z=>by
   rcases z with z|z
   ·exact .inl z.1
   ·have:=hQ b z.1;exact .inr (.inr ⟨.inr O,λhB=>by have:=(K5.b b hB).2;omega⟩)
  have hbv8:=K7.cW e8' B (.inl (.inr rfl));have X:Wt H t .drain=({H with bS:=H.bS.set t {g with ls:=Kg Z2 H.tb g.ls,bP:=Ki Z2 H.tb g.ls}},kO {H with bS:=H.bS.set t {g with ls:=Kg Z2 H.tb g.ls,bP:=Ki Z2 H.tb g.ls}} t,0,0):=by
   simp only[Wt,ZS hg]
  have K9:=K8;simp only[Hw.dY,oD]at K9;rw[X]at hR;refine Uf K9.h (t:=t) (by simpa using ht) ?_;exact gY (n:=σ.size) K9 (.inl (.inr rfl)) hbv8 λw' K'=>hR w' _ K'.e (K'.fin h)
def eV (H:Hw)(t:Nat)(p:Option Ph):Hw:=H.eA t λh=>{h with ph:=p}
theorem VJ (H:Hw)(t:Nat)(f:Th->Th):(H.eA t f).bS.length=H.bS.length:=by simp[Hw.eA]
theorem Pq (H:Hw)(t k:Nat)(x:Int):(iJ H t k x).bS.length=H.bS.length:=by
 unfold iJ;simp only;split<;>split<;>simp[VJ,Q0]
theorem IL (H:Hw)(t:Nat)(p:Ph):(Wt H t p).1.bS.length=H.bS.length:=by
 cases p with
 | take k=>simp only[Wt];split<;>simp[VP,VJ]
 | cO k w=>
  simp only[Wt];split
  ·split<;>simp[Q0,VJ,Hw.cB]
  ·rfl
 | cQ k w=>simp only[Wt];split<;>simp[Q0,VJ,Hw.cB]
 | grow k w=>simp only[Wt];split<;>simp[Hw.cB]
 | fill=>simp only[Wt];split<;>simp[VP,VJ]
 | eT m=>simp only[Wt];split<;>simp[VP,Hw.cB]
 | find x=>
  simp only[Wt,He];split
  ·rfl
  ·split<;>simp[Q0,VJ]
 | put k x=>exact Pq H t k x
 | back=>simp only[Wt];split<;>simp[EC,VJ]
 | dK s a=>simp only[Wt];split<;>simp[Hw.cB]
 | drain=>simp[Wt,VJ]
def wg (H:Hw)(t:Nat)(p:Ph):Prop:=vF H t p/\∀g,H.bS[t]?=some g->g.bP.length<=900
def QW (H:Hw)(t:Nat)(p:Ph):Hw:=eV (Wt H t p).1 t (Wt H t p).2.1
theorem Nc (hso:Gj)(h:HH σ F L H)(hg:H.bS[t]?=some g){p:Ph}(hp:g.ph=some p)(hok:wg H t p){R:Bool->Int->Int->Int->Hp->Prop}
 (hR:∀σ' ts',Ext F σ σ'->HH σ' (Grow F σ) {L with ts:=ts'} (QW H t p)->R (Wt H t p).2.1.isNone (Wt H t p).2.2.1 (Wt H t p).2.2.2 0 σ'):Y7.c (aW L.p) (t:Int) σ R:=by
 refine Y7.o ?_;have G:=(cS.1 hg).1;refine nw (cs:=[.int .i64 0,.int .i64 0]) λv Z e B=>?_;have K1:=(HK.start h).box e Z;obtain⟨x,g',P,u⟩:=h.th G;rw[hg]at u;cases u;refine Kw K1.h (cF rfl (F0 K1.h (t:Int) (cF (by rw[zU O];rfl) ?_)));refine aG (K1.h.hd.rS rfl (K1.h.tR P hg ?_));rw[hp];refine⟨yb _,cF (by rw[AX];rfl) (aG (K1.h.hd.rS rfl (K1.h.tR P hg ?_)))⟩;rw[hp];refine WkH hso K1.h G p hok.1 hok.2 λS K Q V=>?_;have K9:=K1.to Q V λb _ B=>B;have s:=K1.cW Q B (.inr rfl);refine nw (cs:=[.int .i64 0,.int .i64 0]) λab m w j=>?_;have K10:=K9.box w m;refine j.s1 aA λY z C=>C.s1 aA λaa r J=>?_;have K12:=(K10.own z (.inr rfl)).own r (.inr rfl);have A:σ.size≠S.size:=by have:=(K9.b σ.size (.inr rfl)).2;omega
 have i:=Wp r (Wp z (w.cA s id) A) A;have D:t<(Wt H t p).1.bS.length:=by rw[IL];exact G
 obtain⟨x9,U,N,y⟩:=K12.h.th D;have M:QW H t p = {(Wt H t p).1 with bS:=(Wt H t p).1.bS.set t {U with ph:=(Wt H t p).2.1}}:=ZS y _;refine aG (K12.h.hd.rS rfl (K12.h.sU N y (Wt H t p).2.1 λW d E=>?_));have K13:=K12.to d E λb _ B=>.inl B;have a:=K12.cW d J (.inr rfl);rw[←M]at K13;refine⟨yb _,a.rI rfl (a.rI rfl ?_)⟩;refine gY (n:=σ.size) K13 (.inl (.inr rfl)) (K12.cW d i (.inl (.inr rfl))) λX K'=>?_;rw[AX];exact hR X K K'.e (K'.fin h)
theorem C4 {p:Nat->Prop}(h:∃n,p n):∃n,p n/\∀m,p m->n<=m:=by
 obtain⟨n,d⟩:=h
 induction n using Nat.strongRecOn with
 | _ n ih=>
  by_cases hm:∃m,m<n/\p m
  ·obtain⟨m,a,b⟩:=hm;exact ih m a b
  ·exact⟨n,d,λm b=>Nat.le_of_not_lt λa=>hm ⟨m,a,b⟩⟩
theorem WoJ {start:eJ []->Prop}{round:eJ []->eJ []}(Inv:Nat->Hp->Prop)(h0:start λh=>∃n,Inv n h)(hr:∀n h,Inv n h->∀J:Hp->Prop,(∀m h',m<n->Inv m h'->J h')->round J h):WR [] start round:=by
 classical
 refine LW (λh=>∃n,Inv n h) (λh=>if hx:∃n,Inv n h then(C4 hx).choose else 0) h0 λh d=>?_
 have e:=(C4 d).choose_spec;refine hr _ h e.1 _ λm h' g b=>⟨⟨m,b⟩,?_⟩;have a:∃n,Inv n h':=⟨m,b⟩;rw[dif_pos a,dif_pos d];exact Nat.lt_of_le_of_lt ((C4 a).choose_spec.2 m b) g
inductive iU:Nat->Hw->Nat->Ph->Hw->Int->Int->Prop
 | done {H:Hw} {t:Nat} {p:Ph}:wg H t p->(Wt H t p).2.1=none->iU 1 H t p (QW H t p) (Wt H t p).2.2.1 (Wt H t p).2.2.2
 | next {n:Nat} {H:Hw} {t:Nat} {p p':Ph} {H':Hw} {a e:Int}:wg H t p->(Wt H t p).2.1=some p'->iU n (QW H t p) t p' H' a e->iU (n+1) H t p H' a e
theorem LK {p:Ph}(ht:t<H.bS.length):∃g,(QW H t p).bS[t]?=some g/\g.ph=(Wt H t p).2.1:=by
 have a:t<(Wt H t p).1.bS.length:=by rw[IL];exact ht
 exact⟨{(Wt H t p).1.bS[t]with ph:=(Wt H t p).2.1},by simp[QW,eV,Hw.eA,ur,cL a],rfl⟩
end Go.Ar
namespace Go.Ar
open Go Go.Vc Go.Proofs
open Go.Bu (gG)
variable {σ:Hp}{F:Rg}
def KZ (size align:Int):Bool:=decide (1<=size)&&(decide (1<=align)&&(decide (align<=256)&&gG align))
def gR (tb:List bX)(size align:Int):Option Nat:=tb.findIdx? λc=>decide (size<=(c.size:Int))&&((c.size:Int)%align==0)
theorem Wlo (n:Int)(h1:1<=n)(h2:n<=256){R:aN}(hR:∀p:Int,(p != n) = !gG n->R p σ):Ql.c n σ R:=by
 refine Ql.o ?_;refine Kh (a:=bN) (bb:=bN) (λ(p q:Int) w=>w=σ/\(p=0/\q=1\/∃k:Nat,k<=8/\p=((2^k:Nat):Int)/\q=((2^(k+1):Nat):Int)/\p<=n)) (λp q _=>1000-q.toNat) ⟨rfl,.inl ⟨rfl,rfl⟩⟩ ?_;rintro(p:Int) (q:Int) w ⟨rfl,hpq⟩;refine cH (λb=>?_) λg=>?_
 ·rcases hpq with⟨rfl,rfl⟩|⟨k,hk,rfl,rfl,hp⟩
  ·exact bZ (m:=2) O O ⟨⟨rfl,.inr ⟨0,O,by simp,by simp,O⟩⟩,by simp⟩
  ·have r:k<=7:=by
    apply Classical.byContradiction;intro hc;have:2^9<=2^(k+1):=pA aB O;omega
   have s:=kY (k+1);exact bZ (m:=2^(k+1+1)) (by rw[ns 2 (k+1)];omega) (by rw[ns 2 (k+1)];omega) ⟨⟨rfl,.inr ⟨k+1,O,rfl,rfl,b⟩⟩,by rw[ns 2 (k+1)];omega⟩
 ·rcases hpq with⟨rfl,rfl⟩|⟨k,hk,rfl,rfl,hp⟩
  ·omega
  ·refine hR _ ?_;by_cases e:((2^k:Nat):Int)=n
   ·have:gG n=true:=by
     unfold gG;rw[zq];exact⟨k,zW.2 O,by simp[←e]⟩
    rw[this,e];simp
   ·have:gG n=false:=by
     unfold gG;rw[np];intro j hj he;have d:n=((2^j:Nat):Int):=by simpa using he
     rcases qD j k with h3|h3|h3
     ·have:2^(j+1)<=2^k:=pA aB h3;rw[ns]at this;have:=kY j;omega
     ·subst h3;exact e d.symm
     ·have:2^(k+1)<=2^j:=pA aB h3;omega
    rw[this];simpa using e
theorem IE {s:Sl}{xs:List (Int×Int×Int)}(ha:gK σ s xs)(hv:Qq xs=true)(size align:Int){R:Int->Int->Hp->Prop}
 (hR:∀σ',bO σ σ'->R (if KZ size align then((gR (xs.map Z0) size align).getD 0:Nat)else 0) (if KZ size align then(if(gR (xs.map Z0) size align).isSome then 0 else 4)else 1) σ'):Z5.c s size align σ R:=by
 refine Z5.o ?_;refine nw (cs:=[.int .i64 size]) λv hz e hb=>nw (cs:=[.int .i64 align]) λv1 aa A Q=>?_;have Z:=A.cA hb id;refine Hq (YR ha (e.trans A)) λx e2=>?_;rw[hv];have L:=e2.cA Z id;have y:=e2.cA Q id;have u:=(e.trans A).trans e2;refine cF rfl ?_;have key:∀r,r = !KZ size align->(If r (R 0 1 x) (Wl.c s ⟨80,#[],#[.pointer (some ⟨σ.size,0,none⟩),.pointer (some ⟨v.size,0,none⟩)]⟩ x λk v4=>If (decide (k<0)) (R 0 4 v4) (R k 0 v4))):=by
  intro r b;cases hok:KZ size align with
  | false=>
   rw[hok]at b;have:=hR x u;rw[hok]at this;exact cJ (by rw[b];rfl) this
  | true=>
   rw[hok]at b;refine cF (by rw[b];rfl) ?_;have K:=hok;simp only[KZ,zF,zR]at K;refine Wl.o ?_;have hlen:=ha.1;have hxl:=((QA xs).1 hv).2.1;refine ZP (a:=bN) (λ(z:Int) w=>∃i:Nat,z=(i:Int)/\i<=xs.length/\bO x w/\∀j c,j<i->(xs.map Z0)[j]?=some c->(decide (size<=(c.size:Int))&&((c.size:Int)%align==0))=false) (λz _=>xs.length-z.toNat) ⟨0,rfl,O,Ext.refl _ _,λj c h=>O⟩ ?_;rintro(z:Int) w ⟨i,rfl,hi,ew,hno⟩;refine cH (λhlt=>?_) λW=>?_
   ·have N:i<xs.length:=by omega
    have C:(xs.map Z0)[i]?=some (Z0 xs[i]):=by simp[N]
    generalize Z0 xs[i]=c at C;have M:=YR ha (u.trans ew);obtain⟨hx,hcok⟩:=UP M hv C;refine Hj M hx ?_;refine Gf (all := #[.agg #[.int .i64 (c.size:Int),.int .i64 (c.aF:Int),.int .i64 (c.batch:Int)],.pointer (some ⟨σ.size,0,none⟩),.pointer (some ⟨v.size,0,none⟩)]) (by kernel_rfl) aA ?_;refine Z3.o ?_;refine nw (cs:=[.int .i64 (c.size:Int),.int .i64 (c.aF:Int),.int .i64 (c.batch:Int)]) λF aa A D=>?_;have U:=A.cA (ew.cA L id) id;have Y:=A.cA (ew.cA y id) id;have E:=ew.trans A;have go:∀r,r=(decide (size<=(c.size:Int))&&((c.size:Int)%align==0))->If r (If (decide ((i:Int)<0)) (R 0 4 F) (R (i:Int) 0 F)) (Ar .i64 ((i:Int)+1) λG=>(∃i:Nat,G=(i:Int)/\i<=xs.length/\bO x F/\∀j c,j<i->(xs.map Z0)[j]?=some c->(decide (size<=(c.size:Int))&&((c.size:Int)%align==0))=false)/\xs.length-G.toNat<xs.length-(i:Int).toNat):=by
     intro r b;refine cN (λX=>fH O ?_) λh0=>?_
     ·have P:gR (xs.map Z0) size align=some i:=by
       obtain⟨hi1,rfl⟩:=cS.1 C;exact pj.2 ⟨hi1,by rw[←b];exact X,λj H=>by rw[hno j _ H (cL O)];simp⟩
      have:=hR F (u.trans E);rw[hok,P]at this;exact this
     ·exact bZ (m:=i+1) O O ⟨⟨i+1,rfl,O,E,λj d H hd=>by
       by_cases e:j=i
       ·subst e;rw[C]at hd;cases hd;rw[←b];exact h0
       ·exact hno j d O hd⟩,O⟩
    refine D.rI rfl (U.we rfl ?_);refine V6 (λr w=>w=F/\r=(decide (size<=(c.size:Int))&&((c.size:Int)%align==0))) (λr w ⟨S,b⟩=>by subst S;exact go r b) λJ B=>?_;refine cH (λW=>D.rI rfl (Y.we rfl (nz O (B _ _ ⟨rfl,?_⟩)))) λhlt2=>B _ _ ⟨rfl,?_⟩
    ·rw[Q4 O,zU (by omega:size<=(c.size:Int)),r8]
    ·rw[zb O,sY]
   ·have P:gR (xs.map Z0) size align=none:=by
     unfold gR;rw[wb];intro c C;obtain⟨j,H⟩:=zL C;have:=(cS.1 H).1;simp at this;exact hno j c O H
    have:=hR w (u.trans ew);rw[hok,P]at this;exact mh aB this
 refine C6 (λr w=>w=x/\r = !KZ size align) (λr w ⟨S,b⟩=>by subst S;exact key r b) λJ B=>?_;have rd1:∀m,m=x->cell m ⟨σ.size,0,none⟩=some (.int .i64 size):=λm V=>by rw[V,L.cell];rfl
 have g:∀m,m=x->cell m ⟨v.size,0,none⟩=some (.int .i64 align):=λm V=>by rw[V,y.cell];rfl
 refine⟨λm=>m=x,rfl,⟨size,rd1,?_⟩⟩;refine cH (λX=>B _ _ ⟨rfl,?_⟩) λX=>⟨align,g,cH (λh2=>B _ _ ⟨rfl,?_⟩) λh2=>⟨align,g,cH (λh3=>B _ _ ⟨rfl,?_⟩) λh3=>⟨align,g,⟨align,g,?_⟩⟩⟩⟩
 ·simp only[KZ,zb (by omega:¬1<=size),sY,yP]
 ·simp only[KZ,zb (by omega:¬1<=align),sY,sP,yP]
 ·simp only[KZ,zb (by omega:¬align<=256),sY,sP,yP]
 ·refine Wlo align O O λp hp=>⟨rfl,B _ _ ⟨rfl,?_⟩⟩;rw[hp];simp only[KZ,zU (by omega:1<=size),zU (by omega:1<=align),zU (by omega:align<=256),r8]
end Go.Ar
namespace Go.Ar
open Go Go.Vc Go.Proofs
variable {σ u u':Hp}{F B P Q:Rg}{L:dP}{H H':Hw}{t k n pb:Nat}{A:AR}{Y:Lay}{x:eH}{g:Th}{c:bX}{l:Li}{cs:List Value}
def j9 (c:bX):Int×Int×Int:=((c.size:Int),(c.aF:Int),(c.batch:Int))
theorem Nr (tb:List bX):(tb.map j9).map Z0=tb:=by
 rw[kP]
 conv=>rhs;rw[←xJ tb]
 apply kA;intro c _;rfl
theorem Az {s:Sl}{tb:List bX}(h:cP s 3 (gp tb) σ F):gK σ s (tb.map j9):=by
 have D:=h.1;rw[KG]at D;refine⟨by simp;omega,λi x y z e=>?_⟩;rw[ze,qQ]at e;obtain⟨c,r,j⟩:=e;obtain⟨w,p,C⟩:=HG r;simp only[j9,Prod.mk.injEq]at j;obtain⟨rfl,rfl,rfl⟩:=j;obtain⟨b,o,d,g⟩:=h.cell w;obtain⟨u,A,a,m⟩:=h.cell p;rw[d]at a;cases a;obtain⟨u,A,a,B⟩:=h.cell C;rw[d]at a;cases a;exact⟨b,o,d,Q2 g,by rw[show o+i*3=o+3*i by omega];exact g,by rw[show o+i*3+1=o+(3*i+1) by omega];exact m,by rw[show o+i*3+2=o+(3*i+2) by omega];exact B⟩
def lR (tb:List bX):Prop:=Qq (tb.map j9)=true
def jf (tb:List bX)(kind size align addr:Int):Option Ph:=
 if kind=0 then(if 1<=size/\size<=16384 then(if KZ size align then(match gR tb size align with
  | some k=>some (.take k)
  | none=>some (.eT ((size+255).toNat/256)))else none)else none)
 else if kind=1 then some (.find addr)else if kind=2 then some .drain else none
theorem Wfq (h:HH σ F L H)(hv:lR H.tb)(kind size align addr:Int){R:Value->Hp->Prop}(hR:∀σ',bO σ σ'->R (og (jf H.tb kind size align addr)) σ'):YA.c (aW L.p) kind size align addr σ R:=by
 refine YA.o ?_;refine nw (cs:=[.int .i64 kind,.int .i64 size,.int .i64 align,.int .i64 addr]) λv N e u=>u.rI rfl ?_;have D:=h.bK e;have a:=hR v e;refine cN (λz=>?_) λz=>?_
 ·have i:kind=0:=by simpa using z
  have G:jf H.tb kind size align addr=(if 1<=size/\size<=16384 then(if KZ size align then(match gR H.tb size align with
   | some k=>some (.take k)
   | none=>some (.eT ((size+255).toNat/256)))else none)else none):=by unfold jf;rw[zB i]
  rw[G]at hR a;refine u.rI rfl (V6 (λr w=>w=v/\r = !decide (1<=size/\size<=16384)) (λr w ⟨K,y⟩=>?_) λJ C=>?_)
  ·subst K;by_cases hs:1<=size/\size<=16384
   ·rw[zB hs]at hR;rw[zU hs]at y;refine cF (by rw[y];rfl) ⟨λm=>m=w,rfl,aG ⟨L.dF,λm x=>by rw[x,add_lit,D.hd.cell];rfl,⟨size,λm x=>by rw[x,add_lit,u.cell];rfl,⟨align,λm x=>by rw[x,add_lit,u.cell];rfl,?_⟩⟩⟩⟩;refine IE (Az D.jW) hv size align λM B=>?_;rw[Nr];have A:=B.cA u id;have b:=hR M (e.trans B);cases hok:KZ size align with
    | false=>
     rw[hok]at b;exact cF rfl (cF rfl b)
    | true=>
     rw[hok]at b;simp only[zV]at b ⊢;cases hcl:gR H.tb size align with
     | some k=>rw[hcl]at b;exact cJ rfl b
     | none=>
      rw[hcl]at b;refine cF rfl (cJ rfl (A.rI rfl (ar O O (ar O O (nz aB (ar (by rw[Xq O];omega) (by rw[Xq O];omega) ?_))))));rw[Xq O];have:(size+256-1)/256=(((size+255).toNat/256:Nat):Int):=by omega
      rw[this];exact b
   ·rw[zA hs]at a;rw[zb hs]at y;exact cJ (by rw[y];rfl) a
  ·refine cH (λE=>C _ _ ⟨rfl,?_⟩) λE=>u.rI rfl (C _ _ ⟨rfl,?_⟩)
   ·rw[zb O];rfl
   ·by_cases h2:size>16384
    ·rw[zU h2,zb O];rfl
    ·rw[zb h2,zU O];rfl
 ·have i:kind≠0:=by simpa using z
  refine cN (λs=>u.rI rfl ?_) λs=>?_
  ·have d:kind=1:=by simpa using s
   unfold jf at a;rw[zA i,zB d]at a;exact a
  ·have d:kind≠1:=by simpa using s
   refine cN (λj=>?_) λj=>?_
   ·have g:kind=2:=by simpa using j
    unfold jf at a;rw[zA i,zA d,zB g]at a;exact a
   ·have g:kind≠2:=by simpa using j
    unfold jf at a;rw[zA i,zA d,zA g]at a;exact a
def KR (H:Hw)(thread kind size align addr:Int):Int ⊕ (Nat×Ph):=
 if 0<=thread/\thread<(H.bS.length:Int)then(match H.bS[thread.toNat]? with
  | some g=>(if g.ph=none then(match jf H.tb kind size align addr with
   | some p=>.inr (thread.toNat,p)
   | none=>.inl 1)else .inl 5)
  | none=>.inl 1)else .inl 1
theorem N2 (h:HH σ F L H)(hv:lR H.tb)(thread kind size align addr:Int){R:aN}(h0:∀e,KR H thread kind size align addr=.inl e->e≠0->∀σ',Ext F σ σ'->HH σ' (Grow F σ) L H->R e σ')
 (h1:∀t p,KR H thread kind size align addr=.inr (t,p)->thread=(t:Int)->t<H.bS.length->∀σ',Ext F σ σ'->HH σ' (Grow F σ) L (eV H t (some p))->R 0 σ'):Yi.c (aW L.p) thread kind size align addr σ R:=by
 refine Yi.o ?_;refine nw (cs:=[.int .i64 kind,.int .i64 size,.int .i64 align,.int .i64 addr]) λv y e d=>?_;have K1:=(HK.start h).box e y;refine Kw K1.h (cF rfl (F0 K1.h thread ?_));by_cases hth:0<=thread/\thread<(H.bS.length:Int)
 ·obtain⟨t,rfl⟩:∃t:Nat,thread=(t:Int):=⟨thread.toNat,O⟩;have j:t<H.bS.length:=by omega
  obtain⟨x,g,m,i⟩:=h.th j;have a:KR H (t:Int) kind size align addr=(if g.ph=none then(match jf H.tb kind size align addr with
   | some p=>.inr (t,p)
   | none=>.inl 1)else .inl 5):=by
   unfold KR;rw[zB hth,dC,i]
  refine cF (by rw[zU hth];rfl) (aG (K1.h.hd.rS rfl (K1.h.tR m i ⟨yb _,?_⟩)));cases hp:g.ph with
  | some p=>
   rw[hp,zA aA]at a;exact cJ (by rw[AX];rfl) (h0 5 a aB v K1.e (K1.fin h))
  | none=>
   rw[hp,zB rfl]at a;refine cF rfl (d.rI rfl (d.rI rfl (d.rI rfl (d.rI rfl (Wfq K1.h hv kind size align addr λv3 u=>⟨yb _,?_⟩)))));have K3:=K1.fr u;rw[AX];cases hq:jf H.tb kind size align addr with
   | none=>
    rw[hq]at a;exact cJ rfl (h0 1 a aB v3 K3.e (K3.fin h))
   | some p=>
    rw[hq]at a;refine cF rfl (aG (K3.h.hd.rS rfl (K3.h.sU m i (some p) λz r w=>?_)));have K4:=K3.to r w λb _ d=>.inl d;have s:eV H t (some p) = {H with bS:=H.bS.set t {g with ph:=some p}}:=ZS i _;rw[←s]at K4;exact h1 t p a rfl j z K4.e (K4.fin h)
 ·have a:KR H thread kind size align addr=.inl 1:=by unfold KR;rw[zA hth]
  exact cJ (by rw[zb hth];rfl) (h0 1 a aB v K1.e (K1.fin h))
theorem OR {p:Option Ph}(ht:t<H.bS.length):∃g,(eV H t p).bS[t]?=some g/\g.ph=p:=
 ⟨{H.bS[t]with ph:=p},by simp[eV,Hw.eA,ur,cL ht],rfl⟩
theorem JJ (hso:Gj)(h:HH σ F L H)(hv:lR H.tb)(thread kind size align addr:Int){R:Int->Int->Hp->Prop}(h0:∀e,KR H thread kind size align addr=.inl e->e≠0->∀σ',Ext F σ σ'->HH σ' (Grow F σ) L H->R 0 e σ')
 (h1:∀t p,KR H thread kind size align addr=.inr (t,p)->∃n H' a e,iU n (eV H t (some p)) t p H' a e/\∀σ' ts',Ext F σ σ'->HH σ' (Grow F σ) {L with ts:=ts'} H'->R a e σ'):X0.c (aW L.p) thread kind size align addr σ R:=by
 refine X0.o ?_;refine nw (cs:=[.int .i64 kind,.int .i64 size,.int .i64 align,.int .i64 addr]) λv hz e i=>i.rI rfl (i.rI rfl (i.rI rfl (i.rI rfl ?_)));have K1:=(HK.start h).box e hz;refine N2 K1.h hv thread kind size align addr (λE he A v1 e1 u=>?_) λt p hst N ht v1 e1 u=>?_
 ·have K2:=K1.to e1 u λb _ i=>i;exact cJ (by simpa using A) (h0 E he A v1 K2.e (K2.fin h))
 ·subst N;have K2:=K1.to e1 u λb _ i=>i;obtain⟨n,Hf,a,E,d,C⟩:=h1 t p hst;refine cF rfl (WoJ (λn w=>∃(B P:Rg) (ts:List eH) (H:Hw) (p:Ph),HK F σ B w P {L with ts:=ts} H/\(∃g,H.bS[t]?=some g/\g.ph=some p)/\iU n H t p Hf a E) ⟨n,_,_,L.ts,_,p,K2,OR ht,d⟩ ?_);rintro n w ⟨B,P,ts,H2,r,K,⟨g,hg,hgp⟩,d⟩ J hJ;have go:wg H2 t r->((Wt H2 t r).2.1.isNone=true->(Wt H2 t r).2.2.1=a/\(Wt H2 t r).2.2.2=E/\QW H2 t r=Hf)->((Wt H2 t r).2.1.isNone=false->∃m M,m<n/\(Wt H2 t r).2.1=some M/\iU m (QW H2 t r) t M Hf a E)->Y7.c (aW L.p) (t:Int) w λt22 z y t223 v3=>Nw (.cells #[.int .i64 0,.int .i64 0] 156 (0,0)) v3 λj v4=>dG (j.add 0) (.int .i64 z) v4 λv5=>dG (j.add 1) (.int .i64 y) v5 λs=>If t22 (eW .i64 (j.add 0) s λU=>eW .i64 (j.add 1) s λQ=>R U Q s) (J s):=by
   intro hok hd hn;refine Nc hso K.h hg hgp hok λv3 D e3 X=>?_;have K3:=K.to e3 X λb _ i=>i;refine nw (cs:=[.int .i64 0,.int .i64 0]) λv4 hz4 e4 Y=>?_;have K4:=K3.box e4 hz4;refine Y.s1 aA λv5 o5 b5=>b5.s1 aA λs o6 b6=>?_;have K6:=(K4.own o5 (.inr rfl)).own o6 (.inr rfl);refine cN (λV=>?_) λS=>?_
   ·obtain⟨q1,q2,q3⟩:=hd V;rw[q3]at K6;refine b6.rI rfl (b6.rI rfl ?_);rw[q1,q2];exact C s D K6.e (K6.fin h)
   ·obtain⟨m,M,hm,Z,hr'⟩:=hn S;have W:t<H2.bS.length:=(cS.1 hg).1;obtain⟨g',aa,G⟩:=LK (p:=r) W;exact hJ m s hm ⟨_,_,D,_,M,K6,⟨g',aa,by rw[G,Z]⟩,hr'⟩
  cases d with
  | done hok hnone=>exact go hok (λ_=>⟨rfl,rfl,rfl⟩) λx=>by rw[hnone]at x;cases x
  | next hok hsome hrun'=>exact go hok (λx=>by rw[hsome]at x;cases x) λ_=>⟨_,_,Nat.lt_succ_self _,hsome,hrun'⟩
end Go.Ar
namespace Go.Ar
open Go Go.Vc Go.Proofs
variable {σ u w w':Hp}{F B P Q:Rg}{n:Nat}{cs:List Value}{tb:List bX}{cf:Cf}
def Ur (tb:List bX)(cf:Cf):Hw:=⟨tb,cf,Vy cf.aF,List.replicate cf.iv (fG cf.aF cf.room tb),List.replicate cf.threads ⟨List.replicate tb.length iD,[],none⟩,[]⟩
def sy (p a t b r:Int):Bool:=decide (32<=p)&&decide (p<=1024)&&(p%16==0)&&decide (1<=a)&&decide (a<=4)&&decide (1<=t)&&decide (t<=4)&&decide (0<=b)&&decide (b<=65536)&&decide (0<=r)&&decide (r<=8)
theorem lvl {K:aO}{r:Bool}{a:Addr}{x:Int}{k:IntKind}{f:Int->Bool}(hl:∀{K':Int->Prop},K' x->eW k a w K')(h:K (r&&f x) w):bY K λJ=>If r (eW k a w λt=>J (f t) w) (J false w):=
 bY.intro (cN (λb=>hl (by rw[b]at h;exact h)) λb=>by rw[b]at h;exact h)
theorem Wj3 (p a t b r:Int){R:aO}(hR:∀σ',bO σ σ'->R (sy p a t b r) σ'):QI.c p a t b r σ R:=by
 refine QI.o ?_;refine nw (cs:=[.int .i64 p,.int .i64 a,.int .i64 t,.int .i64 b,.int .i64 r]) λv A e g=>g.rI rfl ?_;have i:=hR v e;unfold sy at i;refine V6 (λm w=>w=v/\m=(decide (32<=p)&&decide (p<=1024))) (λm w ⟨u,x⟩=>?_) λJ j=>?_
 ·subst u;subst x;refine V6 (λm z=>z=w/\m=(decide (32<=p)&&decide (p<=1024)&&(p%16==0))) (λm z ⟨u,x⟩=>?_) λJ j=>?_
  ·rw[u];subst x;exact lvl (λd=>g.rI rfl d) (lvl (λd=>g.rI rfl d) (lvl (λd=>g.rI rfl d) (lvl (λd=>g.rI rfl d) (lvl (λd=>g.rI rfl d) (lvl (λd=>g.rI rfl d) (lvl (λd=>g.rI rfl d) (lvl (λd=>g.rI rfl d) i)))))))
  ·refine cN (λs=>g.rI rfl (nz aB (j _ _ ⟨rfl,?_⟩))) λy=>j _ _ ⟨rfl,?_⟩
   ·simp only[zF,zR]at s;rw[Q4 O,zU s.1,zU s.2];rfl
   ·rw[y];rfl
 ·refine cH (λs=>g.rI rfl (j _ _ ⟨rfl,?_⟩)) λy=>j _ _ ⟨rfl,?_⟩
  ·rw[zU (by omega:32<=p)];rfl
  ·rw[zb O];rfl
structure qo where
 p:Nat
 dF:Sl
 lm:Nat
 hs:Option Nat
 hp:Option Nat
 aw:Sl
 al:List Nat
 ha:Sl
 tw:Sl
 tl:List Value
 ht:Sl
 ys:List Lay
 cs:List hO
def q9 (cf:Cf)(N:qo):List Value:=[.slice N.dF.a N.dF.len N.dF.cap,.int .i64 (cf.aF:Int),.int .i64 (cf.iv:Int),.int .i64 (cf.threads:Int),.int .i64 (cf.dB:Int),.int .i64 (cf.room:Int),
 .pointer (N.hp.map λq=>⟨q,0,none⟩),.slice N.ha.a N.ha.len N.ha.cap,.slice N.ht.a N.ht.len N.ht.cap,.map (some N.lm)]
def sA (n room:Nat)(tb:List bX)(y:Option Lay):Hp->Rg->Prop:=λσ F=>match y with
 | some Y=>cX σ F Y (fG n room tb) (cG (fG n room tb) Y)
 | none=>True
def sW (tb:List bX)(bud:Nat)(y:Option hO):Hp->Rg->Prop:=λσ F=>match y with
 | some Y=>eC σ F Y tb bud (List.replicate tb.length iD)
 | none=>True
def yh (n:Nat)(q:Option Nat):Hp->Rg->Prop:=λσ F=>match q with
 | some q=>dD σ F q (Vy n)
 | none=>True
def jD (tb:List bX)(cf:Cf)(N:qo):lx->Hp->Rg->Prop
 | .hd=>iH N.p (q9 cf N)
 | .dF=>cP N.dF 3 (gp tb)
 | .sp=>yh cf.aF N.hs
 | .fY=>bR N.aw 1 (eY N.al)
 | .cM=>bR N.tw 3 N.tl
 | .live=>ka N.lm .i64 (.ag 4) []
 | .ar k=>sA cf.aF cf.room tb N.ys[k]?
 | .ca k=>sW tb cf.dB N.cs[k]?
 | .hn _=>λ_ _=>True
theorem sA.loc (n room:Nat)(tb:List bX)(y:Option Lay):dR (sA n room tb y):=by
 intro σ σ' F G h hz hs;cases y with
 | some Y=>exact cX.loc _ _ _ _ h hz hs
 | none=>trivial
theorem sW.loc (tb:List bX)(bud:Nat)(y:Option hO):dR (sW tb bud y):=by
 intro σ σ' F G h hz hs;cases y with
 | some Y=>exact eC.loc _ _ _ _ h hz hs
 | none=>trivial
theorem yh.loc (n:Nat)(q:Option Nat):dR (yh n q):=by
 intro σ σ' F G h hz hs;cases q with
 | some q=>exact dD.loc _ _ _ _ h hz hs
 | none=>trivial
theorem jD.loc {N:qo}:∀i,dR (jD tb cf N i)
 | .hd=>iH.loc _ _
 | .dF=>cP.loc _ _ _
 | .sp=>yh.loc _ _
 | .fY=>bR.loc _ _ _
 | .cM=>bR.loc _ _ _
 | .live=>ka.loc _ _ _ _
 | .ar k=>sA.loc _ _ _ _
 | .ca k=>sW.loc _ _ _
 | .hn _=>λ_ _ _ _ _ _ _=>trivial
structure NK (σ:Hp) (B:Rg) (w:Hp) (P:Rg) (tb:List bX) (cf:Cf) (N:qo):Prop where
 sep:Sep (jD tb cf N) w P
 e:bO σ w
 p:∀b,P b->σ.size<=b/\¬B b/\b<w.size
 b:∀b,B b->σ.size<=b/\b<w.size
variable {N N':qo}
theorem NK.fr (K:NK σ B w P tb cf N)(e:bO w w'):NK σ B w' P tb cf N:=
 ⟨(Sep.loc jD.loc).bK K.sep e,K.e.trans e,λb a=>⟨(K.p b a).1,(K.p b a).2.1,by have:=(K.p b a).2.2;have:=e.1;omega⟩,λb a=>by have:=K.b b a;have:=e.1;omega⟩
theorem NK.box (K:NK σ B w P tb cf N)(e:bO w w')(hz:w'.size=w.size+1):NK σ (λb=>B b\/b=w.size) w' P tb cf N:=by
 have h:=K.fr e;have i:=K.e.1;exact⟨h.sep,h.e,λb a=>⟨(K.p b a).1,λg=>g.elim (K.p b a).2.1 λd=>by have:=(K.p b a).2.2;omega,(h.p b a).2.2⟩,λb a=>a.elim (h.b b) λd=>O⟩
theorem NK.drop (K:NK σ B w P tb cf N){B':Rg}(hb:∀b,B' b->B b):NK σ B' w P tb cf N:=⟨K.sep,K.e,λb h=>⟨(K.p b h).1,λa=>(K.p b h).2.1 (hb b a),(K.p b h).2.2⟩,λb h=>K.b b (hb b h)⟩
theorem NK.put (K:NK σ B w P tb cf N)(e:bO w w')(i:lx)(hj:∀j,j≠i->jD tb cf N' j=jD tb cf N j)(hi:jD tb cf N' i w' (λb=>w.size<=b)):NK σ B w' (λb=>P b\/w.size<=b/\b<w'.size) tb cf N':=by
 have h:=K.fr e;have m:=K.e.1;refine⟨h.sep.put jD.loc i (G:=λb=>w.size<=b/\b<w'.size) (λb a g=>by have:=(K.p b g).2.2;omega) hj ((jD.loc i).mono hi λb a d=>⟨d,a⟩) (jD.loc i),h.e,λb a=>?_,h.b⟩;rcases a with a|a
 ·exact h.p b a
 ·exact⟨O,λd=>by have:=(K.b b d).2;omega,a.2⟩
theorem NK.step (K:NK σ B w P tb cf N)(i:lx):∃G:Rg,(∀b,G b->P b)/\jD tb cf N i w G/\∀(w':Hp) (N':qo) (G':Rg),(∀j,j≠i->jD tb cf N' j=jD tb cf N j)->Ext G w w'->(∀b,G' b->G b\/w.size<=b/\¬B b)->jD tb cf N' i w' G'->(∀b,B b->b<w'.size) →
 NK σ B w' (λb=>(P b/\¬G b\/G' b)/\b<w'.size) tb cf N':=by
 obtain⟨G,m,y,_,g⟩:=K.sep.kB jD.loc i;refine⟨G,m,y,λw' N' G' s e r x u=>⟨?_,?_,λb a=>?_,λb a=>⟨(K.b b a).1,u b a⟩⟩⟩
 ·have:=g w' (jD tb cf N') G' s e (λb a=>(r b a).imp id λd=>d.1) x (jD.loc _);refine(Sep.loc jD.loc).mono this λb a d=>⟨?_,a⟩;exact d.imp (λd=>⟨d.1,d.2.2⟩) id
 ·exact Ext.fE K.e e λb a=>.inr (K.p b (m b a)).1
 ·have z:=K.e.1;rcases a.1 with h1|h1
  ·exact⟨(K.p b h1.1).1,(K.p b h1.1).2.1,a.2⟩
  ·rcases r b h1 with h2|h2
   ·exact⟨(K.p b (m b h2)).1,(K.p b (m b h2)).2.1,a.2⟩
   ·exact⟨O,h2.2,a.2⟩
theorem C0 {K:eJ [.p]}{body:eJ [.p]->Prop}(P:Option Addr->Hp->Prop)(h1:∀r w,P r w->K r w)(h2:∀J:eJ [.p],(∀r w,P r w->J r w)->body J):Jn [.p] K body:=Jn.intro (h2 K h1)
def gV:Sl:=⟨none,0,0⟩
def qu (cs:List hO):List Value:=cs.flatMap λc=>[.pointer (some ⟨c.p,0,none⟩),.slice none 0 0,.nilIface]
def N0 (p:Nat)(dF:Sl)(lm:Nat):qo:=⟨p,dF,lm,none,none,gV,[],gV,gV,[],gV,[],[]⟩
def NB (p:Nat)(dF:Sl)(lm q:Nat)(aw:Sl)(ys:List Lay)(tw:Sl)(cs:List hO):qo:=⟨p,dF,lm,some q,some q,aw,ys.map (·.p),aw,tw,qu cs,tw,ys,cs⟩
theorem Is {p lm:Nat}{dF:Sl}{D:Rg}(e:bO σ w)(hz:σ.size<w.size)(hp:bW w p (q9 cf (N0 p dF lm)))(hm:dN w lm .i64 (.ag 4) [])(ht:cP dF 3 (gp tb) w D)(hD:∀b,D b->σ.size<b/\b<w.size/\b≠p/\b≠lm)(hpl:p≠lm)(h1:σ.size<p)(h2:σ.size<lm) :
 NK σ (· = σ.size) w (λb=>D b\/b=p\/b=lm) tb cf (N0 p dF lm):=by
 have d:=hp.lt;have g:=hm.lt;refine⟨⟨λb=>if b=p then .hd else if b=lm then .live else .dF,λi=>?_⟩,e,λb a=>?_,λb a=>O⟩
 ·cases i with
  | hd=>exact⟨⟨.inr (.inl rfl),zB rfl⟩,hp⟩
  | live=>exact⟨⟨.inr (.inr rfl),by show(if lm=p then lx.hd else if lm=lm then lx.live else lx.dF)=.live;rw[zA (Ne.symm hpl),zB rfl]⟩,hm⟩
  | dF=>exact aH.mono ht λb _ a=>⟨.inl a,by show(if b=p then lx.hd else if b=lm then lx.live else lx.dF)=.dF;rw[zA (hD b a).2.2.1,zA (hD b a).2.2.2]⟩
  | sp=>trivial
  | fY=>exact bR.nil _ _ _ _
  | cM=>exact bR.nil _ _ _ _
  | ar k=>trivial
  | ca k=>trivial
  | hn k=>trivial
 ·rcases a with a|a|a
  ·have:=hD b a;omega
  ·omega
  ·omega
theorem NK.yB (K:NK σ B w P tb cf N):P N.p/\bW w N.p (q9 cf N):=by
 obtain⟨G,b,a⟩:=K.sep.get .hd;exact⟨b _ a.1,a.2⟩
theorem NK.pe (K:NK σ B w P tb cf N)(N':qo)(hN':∀j,j≠.hd->jD tb cf N' j=jD tb cf N j)(hp:N'.p=N.p){i:Nat}{v:Value}(hs:(q9 cf N).set i v=q9 cf N')(hi:i<10){Kk:aP}(hK:∀w' P',NK σ B w' P' tb cf N'->QJ w w' N.p->Kk w'):dG (Addr.add ⟨N.p,0,none⟩ i) v w Kk:=by
 obtain⟨G,m,d,a⟩:=K.step .hd;have d:iH N.p (q9 cf N) w G:=d;refine d.2.s1 (by simpa[q9]using hi) λw' o g=>hK w' _ (a w' N' G hN' (o.ext.sub λx e=>by rw[e];exact d.1) (λx e=>.inl e) ?_ λx e=>by have:=(K.b x e).2;have:=o.1;omega) o;show iH N'.p (q9 cf N') w' G;rw[zG,hs]at g;rw[hp];exact⟨d.1,g⟩
theorem Wpm {Y:Lay}(h:N'.ys=N.ys++[Y])(hr:∀j,(∀k,j≠.ar k)->jD tb cf N' j=jD tb cf N j):∀j,j≠lx.ar N.ys.length->jD tb cf N' j=jD tb cf N j:=by
 intro j hj;cases j with
 | ar k=>
  have a:k≠N.ys.length:=λe=>hj (by rw[e]);show sA _ _ _ N'.ys[k]?=sA _ _ _ N.ys[k]?;rw[h]
  congr 1
  rcases Nat.lt_or_gt_of_ne a with h1|h1
  ·rw[zg h1]
  ·rw[zX aE,zX O]
 | _=>exact hr _ (λk e=>by cases e)
theorem MG {Y:hO}(h:N'.cs=N.cs++[Y])(hr:∀j,(∀k,j≠.ca k)->jD tb cf N' j=jD tb cf N j):∀j,j≠lx.ca N.cs.length->jD tb cf N' j=jD tb cf N j:=by
 intro j hj;cases j with
 | ca k=>
  have a:k≠N.cs.length:=λe=>hj (by rw[e]);show sW _ _ N'.cs[k]?=sW _ _ N.cs[k]?;rw[h]
  congr 1
  rcases Nat.lt_or_gt_of_ne a with h1|h1
  ·rw[zg h1]
  ·rw[zX aE,zX O]
 | _=>exact hr _ (λk e=>by cases e)
end Go.Ar
namespace Go.Ar
open Go Go.Vc Go.Proofs
variable {σ u w w':Hp}{F B P Q:Rg}{n:Nat}{cs:List Value}{tb:List bX}{cf:Cf}{N:qo}
theorem LR (p a t b r:Int):sy p a t b r=true↔(32<=p/\p<=1024/\p%16=0)/\(1<=a/\a<=4)/\(1<=t/\t<=4)/\(0<=b/\b<=65536)/\0<=r/\r<=8:=by
 simp only[sy,zF,zR,zZ];omega
theorem EG (g:Gl σ)(gd:Gd σ):jh (λb=>σ.size<=b)/\¬(σ.size<=1):=by
 refine⟨?_,λh=>by have:=BG gd;omega⟩;have d:jh (λ_=>False):=λb a=>a.elim;exact(d.grow g).sub λb a=>.inr a
theorem Rw (cs:List hO)(ls:List Li):ie (cs.map λc=>⟨c,gV⟩) (List.replicate cs.length ⟨ls,[],none⟩)=qu cs:=by
 induction cs with
 | nil=>rfl
 | cons c cs ih=>
  have a:ie ((c::cs).map λc=>(⟨c,gV⟩:eH)) (List.replicate (c::cs).length ⟨ls,[],none⟩)=jO (⟨c,gV⟩,⟨ls,[],none⟩)++ie (cs.map λc=>(⟨c,gV⟩:eH)) (List.replicate cs.length ⟨ls,[],none⟩):=rfl;rw[a,ih];rfl
theorem WmH (cs:List hO):(qu cs).length=cs.length*3:=by
 induction cs with
 | nil=>rfl
 | cons c cs ih=>simp only[qu,mM,zJ,zQ,lU]at *;omega
set_option maxRecDepth 8000 in
theorem Bm {s:Sl}{xs:List (Int×Int×Int)}(ha:gK σ s xs)(g:Gl σ)(gd:Gd σ)(p a t b r:Int){R:Option Addr->Int->Hp->Prop}
 (h2:Qq xs=false->∀σ',bO σ σ'->R none 2 σ')
 (h1:Qq xs=true->sy p a t b r=false->∀σ',bO σ σ'->R none 1 σ')
 (h0:Qq xs=true->sy p a t b r=true->∀σ' L,bO σ σ'->HH σ' (λq=>σ.size<=q) L (Ur (xs.map Z0) ⟨p.toNat,a.toNat,t.toNat,b.toNat,r.toNat⟩)->R (some ⟨L.p,0,none⟩) 0 σ') :
 KC.c s p a t b r σ R:=by
 refine KC.o ?_;refine nw (cs:=[.int .i64 p,.int .i64 a,.int .i64 t,.int .i64 b,.int .i64 r]) λv hz e y=>?_;refine Hq (YR ha e) λv1 e1=>?_;cases hv:Qq xs with
 | false=>exact cJ rfl (h2 hv v1 (e.trans e1))
 | true=>
 have V:=e1.cA y id;refine cF rfl (V.rI rfl (V.rI rfl (V.rI rfl (V.rI rfl (V.rI rfl (Wj3 p a t b r λv2 e2=>?_))))));have ab:=(e.trans e1).trans e2;cases hc:sy p a t b r with
 | false=>exact cJ rfl (h1 hv hc v2 ab)
 | true=>
 have hcf:=(LR p a t b r).1 hc;obtain⟨p,rfl⟩:∃n:Nat,p=(n:Int):=⟨p.toNat,O⟩;obtain⟨a,rfl⟩:∃n:Nat,a=(n:Int):=⟨a.toNat,O⟩;obtain⟨t,rfl⟩:∃n:Nat,t=(n:Int):=⟨t.toNat,O⟩;obtain⟨b,rfl⟩:∃n:Nat,b=(n:Int):=⟨b.toNat,O⟩;obtain⟨r,rfl⟩:∃n:Nat,r=(n:Int):=⟨r.toNat,O⟩;simp only[dC]at h0;have h0:=h0 hv hc;have A:=e2.cA V id;have hxl:=(QA xs).1 hv;have hz2:=ab.1;have hz02:σ.size<v2.size:=A.lt;generalize hcfd:(⟨p,a,t,b,r⟩:Cf)=cf at h0;generalize htbd:xs.map Z0=tb at h0;have hdE:∀(q:Nat) (dF:Sl) (C:Nat),q9 cf (N0 q dF C)=[.slice dF.a dF.len dF.cap,.int .i64 (p:Int),.int .i64 (a:Int),.int .i64 (t:Int),.int .i64 (b:Int),.int .i64 (r:Int),.pointer none,.slice none 0 0,.slice none 0 0,.map (some C)]:=λq dF C=>by rw[←hcfd];rfl
 refine cF rfl (C0 (λvh w=>∃P q dF C,vh=some ⟨q,0,none⟩/\NK σ (· = σ.size) w P tb cf (N0 q dF C)/\bW w σ.size [.int .i64 (p:Int),.int .i64 (a:Int),.int .i64 (t:Int),.int .i64 (b:Int),.int .i64 (r:Int)]) (λvh w ⟨P,q,dF,C,hvh,K,hbw⟩=>?_) λJ hJ=>?_)
 ·subst hvh;refine hbw.rI rfl (TC (n:=p) O O λv4 sp e4 _ hS=>?_);have hp:cf.aF=p:=by rw[←hcfd]
  have hroom:cf.room=r:=by rw[←hcfd]
  have hbud:cf.dB=b:=by rw[←hcfd]
  have K1:NK σ (· = σ.size) v4 _ tb cf {N0 q dF C with hs:=some sp}:=K.put e4 .sp (λj H=>by cases j<;>first|rfl|exact absurd rfl H) (by
   show dD v4 _ sp (Vy cf.aF);rw[hp];exact hS)
  have hbw4:=e4.cA hbw id;refine aG (K1.pe (NB q dF C sp gV [] gV []) (λj H=>by cases j<;>first|rfl|exact absurd rfl H) rfl (i:=6) rfl O λv5 P5 K5 o5=>?_)
  have ac:∀{w:Hp} {P:Rg} {N:qo},NK σ (· = σ.size) w P tb cf N->σ.size≠N.p:=λK e=>(K.p _ K.yB.1).2.1 e.symm;have hbw5:=Wp o5 hbw4 (ac K1);refine hbw5.rI rfl ?_;refine ZP (a:=bN) (λ(z:Int) w=>∃(P:Rg) (aw:Sl) (ys:List Lay),z=(ys.length:Int)/\ys.length<=a/\(∀Y∈ys,Y.hs=sp)/\NK σ (· = σ.size) w P tb cf (NB q dF C sp aw ys gV [])/\bW w σ.size [.int .i64 (p:Int),.int .i64 (a:Int),.int .i64 (t:Int),.int .i64 (b:Int),.int .i64 (r:Int)]) (λz _=>a-z.toNat) ⟨P5,gV,[],rfl,by simp,by simp,K5,hbw5⟩ ?_;rintro(z:Int) w6 ⟨P6,aw,ys,rfl,hyl,hys,K6,hbw6⟩;refine cH (λhlt=>?_) λhge=>?_
  ·refine⟨λu=>u=w6,rfl,aG ⟨some ⟨sp,0,none⟩,λu hu=>by cases hu;rw[add_lit];exact(bW.cell (b:=q) K6.yB.2).trans rfl,⟨(r:Int),λu hu=>by cases hu;rw[add_lit,hbw6.cell];rfl,?_⟩⟩⟩;obtain⟨GS,hGS,hSp⟩:=K6.sep.get .sp;have hSp:dD w6 GS sp (Vy cf.aF):=hSp;have hnl:(Vy cf.aF).st.length=p:=by rw[hp];simp[Vy]
   have hnE:lN xs (Vy cf.aF).st.length (r:Int)=0:=by
    unfold lN;rw[zB hv,hnl,zB O]
   refine OW (YR ha K6.e) hSp (r:Int) (λhne=>absurd hnE hne) λ_ v7 Y e7 hYh hA=>?_;rw[hnl,dC,htbd]at hA;have K7:NK σ (· = σ.size) v7 _ tb cf {NB q dF C sp aw ys gV []with ys:=ys++[Y]}:=K6.put e7 (.ar ys.length) (Wpm (N:=NB q dF C sp aw ys gV []) rfl (λj H=>by
    cases j with
    | ar k=>exact absurd rfl (H k)
    | _=>rfl)) (by
    show sA cf.aF cf.room tb (ys++[Y])[ys.length]? v7 _;rw[zi (zC _),pW,hp,hroom];exact hA)
   have S:=e7.cA hbw6 id;refine aG (K7.yB.2.rS (a:=aw.a) (n:=aw.len) (c:=aw.cap) rfl (nw (cs:=[.pointer (some ⟨Y.p,0,none⟩)]) λv8 hz8 e8 hb8=>?_));have K8:=K7.box e8 hz8;obtain⟨G,hG,d,ae⟩:=K8.step .fY;have d:bR aw 1 (eY (ys.map (·.p))) v8 G:=d;have hal:aw.len=ys.length:=by have:=d.1;simp[eY]at this;omega
   refine d.app (ys:=[.pointer (some ⟨Y.p,0,none⟩)]) rfl rfl ?_ (by simp[dM]) ?_ ?_ n4 λs' v9 _ e9 hr9=>?_
   ·intro j u hu;rw[add_lit,zG,hb8.cell];exact hu
   ·simp only;omega
   ·simp only;omega
   have hz9:=e9.1;have hbw9:bW v9 σ.size _:=e9.cA (e8.cA S id) λF=>(K8.p _ (hG _ F)).2.1 (.inl rfl);have K9:=(ae v9 {NB q dF C sp aw ys gV []with ys:=ys++[Y],aw:=s',al:=(ys++[Y]).map (·.p)} (λb=>Grow G v8 b/\b<v9.size) (λj H=>by cases j<;>first|rfl|exact absurd rfl H) e9 (λb y=>y.1.imp id λF=>⟨F,λhB=>by have:=(K8.b b hB).2;omega⟩) (by
    show bR s' 1 (eY ((ys++[Y]).map (·.p))) v9 _;have:eY ((ys++[Y]).map (·.p))=eY (ys.map (·.p))++[.pointer (some ⟨Y.p,0,none⟩)]:=by simp[eY]
    rw[this];exact aI.mono hr9 λb y F=>⟨F,y⟩) λb hB=>by have:=(K8.b b hB).2;omega).drop (B':=(· = σ.size)) λb y=>.inl y
   refine aG (K9.pe (NB q dF C sp s' (ys++[Y]) gV []) (λj H=>by cases j<;>first|rfl|exact absurd rfl H) rfl (i:=7) rfl O λah P10 K10 fW=>?_)
   have M:=Wp fW hbw9 (ac K9);exact bZ (m:=ys.length+1) O O ⟨⟨P10,s',ys++[Y],by simp,by simp;omega,λZ hZ=>(zP.1 hZ).elim (hys Z) λh=>by
    rw[zS]at h;rw[h];exact hYh,K10,M⟩,O⟩
  ·have hya:ys.length=a:=by omega
   refine hbw6.rI rfl ?_;refine ZP (a:=bN) (λ(z:Int) w=>∃(P:Rg) (tw:Sl) (cs:List hO),z=(cs.length:Int)/\cs.length<=t/\NK σ (· = σ.size) w P tb cf (NB q dF C sp aw ys tw cs)/\bW w σ.size [.int .i64 (p:Int),.int .i64 (a:Int),.int .i64 (t:Int),.int .i64 (b:Int),.int .i64 (r:Int)]) (λz _=>t-z.toNat) ⟨P6,gV,[],rfl,by simp,K6,hbw6⟩ ?_;rintro(z:Int) w7 ⟨P7,tw,cs,rfl,hcsl,K7,S⟩;refine cH (λhlt=>?_) λhge2=>?_
   ·refine S.rI rfl (N5 (YR ha K7.e) (b:Int) (λhvf=>by rw[hv]at hvf;cases hvf) (λ_ hn=>absurd ⟨O,O⟩ hn) λ_ _ _ v8 Y e8 hC=>?_);rw[dC,htbd]at hC;have K8:NK σ (· = σ.size) v8 _ tb cf {NB q dF C sp aw ys tw cs with cs:=cs++[Y]}:=K7.put e8 (.ca cs.length) (MG (N:=NB q dF C sp aw ys tw cs) rfl (λj H=>by
     cases j with
     | ca k=>exact absurd rfl (H k)
     | _=>rfl)) (by
     show sW tb cf.dB (cs++[Y])[cs.length]? v8 _;rw[zi (zC _),pW,hbud];exact hC)
    have hbw8:=e8.cA S id;refine aG (K8.yB.2.rS (a:=tw.a) (n:=tw.len) (c:=tw.cap) rfl (nw (cs:=[.pointer (some ⟨Y.p,0,none⟩),.slice none 0 0,.nilIface]) λv9 hz9 e9 hb9=>?_));have K9:=K8.box e9 hz9;obtain⟨G,hG,d,ae⟩:=K9.step .cM;have d:bR tw 3 (qu cs) v9 G:=d;have hal:tw.len=cs.length:=by have:=d.1;rw[WmH]at this;omega
    refine d.app (ys:=[.pointer (some ⟨Y.p,0,none⟩),.slice none 0 0,.nilIface]) rfl rfl ?_ (by simp[dM]) ?_ ?_ n4 λs' ah _ e10 hr10=>?_
    ·intro j u hu;rw[add_lit,zG,hb9.cell];exact hu
    ·simp only;omega
    ·simp only;omega
    have hz10:=e10.1;have M:bW ah σ.size _:=e10.cA (e9.cA hbw8 id) λF=>(K9.p _ (hG _ F)).2.1 (.inl rfl);have K10:=(ae ah {NB q dF C sp aw ys tw cs with cs:=cs++[Y],tw:=s',tl:=qu (cs++[Y])} (λb=>Grow G v9 b/\b<ah.size) (λj H=>by cases j<;>first|rfl|exact absurd rfl H) e10 (λb y=>y.1.imp id λF=>⟨F,λhB=>by have:=(K9.b b hB).2;omega⟩) (by
     show bR s' 3 (qu (cs++[Y])) ah _;have:qu (cs++[Y])=qu cs++[.pointer (some ⟨Y.p,0,none⟩),.slice none 0 0,.nilIface]:=by simp[qu]
     rw[this];exact aI.mono hr10 λb y F=>⟨F,y⟩) λb hB=>by have:=(K9.b b hB).2;omega).drop (B':=(· = σ.size)) λb y=>.inl y
    refine aG (K10.pe (NB q dF C sp aw ys s' (cs++[Y])) (λj H=>by cases j<;>first|rfl|exact absurd rfl H) rfl (i:=8) rfl O λv11 P11 K11 o11=>?_)
    have hbw11:=Wp o11 M (ac K10);exact bZ (m:=cs.length+1) O O ⟨⟨P11,s',cs++[Y],by simp,by simp;omega,K11,hbw11⟩,O⟩
   ·have hct:cs.length=t:=by omega
    have Q:cf.threads=cs.length:=by rw[←hcfd,hct]
    have ad:cf.iv=ys.length:=by rw[←hcfd,hya]
    have hN:=EG g gd;refine h0 w7 ⟨q,sp,C,dF,aw,tw,ys,cs.map λc=>⟨c,gV⟩⟩ K7.e ⟨⟨?_,hys,?_,?_,?_,?_,?_,?_⟩,?_,g.bK K7.e,gd.bK K7.e,hN.1,hN.2⟩
    ·simp[Ur,ad]
    ·simp[Ur,Q]
    ·simp[Ur,ad];omega
    ·simp[Ur,ad];omega
    ·simp[Ur,Q];omega
    ·simp[Ur,Q];omega
    ·intro B hB;have:=DG hB;rw[this];rfl
    ·refine(Sep.loc CH.loc).mono (G:=λq=>σ.size<=q) ?_ λb _ y=>y;obtain⟨ρ,hs⟩:=(Sep.loc jD.loc).mono K7.sep (G:=λq=>σ.size<=q) λb _ y=>(K7.p b y).1;refine⟨ρ,λi=>?_⟩;have U:=hs i;cases i with
     | hd=>exact U
     | dF=>exact U
     | sp=>exact U
     | fY=>exact bR.fP U
     | cM=>
      show bR tw 3 (ie (cs.map λc=>⟨c,gV⟩) (List.replicate cf.threads ⟨List.replicate tb.length iD,[],none⟩)) w7 _;rw[Q,Rw];exact U
     | live=>exact U
     | ar k=>
      show pz ys[k]? (List.replicate cf.iv (fG cf.aF cf.room tb))[k]? w7 _;have U:sA cf.aF cf.room tb ys[k]? w7 _:=U;unfold pz;by_cases hk:k<ys.length
      ·rw[nB,zB O,cL hk];rw[cL hk]at U;exact U
      ·rw[zX O];trivial
     | ca k=>
      show qI (cs.map λc=>(⟨c,gV⟩:eH))[k]? (List.replicate cf.threads (⟨List.replicate tb.length iD,[],none⟩:Th))[k]? tb cf.dB w7 _;have U:sW tb cf.dB cs[k]? w7 _:=U;unfold qI;by_cases hk:k<cs.length
      ·rw[nB,zB O,ze,cL hk];rw[cL hk]at U;exact U
      ·rw[ze,zX O];trivial
     | hn k=>
      show qb (cs.map λc=>(⟨c,gV⟩:eH))[k]? (List.replicate cf.threads (⟨List.replicate tb.length iD,[],none⟩:Th))[k]? w7 _;unfold qb;by_cases hk:k<cs.length
      ·rw[nB,zB O,ze,cL hk];exact im.nil _ _ _
      ·rw[ze,zX O];trivial
 ·have rd:∀(i:Nat) (x:Int),[Value.int .i64 (p:Int),.int .i64 (a:Int),.int .i64 (t:Int),.int .i64 (b:Int),.int .i64 (r:Int)][i]?=some (.int .i64 x)->∀m,bW m σ.size [.int .i64 (p:Int),.int .i64 (a:Int),.int .i64 (t:Int),.int .i64 (b:Int),.int .i64 (r:Int)]->cell m (Addr.add ⟨σ.size,0,none⟩ i)=some (.int .i64 x):=λi x F m hm=>by
   rw[add_lit,hm.cell,zG];exact F
  refine⟨λm=>bW m σ.size [.int .i64 (p:Int),.int .i64 (a:Int),.int .i64 (t:Int),.int .i64 (b:Int),.int .i64 (r:Int)],A,⟨(p:Int),rd 0 _ rfl,⟨(a:Int),rd 1 _ rfl,⟨(t:Int),rd 2 _ rfl,⟨(b:Int),rd 3 _ rfl,⟨(r:Int),rd 4 _ rfl,⟨?_,?_⟩⟩⟩⟩⟩⟩⟩
  ·refine V5 (YR ha ab) hv λdF ak aa E=>⟨aa.cA A id,ta λv17 z17 af hm=>⟨af.cA (aa.cA A id) id,?_⟩⟩;rw[htbd]at E;have hz16:=aa.1;refine nw (cs:=[.slice dF.a dF.len dF.cap,.int .i64 (p:Int),.int .i64 (a:Int),.int .i64 (t:Int),.int .i64 (b:Int),.int .i64 (r:Int),.pointer none,.slice none 0 0,.slice none 0 0,.map (some ak.size)]) λv18 z18 ai hb18=>⟨ai.cA (af.cA (aa.cA A id) id) id,hJ _ _ ⟨_,v17.size,dF,ak.size,rfl,Is (D:=λq=>v2.size<=q/\q<ak.size) (((ab.trans aa).trans af).trans ai) O (by rw[hdE];exact hb18) (ai.gN (hm .i64 (.ag 4)) id) ?_ (λb y=>O) O O O,ai.cA (af.cA (aa.cA A id) id) id⟩⟩;exact aH.bK (aH.bK (aH.mono E (G:=λq=>v2.size<=q/\q<ak.size) λb y F=>⟨F,y⟩) af) ai
  ·refine ta λv19 z19 W hm=>⟨W.cA A id,V5 (YR ha (ab.trans W)) hv λdF v20 X E=>⟨X.cA (W.cA A id) id,?_⟩⟩;rw[htbd]at E;have hz20:=X.1;refine nw (cs:=[.slice dF.a dF.len dF.cap,.int .i64 (p:Int),.int .i64 (a:Int),.int .i64 (t:Int),.int .i64 (b:Int),.int .i64 (r:Int),.pointer none,.slice none 0 0,.slice none 0 0,.map (some v2.size)]) λv21 z21 aj hb21=>⟨aj.cA (X.cA (W.cA A id) id) id,hJ _ _ ⟨_,v20.size,dF,v2.size,rfl,Is (D:=λq=>v19.size<=q/\q<v20.size) (((ab.trans W).trans X).trans aj) O (by rw[hdE];exact hb21) (aj.gN (X.gN (hm .i64 (.ag 4)) id) id) ?_ (λb y=>O) O O O,aj.cA (X.cA (W.cA A id) id) id⟩⟩;exact aH.bK (aH.mono E (G:=λq=>v19.size<=q/\q<v20.size) λb y F=>⟨F,y⟩) aj
end Go.Ar
namespace Go.Ar
open Go Go.Vc Go.Proofs
variable {σ u w w':Hp}{F B P Q:Rg}{L:dP}{H:Hw}{t:Nat}{g:Th}
def mI (H:Hw):Prop:=1<=H.cf.aF/\H.cf.threads=H.bS.length/\lR H.tb
end Go.Ar
namespace Go.Ar
open Go Go.Vc Go.Proofs
open Go.Bu (gG)
variable {σ u w w':Hp}{F B P Q:Rg}{L:dP}{H H':Hw}{t:Nat}{g:Th}
def Hg (H:Hw)(thread kind size align addr:Int)(H':Hw)(a e:Int):Prop:=
 (KR H thread kind size align addr=.inl e/\e≠0/\H'=H/\a=0)\/∃t p n,KR H thread kind size align addr=.inr (t,p)/\iU n (eV H t (some p)) t p H' a e
theorem DX (hso:Gj)(h:HH σ F L H)(hv:lR H.tb){thread kind size align addr:Int}{a e:Int}(hw:Hg H thread kind size align addr H' a e){R:Int->Int->Hp->Prop}
 (hR:∀σ' ts',Ext F σ σ'->HH σ' (Grow F σ) {L with ts:=ts'} H'->R a e σ'):X0.c (aW L.p) thread kind size align addr σ R:=by
 rcases hw with⟨hs,hne,rfl,rfl⟩|⟨t,p,n,hs,hr⟩
 ·exact JJ hso h hv thread kind size align addr (λg b _ σ' d i=>by
   rw[hs]at b;cases b;exact hR σ' L.ts d i) λt p b=>by rw[hs]at b;cases b
 ·exact JJ hso h hv thread kind size align addr (λg b=>by rw[hs]at b;cases b) λj m b=>by
   rw[hs]at b;cases b;exact⟨n,H',a,e,hr,hR⟩
theorem MB (hso:Gj)(h:HH σ F L H)(hv:lR H.tb){thread size align:Int}{a e:Int}(hw:Hg H thread 0 size align 0 H' a e){R:Int->Int->Hp->Prop}
 (hR:∀σ' ts',Ext F σ σ'->HH σ' (Grow F σ) {L with ts:=ts'} H'->R a e σ'):Yp.c (aW L.p) thread size align σ R:=by
 refine Yp.o ?_;exact DX hso h hv hw hR
theorem Wly (hso:Gj)(h:HH σ F L H)(hv:lR H.tb){thread addr:Int}{a e:Int}(hw:Hg H thread 1 0 0 addr H' a e){R:aN}
 (hR:∀σ' ts',Ext F σ σ'->HH σ' (Grow F σ) {L with ts:=ts'} H'->R e σ'):Zl.c (aW L.p) thread addr σ R:=by
 refine Zl.o ?_;exact DX hso h hv hw hR
theorem TU (hso:Gj)(h:HH σ F L H)(hv:lR H.tb){thread:Int}{a e:Int}(hw:Hg H thread 2 0 0 0 H' a e){R:aN}
 (hR:∀σ' ts',Ext F σ σ'->HH σ' (Grow F σ) {L with ts:=ts'} H'->R e σ'):Zw.c (aW L.p) thread σ R:=by
 refine Zw.o ?_;exact DX hso h hv hw hR
def Qf (H' H:Hw):Prop:=H'.tb=H.tb/\H'.cf=H.cf/\H'.bS.length=H.bS.length/\H'.bT.length=H.bT.length
theorem Qf.refl (H:Hw):Qf H H:=⟨rfl,rfl,rfl,rfl⟩
theorem Qf.trans {H1 H2 H3:Hw}(a:Qf H2 H1)(b:Qf H3 H2):Qf H3 H1:=⟨b.1.trans a.1,b.2.1.trans a.2.1,b.2.2.1.trans a.2.2.1,b.2.2.2.trans a.2.2.2⟩
theorem KP (H:Hw)(t:Nat)(f:Th->Th):Qf (H.eA t f) H:=⟨rfl,rfl,by simp[Hw.eA],rfl⟩
theorem Qg (H:Hw)(k:Nat)(A:AR)(sp:Sp):Qf {H.cB k A with sp:=sp} H:=⟨rfl,rfl,rfl,by simp[Hw.cB]⟩
theorem Su (H:Hw)(k:Nat)(part:Nat->List Int)(j:Nat):Qf (Vk H k part (List.range j)) H:=by
 induction j with
 | zero=>exact Qf.refl H
 | succ j ih=>
  rw[Vr];split
  ·split
   ·exact ih
   ·exact ih.trans (Qg _ _ _ _)
  ·exact ih
theorem Tn (H:Hw)(own k:Nat)(xs:List Int):Qf (Gk H own k xs) H:=by
 unfold Gk;split
 ·split
  ·exact Qg _ _ _ H.sp
  ·refine Qf.trans ?_ (Su _ _ _ _);split
   ·exact Qg _ _ _ H.sp
   ·exact Qf.refl H
 ·exact Qf.refl H
theorem T2 (H:Hw)(t k:Nat)(x:Int):Qf (iJ H t k x) H:=by
 unfold iJ;simp only;split<;>split<;>exact⟨rfl,rfl,by simp[Hw.eA,Q0],rfl⟩
theorem MJ (H:Hw)(t:Nat)(p:Ph):Qf (Wt H t p).1 H:=by
 cases p with
 | take k=>simp only[Wt];split<;>exact⟨rfl,rfl,by simp[VP,Q0,Hw.eA,Hw.cB],by simp[VP,Q0,Hw.eA,Hw.cB]⟩
 | cO k w=>
  simp only[Wt];split
  ·split
   ·exact(Qg _ _ _ H.sp).trans (KP _ _ _)
   ·exact Qf.refl H
  ·exact Qf.refl H
 | cQ k w=>
  simp only[Wt];split
  ·exact Qg _ _ _ H.sp
  ·exact(Qg _ _ _ H.sp).trans (KP _ _ _)
 | grow k w=>simp only[Wt];split<;>exact Qg _ _ _ _
 | fill=>
  simp only[Wt];split
  ·exact⟨rfl,rfl,by simp[VP,Q0,Hw.eA,Hw.cB],by simp[VP,Q0,Hw.eA,Hw.cB]⟩
  ·exact Qf.refl H
 | eT m=>simp only[Wt];split<;>exact⟨rfl,rfl,by simp[VP,Q0,Hw.eA,Hw.cB],by simp[VP,Q0,Hw.eA,Hw.cB]⟩
 | find x=>
  simp only[Wt,He];split
  ·exact Qf.refl H
  ·split
   ·exact⟨rfl,rfl,rfl,rfl⟩
   ·exact Qf.trans (H2:={H with live:=Go.Vc.cT H.live x}) ⟨rfl,rfl,rfl,rfl⟩ (KP _ _ _)
 | put k x=>exact T2 H t k x
 | back=>
  simp only[Wt];split
  ·exact(KP _ _ _).trans (Tn _ _ _ _)
  ·exact Qf.refl H
 | dK s a=>
  simp only[Wt];split
  ·exact Qg _ _ _ H.sp
  ·exact Qf.refl H
 | drain=>exact KP _ _ _
theorem GM (H:Hw)(t:Nat)(p:Ph):Qf (QW H t p) H:=(MJ H t p).trans (KP _ _ _)
theorem J5 {n:Nat}{H H':Hw}{t:Nat}{p:Ph}{a e:Int}(h:iU n H t p H' a e):Qf H' H:=by
 induction h with
 | done=>exact GM _ _ _
 | next _ _ _ ih=>exact(GM _ _ _).trans ih
theorem mI.bU (h:mI H)(k:Qf H' H):mI H':=⟨by rw[k.2.1];exact h.1,by rw[k.2.1,k.2.2.1];exact h.2.1,by rw[k.1];exact h.2.2⟩
end Go.Ar
namespace Go.Ar
variable {c:bX}{ss:List cI}
structure dI (c:bX) (ss:List cI):Prop where
 ok:c.ok
 tk:∀s∈ss,s.tk.length=c.n
 sJ:ss.Pairwise λa b=>a.st+c.aF<=b.st
def Tk (c:bX)(ss:List cI)(x:Int):Prop:=eB c ss x=some true
def sB (c:bX)(ss:List cI)(p:Nat):Prop:=∃s∈ss,s.st<=p/\p<s.st+c.aF
theorem dI.pos (h:dI c ss):0<c.size:=by have:=h.ok;unfold bX.ok at this;omega
theorem dI.pg (h:dI c ss):1<=c.aF:=by have:=h.ok;unfold bX.ok at this;omega
theorem dI.lp (h:dI c ss):ss.Pairwise λa b=>a.st<b.st:=h.sJ.imp λ{a b} d=>by have:=h.pg;omega
theorem dI.uD (h:dI c ss){i j:Nat}{s t:cI}(hi:ss[i]?=some s)(hj:ss[j]?=some t)(hij:i<j):s.st+c.aF<=t.st:=by
 obtain⟨b,rfl⟩:=cS.1 hi;obtain⟨a,rfl⟩:=cS.1 hj;exact zy.1 h.sJ i j b a hij
theorem dI.wT (h:dI c ss){i j:Nat}{s t:cI}{p:Nat}(hi:ss[i]?=some s)(hj:ss[j]?=some t)(h1:s.st<=p)(h2:p<s.st+c.aF)(h3:t.st<=p)(h4:p<t.st+c.aF):i=j:=by
 rcases qD i j with hl|hl|hl
 ·have:=h.uD hi hj hl;omega
 ·exact hl
 ·have:=h.uD hj hi hl;omega
theorem Mf (hp:0<c.size){s:cI}{i:Nat}(hi:i<c.n):s.st*256<=at_ c s i/\at_ c s i+c.size<=(s.st+c.aF)*256:=by
 have b:=bX.si c;have a:(i+1)*c.size<=c.n*c.size:=lS _ hi;unfold at_;rw[zl]at a;omega
theorem Hc (hp:0<c.size){s:cI}{i x:Nat}(hi:i<c.n)(h1:at_ c s i<=x)(h2:x<at_ c s i+c.size):s.st<=x/256/\x/256<s.st+c.aF:=by
 have:=Mf hp (s:=s) hi;omega
theorem Uw (h:dI c ss){k l:Nat}{s t:cI}{i j x:Nat}(hk:ss[k]?=some s)(hl:ss[l]?=some t)(hi:i<c.n)(hj:j<c.n)(h1:at_ c s i<=x)(h2:x<at_ c s i+c.size)(h3:at_ c t j<=x)(h4:x<at_ c t j+c.size):k=l/\s=t/\i=j:=by
 have b:=Hc h.pos hi h1 h2;have a:=Hc h.pos hj h3 h4;have e:=h.wT hk hl b.1 b.2 a.1 a.2;subst e;rw[hk]at hl;cases hl;refine⟨rfl,rfl,?_⟩;unfold at_ at *;have d:=h.pos;rcases qD i j with hl|hl|hl
 ·have:(i+1)*c.size<=j*c.size:=lS _ hl;rw[zl]at this;omega
 ·exact hl
 ·have:(j+1)*c.size<=i*c.size:=lS _ hl;rw[zl]at this;omega
theorem C5 (h:dI c ss){s:cI}(hs:s∈ss){x:Int}{i:Nat}(hi:idx c s x=some i):i<c.n/\((s.st*256:Nat):Int)<=x/\x<(((s.st+c.aF)*256:Nat):Int)/\((at_ c s i:Nat):Int)<=x/\x<((at_ c s i+c.size:Nat):Int):=by
 obtain⟨d,b,a⟩:=(Uh h.pos).1 hi;rw[h.tk s hs]at a;have:=Mf h.pos (s:=s) a;have e:at_ c s (i+1)=at_ c s i+c.size:=by unfold at_;rw[zl];omega
 rw[e]at b;omega
theorem Fk (h:dI c ss){k:Nat}{s:cI}{x:Int}{i:Nat}(hs:ss[k]?=some s)(hi:idx c s x=some i):lr c ss x=some k:=by
 obtain⟨r,g⟩:=cS.1 hs;refine pj.2 ⟨r,by rw[g,hi];rfl,λj m p=>?_⟩;have d:j<ss.length:=by omega
 obtain⟨u,e⟩:=pN.1 p;have a:=C5 h (zE hs) hi;have b:=C5 h (zd d) e;have:=h.uD (cL d) hs m;omega
theorem EX (h:dI c ss){x:Int}{b:Bool}:eB c ss x=some b↔∃(k:Nat) (s:cI) (i:Nat),ss[k]?=some s/\i<c.n/\x=((at_ c s i:Nat):Int)/\s.is i=b:=by
 constructor
 ·intro hx;obtain⟨k,s,i,_,a,d,e⟩:=yK hx;obtain⟨m,j⟩:=(UT h.pos).1 d;rw[h.tk s (zE a)]at j;exact⟨k,s,i,a,j,m,e⟩
 ·rintro⟨k,s,i,a,hi,rfl,e⟩;have p:=h.tk s (zE a);have d:obj c s ((at_ c s i:Nat):Int)=some i:=(UT h.pos).2 ⟨rfl,O⟩;have g:idx c s ((at_ c s i:Nat):Int)=some i:=(Uh h.pos).2 ⟨rp _,by have:=h.pos;unfold at_;rw[zl];omega,O⟩;rw[V0 (Fk h a g) a,d,←e];rfl
theorem VT (h:dI c ss){x:Int}:Tk c ss x↔∃(k:Nat) (s:cI) (i:Nat),ss[k]?=some s/\i<c.n/\x=((at_ c s i:Nat):Int)/\s.is i=true:=EX h
theorem IK (h:dI c ss){x:Int}{a:Nat}:r7 c ss x=some a↔∃(k:Nat) (s:cI) (i:Nat),ss[k]?=some s/\i<c.n/\a=at_ c s i/\((at_ c s i:Nat):Int)<=x/\x<((at_ c s i+c.size:Nat):Int):=by
 constructor
 ·intro hf;cases ho:lr c ss x with
  | none=>rw[LB ho]at hf;cases hf
  | some k=>
   have j:=(pj.1 ho).1;have b:ss[k]?=some ss[k]:=cL j;rw[Gm ho b]at hf;obtain⟨i,g,rfl⟩:=qQ.1 hf;have:=C5 h (zE b) g;exact⟨k,_,i,b,this.1,rfl,this.2.2.2.1,this.2.2.2.2⟩
 ·rintro⟨k,s,i,b,g,rfl,h1,h2⟩;have m:=h.tk s (zE b);have e:at_ c s (i+1)=at_ c s i+c.size:=by unfold at_;rw[zl];omega
  have d:idx c s x=some i:=(Uh h.pos).2 ⟨h1,by rw[e];exact h2,O⟩;rw[Gm (Fk h b d) b,d];rfl
theorem dI.put (h:dI c ss){k i:Nat}{s:cI}(hs:ss[k]?=some s)(v:Bool):dI c (ss.set k (s.put i v)):=by
 have r:=(cS.1 hs).1;refine⟨h.ok,λt p=>?_,?_⟩
 ·rcases wQ p with p|rfl
  ·exact h.tk t p
  ·rw[show(s.put i v).tk.length=s.tk.length by simp[cI.put]];exact h.tk s (zE hs)
 ·rw[zy];intro a b ha hb hab;have m:a<ss.length:=by simpa using ha
  have g:b<ss.length:=by simpa using hb
  have d:∀j (hj:j<(ss.set k (s.put i v)).length) (hj':j<ss.length),(ss.set k (s.put i v))[j].st=ss[j].st:=by
   intro j hj hj';rw[List.getElem_set];split
   ·rename_i e;subst e;have:ss[k]=s:=(cS.1 hs).2;rw[this];rfl
   ·rfl
  rw[d a ha m,d b hb g];exact zy.1 h.sJ a b m g hab
theorem LO {k i:Nat}{s:cI}(hs:ss[k]?=some s)(v:Bool):(ss.set k (s.put i v)).map (·.st)=ss.map (·.st):=by
 apply zp;intro j;simp only[ze];by_cases hjk:j=k
 ·subst hjk;rw[zM (cS.1 hs).1,hs];rfl
 ·rw[zj (Ne.symm hjk)]
theorem Dd {s:cI}{i j:Nat}{v:Bool}(hi:i<s.tk.length):(s.put i v).is j=if j=i then v else s.is j:=by
 unfold cI.is cI.put;simp only[zN];by_cases hj:j=i
 ·subst hj;rw[zM hi,zB rfl];rfl
 ·rw[zj (Ne.symm hj),zA hj]
theorem I4 (h:dI c ss){k i:Nat}{s:cI}(hs:ss[k]?=some s)(hi:i<c.n)(v:Bool){y:Int}:Tk c (ss.set k (s.put i v)) y↔(y=((at_ c s i:Nat):Int)/\v=true)\/(y≠((at_ c s i:Nat):Int)/\Tk c ss y):=by
 have b:=(cS.1 hs).1;have m:=h.tk s (zE hs);have g:=h.pos;rw[VT (h.put hs v),VT h];constructor
 ·rintro⟨l,t,j,ht,hj,rfl,hb⟩;by_cases hlk:l=k
  ·subst hlk;rw[zM b]at ht;cases ht;rw[Dd O]at hb;by_cases a:j=i
   ·subst a;rw[zB rfl]at hb;exact .inl ⟨rfl,hb⟩
   ·rw[zA a]at hb;refine .inr ⟨λe=>a ?_,l,s,j,hs,hj,rfl,hb⟩;have d:at_ c s j=at_ c s i:=by have:=Int.ofNat.inj e;exact this
    exact(Uw h hs hs hj hi (zC _) O O O).2.2
  ·rw[zj (Ne.symm hlk)]at ht;refine .inr ⟨λe=>hlk ?_,l,t,j,ht,hj,rfl,hb⟩;have d:at_ c t j=at_ c s i:=Int.ofNat.inj e;exact(Uw h ht hs hj hi (zC _) O O O).1
 ·rintro(⟨rfl,rfl⟩|⟨hne,l,t,j,ht,hj,rfl,hb⟩)
  ·exact⟨k,s.put i true,i,zM b,hi,rfl,by rw[Dd O,zB rfl]⟩
  ·by_cases hlk:l=k
   ·subst hlk;rw[hs]at ht;cases ht;have a:j≠i:=λe=>hne (by rw[e]);exact⟨l,s.put i v,j,zM b,hj,rfl,by rw[Dd O,zA a];exact hb⟩
   ·exact⟨l,t,j,(zj (Ne.symm hlk)).trans ht,hj,rfl,hb⟩
theorem Jq {p:Nat}:sB c ss p↔∃x∈ss.map (·.st),x<=p/\p<x+c.aF:=by
 constructor
 ·rintro⟨s,a,h⟩;exact⟨_,zD.2 ⟨s,a,rfl⟩,h⟩
 ·rintro⟨x,hx,h⟩;obtain⟨s,a,rfl⟩:=zD.1 hx;exact⟨s,a,h⟩
theorem WoR {ss':List cI}(e:ss'.map (·.st)=ss.map (·.st)){p:Nat}:sB c ss' p↔sB c ss p:=by rw[Jq,Jq,e]
theorem ζ (h:dI c ss){x:Nat}{ss':List cI}(ho:jm c ss=some (x,ss')):dI c ss'/\ss'.map (·.st)=ss.map (·.st)/\¬Tk c ss (x:Int)/\∀y,Tk c ss' y↔y=(x:Int)\/Tk c ss y:=by
 unfold jm at ho;split at ho
 ·rename_i k hk;obtain⟨_,s,g,m⟩:=QZ hk;rw[g]at ho;simp only at ho;split at ho
  ·rename_i i hi;cases ho;obtain⟨r,w,p,u⟩:=Ak m;rw[hi]at w;cases w;have j:i<c.n:=by rw[←h.tk s (zE g)];exact p
   have a:¬Tk c ss ((at_ c s i:Nat):Int):=λd=>by
    have z:=(EX h (x:=((at_ c s i:Nat):Int)) (b:=false)).2 ⟨k,s,i,g,j,rfl,u⟩;unfold Tk at d;rw[z]at d;cases d
   refine⟨h.put g true,LO g true,a,λy=>?_⟩;rw[I4 h g j];constructor
   ·rintro(⟨e,_⟩|⟨_,d⟩)
    ·exact .inl e
    ·exact .inr d
   ·rintro(e|d)
    ·exact .inl ⟨e,rfl⟩
    ·exact .inr ⟨λe=>a (e▸d),d⟩
  ·cases ho
 ·cases ho
theorem GC:∀(m:Nat) {ss:List cI},dI c ss->dI c (Ke c m ss).2/\(Ke c m ss).2.map (·.st)=ss.map (·.st)/\(Ke c m ss).1.length<=m/\(Ke c m ss).1.Nodup/\(∀x∈(Ke c m ss).1,¬Tk c ss (x:Int))/\∀y,Tk c (Ke c m ss).2 y↔(∃x∈(Ke c m ss).1,y=((x:Nat):Int))\/Tk c ss y
 | 0,ss,h=>⟨h,rfl,zC _,rz,by simp[Ke],by simp[Ke]⟩
 | m+1,ss,h=>by
  cases ho:jm c ss with
  | none=>
   have e:Ke c (m+1) ss=([],ss):=by simp[Ke,ho]
   rw[e];exact⟨h,rfl,by simp,rz,by simp,by simp⟩
  | some r=>
   obtain⟨x,g⟩:=r;rw[GB ho];obtain⟨i,p,A,a⟩:=ζ h ho;obtain⟨u,s,B,j,b,d⟩:=GC m i;refine⟨u,s.trans p,by simp;omega,zo.2 ⟨λw=>b x w ((a _).2 (.inl rfl)),j⟩,?_,λy=>?_⟩
   ·intro y hy;rcases zT.1 hy with rfl|hy
    ·exact A
    ·exact λz=>b y hy ((a _).2 (.inr z))
   ·rw[d,a];simp only[zT,exists_eq_or_imp];constructor
    ·rintro(h|h|h)
     ·exact .inl (.inr h)
     ·exact .inl (.inl h)
     ·exact .inr h
    ·rintro((h|h)|h)
     ·exact .inr (.inl h)
     ·exact .inl h
     ·exact .inr (.inr h)
theorem JK:∀(xs:List Int) {ss:List cI},dI c ss->k6 c ss xs->dI c (xs.foldl (fK c) ss)/\(xs.foldl (fK c) ss).map (·.st)=ss.map (·.st)/\∀y,Tk c (xs.foldl (fK c) ss) y↔Tk c ss y/\y∉xs
 | [],ss,h,_=>⟨h,rfl,by simp⟩
 | x::xs,ss,h,hA=>by
  have hx:=hA.1 x aA;obtain⟨k,s,i,w,d,j,_⟩:=yK hx;obtain⟨b,a⟩:=(UT h.pos).1 j;rw[h.tk s (zE d)]at a;have e:=ym w d j;have u:=h.put d false (i:=i);have g:=hA.next h.pos;obtain⟨r,p,m⟩:=JK xs (ss:=fK c ss x) (by rw[e];exact u) g;rw[lC];refine⟨r,p.trans (by rw[e];exact LO d false),λy=>?_⟩;rw[m,e,I4 h d a,←b];simp only[zc,and_false,false_or,zT,not_or];constructor
  ·rintro⟨⟨b,a⟩,h3⟩;exact⟨a,b,h3⟩
  ·rintro⟨a,b,h3⟩;exact⟨⟨b,a⟩,h3⟩
theorem LN {s:cI}(h0:s.many=0)(i:Nat):s.is i=false:=by
 unfold cI.many at h0;rw[xm]at h0;unfold cI.is;rw[zN];cases hi:s.tk[i]? with
 | none=>rfl
 | some b=>
  cases b
  ·rfl
  ·exact absurd (zE hi) h0
theorem dI.cK (h:dI c ss):dI c (Go.Ar.cK ss):=⟨h.ok,λs a=>h.tk s (zH.1 a).1,h.sJ.filter _⟩
theorem FG (h:dI c ss){y:Int}:Tk c (cK ss) y↔Tk c ss y:=by
 rw[VT h.cK,VT h];constructor
 ·rintro⟨k,s,i,hs,hi,rfl,hb⟩;obtain⟨l,a⟩:=zL (zH.1 (zE hs)).1;exact⟨l,s,i,a,hi,rfl,hb⟩
 ·rintro⟨k,s,i,hs,hi,rfl,hb⟩;have:s∈cK ss:=zH.2 ⟨zE hs,by
   have:s.many≠0:=λb=>by rw[LN b i]at hb;cases hb
   simpa using this⟩
  obtain⟨l,a⟩:=zL this;exact⟨l,s,i,a,hi,rfl,hb⟩
theorem BN {x:Nat}:x∈Qc ss↔∃s∈ss,s.many=0/\s.st=x:=by
 unfold Qc;simp only[zD,zH,zZ,and_assoc]
theorem Jr (h:dI c ss){p:Nat}:sB c (cK ss) p↔sB c ss p/\¬∃x∈Qc ss,x<=p/\p<x+c.aF:=by
 constructor
 ·rintro⟨s,hs,h1,h2⟩;have d:=zH.1 hs;refine⟨⟨s,d.1,h1,h2⟩,?_⟩;rintro⟨x,hx,h3,h4⟩;obtain⟨t,m,a,rfl⟩:=BN.1 hx;obtain⟨i,g⟩:=zL d.1;obtain⟨j,b⟩:=zL m;have e:=h.wT g b h1 h2 h3 h4;subst e;rw[g]at b;cases b;simp[a]at d
 ·rintro⟨⟨s,hs,h1,h2⟩,hn⟩;refine⟨s,zH.2 ⟨hs,?_⟩,h1,h2⟩;have:s.many≠0:=λa=>hn ⟨s.st,BN.2 ⟨s,hs,a,rfl⟩,h1,h2⟩;simpa using this
theorem Wjg (h:dI c ss):(Qc ss).Pairwise λa b=>a+c.aF<=b:=by
 unfold Qc;rw[rK];exact h.sJ.filter _
theorem VK {st:Nat}{t:cI}:t∈iC c ss st↔t=⟨st,List.replicate c.n false⟩\/t∈ss:=by
 unfold iC;rw[zP,zT];have:t∈ss↔t∈ss.takeWhile (λs=>decide (s.st<st))\/t∈ss.dropWhile (λs=>decide (s.st<st)):=by
  rw[←zP,BA]
 rw[this];constructor
 ·rintro(h|h|h)
  ·exact .inr (.inl h)
  ·exact .inl h
  ·exact .inr (.inr h)
 ·rintro(h|h|h)
  ·exact .inr (.inl h)
  ·exact .inl h
  ·exact .inr (.inr h)
theorem Jw (h:dI c ss){st:Nat}(hd:∀s∈ss,s.st+c.aF<=st\/st+c.aF<=s.st):dI c (iC c ss st):=by
 refine⟨h.ok,λs m=>?_,?_⟩
 ·rcases VK.1 m with rfl|m
  ·simp
  ·exact h.tk s m
 ·have g:=GH h.lp st;have r:=h.pg;rw[xk];refine oe.2 ⟨h.sJ.sublist (Dl _ _),mA.2 ⟨λb e=>?_,h.sJ.sublist (DR _ _)⟩,λa u b e=>?_⟩
  ·obtain⟨i,d⟩:=zL e;rw[zn]at d;have:=g.2 _ _ d;rcases hd b (qZ e)with h1|h1
   ·omega
   ·exact h1
  ·obtain⟨i,d⟩:=zL u;rw[zY]at d;split at d
   ·rename_i hlt;rcases zT.1 e with rfl|e
    ·have:=(g.2 _ _ d).2 hlt;rcases hd a (zE d)with h1|h1
     ·exact h1
     ·omega
    ·obtain⟨j,p⟩:=zL e;rw[zn]at p;exact h.uD d p O
   ·cases d
theorem FV (h:dI c ss){st:Nat}(hd:∀s∈ss,s.st+c.aF<=st\/st+c.aF<=s.st){y:Int}:Tk c (iC c ss st) y↔Tk c ss y:=by
 rw[VT (Jw h hd),VT h];constructor
 ·rintro⟨k,s,i,hs,hi,rfl,hb⟩;rcases VK.1 (zE hs)with rfl|hm
  ·have:(⟨st,List.replicate c.n false⟩:cI).is i=false:=LN (by simp[cI.many,AJ]) i;rw[this]at hb;cases hb
  ·obtain⟨l,a⟩:=zL hm;exact⟨l,s,i,a,hi,rfl,hb⟩
 ·rintro⟨k,s,i,hs,hi,rfl,hb⟩;obtain⟨l,a⟩:=zL (VK.2 (.inr (zE hs)):s∈iC c ss st);exact⟨l,s,i,a,hi,rfl,hb⟩
theorem φ {st:Nat}(hd:∀s∈ss,s.st+c.aF<=st\/st+c.aF<=s.st):pa c ss st=0:=by
 unfold pa;rw[zA];simp only[zq,zR,not_exists,not_and];intro s hs hlt;rcases hd s hs with h|h<;>omega
end Go.Ar
namespace Go.Ar
open Go.Bu (Zi QR kc Zz qM iE Vu Uc dK take Kr Kq Bounded)
def gf (st:List Nat)(p:Nat):Nat:=st.getD p 0
def AR.f (A:AR)(p:Nat):Nat:=gf A.st p
def gH (rs:List (Nat×Nat))(p:Nat):Prop:=∃r∈rs,r.1<=p/\p<r.1+r.2
theorem Er {st:List Nat}{p:Nat}(h:gf st p≠0):p<st.length:=by
 apply Classical.byContradiction;intro hn;exact h (by unfold gf;rw[zN,zX O];rfl)
theorem HD {st:List Nat}{a b v p:Nat}(hb:b<=st.length):gf (fZ st a b v) p=if a<=p/\p<b then v else gf st p:=by
 unfold gf;rw[zN,zN,Hs];by_cases hp:p<st.length
 ·rw[cL hp];simp only[zh,px]
 ·rw[zX O,zA O];rfl
theorem Vs {n a m:Nat}:Zi n (a:Int) (m:Int)=true↔1<=m/\a+m<=n:=by
 simp only[Zi,zF,zR];omega
theorem LZ {st:List Nat}{a m:Nat}{fr:List Nat}(hl:a+m<=st.length):vX st a m fr=true↔∀p,a<=p->p<a+m->gf st p∈fr:=by
 unfold vX;rw[kR];constructor
 ·intro h p h1 h2;have d:p<st.length:=by omega
  have:st[p]∈(st.drop a).take m:=by
   refine zE (i:=p-a) ?_;rw[zY,zB O,zn,show a+(p-a)=p by omega,cL d]
  have:=h _ this;unfold gf;rw[zN,cL d];simpa using this
 ·intro h x hx;obtain⟨i,b⟩:=zL hx;rw[zY]at b;split at b
  ·rename_i hlt;rw[zn]at b;have:=h (a+i) O O;unfold gf at this;rw[zN,b]at this;simpa using this
  ·cases b
theorem Dk {st:List Nat}{a m v:Nat}{fr:List Nat}(h1:1<=m)(hl:a+m<=st.length)(h:∀p,a<=p->p<a+m->gf st p∈fr):VX st (a:Int) (m:Int) v fr=fZ st a (a+m) v:=by
 unfold VX G9;rw[zB (Vs.2 ⟨h1,hl⟩),dC,dC,(LZ hl).2 h];rfl
theorem NM {st:List Nat}{a m v:Nat}(hl:a+m<=st.length):yA st a m v=false↔∀p,a<=p->p<a+m->gf st p≠v:=by
 have:=LZ (fr:=[v]) hl;unfold yA;constructor
 ·intro h p h1 h2 e;have d:p<st.length:=by omega
  have g:st[p]∈(st.drop a).take m:=by
   refine zE (i:=p-a) ?_;rw[zY,zB O,zn,show a+(p-a)=p by omega,cL d]
  have j:st[p]=v:=by
   unfold gf at e;rw[zN,cL d]at e;exact e
  rw[j]at g;rw[tL.2 g]at h;cases h
 ·intro h;apply mn.2;intro hc;obtain⟨i,b⟩:=zL (tL.1 hc);rw[zY]at b;split at b
  ·rename_i hlt;rw[zn]at b;refine h (a+i) O O ?_;unfold gf;rw[zN,b];rfl
  ·cases b
structure PG (A:AR):Prop where
 len:A.st.length=A.n
 n1:32<=A.n
 n2:A.n<=1024
 n16:A.n%16=0
 le:∀p,A.f p<=3
 us:∀p,A.f p=1↔A.ow p≠0
 fr:∀p,A.S p=true↔2<=A.f p
 hp:∀p,A.f p=0↔A.f (p/16*16)=0
theorem PG.lt {A:AR}(h:PG A){p:Nat}(hp:A.f p≠0):p<A.n:=h.len▸Er hp
theorem PG.jK {A:AR}(h:PG A):Bounded A.S A.n:=λp a=>h.lt (by have:=(h.fr p).1 a;omega)
theorem PG.jZ {A:AR}(h:PG A){p q:Nat}(e:p/16=q/16):A.f p=0↔A.f q=0:=by rw[h.hp p,h.hp q,e]
theorem PG.same {A B:AR}(h:PG A)(e1:B.n=A.n)(e2:B.st=A.st)(e3:B.S=A.S)(e4:B.ow=A.ow):PG B:=by
 have a:∀p,B.f p=A.f p:=λp=>by unfold AR.f;rw[e2]
 exact⟨by rw[e2,e1];exact h.len,by rw[e1];exact h.n1,by rw[e1];exact h.n2,by rw[e1];exact h.n16,λp=>by rw[a];exact h.le p,λp=>by rw[a,e4];exact h.us p,λp=>by rw[a,e3];exact h.fr p,λp=>by rw[a,a];exact h.hp p⟩
theorem J9 {ow:Nat->Nat}{a m no:Nat}(h1:1<=m)(h2:a+m<=1024)(p:Nat):kg ow a m no p=if a<=p/\p<a+m then no else ow p:=by
 unfold kg;rw[zB (Vs.2 ⟨h1,h2⟩)]
theorem FN {n:Nat}{S:Nat->Bool}{a m:Nat}(h1:1<=m)(h2:a+m<=n)(h:∀p,a<=p->p<a+m->S p=false):QR n S (a:Int) (m:Int)=dK S a (a+m):=by
 unfold QR;rw[Vs.2 ⟨h1,h2⟩,dC,dC,Vu.2 h];rfl
theorem WmP {n:Nat}{S:Nat->Bool}{a m:Nat}(h1:1<=m)(h2:a+m<=n)(h:∀p,a<=p->p<a+m->S p=true):kc n S (a:Int) (m:Int)=take S a (a+m):=by
 unfold kc;rw[Vs.2 ⟨h1,h2⟩,dC,dC,Uc.2 h];rfl
structure Out (A B:AR) (a b:Nat):Prop where
 n:B.n=A.n
 len:B.st.length=A.st.length
 f:∀p,¬(a<=p/\p<b)->B.f p=A.f p
 ow:∀p,¬(a<=p/\p<b)->B.ow p=A.ow p
 S:∀p,¬(a<=p/\p<b)->B.S p=A.S p
theorem Out.pg {A B:AR}{a b v:Nat}(o:Out A B a b)(h:PG A)(hv:v<=3)(hf:∀p,a<=p->p<b->B.f p=v)(hw:∀p,a<=p->p<b->(v=1↔B.ow p≠0))(hS:∀p,a<=p->p<b->(B.S p=true↔2<=v))
 (hz:∀p,B.f p=0↔B.f (p/16*16)=0):PG B:=by
 refine⟨by rw[o.len,o.n];exact h.len,by rw[o.n];exact h.n1,by rw[o.n];exact h.n2,by rw[o.n];exact h.n16,λp=>?_,λp=>?_,λp=>?_,hz⟩
 ·by_cases hp:a<=p/\p<b
  ·rw[hf p hp.1 hp.2];exact hv
  ·rw[o.f p hp];exact h.le p
 ·by_cases hp:a<=p/\p<b
  ·rw[hf p hp.1 hp.2];exact hw p hp.1 hp.2
  ·rw[o.f p hp,o.ow p hp];exact h.us p
 ·by_cases hp:a<=p/\p<b
  ·rw[hf p hp.1 hp.2];exact hS p hp.1 hp.2
  ·rw[o.f p hp,o.S p hp];exact h.fr p
theorem Out.zero {A B:AR}{a b v:Nat}(o:Out A B a b)(h:PG A)(hf:∀p,a<=p->p<b->B.f p=v)(hv:v≠0)(hA:∀p,a<=p->p<b->A.f p≠0):∀p,B.f p=0↔A.f p=0:=by
 intro p;by_cases hp:a<=p/\p<b
 ·rw[hf p hp.1 hp.2];exact⟨λe=>(hv e).elim,λe=>(hA p hp.1 hp.2 e).elim⟩
 ·rw[o.f p hp]
theorem CO {A B:AR}(h:PG A)(e:∀p,B.f p=0↔A.f p=0):∀p,B.f p=0↔B.f (p/16*16)=0:=λp=>by rw[e,e];exact h.hp p
theorem Ls {A:AR}(h:PG A){a m:Nat}(h1:1<=m)(hu:∀p,a<=p->p<a+m->A.f p=1):Out A (Ui A (a,m)) a (a+m)/\(∀p,a<=p->p<a+m->(Ui A (a,m)).f p=2/\(Ui A (a,m)).ow p=0)/\PG (Ui A (a,m))/\∀p,(Ui A (a,m)).f p=0↔A.f p=0:=by
 have i:a+m<=A.n:=by have:=h.lt (p:=a+m-1) (by rw[hu _ O O];omega);omega
 have y:=h.n2;have x:(Ui A (a,m)).st=fZ A.st a (a+m) 2:=Dk h1 (by rw[h.len];exact i) λp d b=>by
  have:=hu p d b;unfold AR.f at this;rw[this];simp
 have r:(Ui A (a,m)).S=dK A.S a (a+m):=FN h1 i λp d b=>by
  apply mn.2;intro hS;have:=(h.fr p).1 hS;have:=hu p d b;omega
 have j:∀p,(Ui A (a,m)).ow p=if a<=p/\p<a+m then 0 else A.ow p:=λp=>J9 h1 O p
 have w:∀p,(Ui A (a,m)).f p=if a<=p/\p<a+m then 2 else A.f p:=λp=>by unfold AR.f;rw[x,HD (by rw[h.len];exact i)]
 have o:Out A (Ui A (a,m)) a (a+m):=⟨rfl,by rw[x,Qr],λp e=>by rw[w,zA e],λp e=>by rw[j,zA e],λp e=>by
  rw[r];unfold dK;have:(decide (a<=p)&&decide (p<a+m))=false:=by simp;omega
  rw[this,xU]⟩
 have g:∀p,a<=p->p<a+m->(Ui A (a,m)).f p=2:=λp d b=>by rw[w,zB ⟨d,b⟩]
 have s:∀p,a<=p->p<a+m->(Ui A (a,m)).ow p=0:=λp d b=>by rw[j,zB ⟨d,b⟩]
 have u:=o.zero h g O λp d b=>by rw[hu p d b];omega
 refine⟨o,λp d b=>⟨g p d b,s p d b⟩,o.pg h O g (λp d b=>by rw[s p d b];simp) (λp d b=>?_) (CO h u),u⟩;rw[r,Kr];exact⟨λ_=>zC _,λ_=>.inr ⟨d,b⟩⟩
structure sE (A B:AR) (rs:List (Nat×Nat)):Prop where
 pg:PG B
 n:B.n=A.n
 tb:B.tb=A.tb
 room:B.room=A.room
 cE:B.cE=A.cE
 cC:B.cC=A.cC
 runs:B.runs=A.runs
 i:∀p,gH rs p->B.f p=2/\B.ow p=0
 o:∀p,¬gH rs p->B.f p=A.f p/\B.ow p=A.ow p
 z:∀p,B.f p=0↔A.f p=0
theorem La:∀(rs:List (Nat×Nat)) {A:AR},PG A->(∀r∈rs,1<=r.2)->(∀r∈rs,∀p,r.1<=p->p<r.1+r.2->A.f p=1)->rs.Pairwise (λa b=>a.1+a.2<=b.1\/b.1+b.2<=a.1)->sE A (VW A rs) rs
 | [],A,h,_,_,_=>⟨h,rfl,rfl,rfl,rfl,rfl,rfl,λp ⟨r,hr,_⟩=>by simp at hr,λp _=>⟨rfl,rfl⟩,λp=>Iff.rfl⟩
 | (a,m)::rs,A,h,hp,hu,hd=>by
  have hd':=mA.1 hd;obtain⟨o,B,w,C⟩:=Ls h (hp _ (lB ..)) (hu _ (lB ..));have d:=La rs w (λr hr=>hp r (lz _ hr)) (λr hr p u s=>by
   have:=hd'.1 r hr;simp only at this;rw[o.f p O];exact hu r (lz _ hr) p u s) hd'.2
  have e:VW A ((a,m)::rs)=VW (Ui A (a,m)) rs:=rfl;rw[e];refine⟨d.pg,d.n,d.tb,d.room,d.cE,d.cC,d.runs,λp g=>?_,λp g=>?_,λp=>(d.z p).trans (C p)⟩
  ·by_cases j:gH rs p
   ·exact d.i p j
   ·have:=d.o p j;obtain⟨r,hr,u,s⟩:=g;rcases zT.1 hr with rfl|hr
    ·rw[this.1,this.2];exact B p u s
    ·exact(j ⟨r,hr,u,s⟩).elim
  ·have j:¬gH rs p:=λ⟨r,hr,x⟩=>g ⟨r,lz _ hr,x⟩;have y:¬(a<=p/\p<a+m):=λx=>g ⟨(a,m),lB ..,x⟩;have:=d.o p j;exact⟨this.1.trans (o.f p y),this.2.trans (o.ow p y)⟩
theorem EP {A:AR}(h:PG A){a m no:Nat}(h1:1<=m)(hn:no≠0)(hS:∀p,a<=p->p<a+m->A.S p=true):Out A (dT A a m no) a (a+m)/\(∀p,a<=p->p<a+m->(dT A a m no).f p=1/\(dT A a m no).ow p=no)/\PG (dT A a m no)/\∀p,(dT A a m no).f p=0↔A.f p=0:=by
 have i:∀p,a<=p->p<a+m->2<=A.f p:=λp d b=>(h.fr p).1 (hS p d b);have w:a+m<=A.n:=by have:=h.lt (p:=a+m-1) (by have:=i (a+m-1) O O;omega);omega
 have z:=h.n2;have x:(dT A a m no).st=fZ A.st a (a+m) 1:=Dk h1 (by rw[h.len];exact w) λp d b=>by
  have y:=i p d b;have B:=h.le p;unfold AR.f at y B;have:gf A.st p=2\/gf A.st p=3:=by omega
  simpa using this
 have j:∀p,(dT A a m no).ow p=if a<=p/\p<a+m then no else A.ow p:=λp=>J9 h1 O p
 have u:∀p,(dT A a m no).f p=if a<=p/\p<a+m then 1 else A.f p:=λp=>by unfold AR.f;rw[x,HD (by rw[h.len];exact w)]
 have o:Out A (dT A a m no) a (a+m):=⟨rfl,by rw[x,Qr],λp e=>by rw[u,zA e],λp e=>by rw[j,zA e],λp e=>by
  show take A.S a (a+m) p=A.S p;unfold take;have:(decide (a<=p)&&decide (p<a+m))=false:=by simp;omega
  rw[this];simp⟩
 have g:∀p,a<=p->p<a+m->(dT A a m no).f p=1:=λp d b=>by rw[u,zB ⟨d,b⟩]
 have r:∀p,a<=p->p<a+m->(dT A a m no).ow p=no:=λp d b=>by rw[j,zB ⟨d,b⟩]
 have s:=o.zero h g O λp d b=>by have:=i p d b;omega
 refine⟨o,λp d b=>⟨g p d b,r p d b⟩,o.pg h O g (λp d b=>by rw[r p d b];simp[hn]) (λp d b=>?_) (CO h s),s⟩;show take A.S a (a+m) p=true↔_;rw[Kq];constructor
 ·rintro⟨_,hx⟩;exact(hx ⟨d,b⟩).elim
 ·intro hx;omega
theorem JM:∀(m:Nat) {st:List Nat} {a:Nat},(a+m)*16<=st.length->(∀p,a*16<=p->p<(a+m)*16->gf st p=0)->(UY st a m).length=st.length/\∀p,gf (UY st a m) p=if a*16<=p/\p<(a+m)*16 then 3 else gf st p
 | 0,st,a,hl,hz=>⟨rfl,λp=>by rw[zA O];rfl⟩
 | m+1,st,a,hl,hz=>by
  obtain⟨i1,i2⟩:=JM m (st:=st) (a:=a) O λp d g=>hz p d O;rw[L6];have b:gf (UY st a m) (16*(a+m))=0:=by rw[i2,zA O];exact hz _ O O
  have ok:lh (UY st a m) ((a+m:Nat):Int)=0:=by
   unfold lh;rw[UU (by rw[i1];omega),zB rfl,dC];unfold gf at b;rw[zB b]
  have e:jn (UY st a m) ((a+m:Nat):Int)=fZ (UY st a m) (16*(a+m)) (16*(a+m)+16) 3:=by
   unfold jn;rw[zB ok,dC]
  rw[e];refine⟨by rw[Qr,i1],λp=>?_⟩;rw[HD (by rw[i1];omega),i2];by_cases h1:16*(a+m)<=p/\p<16*(a+m)+16
  ·rw[zB h1,zB O]
  ·rw[zA h1];by_cases h2:a*16<=p/\p<(a+m)*16
   ·rw[zB h2,zB O]
   ·rw[zA h2,zA O]
theorem Db {sp:Sp}{s m:Nat}(h:fI sp (s:Int) (m:Int)=0):1<=m/\s+m<=sp.st.length/\∀p,s<=p->p<s+m->gf sp.st p=0:=by
 unfold fI at h;split at h
 ·rename_i hr;obtain⟨b,d⟩:=Vs.1 hr;rw[dC,dC]at h;split at h
  ·cases h
  ·rename_i hn;refine⟨b,d,λp j g=>?_⟩;have a:p<sp.st.length:=by omega
   have e:sp.st[p]∈(sp.st.drop s).take m:=by
    refine zE (i:=p-s) ?_;rw[zY,zB O,zn,show s+(p-s)=p by omega,cL a]
   simp only[zq,not_exists,not_and]at hn;have:=hn _ e;unfold gf;rw[zN,cL a];simpa using this
 ·cases h
structure Grown (A B:AR) (sp sp':Sp) (s size:Nat):Prop where
 pg:PG B
 n:B.n=A.n
 tb:B.tb=A.tb
 room:B.room=A.room
 cE:B.cE=A.cE
 cC:B.cC=A.cC
 runs:B.runs=A.runs
 ow:B.ow=A.ow
 s16:s%16=0
 s1:16<=s
 sl:s+size<=A.n
 un:∀p,s<=p->p<s+size->gf sp.st p=0
 i:∀p,s<=p->p<s+size->B.f p=3/\gf sp'.st p=1
 o:∀p,¬(s<=p/\p<s+size)->B.f p=A.f p/\gf sp'.st p=gf sp.st p
 w:∀x,¬(s*32<=x/\x<(s+size)*32)->sp'.wd x=sp.wd x
 l:sp'.st.length=sp.st.length
 pk:sp'.pk=sp.pk
theorem U2 {sp:Sp}{size s:Nat}(h1:1<=size)(h:cY sp size=some s):fI sp (s:Int) (size:Int)=0/\s≠0/\(∃j,s=j*size)/\∀j,j*size<s->1<=j->fI sp ((j*size:Nat):Int) (size:Int)≠0:=by
 unfold cY at h;obtain⟨p,us,vs,u,A⟩:=List.find?_eq_some_iff_append.1 h;simp only[zF,bne_iff_ne,ne_eq,zZ]at p;have g:s∈(List.range (sp.st.length/size)).map (· * size):=by rw[u];simp
 obtain⟨j,y,rfl⟩:=zD.1 g;rw[zW]at y;refine⟨p.2,p.1,⟨j,rfl⟩,λi w x=>?_⟩;have z:i<j:=Nat.lt_of_mul_lt_mul_right w;have:i*size∈us:=by
  have e:i*size∈(List.range (sp.st.length/size)).map (· * size):=zD.2 ⟨i,zW.2 O,rfl⟩;have d:((List.range (sp.st.length/size)).map (· * size)).Pairwise (· < ·):=by
   rw[rK];exact List.pairwise_lt_range.imp λ{a b} r=>Nat.mul_lt_mul_of_pos_right r O
  rw[u]at e d;rcases zP.1 e with h|h
  ·exact h
  ·rcases zT.1 h with h|h
   ·have:=wC O h;omega
   ·have:=(mA.1 (oe.1 d).2.1).1 _ h;omega
 have:=A _ this;have m:i*size≠0:=by
  have:=Nat.mul_pos (show 0<i by omega) (show 0<size by omega);omega
 simpa[m]using this
theorem E4 {sp:Sp}{s m:Nat}(h:fI sp (s:Int) (m:Int)=0):(gF sp (s:Int) (m:Int)).st.length=sp.st.length/\(∀p,gf (gF sp (s:Int) (m:Int)).st p=if s<=p/\p<s+m then 1 else gf sp.st p)/\(∀x,¬(s*32<=x/\x<(s+m)*32)->(gF sp (s:Int) (m:Int)).wd x=sp.wd x)/\(gF sp (s:Int) (m:Int)).pk=sp.pk:=by
 obtain⟨d,a,_⟩:=Db h;unfold gF;rw[zB h,dC,dC];refine⟨by simp[Sp.set,Qr],λp=>HD a,λx b=>?_,rfl⟩;show(if s*32<=x/\x<(s+m)*32 then 0 else sp.wd x)=_
 rw[zA b]
theorem SE {A:AR}{sp:Sp}(h:PG A)(hl:sp.st.length=A.n)(hz:∀p,gf sp.st p=0->A.f p=0){size:Nat}(hs:size=16\/size=32\/size=64){B:AR}{sp':Sp}(hg:U0 A sp size=some (B,sp')) :
 ∃s,cY sp size=some s/\Grown A B sp sp' s size:=by
 unfold U0 at hg;split at hg
 ·cases hg
 ·rename_i s hgs;cases hg;obtain⟨C,G,⟨j,M⟩,_⟩:=U2 O hgs;obtain⟨J,x,w⟩:=Db C;have r:s%16=0:=by rcases hs with rfl|rfl|rfl<;>omega
  have z:size%16=0:=by rcases hs with rfl|rfl|rfl<;>omega
  have E:s/16*16=s:=by omega
  have u:(s/16+size/16)*16=s+size:=by omega
  have e:∀p,s<=p->p<s+size->A.f p=0:=λp d b=>hz p (w p d b);obtain⟨H,i⟩:=JM (size/16) (st:=A.st) (a:=s/16) (by rw[u,h.len,←hl];exact x) (by rw[E,u];exact e);rw[E,u]at i;obtain⟨K,D,L,F⟩:=E4 C;have g:s+size<=A.n:=by rw[←hl];exact x
  have y:QR A.n A.S (s:Int) (size:Int)=dK A.S s (s+size):=FN J g λp d b=>by
   apply mn.2;intro hS;have:=(h.fr p).1 hS;have:=e p d b;omega
  refine⟨s,hgs,⟨?_,rfl,rfl,rfl,rfl,rfl,rfl,rfl,r,O,g,w,λp d b=>⟨?_,?_⟩,λp hp=>⟨?_,?_⟩,L,K,F⟩⟩
  ·have o:Out A {A with st:=UY A.st (s/16) (size/16),S:=QR A.n A.S (s:Int) (size:Int)} s (s+size):=⟨rfl,H,λp hp=>by show gf _ p=_;rw[i,zA hp];rfl,λp hp=>rfl,λp hp=>by
    show QR A.n A.S (s:Int) (size:Int) p=A.S p;rw[y];unfold dK;have:(decide (s<=p)&&decide (p<s+size))=false:=by simp;omega
    rw[this,xU]⟩
   have m:∀p,s<=p->p<s+size->AR.f {A with st:=UY A.st (s/16) (size/16),S:=QR A.n A.S (s:Int) (size:Int)} p=3:=λp d b=>by show gf _ p=3;rw[i,zB ⟨d,b⟩]
   refine o.pg h (zC _) m (λp d b=>?_) (λp d b=>?_) λp=>?_
   ·have G:=e p d b;have:=h.us p;constructor
    ·intro hx;omega
    ·intro hx;have:=this.2 hx;omega
   ·show QR A.n A.S (s:Int) (size:Int) p=true↔_;rw[y,Kr];exact⟨λ_=>O,λ_=>.inr ⟨d,b⟩⟩
   ·by_cases hp:s<=p/\p<s+size
    ·rw[m p hp.1 hp.2,m (p/16*16) O O]
    ·rw[o.f p hp,o.f (p/16*16) O];exact h.hp p
  ·show gf (UY A.st (s/16) (size/16)) p=3;rw[i,zB ⟨d,b⟩]
  ·rw[D,zB ⟨d,b⟩]
  ·show gf (UY A.st (s/16) (size/16)) p=A.f p;rw[i,zA hp];rfl
  ·rw[D,zA hp]
end Go.Ar
namespace Go.Ar
open Go.Bu (Zi QR kc Zz qM iE Vu Uc dK take Kr Kq Bounded full can YT VY ZR QX ZX Km Q1 Qh)
def Cl (A:AR)(k:Nat)(c:bX)(ss:List cI):Prop:=A.tb[k]?=some c/\A.cC[k]?=some ss
def fA (A:AR)(k:Nat)(x:Int):Prop:=∃c ss,Cl A k c ss/\Tk c ss x
def ik (A:AR)(k:Nat)(x:Int):Prop:=∃t,A.cE[k]?=some t/\x∈t.bs.flatten
structure GA (A:AR):Prop where
 pg:PG A
 tb:A.tb.length<=40
 lc:A.cC.length=A.tb.length
 lt:A.cE.length=A.tb.length
 cC:∀k c ss,Cl A k c ss->dI c ss
 one:∀k c ss,Cl A k c ss->∀s∈ss,s.st/16=(s.st+c.aF-1)/16
 ow:∀k c ss,Cl A k c ss->∀p,A.ow p=k+1↔sB c ss p
 jv:∀p,A.ow p=41↔gH A.runs p
 pY:∀p,A.ow p=41\/A.ow p<=A.tb.length
 gE:∀r∈A.runs,1<=r.2
 jV:A.runs.Pairwise λa b=>a.1+a.2<=b.1\/b.1+b.2<=a.1
 oZ:∀(k:Nat) (t:fU),A.cE[k]?=some t->t.bs.flatten.Nodup
 l8:∀(k:Nat) c ss (t:fU),Cl A k c ss->A.cE[k]?=some t->∀x∈t.bs.flatten,Tk c ss x
 oM:∀(k:Nat) (c:bX) (t:fU),A.tb[k]?=some c->A.cE[k]?=some t->∀xs∈t.bs,xs.length=c.batch
structure Kp (A B:AR):Prop where
 n:B.n=A.n
 tb:B.tb=A.tb
 room:B.room=A.room
 z:∀p,B.f p=0↔A.f p=0
 t:∀p,B.f p=3->A.f p=3
theorem Kp.refl (A:AR):Kp A A:=⟨rfl,rfl,rfl,λ_=>Iff.rfl,λ_=>id⟩
theorem Kp.trans {A B C:AR}(h:Kp A B)(k:Kp B C):Kp A C:=⟨k.n.trans h.n,k.tb.trans h.tb,k.room.trans h.room,λp=>(k.z p).trans (h.z p),λp a=>h.t p (k.t p a)⟩
theorem Kp.aF {A B:AR}(e1:B.n=A.n)(e2:B.tb=A.tb)(e3:B.room=A.room)(e4:B.st=A.st):Kp A B:=⟨e1,e2,e3,λp=>by unfold AR.f;rw[e4],λp=>by unfold AR.f;rw[e4];exact id⟩
variable {A:AR}{k:Nat}{c:bX}{ss:List cI}
theorem Cl.lt (h:Cl A k c ss):k<A.tb.length:=(cS.1 h.1).1
theorem Cl.eq {c':bX}{ss':List cI}(h:Cl A k c ss)(h':Cl A k c' ss'):c=c'/\ss=ss':=⟨Option.some.inj (h.1.symm.trans h'.1),Option.some.inj (h.2.symm.trans h'.2)⟩
theorem GA.cl (h:GA A){k:Nat}(hk:k<A.tb.length):∃c ss t,Cl A k c ss/\A.cE[k]?=some t:=by
 have b:=h.lc;have a:=h.lt;exact⟨A.tb[k],A.cC[k],A.cE[k],⟨by simp,by simp⟩,by simp⟩
theorem GA.used (h:GA A)(hk:Cl A k c ss){s:cI}(hs:s∈ss){p:Nat}(h1:s.st<=p)(h2:p<s.st+c.aF):A.f p=1/\A.ow p=k+1:=by
 have:=(h.ow k c ss hk p).2 ⟨s,hs,h1,h2⟩;exact⟨(h.pg.us p).2 O,this⟩
theorem GA.jd (h:GA A){r:Nat×Nat}(hr:r∈A.runs){p:Nat}(h1:r.1<=p)(h2:p<r.1+r.2):A.f p=1/\A.ow p=41:=by
 have:=(h.jv p).2 ⟨r,hr,h1,h2⟩;exact⟨(h.pg.us p).2 O,this⟩
theorem GA.ia (h:GA A){r s:Nat×Nat}(hr:r∈A.runs)(hs:s∈A.runs){x:Nat}(h1:r.1<=x)(h2:x<r.1+r.2)(h3:s.1<=x)(h4:x<s.1+s.2):r=s:=by
 obtain⟨i,e⟩:=zL hr;obtain⟨j,d⟩:=zL hs;obtain⟨a,rfl⟩:=cS.1 e;obtain⟨b,rfl⟩:=cS.1 d;rcases qD i j with hl|hl|hl
 ·have:=zy.1 h.jV i j a b hl;omega
 ·subst hl;rfl
 ·have:=zy.1 h.jV j i b a hl;omega
theorem GA.fit (h:GA A){r:Nat×Nat}(hr:r∈A.runs):r.1+r.2<=A.n:=by
 have:=h.gE r hr;have:=h.pg.lt (p:=r.1+r.2-1) (by rw[(h.jd hr (p:=r.1+r.2-1) O O).1];omega);omega
theorem GA.kL (h:GA A):iO A:=by
 have w:=h.pg.n2;refine⟨λr b s j x d g p i=>h.ia b j d g p i,λx m a=>?_,λx m u a=>?_,λr b=>?_⟩
 ·obtain⟨r,b,d,g⟩:=(h.jv x).1 a;unfold sC;rw[BR];exact⟨r,b,by simp[d,g]⟩
 ·rcases h.pY x with e|e
  ·exact(a e).elim
  ·exact e
 ·have:=h.fit b;omega
theorem Ut (hk:Cl A k c ss){ss':List cI}{j:Nat}{d:bX}{tt:List cI}(h:Cl {A with cC:=A.cC.set k ss'} j d tt):(j=k/\d=c/\tt=ss')\/(j≠k/\Cl A j d tt):=by
 obtain⟨b,a⟩:=h;by_cases hjk:j=k
 ·subst hjk;have e:=(cS.1 hk.2).1;simp only[zM e]at a;exact .inl ⟨rfl,Option.some.inj (b.symm.trans hk.1),(Option.some.inj a).symm⟩
 ·simp only[zj (Ne.symm hjk)]at a;exact .inr ⟨hjk,b,a⟩
theorem U5 (hk:Cl A k c ss)(ss':List cI):Cl {A with cC:=A.cC.set k ss'} k c ss':=⟨hk.1,zM (cS.1 hk.2).1⟩
theorem PD {ss':List cI}{j:Nat}{d:bX}{tt:List cI}(hjk:j≠k)(h:Cl A j d tt):Cl {A with cC:=A.cC.set k ss'} j d tt:=⟨h.1,(zj (Ne.symm hjk)).trans h.2⟩
theorem GA.lH (h:GA A)(hk:Cl A k c ss){ss':List cI}(hC:dI c ss')(hst:ss'.map (·.st)=ss.map (·.st))(ht:∀t,A.cE[k]?=some t->∀x∈t.bs.flatten,Tk c ss' x):GA {A with cC:=A.cC.set k ss'}:=by
 refine⟨h.pg.same rfl rfl rfl rfl,h.tb,by simp[h.lc],h.lt,λj d b a=>?_,λj d b a s i=>?_,λj d b a p=>?_,h.jv,h.pY,h.gE,h.jV,h.oZ,λj d b t a g=>?_,h.oM⟩
 ·rcases Ut hk a with⟨rfl,rfl,rfl⟩|⟨hne,a⟩
  ·exact hC
  ·exact h.cC j d b a
 ·rcases Ut hk a with⟨rfl,rfl,rfl⟩|⟨hne,a⟩
  ·have:s.st∈ss.map (·.st):=by rw[←hst];exact zD.2 ⟨s,i,rfl⟩
   obtain⟨t,ht,e⟩:=zD.1 this;rw[←e];exact h.one _ _ _ hk t ht
  ·exact h.one j d b a s i
 ·rcases Ut hk a with⟨rfl,rfl,rfl⟩|⟨hne,a⟩
  ·rw[WoR hst];exact h.ow _ _ _ hk p
  ·exact h.ow j d b a p
 ·rcases Ut hk a with⟨rfl,rfl,rfl⟩|⟨hne,a⟩
  ·exact ht t g
  ·exact h.l8 j d b t a g
theorem Ax (hk:Cl A k c ss){ss':List cI}{j:Nat}{x:Int}:fA {A with cC:=A.cC.set k ss'} j x↔(j=k/\Tk c ss' x)\/(j≠k/\fA A j x):=by
 constructor
 ·rintro⟨d,tt,hj,hx⟩;rcases Ut hk hj with⟨rfl,rfl,rfl⟩|⟨hne,hj⟩
  ·exact .inl ⟨rfl,hx⟩
  ·exact .inr ⟨hne,d,tt,hj,hx⟩
 ·rintro(⟨rfl,hx⟩|⟨hne,d,tt,hj,hx⟩)
  ·exact⟨c,ss',U5 hk ss',hx⟩
  ·exact⟨d,tt,PD hne hj,hx⟩
theorem K0 (hk:Cl A k c ss){x:Int}:fA A k x↔Tk c ss x:=by
 constructor
 ·rintro⟨d,tt,hj,hx⟩;obtain⟨rfl,rfl⟩:=hk.eq hj;exact hx
 ·intro hx;exact⟨c,ss,hk,hx⟩
def swp (A:AR)(k:Nat)(c:bX)(ss:List cI):AR:=VW {A with cC:=A.cC.set k (cK ss)} ((Qc ss).map λs=>(s,c.aF))
theorem BQ {p:Nat}:gH ((Qc ss).map λs=>(s,c.aF)) p↔∃x∈Qc ss,x<=p/\p<x+c.aF:=by
 unfold gH;simp only[zD];constructor
 ·rintro⟨_,⟨x,hx,rfl⟩,h⟩;exact⟨x,hx,h⟩
 ·rintro⟨x,hx,h⟩;exact⟨_,⟨x,hx,rfl⟩,h⟩
theorem GA.kC (h:GA A)(hk:Cl A k c ss){x:Nat}(hx:x∈Qc ss){p:Nat}(h1:x<=p)(h2:p<x+c.aF):A.f p=1/\A.ow p=k+1:=by
 obtain⟨s,a,_,rfl⟩:=BN.1 hx;exact h.used hk a h1 h2
theorem GA.pS (h:GA A)(hk:Cl A k c ss):sE {A with cC:=A.cC.set k (cK ss)} (swp A k c ss) ((Qc ss).map λs=>(s,c.aF)):=by
 have g:=h.cC k c ss hk;refine La _ (h.pg.same rfl rfl rfl rfl) (λr d=>?_) (λr d p m i=>?_) ?_
 ·obtain⟨x,_,rfl⟩:=zD.1 d;exact g.pg
 ·obtain⟨x,j,rfl⟩:=zD.1 d;exact(h.kC hk j m i).1
 ·rw[rK];exact(Wjg g).imp λ{a b} e=>.inl e
theorem GA.swp (h:GA A)(hk:Cl A k c ss):GA (Go.Ar.swp A k c ss):=by
 have b:=h.pS hk;have w:=h.cC k c ss hk;have z:=hk.lt;have F:=h.tb;have cl:∀{j d m},Cl (Go.Ar.swp A k c ss) j d m->(j=k/\d=c/\m=cK ss)\/(j≠k/\Cl A j d m):=λ{j d m} a=>Ut hk ⟨by rw[←b.tb];exact a.1,by rw[←b.cC];exact a.2⟩;have own:∀p,gH ((Qc ss).map λs=>(s,c.aF)) p->A.ow p=k+1:=λp g=>by
  obtain⟨x,r,E,C⟩:=BQ.1 g;exact(h.kC hk r E C).2
 have cE:(Go.Ar.swp A k c ss).cE=A.cE:=b.cE;have tb:(Go.Ar.swp A k c ss).tb=A.tb:=b.tb;have runs:(Go.Ar.swp A k c ss).runs=A.runs:=b.runs;refine⟨b.pg,by rw[tb];exact h.tb,by rw[b.cC,tb];simp[h.lc],by rw[cE,tb];exact h.lt,λj d m a=>?_,λj d m a s y=>?_,λj d m a p=>?_,λp=>?_,λp=>?_,by rw[runs];exact h.gE,by rw[runs];exact h.jV,by rw[cE];exact h.oZ,λj d m t a u=>?_,by rw[cE,tb];exact h.oM⟩
 ·rcases cl a with⟨rfl,rfl,rfl⟩|⟨hne,a⟩
  ·exact w.cK
  ·exact h.cC j d m a
 ·rcases cl a with⟨rfl,rfl,rfl⟩|⟨hne,a⟩
  ·exact h.one _ _ _ hk s (zH.1 y).1
  ·exact h.one j d m a s y
 ·by_cases g:gH ((Qc ss).map λs=>(s,c.aF)) p
  ·rw[(b.i p g).2];have B:=own p g;rcases cl a with⟨rfl,rfl,rfl⟩|⟨hne,a⟩
   ·rw[Jr w];constructor
    ·intro e;omega
    ·rintro⟨_,hn⟩;exact(hn (BQ.1 g)).elim
   ·rw[←h.ow j d m a p,B];omega
  ·rw[(b.o p g).2];rcases cl a with⟨rfl,rfl,rfl⟩|⟨hne,a⟩
   ·rw[Jr w];show A.ow p=_↔_;rw[h.ow _ _ _ hk p];exact⟨λr=>⟨r,λD=>g (BQ.2 D)⟩,λr=>r.1⟩
   ·exact h.ow j d m a p
 ·rw[runs];by_cases g:gH ((Qc ss).map λs=>(s,c.aF)) p
  ·rw[(b.i p g).2,←h.jv,own p g];omega
  ·rw[(b.o p g).2];exact h.jv p
 ·rw[tb];by_cases g:gH ((Qc ss).map λs=>(s,c.aF)) p
  ·rw[(b.i p g).2];omega
  ·rw[(b.o p g).2];exact h.pY p
 ·rw[cE]at u;rcases cl a with⟨rfl,rfl,rfl⟩|⟨hne,a⟩
  ·intro x r;exact(FG w).2 (h.l8 _ _ _ t hk u x r)
  ·exact h.l8 j d m t a u
theorem GA.wB (h:GA A)(hk:Cl A k c ss):Kp A (Go.Ar.swp A k c ss):=by
 have b:=h.pS hk;refine⟨b.n,b.tb,b.room,b.z,λp a=>?_⟩;by_cases hi:gH ((Qc ss).map λs=>(s,c.aF)) p
 ·rw[(b.i p hi).1]at a;omega
 ·rw[(b.o p hi).1]at a;exact a
theorem GA.wo (h:GA A)(hk:Cl A k c ss){j:Nat}{x:Int}:fA (Go.Ar.swp A k c ss) j x↔fA A j x:=by
 have b:=h.pS hk;have a:=h.cC k c ss hk;have e:fA (Go.Ar.swp A k c ss) j x↔fA {A with cC:=A.cC.set k (cK ss)} j x:=by unfold fA Cl;rw[b.tb,b.cC]
 rw[e,Ax hk,FG a];constructor
 ·rintro(⟨rfl,hx⟩|⟨_,hx⟩)
  ·exact(K0 hk).2 hx
  ·exact hx
 ·intro hx;by_cases hjk:j=k
  ·subst hjk;exact .inl ⟨rfl,(K0 hk).1 hx⟩
  ·exact .inr ⟨hjk,hx⟩
theorem Hu {k:Int}:A.ck k=true↔∃j:Nat,k=j/\j<A.tb.length:=by
 unfold AR.ck;simp only[zF,zR];constructor
 ·intro h;exact⟨k.toNat,O,O⟩
 ·rintro⟨j,rfl,h⟩;omega
structure Ob (A B:AR):Prop where
 ga:GA B
 kp:Kp A B
 runs:B.runs=A.runs
theorem Jp (h:GA A)(k m:Int):Ob A (YS A k m)/\(YS A k m).cE=A.cE/\(Yy A k m).Nodup/\(Yy A k m≠[]->∃j:Nat,k=j/\j<A.tb.length)/\(∀x∈Yy A k m,¬fA A k.toNat (x:Int)) ∧
 ∀j y,fA (YS A k m) j y↔fA A j y\/(j=k.toNat/\∃x∈Yy A k m,y=((x:Nat):Int)):=by
 by_cases h0:QM A k m=0
 ·have d:A.ck k=true:=by
   unfold QM at h0;split at h0
   ·assumption
   ·cases h0
  obtain⟨j,rfl,u⟩:=Hu.1 d;obtain⟨c,ss,t,b,D⟩:=h.cl u;have s:VC A (j:Int) m=Ke c m.toNat ss:=by unfold VC;rw[dC,b.1,b.2]
  have g:YS A (j:Int) m = {A with cC:=A.cC.set j (Ke c m.toNat ss).2}:=by unfold YS;rw[zB h0,s,dC]
  have e:Yy A (j:Int) m=(Ke c m.toNat ss).1:=by unfold Yy;rw[zB h0,s]
  rw[g,e];obtain⟨s1,z,E,C,B,r⟩:=GC m.toNat (h.cC j c ss b);refine⟨⟨h.lH b s1 z λw p x a=>(r x).2 (.inr (h.l8 j c ss w b p x a)),Kp.aF rfl rfl rfl rfl,rfl⟩,rfl,C,λ_=>⟨j,rfl,u⟩,λx a=>?_,λi y=>?_⟩
  ·rw[dC,K0 b];exact B x a
  ·rw[Ax b,r,dC];by_cases hij:i=j
   ·subst hij;rw[K0 b];constructor
    ·rintro(⟨_,a|a⟩|⟨a,_⟩)
     ·exact .inr ⟨rfl,a⟩
     ·exact .inl a
     ·exact(a rfl).elim
    ·rintro(a|⟨_,a⟩)
     ·exact .inl ⟨rfl,.inr a⟩
     ·exact .inl ⟨rfl,.inl a⟩
   ·constructor
    ·rintro(⟨a,_⟩|⟨_,a⟩)
     ·exact(hij a).elim
     ·exact .inl a
    ·rintro(a|⟨a,_⟩)
     ·exact .inr ⟨hij,a⟩
     ·exact(hij a).elim
 ·have g:YS A k m=A:=by unfold YS;rw[zA h0]
  have e:Yy A k m=[]:=by unfold Yy;rw[zA h0]
  rw[g,e];exact⟨⟨h,Kp.refl A,rfl⟩,rfl,rz,by simp,by simp,by simp⟩
theorem JZ {xs:List Int}(h:k6 c ss xs):iT c ss xs=0:=by
 unfold iT;have b:xs.any (λx=>(eB c ss x).isNone)=false:=by
  rw[np];intro x hx;rw[h.1 x hx];simp
 have a:xs.any (λx=>eB c ss x==some false)=false:=by
  rw[np];intro x hx;rw[h.1 x hx];simp
 rw[b,a,zU h.2];rfl
theorem Gz (h:GA A)(hk:Cl A k c ss)(xs:List Int):Q3 A (k:Int) xs=iT c ss xs:=by
 unfold Q3;rw[Hu.2 ⟨k,rfl,hk.lt⟩,zB rfl,dC,hk.1,hk.2]
theorem Cp (h:GA A){k:Int}{xs:List Int}(h0:Q3 A k xs=0):∃(j:Nat) (c:bX) (ss:List cI),k=j/\Cl A j c ss/\k6 c ss xs:=by
 have a:A.ck k=true:=by
  unfold Q3 at h0;split at h0
  ·assumption
  ·cases h0
 obtain⟨j,rfl,d⟩:=Hu.1 a;obtain⟨c,ss,t,b,e⟩:=h.cl d;rw[Gz h b]at h0;exact⟨j,c,ss,rfl,b,Mm h0⟩
theorem Bc (h:GA A){k:Int}{xs:List Int}(hd:Q3 A k xs=0->∀x∈xs,¬ik A k.toNat x):Ob A (Zj A k xs)/\(Zj A k xs).cE=A.cE ∧
 (Q3 A k xs=0->∀j y,fA (Zj A k xs) j y↔fA A j y/\¬(j=k.toNat/\y∈xs))/\(Q3 A k xs≠0->Zj A k xs=A):=by
 by_cases h0:Q3 A k xs=0
 ·obtain⟨j,c,g,rfl,e,z⟩:=Cp h h0;obtain⟨D,w,s⟩:=JK xs (h.cC j c g e) z;have p:=h.lH e D w λt u x a=>(s x).2 ⟨h.l8 j c g t e u x a,λB=>hd h0 x B ⟨t,by rw[dC];exact u,a⟩⟩;have d:=U5 e (xs.foldl (fK c) g);have r:Zj A (j:Int) xs=swp {A with cC:=A.cC.set j (xs.foldl (fK c) g)} j c (xs.foldl (fK c) g):=by
   unfold Zj swp;rw[zB h0,dC,e.1,e.2];simp only[oD]
  have b:=p.pS d;rw[r];refine⟨⟨p.swp d,(Kp.aF rfl rfl rfl rfl:Kp A {A with cC:=A.cC.set j (xs.foldl (fK c) g)}).trans (p.wB d),b.runs⟩,b.cE,λ_ i y=>?_,λC=>(C h0).elim⟩;rw[p.wo d,Ax e,s,dC];by_cases hij:i=j
  ·subst hij;rw[K0 e];constructor
   ·rintro(⟨_,a,hy⟩|⟨a,_⟩)
    ·exact⟨a,λm=>hy m.2⟩
    ·exact(a rfl).elim
   ·rintro⟨a,hy⟩;exact .inl ⟨rfl,a,λm=>hy ⟨rfl,m⟩⟩
  ·constructor
   ·rintro(⟨a,_⟩|⟨_,a⟩)
    ·exact(hij a).elim
    ·exact⟨a,λm=>hij m.1⟩
   ·rintro⟨a,_⟩;exact .inr ⟨hij,a⟩
 ·have r:Zj A k xs=A:=by unfold Zj;rw[zA h0]
  rw[r];exact⟨⟨h,Kp.refl A,rfl⟩,rfl,λa=>(h0 a).elim,λ_=>rfl⟩
theorem GA.kv (h:GA A){k:Nat}{t':fU}(h1:t'.bs.flatten.Nodup)(h2:∀x∈t'.bs.flatten,fA A k x)(h3:∀c,A.tb[k]?=some c->∀xs∈t'.bs,xs.length=c.batch):GA {A with cE:=A.cE.set k t'}:=by
 have get:∀{j t},(A.cE.set k t')[j]?=some t->(j=k/\t=t')\/(j≠k/\A.cE[j]?=some t):=by
  intro j t a;by_cases hjk:j=k
  ·subst hjk;have g:j<A.cE.length:=by have:=(cS.1 a).1;simpa using this
   rw[zM g]at a;exact .inl ⟨rfl,(Option.some.inj a).symm⟩
  ·rw[zj (Ne.symm hjk)]at a;exact .inr ⟨hjk,a⟩
 refine⟨h.pg.same rfl rfl rfl rfl,h.tb,h.lc,by simp[h.lt],h.cC,h.one,h.ow,h.jv,h.pY,h.gE,h.jV,λj t a=>?_,λj c e t b a x d=>?_,λj c t b a=>?_⟩
 ·rcases get a with⟨rfl,rfl⟩|⟨_,a⟩
  ·exact h1
  ·exact h.oZ j t a
 ·rcases get a with⟨rfl,rfl⟩|⟨_,a⟩
  ·exact(K0 b).1 (h2 x d)
  ·exact h.l8 j c e t b a x d
 ·rcases get a with⟨rfl,rfl⟩|⟨_,a⟩
  ·exact h3 c b
  ·exact h.oM j c t b a
theorem A7 {t':fU}{j:Nat}{x:Int}(hk:k<A.cE.length):ik {A with cE:=A.cE.set k t'} j x↔(j=k/\x∈t'.bs.flatten)\/(j≠k/\ik A j x):=by
 by_cases hjk:j=k
 ·subst hjk;have a:(A.cE.set j t')[j]?=some t':=zM hk;constructor
  ·rintro⟨t,e,hx⟩;have e:(A.cE.set j t')[j]?=some t:=e;rw[a]at e;cases e;exact .inl ⟨rfl,hx⟩
  ·rintro(⟨_,hx⟩|⟨hx,_⟩)
   ·exact⟨_,a,hx⟩
   ·exact(hx rfl).elim
 ·have a:(A.cE.set k t')[j]?=A.cE[j]? := zj (Ne.symm hjk);constructor
  ·rintro⟨t,e,hx⟩;have e:(A.cE.set k t')[j]?=some t:=e;rw[a]at e;exact .inr ⟨hjk,t,e,hx⟩
  ·rintro(⟨hx,_⟩|⟨_,t,e,hx⟩)
   ·exact(hjk hx).elim
   ·exact⟨t,a.trans e,hx⟩
theorem GQ {t:fU}(ht:A.cE[k]?=some t){x:Int}:ik A k x↔x∈t.bs.flatten:=by
 constructor
 ·rintro⟨t',e,hx⟩;rw[ht]at e;cases e;exact hx
 ·intro hx;exact⟨t,ht,hx⟩
theorem LA (h:GA A)(k:Int):Ob A (ZW A k)/\(∀j y,fA (ZW A k) j y↔fA A j y)/\(∀x∈YP A k,ik A k.toNat x)/\(YP A k).Nodup/\(YP A k≠[]->∃j:Nat,k=j/\j<A.tb.length) ∧
 ∀j y,ik (ZW A k) j y↔ik A j y/\¬(j=k.toNat/\y∈YP A k):=by
 by_cases h0:Qd A k=0
 ·have p:A.ck k=true:=by
   unfold Qd at h0;split at h0
   ·assumption
   ·cases h0
  obtain⟨j,rfl,w⟩:=Hu.1 p;obtain⟨c,H,t,E,m⟩:=h.cl w;have hne:t.bs≠[]:=by
   intro e;unfold Qd at h0;rw[p,zB rfl,dC,m]at h0;simp[e]at h0
  have z:ZW A (j:Int) = {A with cE:=A.cE.set j t.rem}:=by unfold ZW;rw[zB h0,dC,Vg m]
  have C:YP A (j:Int)=t.bs.getLast?.getD []:=by unfold YP;rw[zB h0,dC,m]
  have u:t.bs=t.bs.dropLast++[t.bs.getLast hne]:=(List.dropLast_concat_getLast hne).symm;have J:YP A (j:Int)=t.bs.getLast hne:=by rw[C,List.getLast?_eq_some_getLast hne];rfl
  have d:t.bs.flatten=t.bs.dropLast.flatten++t.bs.getLast hne:=by
   conv=>lhs;rw[u]
   simp
  have s:=h.oZ j t m;rw[d]at s;have b:=oO.1 s;have g:t.rem.bs=t.bs.dropLast:=rfl;rw[z,J];refine⟨⟨h.kv (by rw[g];exact b.1) (λx a=>(K0 E).2 (h.l8 j c H t E m x (by rw[d];exact mr _ a))) λG D F B=>h.oM j G t D m F ((List.dropLast_sublist _).subset B),Kp.aF rfl rfl rfl rfl,rfl⟩,λ_ _=>Iff.rfl,λx a=>?_,b.2.1,λ_=>⟨j,rfl,w⟩,λi y=>?_⟩
  ·rw[dC,GQ m,d];exact qg _ a
  ·rw[A7 (by rw[h.lt];exact w),g,dC];by_cases hij:i=j
   ·subst hij;rw[GQ m,d,zP];constructor
    ·rintro(⟨_,a⟩|⟨a,_⟩)
     ·exact⟨.inl a,λr=>b.2.2 y a y r.2 rfl⟩
     ·exact(a rfl).elim
    ·rintro⟨a|a,r⟩
     ·exact .inl ⟨rfl,a⟩
     ·exact(r ⟨rfl,a⟩).elim
   ·constructor
    ·rintro(⟨a,_⟩|⟨_,a⟩)
     ·exact(hij a).elim
     ·exact⟨a,λr=>hij r.1⟩
    ·rintro⟨a,_⟩;exact .inr ⟨hij,a⟩
 ·have z:ZW A k=A:=by unfold ZW;rw[zA h0]
  have C:YP A k=[]:=by unfold YP;rw[zA h0]
  rw[z,C];exact⟨⟨h,Kp.refl A,rfl⟩,λ_ _=>Iff.rfl,by simp,rz,by simp,by simp⟩
theorem M5 (h:GA A)(k:Int){xs:List Int}(hn:xs.Nodup)(hd:∀x∈xs,¬ik A k.toNat x):Ob A (Kf A k xs)/\(∀j y,fA (Kf A k xs) j y↔fA A j y) ∧
 (Vp A k xs=true->(∃j:Nat,k=j/\j<A.tb.length)/\(∀x∈xs,fA A k.toNat x)/\∀j y,ik (Kf A k xs) j y↔ik A j y\/(j=k.toNat/\y∈xs))/\(Vp A k xs=false->Kf A k xs=A):=by
 by_cases h0:Vp A k xs=true
 ·have C:HW A k xs=0:=by
   unfold Vp at h0;simp only[zF,zR]at h0;exact h0.1
  have w:A.ck k=true:=by
   unfold HW at C;split at C
   ·assumption
   ·cases C
  obtain⟨j,rfl,D⟩:=Hu.1 w;obtain⟨c,H,t,s,u⟩:=h.cl D;have g:=C;unfold HW at g;rw[w,zB rfl,dC,s.1,s.2]at g;simp only at g;have p:xs.length=c.batch:=by
   apply Classical.byContradiction;intro d;rw[zA d]at g;cases g
  rw[zB p]at g;have z:∀x∈xs,fA A j x:=by
   intro x d;split at g
   ·rename_i B;rw[kR]at B;rw[K0 s];simpa[Tk]using B x d
   ·cases g
  have E:Kf A (j:Int) xs = {A with cE:=A.cE.set j {t with bs:=t.bs++[xs]}}:=by unfold Kf;rw[zB h0,dC,Vg u]
  have r:(t.bs++[xs]).flatten=t.bs.flatten++xs:=by simp
  rw[E];refine⟨⟨h.kv ?_ ?_ ?_,Kp.aF rfl rfl rfl rfl,rfl⟩,λ_ _=>Iff.rfl,λ_=>⟨⟨j,rfl,D⟩,by rw[dC];exact z,λi y=>?_⟩,λF=>by rw[F]at h0;cases h0⟩
  ·show(t.bs++[xs]).flatten.Nodup;rw[r,oO];exact⟨h.oZ j t u,hn,λa B b G e=>hd b G (by subst e;rw[dC,GQ u];exact B)⟩
  ·intro x d;have d:x∈(t.bs++[xs]).flatten:=d;rw[r,zP]at d;rcases d with d|d
   ·exact(K0 s).2 (h.l8 j c H t s u x d)
   ·exact z x d
  ·intro c' hc' ys m;have m:ys∈t.bs++[xs]:=m;rcases zP.1 m with m|m
   ·exact h.oM j c' t hc' u ys m
   ·simp only[zS]at m;rw[s.1]at hc';cases hc';rw[m];exact p
  ·rw[A7 (by rw[h.lt];exact D),dC];show(i=j/\y∈(t.bs++[xs]).flatten)\/_↔_;rw[r,zP];by_cases hij:i=j
   ·subst hij;rw[GQ u];constructor
    ·rintro(⟨_,d|d⟩|⟨d,_⟩)
     ·exact .inl d
     ·exact .inr ⟨rfl,d⟩
     ·exact(d rfl).elim
    ·rintro(d|⟨_,d⟩)
     ·exact .inl ⟨rfl,.inl d⟩
     ·exact .inl ⟨rfl,.inr d⟩
   ·constructor
    ·rintro(⟨d,_⟩|⟨_,d⟩)
     ·exact(hij d).elim
     ·exact .inl d
    ·rintro(d|⟨d,_⟩)
     ·exact .inr ⟨hij,d⟩
     ·exact(hij d).elim
 ·have E:Kf A k xs=A:=by unfold Kf;rw[zA h0]
  rw[E];exact⟨⟨h,Kp.refl A,rfl⟩,λ_ _=>Iff.rfl,λd=>(h0 d).elim,λ_=>rfl⟩
end Go.Ar
namespace Go.Ar
open Go.Bu (Zi QR kc Zz qM iE Vu Uc dK take Kr Kq Bounded full can YT VY ZR QX ZX Km Q1 Qh V9 Hm lY)
variable {A:AR}{sp:Sp}{k:Nat}{c:bX}{ss:List cI}
structure Ow (A:AR) (sp:Sp):Prop where
 l:sp.st.length=A.n
 own:∀p,A.f p≠0->gf sp.st p≠0
 cl:∀p,A.f p=3->gf sp.st p=1
 le:∀p,gf sp.st p<=2
structure St (A B:AR) (sp sp':Sp):Prop where
 ga:GA B
 ow:Ow B sp'
 n:B.n=A.n
 tb:B.tb=A.tb
 room:B.room=A.room
 same:∀p,A.f p=0->B.f p=0->gf sp'.st p=gf sp.st p
 gone:∀p,A.f p≠0->B.f p=0->gf sp'.st p=0
 new:∀p,A.f p=0->B.f p≠0->gf sp.st p=0/\16<=p
theorem St.refl (h:GA A)(hw:Ow A sp):St A A sp sp:=⟨h,hw,rfl,rfl,rfl,λ_ _ _=>rfl,λp a b=>(a b).elim,λp a b=>(b a).elim⟩
theorem Ow.len {B C:AR}{sp sp':Sp}(h:Ow B sp)(k:Ow C sp')(e:C.n=B.n):sp'.st.length=sp.st.length:=by rw[h.l,k.l,e]
theorem St.trans {B C:AR}{sp' sp'':Sp}(h:St A B sp sp')(k:St B C sp' sp''):St A C sp sp'':=by
 refine⟨k.ga,k.ow,k.n.trans h.n,k.tb.trans h.tb,k.room.trans h.room,λp a b=>?_,λp a b=>?_,λp a b=>?_⟩
 ·by_cases hB:B.f p=0
  ·rw[k.same p hB b,h.same p a hB]
  ·rw[k.gone p hB b,(h.new p a hB).1]
 ·by_cases hB:B.f p=0
  ·rw[k.same p hB b,h.gone p a hB]
  ·exact k.gone p hB b
 ·by_cases hB:B.f p=0
  ·have:=k.new p hB b;rw[h.same p a hB]at this;exact this
  ·exact h.new p a hB
theorem Ow.kp {B:AR}(hw:Ow A sp)(h:Kp A B):Ow B sp:=⟨hw.l.trans h.n.symm,λp a=>hw.own p λe=>a ((h.z p).2 e),λp a=>hw.cl p (h.t p a),hw.le⟩
theorem St.kp {B:AR}(hg:GA B)(hw:Ow A sp)(h:Kp A B):St A B sp sp:=
 ⟨hg,hw.kp h,h.n,h.tb,h.room,λ_ _ _=>rfl,λp a b=>(a ((h.z p).1 b)).elim,λp a b=>(b ((h.z p).2 a)).elim⟩
theorem Ob.st {B:AR}(o:Ob A B)(hw:Ow A sp):St A B sp sp:=St.kp o.ga hw o.kp
theorem GA.grown (h:GA A){B:AR}{sp':Sp}{s size:Nat}(g:Grown A B sp sp' s size):GA B:=by
 have e:∀{j d tt},Cl B j d tt↔Cl A j d tt:=λ{j d tt}=>by unfold Cl;rw[g.tb,g.cC]
 exact⟨g.pg,by rw[g.tb];exact h.tb,by rw[g.cC,g.tb];exact h.lc,by rw[g.cE,g.tb];exact h.lt,λj d tt a=>h.cC j d tt (e.1 a),λj d tt a=>h.one j d tt (e.1 a),λj d tt a p=>by rw[g.ow];exact h.ow j d tt (e.1 a) p,
  λp=>by rw[g.ow,g.runs];exact h.jv p,λp=>by rw[g.ow,g.tb];exact h.pY p,by rw[g.runs];exact h.gE,by rw[g.runs];exact h.jV,by rw[g.cE];exact h.oZ,λj d tt t a b=>h.l8 j d tt t (e.1 a) (by rw[←g.cE];exact b),by rw[g.tb,g.cE];exact h.oM⟩
theorem Grown.st (h:GA A)(hw:Ow A sp){B:AR}{sp':Sp}{s size:Nat}(g:Grown A B sp sp' s size):St A B sp sp':=by
 have d:∀p,B.f p≠A.f p->s<=p/\p<s+size:=λp b=>by
  apply Classical.byContradiction;intro hn;exact b (g.o p hn).1
 refine⟨h.grown g,⟨g.l.trans (hw.l.trans g.n.symm),λp b=>?_,λp b=>?_,λp=>?_⟩,g.n,g.tb,g.room,λp j e=>?_,λp j e=>?_,λp j e=>?_⟩
 ·by_cases a:s<=p/\p<s+size
  ·rw[(g.i p a.1 a.2).2];omega
  ·rw[(g.o p a).2];rw[(g.o p a).1]at b;exact hw.own p b
 ·by_cases a:s<=p/\p<s+size
  ·rw[(g.i p a.1 a.2).2]
  ·rw[(g.o p a).2];rw[(g.o p a).1]at b;exact hw.cl p b
 ·by_cases a:s<=p/\p<s+size
  ·rw[(g.i p a.1 a.2).2];omega
  ·rw[(g.o p a).2];exact hw.le p
 ·refine(g.o p λa=>?_).2;rw[(g.i p a.1 a.2).1]at e;omega
 ·have:=d p O;rw[(g.i p this.1 this.2).1]at e;omega
 ·have:=d p O;exact⟨g.un p this.1 this.2,by have:=g.s1;omega⟩
theorem Sb {n:Nat}{S:Nat->Bool}(hb:Bounded S n)(hn:n<=1024){j q m a:Nat}(hf:full S j q=true)(hm:m<=2^j)(ha:a<=2^j):Zz n S m a≠none:=by
 intro h0;have s:S (q*2^j)=true:=YT.1 hf _ (Bp _ (kY j));obtain⟨i,g⟩:=VY hb s;have e:j<=i:=by
  apply Classical.byContradiction;intro hlt;exact QX g hf rfl (Bp _ (kY j)) O
 have r:=ZX hb (ZR.1 g).1;have d:i<11:=by
  apply Classical.byContradiction;intro hge;have:2^11<=2^i:=pA O O;omega
 have p:2^j<=2^i:=pA O e;have:=Hm h0 i d O O;have b:=(Q1 hb (k:=i)).2 ⟨_,rfl,g⟩;rw[this]at b;simp at b
theorem BX (m:Nat):Kc m=16\/Kc m=32\/Kc m=64:=by
 unfold Kc;split
 ·exact .inl rfl
 ·split
  ·exact .inr (.inl rfl)
  ·exact .inr (.inr rfl)
theorem RA {m:Nat}(h:m<=64):m<=Kc m:=by
 unfold Kc;split
 ·omega
 ·split<;>omega
theorem JN (h:GA A)(hw:Ow A sp){m a no:Nat}(h1:1<=m)(h2:m<=64)(ha:1<=a/\a<=16) :
 (cZ A sp m a no=(none,A,sp)/\Zz A.n A.S m a=none/\cY sp (Kc (max m a))=none) ∨
 ∃x A1 sp1,cZ A sp m a no=(some x,dT A1 x m no,sp1)/\Zz A1.n A1.S m a=some x/\(A1=A/\sp1=sp\/Zz A.n A.S m a=none/\∃s,cY sp (Kc (max m a))=some s/\Grown A A1 sp sp1 s (Kc (max m a))):=by
 cases ht:Zz A.n A.S m a with
 | some x=>exact .inr ⟨x,A,sp,by unfold cZ;rw[ht],ht,.inl ⟨rfl,rfl⟩⟩
 | none=>
  cases hg:U0 A sp (Kc (max m a))with
  | none=>
   refine .inl ⟨by unfold cZ;rw[ht,hg],rfl,?_⟩;unfold U0 at hg;split at hg
   ·assumption
   ·cases hg
  | some r=>
   obtain⟨A1,sp1⟩:=r;obtain⟨s,u,g⟩:=SE h.pg hw.l (λp b=>Classical.byContradiction λC=>hw.own p C b) (BX _) hg;have d:Zz A1.n A1.S m a≠none:=by
    have z:=RA (m:=max m a) O;obtain⟨_,_,⟨i,B⟩,_⟩:=U2 (by have:=BX (max m a);omega) u;have key:∃j,Kc (max m a)=2^j:=by
     rcases BX (max m a)with e|e|e
     ·exact⟨4,e⟩
     ·exact⟨5,e⟩
     ·exact⟨6,e⟩
    obtain⟨j,y⟩:=key;refine Sb g.pg.jK g.pg.n2 (j:=j) (q:=i) (YT.2 λp b=>?_) O O;rw[g.pg.fr];rw[Qh,←y,←B]at b;rw[(g.i p b.1 b.2).1];omega
   obtain⟨x,w⟩:=Option.ne_none_iff_exists'.1 d;exact .inr ⟨x,A1,sp1,by unfold cZ;rw[ht,hg];simp only;rw[w],w,.inr ⟨rfl,s,u,g⟩⟩
theorem E8 (h:PG A){m a x:Nat}(hx:Zz A.n A.S m a=some x):∀p,x<=p->p<x+m->A.S p=true:=λp d b=>(lY h.jK hx).2 p d b
theorem O9 (h:PG A){m a x:Nat}(h1:1<=m)(h4:m<=4)(hx:Zz A.n A.S m a=some x):x/16=(x+m-1)/16:=by
 obtain⟨j,_,b,_,d,_⟩:=V9 hx;obtain⟨q,rfl,g⟩:=(Q1 h.jK).1 (List.mem_of_head? d)
 match j,b with
 | 0,b=>
  have:m=1:=by omega
  subst this;rfl
 | 1,b=>
  have:m<=2:=by omega
  simp only[Nat.pow_one]at *;omega
 | j+2,b=>
  have e:2^(j+2)=4*2^j:=by rw[Nat.pow_add];omega
  rw[e,←xw,Nat.mul_comm q 4,xw];generalize q*2^j=z;omega
theorem FA (h:PG A){a m no:Nat}(h1:1<=m)(hn:no≠0)(hS:∀p,a<=p->p<a+m->A.S p=true):Kp A (dT A a m no):=by
 obtain⟨o,g,d,e⟩:=EP h h1 hn hS;refine⟨rfl,rfl,rfl,e,λp b=>?_⟩;by_cases hin:a<=p/\p<a+m
 ·rw[(g p hin.1 hin.2).1]at b;omega
 ·rw[o.f p hin]at b;exact b
theorem GA.qP (h:GA A)(hk:Cl A k c ss){x:Nat}(hS:∀p,x<=p->p<x+c.aF->A.S p=true)(h1:x/16=(x+c.aF-1)/16) :
 GA {dT A x c.aF (k+1)with cC:=(dT A x c.aF (k+1)).cC.set k (iC c ss x)}/\(∀s∈ss,s.st+c.aF<=x\/x+c.aF<=s.st):=by
 have m:=h.cC k c ss hk;have r:=m.pg;have z:=hk.lt;have D:=h.tb;obtain⟨o,u,pg,F⟩:=EP h.pg r (no:=k+1) O hS;have i:∀p,x<=p->p<x+c.aF->A.ow p=0:=λp E C=>by
  have B:=(h.pg.fr p).1 (hS p E C);apply Classical.byContradiction;intro hne;have:=(h.pg.us p).2 hne;omega
 have hd:∀s∈ss,s.st+c.aF<=x\/x+c.aF<=s.st:=λs b=>by
  apply Classical.byContradiction;intro hn;have B:=i (max x s.st) O O;have:=(h.used hk b (p:=max x s.st) O O).2;omega
 refine⟨?_,hd⟩;have e:Cl (dT A x c.aF (k+1)) k c ss:=hk;refine⟨pg.same rfl rfl rfl rfl,h.tb,by show(A.cC.set k _).length=_;simp[h.lc];rfl,h.lt,λj d g a=>?_,λj d g a s b=>?_,λj d g a p=>?_,λp=>?_,λp=>?_,h.gE,h.jV,h.oZ,λj d g t a w=>?_,h.oM⟩
 ·rcases Ut e a with⟨rfl,rfl,rfl⟩|⟨hne,a⟩
  ·exact Jw m hd
  ·exact h.cC j d g a
 ·rcases Ut e a with⟨rfl,rfl,rfl⟩|⟨hne,a⟩
  ·rcases VK.1 b with rfl|b
   ·exact h1
   ·exact h.one _ _ _ hk s b
  ·exact h.one j d g a s b
 ·show(dT A x c.aF (k+1)).ow p=j+1↔_;by_cases hp:x<=p/\p<x+c.aF
  ·rw[(u p hp.1 hp.2).2];rcases Ut e a with⟨rfl,rfl,rfl⟩|⟨hne,a⟩
   ·exact⟨λ_=>⟨_,VK.2 (.inl rfl),hp.1,hp.2⟩,λ_=>rfl⟩
   ·rw[←h.ow j d g a p,i p hp.1 hp.2];omega
  ·rw[o.ow p hp];rcases Ut e a with⟨rfl,rfl,rfl⟩|⟨hne,a⟩
   ·rw[h.ow _ _ _ hk p];constructor
    ·rintro⟨s,b,h3⟩;exact⟨s,VK.2 (.inr b),h3⟩
    ·rintro⟨s,b,h3⟩;rcases VK.1 b with rfl|b
     ·exact(hp h3).elim
     ·exact⟨s,b,h3⟩
   ·exact h.ow j d g a p
 ·show(dT A x c.aF (k+1)).ow p=41↔gH A.runs p;by_cases hp:x<=p/\p<x+c.aF
  ·rw[(u p hp.1 hp.2).2,←h.jv,i p hp.1 hp.2];omega
  ·rw[o.ow p hp];exact h.jv p
 ·show(dT A x c.aF (k+1)).ow p=41\/(dT A x c.aF (k+1)).ow p<=A.tb.length;by_cases hp:x<=p/\p<x+c.aF
  ·rw[(u p hp.1 hp.2).2];omega
  ·rw[o.ow p hp];exact h.pY p
 ·rcases Ut e a with⟨rfl,rfl,rfl⟩|⟨hne,a⟩
  ·intro y hy;exact(FV m hd).2 (h.l8 _ _ _ t hk w y hy)
  ·exact h.l8 j d g t a w
theorem GA.tE (h:GA A){x m:Nat}(hm:1<=m)(hS:∀p,x<=p->p<x+m->A.S p=true):GA {dT A x m 41 with runs:=A.runs++[(x,m)]}:=by
 have w:=h.tb;obtain⟨o,e,pg,B⟩:=EP h.pg hm (no:=41) O hS;have i:∀p,x<=p->p<x+m->A.ow p=0:=λp z u=>by
  have y:=(h.pg.fr p).1 (hS p z u);apply Classical.byContradiction;intro hne;have:=(h.pg.us p).2 hne;omega
 refine⟨pg.same rfl rfl rfl rfl,h.tb,h.lc,h.lt,h.cC,h.one,λj d tt b p=>?_,λp=>?_,λp=>?_,λr a=>?_,?_,h.oZ,h.l8,h.oM⟩
 ·have b:Cl A j d tt:=b;have:=b.lt;show(dT A x m 41).ow p=j+1↔_;by_cases hp:x<=p/\p<x+m
  ·rw[(e p hp.1 hp.2).2,←h.ow j d tt b p,i p hp.1 hp.2];omega
  ·rw[o.ow p hp];exact h.ow j d tt b p
 ·show(dT A x m 41).ow p=41↔gH (A.runs++[(x,m)]) p;by_cases hp:x<=p/\p<x+m
  ·rw[(e p hp.1 hp.2).2];exact⟨λ_=>⟨(x,m),by simp,hp⟩,λ_=>rfl⟩
  ·rw[o.ow p hp,h.jv];constructor
   ·rintro⟨r,a,h3⟩;exact⟨r,by simp[a],h3⟩
   ·rintro⟨r,a,h3⟩;rcases zP.1 a with a|a
    ·exact⟨r,a,h3⟩
    ·simp only[zS]at a;subst a;exact(hp h3).elim
 ·show(dT A x m 41).ow p=41\/(dT A x m 41).ow p<=A.tb.length;by_cases hp:x<=p/\p<x+m
  ·rw[(e p hp.1 hp.2).2];omega
  ·rw[o.ow p hp];exact h.pY p
 ·rcases zP.1 a with a|a
  ·exact h.gE r a
  ·simp only[zS]at a;subst a;exact hm
 ·refine oe.2 ⟨h.jV,by simp,λr a s g=>?_⟩;simp only[zS]at g;subst g;apply Classical.byContradiction;intro hn;simp only at hn;have:=h.gE r a;have y:=i (max x r.1) O O;have:=(h.jd a (p:=max x r.1) O O).2;omega
theorem PV {l:List (Nat×Nat)}{x m:Nat}(h:∀r∈l,r.1≠x):cD.mset2 l x m=l++[(x,m)]:=by
 unfold cD.mset2;rw[zA];simp only[zq,zZ,not_exists,not_and];exact h
theorem EV (h:GA A)(hw:Ow A sp)(k:Int) :
 ((cR A sp k=(A,sp))/\KV A sp k≠0) ∨
 ∃(j:Nat) (c:bX) (ss:List cI) (x:Nat) (A1:AR) (sp1:Sp),k=j/\Cl A j c ss/\Cl A1 j c ss/\KV A sp k=0/\cR A sp k=({dT A1 x c.aF (j+1)with cC:=(dT A1 x c.aF (j+1)).cC.set j (iC c ss x)},sp1) ∧
  St A A1 sp sp1/\A1.runs=A.runs/\A1.cE=A.cE/\A1.cC=A.cC/\Zz A1.n A1.S c.aF 1=some x/\(∀s∈ss,s.st+c.aF<=x\/x+c.aF<=s.st)/\St A (cR A sp k).1 sp (cR A sp k).2:=by
 by_cases hck:A.ck k=true
 ·obtain⟨j,rfl,F⟩:=Hu.1 hck;obtain⟨c,ss,t,b,H⟩:=h.cl F;have E:=h.cC j c ss b;have y:=E.ok;unfold bX.ok at y;have D:=b.lt;rcases JN h hw (m:=c.aF) (a:=1) (no:=j+1) O O O with⟨hg,_⟩|⟨x,A1,sp1,hg,htk,hor⟩
  ·left;have w:KV A sp (j:Int)=6:=by unfold KV;rw[hck,zB rfl,dC,b.1,b.2];simp only;rw[hg]
   have G:cR A sp (j:Int)=(A,sp):=by unfold cR;rw[hck,zB rfl,dC,b.1,b.2];simp only;rw[hg]
   rw[G,w];exact⟨rfl,by simp⟩
  ·right;have w:KV A sp (j:Int)=pa c ss x:=by unfold KV;rw[hck,zB rfl,dC,b.1,b.2];simp only;rw[hg]
   have u:GA A1:=by
    rcases hor with⟨rfl,rfl⟩|⟨_,s,_,g⟩
    ·exact h
    ·exact h.grown g
   have d:St A A1 sp sp1:=by
    rcases hor with⟨rfl,rfl⟩|⟨_,s,_,g⟩
    ·exact St.refl h hw
    ·exact g.st h hw
   have e:A1.runs=A.runs/\A1.cE=A.cE/\A1.cC=A.cC:=by
    rcases hor with⟨rfl,rfl⟩|⟨_,s,_,g⟩
    ·exact⟨rfl,rfl,rfl⟩
    ·exact⟨g.runs,g.cE,g.cC⟩
   have p:Cl A1 j c ss:=⟨by rw[d.tb];exact b.1,by rw[e.2.2];exact b.2⟩;have B:=E8 u.pg htk;obtain⟨C,hd⟩:=u.qP p B (O9 u.pg O O htk);have z:=φ hd;have r:cR A sp (j:Int)=({dT A1 x c.aF (j+1)with cC:=(dT A1 x c.aF (j+1)).cC.set j (iC c ss x)},sp1):=by
    unfold cR;rw[hck,zB rfl,dC,b.1,b.2];simp only;rw[hg];simp only;rw[zB z]
   refine⟨j,c,ss,x,A1,sp1,rfl,b,p,by rw[w];exact z,r,d,e.1,e.2.1,e.2.2,htk,hd,?_⟩;rw[r];have kp:=FA u.pg (no:=j+1) O O B;exact d.trans (St.kp C d.ow (kp.trans (Kp.aF rfl rfl rfl rfl)))
 ·left;have i:A.ck k=false:=by simpa using hck
  unfold cR KV;rw[i];exact⟨rfl,by simp⟩
theorem M3 (h:GA A)(hw:Ow A sp)(k:Int):St A (cR A sp k).1 sp (cR A sp k).2/\(cR A sp k).1.runs=A.runs/\(cR A sp k).1.cE=A.cE/\(∀j y,fA (cR A sp k).1 j y↔fA A j y)/\(KV A sp k≠0->cR A sp k=(A,sp)):=by
 rcases EV h hw k with⟨e,_⟩|⟨j,c,ss,x,A1,sp1,rfl,hk,hk1,hE,e,hst,r1,r2,r3,_,hd,hS⟩
 ·rw[e];exact⟨St.refl h hw,rfl,rfl,λ_ _=>Iff.rfl,λ_=>rfl⟩
 ·refine⟨hS,by rw[e];exact r1,by rw[e];exact r2,λi y=>?_,λg=>(g hE).elim⟩;rw[e];have b:Cl (dT A1 x c.aF (j+1)) j c ss:=hk1;rw[Ax b,FV (h.cC j c ss hk) hd];have d:fA (dT A1 x c.aF (j+1)) i y↔fA A i y:=by
   have:(dT A1 x c.aF (j+1)).tb=A.tb/\(dT A1 x c.aF (j+1)).cC=A.cC:=⟨hst.tb,r3⟩;unfold fA Cl;rw[this.1,this.2]
  rw[d];by_cases hij:i=j
  ·subst hij;rw[K0 hk];exact⟨λa=>by rcases a with⟨_,a⟩|⟨a,_⟩;exact a;exact(a rfl).elim,λa=>.inl ⟨rfl,a⟩⟩
  ·exact⟨λa=>by rcases a with⟨a,_⟩|⟨_,a⟩;exact(hij a).elim;exact a,λa=>.inr ⟨hij,a⟩⟩
theorem We5 {m a:Int}(h:Ko m a=true):∃x y:Nat,m=x/\a=y/\1<=x/\x<=64/\(y=1\/y=2\/y=4\/y=8\/y=16):=by
 unfold Ko at h;simp only[zF,zR,nX,zZ]at h;exact⟨m.toNat,a.toNat,O,O,O,O,O⟩
theorem RE (h:GA A)(hw:Ow A sp)(m a:Int) :
 (cD A sp m a=(A,sp)/\QH A sp m a≠0/\(Ko m a=true->QH A sp m a=6/\Zz A.n A.S m.toNat a.toNat=none/\cY sp (Kc (max m.toNat a.toNat))=none)) ∨
 ∃(x:Nat) (A1:AR) (sp1:Sp),Ko m a=true/\QH A sp m a=0/\Qb A sp m a=x/\cD A sp m a=({dT A1 x m.toNat 41 with runs:=A.runs++[(x,m.toNat)]},sp1) ∧
  Zz A1.n A1.S m.toNat a.toNat=some x/\(A1=A/\sp1=sp\/Zz A.n A.S m.toNat a.toNat=none/\∃s,cY sp (Kc (max m.toNat a.toNat))=some s/\Grown A A1 sp sp1 s (Kc (max m.toNat a.toNat))) ∧
  St A (cD A sp m a).1 sp (cD A sp m a).2/\(cD A sp m a).1.cE=A.cE/\(∀j y,fA (cD A sp m a).1 j y↔fA A j y):=by
 by_cases hp:Ko m a=true
 ·obtain⟨b,w,rfl,rfl,H,N,V⟩:=We5 hp;have G:QH A sp (b:Int) (w:Int)=if(cZ A sp b w 41).1.isSome then 0 else 6:=by unfold QH;rw[zB hp,dC,dC]
  have K:Qb A sp (b:Int) (w:Int)=(cZ A sp b w 41).1.getD 0:=by unfold Qb;rw[zB hp,dC,dC]
  rcases JN h hw (m:=b) (a:=w) (no:=41) H N O with⟨hg,hn1,hn2⟩|⟨x,A1,sp1,hg,htk,hor⟩
  ·left;have P:cD A sp (b:Int) (w:Int)=(A,sp):=by unfold cD;rw[zB hp,dC,dC,hg]
   rw[P,G,hg,dC,dC];exact⟨rfl,by simp,λ_=>⟨rfl,hn1,hn2⟩⟩
  ·right;have z:GA A1:=by
    rcases hor with⟨rfl,rfl⟩|⟨_,s,_,g⟩
    ·exact h
    ·exact h.grown g
   have u:St A A1 sp sp1:=by
    rcases hor with⟨rfl,rfl⟩|⟨_,s,_,g⟩
    ·exact St.refl h hw
    ·exact g.st h hw
   have d:A1.runs=A.runs/\A1.cE=A.cE/\A1.cC=A.cC:=by
    rcases hor with⟨rfl,rfl⟩|⟨_,s,_,g⟩
    ·exact⟨rfl,rfl,rfl⟩
    ·exact⟨g.runs,g.cE,g.cC⟩
   have E:=E8 z.pg htk;have B:∀r∈A.runs,r.1≠x:=λr M e=>by
    have C:r∈A1.runs:=by rw[d.1];exact M
    have:=z.gE r C;have U:=(z.jd C (p:=x) O O).1;have R:=(z.pg.fr x).1 (E x O O);omega
   have i:cD A sp (b:Int) (w:Int)=({dT A1 x b 41 with runs:=A.runs++[(x,b)]},sp1):=by
    unfold cD;rw[zB hp,dC,dC,hg];show({dT A1 x b 41 with runs:=cD.mset2 A1.runs x b},sp1)=_;rw[d.1,PV B]
   have F:=z.tE O E;rw[d.1]at F;have kp:=FA z.pg (no:=41) O O E;refine⟨x,A1,sp1,hp,by rw[G,hg];rfl,by rw[K,hg];rfl,by rw[dC];exact i,by rw[dC,dC];exact htk,by rw[dC,dC];exact hor,?_,by rw[i];exact d.2.1,λj y=>?_⟩
   ·rw[i];exact u.trans (St.kp F u.ow (kp.trans (Kp.aF rfl rfl rfl rfl)))
   ·rw[i];have Q:({dT A1 x b 41 with runs:=A.runs++[(x,b)]}:AR).tb=A.tb:=u.tb;have L:({dT A1 x b 41 with runs:=A.runs++[(x,b)]}:AR).cC=A.cC:=d.2.2;unfold fA Cl;rw[Q,L]
 ·left;have D:Ko m a=false:=by simpa using hp
  unfold cD QH;rw[D];exact⟨rfl,by simp,λJ=>by cases J⟩
theorem Tj {x:Int}{r:Nat×Nat}(h:qG A x=some r):r∈A.runs/\x=(r.1:Int):=by
 unfold qG at h;exact⟨uQ h,by have:=tQ h;simpa using Eq.symm (by simpa using this)⟩
theorem NQ (h:GA A)(x:Int):(Kp A (QL A x)/\GA (QL A x))/\(QL A x).cE=A.cE/\(∀j y,fA (QL A x) j y↔fA A j y)/\(Va A x≠0->QL A x=A) ∧
 (Va A x=0->∃r∈A.runs,x=(r.1:Int)/\(QL A x).runs=A.runs.filter λq=>!(q==r)):=by
 cases hr:qG A x with
 | none=>
  have e:QL A x=A:=by unfold QL;rw[hr]
  have E:Va A x=8:=by unfold Va;rw[hr];rfl
  rw[e,E];exact⟨⟨Kp.refl A,h⟩,rfl,λ_ _=>Iff.rfl,λ_=>rfl,λi=>by cases i⟩
 | some r=>
  obtain⟨b,i⟩:=Tj hr;have z:=h.gE r b;have s:A.runs.filter (λq=>!((q.1:Int)==x))=A.runs.filter λq=>!(q==r):=by
   apply yN;intro q g;have:((q.1:Int)==x)=(q==r):=by
    rw[mX];simp only[zZ];constructor
    ·intro e;have G:=h.gE q g;exact h.ia g b (x:=q.1) O O O O
    ·rintro rfl;exact i.symm
   rw[this]
  have e:QL A x=Ui {A with runs:=A.runs.filter λq=>!(q==r)} r:=by unfold QL;rw[hr];simp only;rw[s]
  have E:Va A x=0:=by unfold Va;rw[hr];rfl
  obtain⟨a,m⟩:=r;obtain⟨o,B,pg,H⟩:=Ls (A:={A with runs:=A.runs.filter λq=>!(q==(a,m))}) (h.pg.same rfl rfl rfl rfl) z (λp F D=>(h.jd b F D).1);have own:∀p,a<=p->p<a+m->A.ow p=41:=λp F D=>(h.jd b F D).2;have J:=h.tb;rw[e,E];refine⟨⟨⟨rfl,rfl,rfl,H,λp C=>?_⟩,?_⟩,rfl,λ_ _=>Iff.rfl,λi=>(i rfl).elim,λ_=>⟨_,b,i,rfl⟩⟩
  ·by_cases hin:a<=p/\p<a+m
   ·rw[(B p hin.1 hin.2).1]at C;omega
   ·rw[o.f p hin]at C;exact C
  ·refine⟨pg,h.tb,h.lc,h.lt,h.cC,h.one,λj d tt u p=>?_,λp=>?_,λp=>?_,λq g=>h.gE q (zH.1 g).1,h.jV.filter _,h.oZ,h.l8,h.oM⟩
   ·have u:Cl A j d tt:=u;have:=u.lt;by_cases hin:a<=p/\p<a+m
    ·rw[(B p hin.1 hin.2).2,←h.ow j d tt u p,own p hin.1 hin.2];omega
    ·rw[o.ow p hin];exact h.ow j d tt u p
   ·show _↔gH (A.runs.filter λq=>!(q==(a,m))) p;by_cases hin:a<=p/\p<a+m
    ·rw[(B p hin.1 hin.2).2];constructor
     ·intro i;omega
     ·rintro⟨q,g,q1,q2⟩;have w:=zH.1 g;have:=h.ia w.1 b q1 q2 hin.1 hin.2;subst this;simp at w
    ·rw[o.ow p hin];show A.ow p=41↔_;rw[h.jv];constructor
     ·rintro⟨q,g,q1⟩;refine⟨q,zH.2 ⟨g,?_⟩,q1⟩;have:q≠(a,m):=by rintro rfl;exact hin q1
      simpa using this
     ·rintro⟨q,g,q1⟩;exact⟨q,(zH.1 g).1,q1⟩
   ·by_cases hin:a<=p/\p<a+m
    ·rw[(B p hin.1 hin.2).2];omega
    ·rw[o.ow p hin];exact h.pY p
theorem Tv (hk:Cl A k c ss):QS A k=swp A k c ss:=by unfold QS swp;rw[hk.1,hk.2]
theorem F5 (h:GA A):∀m,m<=A.tb.length->Ob A ((List.range m).foldl QS A)/\((List.range m).foldl QS A).cE=A.cE/\∀j y,fA ((List.range m).foldl QS A) j y↔fA A j y
 | 0,_=>⟨⟨h,Kp.refl A,rfl⟩,rfl,λ_ _=>Iff.rfl⟩
 | m+1,hm=>by
  obtain⟨o,e,t⟩:=F5 h m O;rw[zw,m6,lC,List.foldl_nil];generalize (List.range m).foldl QS A=B at o e t;obtain⟨c,d,_,a,_⟩:=o.ga.cl (k:=m) (by rw[o.kp.tb];omega);rw[Tv a];have b:=o.ga.pS a;exact⟨⟨o.ga.swp a,o.kp.trans (o.ga.wB a),b.runs.trans o.runs⟩,b.cE.trans e,λj y=>(o.ga.wo a).trans (t j y)⟩
theorem Uu (h:GA A):Ob A (YO A)/\(YO A).cE=A.cE/\∀j y,fA (YO A) j y↔fA A j y:=F5 h _ (zC _)
theorem DT (k:Nat):∀(outs:List (List Int)) {A:AR},GA A->outs.flatten.Nodup->(∀x∈outs.flatten,fA A k x/\¬ik A k x) →
 Ob A (outs.foldl (λA' xs=>Zj A' (k:Int) xs) A)/\(outs.foldl (λA' xs=>Zj A' (k:Int) xs) A).cE=A.cE/\∀j y,fA (outs.foldl (λA' xs=>Zj A' (k:Int) xs) A) j y↔fA A j y/\¬(j=k/\y∈outs.flatten)
 | [],A,h,_,_=>⟨⟨h,Kp.refl A,rfl⟩,rfl,by simp⟩
 | xs::outs,A,h,hn,ht=>by
  rw[vY]at hn ht;have hn':=oO.1 hn;have p:∀x∈xs,fA A k x/\¬ik A k x:=λx i=>ht x (mr _ i);rw[lC];cases xs with
  | nil=>
   have u:Zj A (k:Int) []=A\/Q3 A (k:Int) []=0:=by
    by_cases w:Q3 A (k:Int) []=0
    ·exact .inr w
    ·exact .inl (by unfold Zj;rw[zA w])
   obtain⟨o,e,t,_⟩:=Bc h (k:=(k:Int)) (xs:=[]) (λ_=>by simp);have s:∀j y,fA (Zj A (k:Int) []) j y↔fA A j y:=λj y=>by
    rcases u with u|u
    ·rw[u]
    ·rw[t u];simp
   have m:∀j y,ik (Zj A (k:Int) []) j y↔ik A j y:=λj y=>by unfold ik;rw[e]
   obtain⟨o2,B,z⟩:=DT k outs o.ga hn'.2.1 λx i=>by rw[s,m];exact ht x (qg _ i)
   exact⟨⟨o2.ga,o.kp.trans o2.kp,o2.runs.trans o.runs⟩,B.trans e,λj y=>by rw[z,s];simp⟩
  | cons x0 xs=>
   obtain⟨c,D,C,_⟩:=(p x0 aA).1;have w:Q3 A (k:Int) (x0::xs)=0:=by
    rw[Gz h C];exact JZ ⟨λx i=>(K0 C).1 (p x i).1,hn'.1⟩
   obtain⟨o,e,t,_⟩:=Bc h (k:=(k:Int)) (xs:=x0::xs) (λ_ x i=>by rw[dC];exact(p x i).2);have s:=t w;have m:∀j y,ik (Zj A (k:Int) (x0::xs)) j y↔ik A j y:=λj y=>by unfold ik;rw[e]
   obtain⟨o2,B,z⟩:=DT k outs o.ga hn'.2.1 λx i=>by
    rw[s,m];have:=ht x (qg _ i);exact⟨⟨this.1,λg=>hn'.2.2 x g.2 x i rfl⟩,this.2⟩
   refine⟨⟨o2.ga,o.kp.trans o2.kp,o2.runs.trans o.runs⟩,B.trans e,λj y=>?_⟩;rw[z,s,dC,vY,zP];constructor
   ·rintro⟨⟨a,b⟩,d⟩;refine⟨a,λ⟨r,g⟩=>?_⟩;rcases g with g|g
    ·exact b ⟨r,g⟩
    ·exact d ⟨r,g⟩
   ·rintro⟨a,b⟩;exact⟨⟨a,λ⟨r,g⟩=>b ⟨r,.inl g⟩⟩,λ⟨r,g⟩=>b ⟨r,.inr g⟩⟩
structure tj (A B:AR):Prop where
 ob:Ob A B
 sub:∀j y,ik B j y->ik A j y
 tk:∀j y,fA B j y↔fA A j y/\(ik A j y->ik B j y)
theorem tj.trans {B C:AR}(h:tj A B)(k:tj B C):tj A C:=
 ⟨⟨k.ob.ga,h.ob.kp.trans k.ob.kp,k.ob.runs.trans h.ob.runs⟩,λj y g=>h.sub j y (k.sub j y g),λj y=>by
  rw[k.tk,h.tk];exact⟨λ⟨⟨a,b⟩,d⟩=>⟨a,λe=>d (b e)⟩,λ⟨a,b⟩=>⟨⟨a,λe=>k.sub j y (b e)⟩,λe=>b (h.sub j y e)⟩⟩⟩
theorem SC (h:GA A)(hk:k<A.tb.length):tj A (Kz A k):=by
 obtain⟨c,J,t,E,m⟩:=h.cl hk;have p:k<A.cE.length:=by rw[h.lt];exact hk
 have e:Kz A k=t.out.foldl (λA' w=>Zj A' (k:Int) w) {A with cE:=A.cE.set k t.tick}:=by unfold Kz;rw[m]
 have z:t.bs=t.out++t.tick.bs:=(nS ((t.low+1)/2) t.bs).symm;have i:t.bs.flatten=t.out.flatten++t.tick.bs.flatten:=by conv=>lhs;rw[z];rw[wH]
 have s:=h.oZ k t m;rw[i]at s;have g:=oO.1 s;have r:∀x∈t.bs.flatten,fA A k x:=λx d=>(K0 E).2 (h.l8 k c J t E m x d);have H:GA {A with cE:=A.cE.set k t.tick}:=h.kv g.2.1 (λx d=>r x (by rw[i];exact qg _ d)) λG C w B=>h.oM k G t C m w (t.mP w B);obtain⟨o,F,D⟩:=DT k t.out H g.1 λx d=>by
  refine⟨r x (by rw[i];exact mr _ d),?_⟩;rw[A7 p];rintro(⟨_,hy⟩|⟨hy,_⟩)
  ·exact g.2.2 x d x hy rfl
  ·exact hy rfl
 rw[←e]at o F D;have u:∀j y,ik (Kz A k) j y↔(j=k/\y∈t.tick.bs.flatten)\/(j≠k/\ik A j y):=λj y=>by
  rw[←A7 p];unfold ik;rw[F]
 refine⟨⟨o.ga,(Kp.aF rfl rfl rfl rfl:Kp A {A with cE:=A.cE.set k t.tick}).trans o.kp,o.runs⟩,λj y d=>?_,λj y=>?_⟩
 ·rcases(u j y).1 d with⟨rfl,hy⟩|⟨_,hy⟩
  ·rw[GQ m,i];exact qg _ hy
  ·exact hy
 ·rw[D,u];show fA A j y/\_↔_;by_cases hjk:j=k
  ·subst hjk;rw[GQ m,i,zP];constructor
   ·rintro⟨a,b⟩;refine⟨a,λd=>?_⟩;rcases d with d|d
    ·exact(b ⟨rfl,d⟩).elim
    ·exact .inl ⟨rfl,d⟩
   ·rintro⟨a,b⟩;refine⟨a,λ⟨_,d⟩=>?_⟩;rcases b (.inl d)with⟨_,hy⟩|⟨hy,_⟩
    ·exact g.2.2 y d y hy rfl
    ·exact hy rfl
  ·exact⟨λ⟨a,_⟩=>⟨a,λd=>.inr ⟨hjk,d⟩⟩,λ⟨a,_⟩=>⟨a,λ⟨d,_⟩=>hjk d⟩⟩
theorem LJ (h:GA A):∀m,m<=A.tb.length->tj A ((List.range m).foldl Kz A)
 | 0,_=>⟨⟨h,Kp.refl A,rfl⟩,λ_ _=>id,λ_ _=>⟨λa=>⟨a,id⟩,λa=>a.1⟩⟩
 | m+1,hm=>by
  have t:=LJ h m O;rw[zw,m6,lC,List.foldl_nil];exact t.trans (SC t.ob.ga (by rw[t.ob.kp.tb];omega))
theorem MH (h:GA A):tj A (Hl A):=LJ h _ (by rw[h.lt];exact zC _)
end Go.Ar
namespace Go.Ar
open Go.Bu (Zi QR kc Zz qM iE Vu Uc dK take Kr Kq Bounded)
variable {A:AR}{sp:Sp}{k:Nat}{c:bX}{ss:List cI}
theorem CI {st:List Nat}{a m v:Nat}(hl:a+m<=st.length):v∈(st.drop a).take m↔∃p,a<=p/\p<a+m/\gf st p=v:=by
 constructor
 ·intro hm;obtain⟨i,b⟩:=zL hm;rw[zY]at b;split at b
  ·rename_i hlt;rw[zn]at b;refine⟨a+i,O,O,?_⟩;unfold gf;rw[zN,b];rfl
  ·cases b
 ·rintro⟨p,h1,h2,h3⟩;have d:p<st.length:=by omega
  unfold gf at h3;rw[zN,cL d]at h3;refine zE (i:=p-a) ?_;rw[zY,zB O,zn,show a+(p-a)=p by omega,cL d];exact congrArg some h3
theorem HQ {st:List Nat}{a b v:Nat}(hab:a<=b)(hb:b<=st.length):gB st a b v=0↔∀p,a<=p->p<b->gf st p≠v:=by
 unfold gB;rw[xm,CI O];constructor
 ·intro h p d g e;exact h ⟨p,d,O,e⟩
 ·rintro h ⟨p,d,g,e⟩;exact h p d O e
theorem Mj {s m v:Nat}(h1:1<=m)(h2:s+m<=sp.st.length)(h:∀p,s<=p->p<s+m->gf sp.st p≠0):dX sp (s:Int) (m:Int) v=sp.set s m v:=by
 unfold dX fF;rw[zB (Vs.2 ⟨h1,h2⟩),dC,dC,(NM h2).2 h];rfl
theorem IW {s m v:Nat}(h2:s+m<=sp.st.length)(p:Nat):gf (sp.set s m v).st p=if s<=p/\p<s+m then v else gf sp.st p:=HD h2
theorem Jb {s m v x:Nat}(h:¬(s<=x/32/\x/32<s+m)):(sp.set s m v).wd x=sp.wd x:=by
 show(if s*32<=x/\x<(s+m)*32 then 0 else sp.wd x)=_
 rw[zA O]
structure EH (A B:AR) (sp sp':Sp) (l:List Nat):Prop where
 st:St A B sp sp'
 f:∀p,B.f p=if p/16∈l then 0 else A.f p
 ow:B.ow=A.ow
 cE:B.cE=A.cE
 cC:B.cC=A.cC
 runs:B.runs=A.runs
 wd:∀x,x/32/16∉l->sp'.wd x=sp.wd x
 gf:∀p,p/16∉l->gf sp'.st p=gf sp.st p
 pk:sp'.pk=sp.pk
theorem Wk9 (h:GA A)(hw:Ow A sp){g:Nat}(hg:16*g+16<=A.n)(hi:∀p,p/16=g->2<=A.f p):EH A (Vx (A,sp) g).1 sp (Vx (A,sp) g).2 [g]:=by
 have w:∀p,16*g<=p/\p<16*g+16↔p/16=g:=λp=>by omega
 have D:(Vx (A,sp) g).1.st=fZ A.st (16*g) (16*g+16) 0:=by
  show jP A.st (g:Int)=_;have z:vN A.st g=true:=by
   unfold vN;have r:=hi (16*g) O;have i:=(HQ (st:=A.st) (a:=16*g) (b:=16*g+16) (v:=1) O (by rw[h.pg.len];exact hg)).2 λp F E e=>by
    have:=hi p O;unfold AR.f at this;omega
   unfold AR.f gf at r;have B:A.st.getD (16*g) 0≠0:=by omega
   rw[i,bne_iff_ne.2 B];rfl
  unfold jP lQ;rw[UU (by rw[h.pg.len];exact hg),zB rfl,dC,z];rfl
 have H:(Vx (A,sp) g).1.S=take A.S (g*16) (g*16+16):=WmP (n:=A.n) (S:=A.S) (a:=g*16) (m:=16) O O λp F E=>by rw[h.pg.fr];exact hi p O
 have y:(Vx (A,sp) g).2=sp.set (g*16) 16 0:=Mj (sp:=sp) (s:=g*16) (m:=16) (v:=0) O (by rw[hw.l];omega) λp F E=>hw.own p (by have:=hi p O;omega);have C:g*16+16<=sp.st.length:=by rw[hw.l];omega
 have j:∀p,(Vx (A,sp) g).1.f p=if p/16=g then 0 else A.f p:=λp=>by
  unfold AR.f;rw[D,HD (by rw[h.pg.len];exact hg)];by_cases hp:p/16=g
  ·rw[zB hp,zB ((w p).2 hp)]
  ·rw[zA hp,zA (λd=>hp ((w p).1 d))]
 have u:∀p,gf (Vx (A,sp) g).2.st p=if p/16=g then 0 else gf sp.st p:=λp=>by
  rw[y,IW C];by_cases hp:p/16=g
  ·rw[zB hp,zB O]
  ·rw[zA hp,zA O]
 have pg:PG (Vx (A,sp) g).1:=by
  refine⟨by rw[D,Qr];exact h.pg.len,h.pg.n1,h.pg.n2,h.pg.n16,λp=>?_,λp=>?_,λp=>?_,λp=>?_⟩
  ·rw[j];have:=h.pg.le p;split<;>omega
  ·rw[j];show _↔A.ow p≠0;have:=h.pg.us p;by_cases hp:p/16=g
   ·rw[zB hp];have:=hi p hp;constructor
    ·intro d;omega
    ·intro d;have:=(h.pg.us p).2 d;omega
   ·rw[zA hp];exact this
  ·rw[j,H,Kq];have:=h.pg.fr p;by_cases hp:p/16=g
   ·rw[zB hp];constructor
    ·rintro⟨_,d⟩;exact(d O).elim
    ·intro d;omega
   ·rw[zA hp];constructor
    ·rintro⟨d,_⟩;exact this.1 d
    ·intro d;exact⟨this.2 d,O⟩
  ·rw[j,j];have e:p/16*16/16=p/16:=by omega
   rw[e];split
   ·exact Iff.rfl
   ·exact h.pg.hp p
 have G:GA (Vx (A,sp) g).1:=⟨pg,h.tb,h.lc,h.lt,h.cC,h.one,h.ow,h.jv,h.pY,h.gE,h.jV,h.oZ,h.l8,h.oM⟩;refine⟨⟨G,⟨by rw[y];show(fZ _ _ _ _).length=A.n;rw[Qr];exact hw.l,λp hp=>?_,λp hp=>?_,λp=>?_⟩,rfl,rfl,rfl,λp r i=>?_,λp r i=>?_,λp r i=>?_⟩,λp=>?_,rfl,rfl,rfl,rfl,λx d=>?_,λp hp=>?_,?_⟩
 ·rw[j]at hp;rw[u];split at hp
  ·exact(hp rfl).elim
  ·rename_i hn;rw[zA hn];exact hw.own p hp
 ·rw[j]at hp;rw[u];split at hp
  ·cases hp
  ·rename_i hn;rw[zA hn];exact hw.cl p hp
 ·rw[u];have:=hw.le p;split<;>omega
 ·rw[u];by_cases hp:p/16=g
  ·have:=hi p hp;omega
  ·rw[zA hp]
 ·rw[j]at i;rw[u];split at i
  ·rename_i hp;rw[zB hp]
  ·exact(r i).elim
 ·rw[j]at i;split at i
  ·exact(i rfl).elim
  ·exact(i r).elim
 ·rw[j];simp
 ·rw[y];exact Jb λJ=>d aE
 ·rw[u,zA (by simpa using hp)]
 ·rw[y];rfl
theorem Jf:∀(l:List Nat) {A:AR} {sp:Sp},GA A->Ow A sp->l.Nodup->(∀g∈l,16*g+16<=A.n/\∀p,p/16=g->2<=A.f p)->EH A (l.foldl Vx (A,sp)).1 sp (l.foldl Vx (A,sp)).2 l
 | [],A,sp,h,hw,_,_=>⟨St.refl h hw,λp=>by simp,rfl,rfl,rfl,rfl,λ_ _=>rfl,λ_ _=>rfl,rfl⟩
 | g::l,A,sp,h,hw,hn,hi=>by
  have hn':=zo.1 hn;have t:=Wk9 h hw (hi g aA).1 (hi g aA).2;have k:=Jf l (A:=(Vx (A,sp) g).1) (sp:=(Vx (A,sp) g).2) t.st.ga t.st.ow hn'.2 λe a=>by
   refine⟨by rw[t.st.n];exact(hi e (by simp[a])).1,λp b=>?_⟩;rw[t.f,zA (by simp;rintro rfl;exact hn'.1 (b▸a))];exact(hi e (by simp[a])).2 p b
  rw[lC];refine⟨t.st.trans k.st,λp=>?_,k.ow.trans t.ow,k.cE.trans t.cE,k.cC.trans t.cC,k.runs.trans t.runs,λx d=>?_,λp b=>?_,k.pk.trans t.pk⟩
  ·rw[k.f,t.f];by_cases h1:p/16∈l
   ·rw[zB h1,zB (by simp[h1])]
   ·rw[zA h1];by_cases h2:p/16=g
    ·rw[zB (by simp[h2]),zB (by simp[h2])]
    ·rw[zA (by simp[h2]),zA (by simp[h1,h2])]
  ·simp only[zT,not_or]at d;exact(k.wd x d.2).trans (t.wd x (by simpa using d.1))
  ·simp only[zT,not_or]at b;exact(k.gf p b.2).trans (t.gf p (by simpa using b.1))
theorem Ik (h:GA A){g:Nat}:g∈Ks A.st 0↔16*g+16<=A.n/\∀p,p/16=g->2<=A.f p:=by
 have u:=h.pg.n16;unfold Ks;rw[zH,zW,h.pg.len];have m:∀(d:16*g+16<=A.n),(KX A.st g==0)=true↔∀p,p/16=g->A.f p≠1:=λd=>by
  have i:=HQ (st:=A.st) (a:=16*g) (b:=16*g+16) (v:=1) O (by rw[h.pg.len];exact d);have e:(KX A.st g==0)=true↔gB A.st (16*g) (16*g+16) 1=0:=by
   unfold KX;split
   ·rename_i hx;simp[hx]
   ·rename_i hx;constructor
    ·intro hy;split at hy<;>simp at hy
    ·intro hy;exact(hx hy).elim
  rw[e,i];constructor
  ·intro hx p j;exact hx p O O
  ·intro hx p p1 p2;exact hx p O
 simp only[zF,bne_iff_ne,ne_eq];constructor
 ·rintro⟨h1,i,h3⟩;have d:16*g+16<=A.n:=by omega
  refine⟨d,λp j=>?_⟩;have s:=(m d).1 h3 p j;have r:A.f p≠0:=λe=>i ((h.pg.jZ (q:=16*g) O).1 e);omega
 ·rintro⟨d,i⟩;refine⟨O,λe=>?_,(m d).2 λp j e=>?_⟩
  ·have e:A.f (16*g)=0:=e;have:=i (16*g) O;omega
  ·have:=i p j;omega
theorem Ts (st:List Nat)(k:Nat):(Ks st k).Nodup:=List.nodup_range.filter _
theorem TX (h:GA A)(hw:Ow A sp):EH A (eL A sp).1 sp (eL A sp).2 (Ks A.st 0):=Jf _ h hw (Ts _ _) λg a=>(Ik h).1 a
structure DZ (A B:AR) (sp sp':Sp) (rs:List (Nat×Nat)):Prop where
 st:St A B sp sp'
 i:∀p,gH rs p->A.f p=2/\B.f p=3/\gf sp'.st p=1
 o:∀p,¬gH rs p->B.f p=A.f p/\gf sp'.st p=gf sp.st p
 ow:B.ow=A.ow
 cE:B.cE=A.cE
 cC:B.cC=A.cC
 runs:B.runs=A.runs
 wd:∀x,¬gH rs (x/32)->sp'.wd x=sp.wd x
 pk:sp'.pk=sp.pk
theorem Nx (h:GA A)(hw:Ow A sp){a m:Nat}(h1:1<=m)(hi:∀p,a<=p->p<a+m->A.f p=2):DZ A (fD (A,sp) (a,m)).1 sp (fD (A,sp) (a,m)).2 [(a,m)]:=by
 have y:a+m<=A.n:=by have:=h.pg.lt (p:=a+m-1) (by rw[hi _ O O];omega);omega
 have g:∀p,gH [(a,m)] p↔a<=p/\p<a+m:=λp=>by simp[gH]
 have B:(fD (A,sp) (a,m)).1.st=fZ A.st a (a+m) 3:=Dk h1 (by rw[h.pg.len];exact y) λp z w=>by
  have:=hi p z w;unfold AR.f at this;rw[this];simp
 have j:a+m<=sp.st.length:=by rw[hw.l];exact y
 have r:(fD (A,sp) (a,m)).2=sp.set a m 1:=Mj h1 j λp z w=>hw.own p (by rw[hi p z w];omega);have d:∀p,(fD (A,sp) (a,m)).1.f p=if a<=p/\p<a+m then 3 else A.f p:=λp=>by unfold AR.f;rw[B,HD (by rw[h.pg.len];exact y)]
 have i:∀p,gf (fD (A,sp) (a,m)).2.st p=if a<=p/\p<a+m then 1 else gf sp.st p:=λp=>by rw[r,IW j]
 have u:∀p,(fD (A,sp) (a,m)).1.f p=0↔A.f p=0:=λp=>by
  rw[d];split
  ·rename_i b;rw[hi p b.1 b.2];omega
  ·exact Iff.rfl
 have pg:PG (fD (A,sp) (a,m)).1:=by
  refine⟨by rw[B,Qr];exact h.pg.len,h.pg.n1,h.pg.n2,h.pg.n16,λp=>?_,λp=>?_,λp=>?_,CO h.pg u⟩
  ·rw[d];have:=h.pg.le p;split<;>omega
  ·rw[d];show _↔A.ow p≠0;rw[←h.pg.us p];split
   ·rename_i b;rw[hi p b.1 b.2];omega
   ·exact Iff.rfl
  ·rw[d];show A.S p=true↔_;rw[h.pg.fr p];split
   ·rename_i b;rw[hi p b.1 b.2];omega
   ·exact Iff.rfl
 have D:GA (fD (A,sp) (a,m)).1:=⟨pg,h.tb,h.lc,h.lt,h.cC,h.one,h.ow,h.jv,h.pY,h.gE,h.jV,h.oZ,h.l8,h.oM⟩;refine⟨⟨D,⟨by rw[r];show(fZ _ _ _ _).length=A.n;rw[Qr];exact hw.l,λp b=>?_,λp b=>?_,λp=>?_⟩,rfl,rfl,rfl,λp h1 s=>?_,λp h1 s=>(h1 ((u p).1 s)).elim,λp h1 s=>(s ((u p).2 h1)).elim⟩,λp b=>?_,λp b=>?_,rfl,rfl,rfl,rfl,λx C=>?_,?_⟩
 ·rw[i];split
  ·omega
  ·rename_i hn;exact hw.own p λe=>b ((u p).2 e)
 ·rw[d]at b;rw[i];split at b
  ·rename_i hn;rw[zB hn]
  ·rename_i hn;rw[zA hn];exact hw.cl p b
 ·rw[i];have:=hw.le p;split<;>omega
 ·rw[i,zA λb=>by have:=hi p b.1 b.2;omega]
 ·rw[g]at b;rw[d,i,zB b,zB b];exact⟨hi p b.1 b.2,rfl,rfl⟩
 ·rw[g]at b;rw[d,i,zA b,zA b];exact⟨rfl,rfl⟩
 ·rw[g]at C;rw[r];exact Jb C
 ·rw[r];rfl
theorem IG:∀(rs:List (Nat×Nat)) {A:AR} {sp:Sp},GA A->Ow A sp->(∀r∈rs,1<=r.2/\∀p,r.1<=p->p<r.1+r.2->A.f p=2)->rs.Pairwise (λa b=>a.1+a.2<=b.1\/b.1+b.2<=a.1) →
 DZ A (rs.foldl fD (A,sp)).1 sp (rs.foldl fD (A,sp)).2 rs
 | [],A,sp,h,hw,_,_=>⟨St.refl h hw,λp ⟨r,hr,_⟩=>by simp at hr,λp _=>⟨rfl,rfl⟩,rfl,rfl,rfl,rfl,λ_ _=>rfl,rfl⟩
 | (a,m)::rs,A,sp,h,hw,hi,hd=>by
  have hd':=mA.1 hd;have j:=hi (a,m) (lB ..);have t:=Nx h hw j.1 j.2;have e:∀p,gH [(a,m)] p↔a<=p/\p<a+m:=λp=>by simp[gH]
  have d:∀p,gH ((a,m)::rs) p↔(a<=p/\p<a+m)\/gH rs p:=λp=>by simp[gH]
  have k:=IG rs (A:=(fD (A,sp) (a,m)).1) (sp:=(fD (A,sp) (a,m)).2) t.st.ga t.st.ow (λr hr=>by
   have:=hi r (lz _ hr);refine⟨this.1,λp C B=>?_⟩;have w:=hd'.1 r hr;simp only at w;rw[(t.o p (by rw[e];omega)).1];exact this.2 p C B) hd'.2
  rw[lC];refine⟨t.st.trans k.st,λp u=>?_,λp u=>?_,k.ow.trans t.ow,k.cE.trans t.cE,k.cC.trans t.cC,k.runs.trans t.runs,λx w=>?_,k.pk.trans t.pk⟩
  ·by_cases s:gH rs p
   ·have:=k.i p s;refine⟨?_,this.2⟩;by_cases g:a<=p/\p<a+m
    ·exact j.2 p g.1 g.2
    ·rw[←(t.o p (by rw[e];exact g)).1];exact this.1
   ·have g:a<=p/\p<a+m:=((d p).1 u).resolve_right s;have y:=t.i p ((e p).2 g);have z:=k.o p s;exact⟨y.1,z.1.trans y.2.1,z.2.trans y.2.2⟩
  ·rw[d]at u;have s:¬gH rs p:=λh=>u (.inr h);have g:¬gH [(a,m)] p:=λh=>u (.inl ((e p).1 h));exact⟨(k.o p s).1.trans (t.o p g).1,(k.o p s).2.trans (t.o p g).2⟩
  ·rw[d]at w;exact(k.wd x λh=>w (.inr h)).trans (t.wd x λh=>w (.inl ((e _).1 h)))
theorem S9 {st:List Nat}{p m:Nat}(hl:p+m<=st.length):gA st p m<=m/\(∀x,p<=x->x<p+gA st p m->gf st x=2)/\(gA st p m<m->gf st (p+gA st p m)≠2):=by
 have key:∀(l:List Nat),(l.takeWhile (· == 2)).length<=l.length/\(∀i,i<(l.takeWhile (· == 2)).length->l[i]?=some 2)/\((l.takeWhile (· == 2)).length<l.length->l[(l.takeWhile (· == 2)).length]?≠some 2):=by
  intro l
  induction l with
  | nil=>simp
  | cons x l ih=>
   rw[wD];by_cases hx:x=2
   ·subst hx;simp only[beq_self_eq_true,zV,zQ];refine⟨O,λi g=>?_,λa=>?_⟩
    ·cases i with
     | zero=>rfl
     | succ i=>simpa using ih.2.1 i O
    ·simpa using ih.2.2 O
   ·have:(x==2)=false:=by simpa using hx
    simp[this,hx]
 have k:=key ((st.drop p).take m);have b:((st.drop p).take m).length=m:=by simp;omega
 have get:∀i,i<m->((st.drop p).take m)[i]?=some (gf st (p+i)):=λi g=>by
  rw[zY,zB g,zn];unfold gf;rw[zN,cL O];rfl
 rw[b]at k;refine⟨k.1,λx s r=>?_,λa=>?_⟩
 ·have d:=k.2.1 (x-p) (by unfold gA at r;omega);have j:gA st p m<=m:=k.1;rw[get _ O,show p+(x-p)=x by omega]at d;exact Option.some.inj d
 ·have d:=k.2.2 a;have e:(((st.drop p).take m).takeWhile (· == 2)).length=gA st p m:=rfl;rw[e,get _ a]at d;exact λe=>d (congrArg some e)
theorem VD {st:List Nat}{e:Nat}(he:e<=st.length):∀(f p:Nat),(∀r∈Q5 st e f p,1<=r.2/\p<=r.1/\r.1+r.2<=e/\∀x,r.1<=x->x<r.1+r.2->gf st x=2)/\(Q5 st e f p).Pairwise (λa b=>a.1+a.2<=b.1) ∧
 (e-p<f->∀x,p<=x->x<e->gf st x=2->gH (Q5 st e f p) x)/\((Q5 st e f p).map (·.2)).sum<=e-p
 | 0,p=>⟨by simp[Q5],by simp[Q5],λh=>O,by simp[Q5]⟩
 | f+1,p=>by
  rw[Q5];split
  ·rename_i hp;exact⟨by simp,by simp,λ_ x h1 h2=>O,by simp⟩
  ·rename_i hp;have hr:=S9 (st:=st) (p:=p) (m:=e-p) O;split
   ·rename_i h0;obtain⟨i,s,j,y⟩:=VD he f (p+1);refine⟨λr d=>?_,s,λu x h1 h2 g=>?_,O⟩
    ·have:=i r d;exact⟨this.1,O,this.2.2⟩
    ·by_cases hx:x=p
     ·subst hx;rw[h0]at hr;exact(hr.2.2 O (by simpa using g)).elim
     ·exact j O x O h2 g
   ·rename_i h0;obtain⟨i,s,j,y⟩:=VD he f (p+gA st p (e-p)+1);refine⟨λr d=>?_,mA.2 ⟨λr d=>?_,s⟩,λu x h1 h2 g=>?_,?_⟩
    ·rcases zT.1 d with rfl|d
     ·exact⟨by simp only;omega,zC _,by simp only;omega,hr.2.1⟩
     ·have:=i r d;exact⟨this.1,O,this.2.2⟩
    ·have:=i r d;simp only;omega
    ·by_cases hx:x<p+gA st p (e-p)
     ·exact⟨_,lB ..,h1,hx⟩
     ·by_cases hx2:x=p+gA st p (e-p)
      ·subst hx2;exact(hr.2.2 O g).elim
      ·obtain⟨r,d,w⟩:=j O x O h2 g;exact⟨r,lz _ d,w⟩
    ·simp only[zK,zu];omega
theorem Nb (st:List Nat)(l:List Nat)(h:Nat):(nA st l h).Perm (h::l):=by
 unfold nA;refine List.perm_middle.trans ?_;rw[BA]
theorem Lc (st:List Nat):(eP st).Perm ((List.range (st.length/16)).filter λh=>0<gB st (16*h) (16*h+16) 2):=by
 unfold eP;have key:∀(l m:List Nat),(l.foldl (nA st) m).Perm (l++m):=by
  intro l
  induction l with
  | nil=>intro m;exact List.Perm.refl _
  | cons x l ih=>
   intro m;rw[lC,lZ];refine(ih _).trans ?_;refine((Nb st m x).append_left l).trans ?_;exact List.perm_middle
 simpa using key _ []
theorem Ey (want:Int):∀(x:Nat) (l:List (Nat×Nat)),(gP want x l).Sublist l
 | x,[]=>by simp[gP]
 | x,r::l=>by
  rw[gP];split
  ·exact List.nil_sublist _
  ·exact(Ey want (x+r.2) l).cons_cons r
theorem FL {want:Int}:∀(x:Nat) (l:List (Nat×Nat)),(∀r∈l,1<=r.2)->((x+(l.map (·.2)).sum:Nat):Int)<=want->gP want x l=l
 | x,[],_,_=>by simp[gP]
 | x,r::l,hp,hs=>by
  have:=hp r aA;simp only[zK,zu]at hs;rw[gP,zA O,FL (x+r.2) l (λq a=>hp q (by simp[a])) O]
theorem RF {st:List Nat}(h16:st.length%16=0):(∀r∈(eP st).flatMap (KU st),1<=r.2/\∀x,r.1<=x->x<r.1+r.2->gf st x=2)/\((eP st).flatMap (KU st)).Pairwise (λa b=>a.1+a.2<=b.1\/b.1+b.2<=a.1) ∧
 (∀x,gf st x=2->gH ((eP st).flatMap (KU st)) x)/\(((eP st).flatMap (KU st)).map (·.2)).sum<=st.length:=by
 have p:=Lc st;have d:∀h∈eP st,16*h+16<=st.length:=λh w=>by
  have:=(zH.1 (p.subset w)).1;rw[zW]at this;omega
 have y:(eP st).Nodup:=p.nodup_iff.2 (List.nodup_range.filter _);have B:(eP st).length<=st.length/16:=by
  rw[p.length_eq];exact zI (na _ _) aA
 refine⟨λr m=>?_,?_,λx D=>?_,?_⟩
 ·obtain⟨h,w,m⟩:=rJ.1 m;have:=(VD (d h w) 17 (16*h)).1 r m;exact⟨this.1,this.2.2.2⟩
 ·have key:∀l:List Nat,l.Nodup->(∀h∈l,16*h+16<=st.length)->(l.flatMap (KU st)).Pairwise (λa b=>a.1+a.2<=b.1\/b.1+b.2<=a.1):=by
   intro l
   induction l with
   | nil=>intro _ _;simp
   | cons h l ih=>
    intro s hl;have s:=zo.1 s;rw[mM];refine oe.2 ⟨(VD (hl h aA) 17 (16*h)).2.1.imp λ{a b} u=>.inl u,ih s.2 λg i=>hl g (by simp[i]),λa E b z=>?_⟩;obtain⟨g,i,z⟩:=rJ.1 z;have j:=(VD (hl h aA) 17 (16*h)).1 a E;have F:=(VD (hl g (by simp[i])) 17 (16*g)).1 b z;have G:h≠g:=λe=>s.1 (e▸i);omega
  exact key _ y d
 ·have H:x<st.length:=Er O;have C:x/16∈eP st:=p.symm.subset (zH.2 ⟨zW.2 O,by
   have:gB st (16*(x/16)) (16*(x/16)+16) 2≠0:=λA=>by
    rw[HQ O O]at A;exact A x O O D
   simp;omega⟩)
  obtain⟨r,m,j⟩:=(VD (d _ C) 17 (16*(x/16))).2.2.1 O x O O D;exact⟨r,rJ.2 ⟨_,C,m⟩,j⟩
 ·have key:∀l:List Nat,(∀h∈l,16*h+16<=st.length)->((l.flatMap (KU st)).map (·.2)).sum<=16*l.length:=by
   intro l
   induction l with
   | nil=>intro _;simp
   | cons h l ih=>
    intro hl;have j:=(VD (hl h aA) 17 (16*h)).2.2.2;have F:=ih λg i=>hl g (by simp[i]);rw[mM,kQ,uh,zQ];have j:((KU st h).map (·.2)).sum<=16*h+16-16*h:=j;omega
  have:=key _ d;omega
theorem Ll (h:GA A)(hw:Ow A sp){want:Int}(h0:0<=want):DZ (YO A) (dU A sp want).1 sp (dU A sp want).2 (Ud A want)/\(1024<=want->∀p,(dU A sp want).1.f p≠2):=by
 obtain⟨o,_,_⟩:=Uu h;have d:(YO A).st.length%16=0:=by rw[o.ga.pg.len];exact o.ga.pg.n16
 obtain⟨m,u,x,w⟩:=RF d;have a:=Ey want 0 ((eP (YO A).st).flatMap (KU (YO A).st));have e:dU A sp want=(Ud A want).foldl fD (YO A,sp):=by unfold dU;rw[zA O]
 rw[e];have t:=IG (Ud A want) o.ga (hw.kp o.kp) (λr j=>m r (a.subset j)) (u.sublist a);refine⟨t,λs p g=>?_⟩;have y:=o.ga.pg.n2;have b:Ud A want=(eP (YO A).st).flatMap (KU (YO A).st):=FL 0 _ (λr j=>(m r j).1) (by
  rw[o.ga.pg.len]at w;omega)
 by_cases hi:gH (Ud A want) p
 ·rw[(t.i p hi).2.1]at g;omega
 ·rw[(t.o p hi).1]at g;exact hi (by rw[b];exact x p g)
theorem WmW (h:GA A)(hw:Ow A sp)(want:Int):St A (dU A sp want).1 sp (dU A sp want).2/\(dU A sp want).1.runs=A.runs/\(dU A sp want).1.cE=A.cE/\∀j y,fA (dU A sp want).1 j y↔fA A j y:=by
 by_cases h0:0<=want
 ·obtain⟨t,_⟩:=Ll h hw h0;obtain⟨o,e,k⟩:=Uu h;refine⟨(o.st hw).trans t.st,t.runs.trans o.runs,t.cE.trans e,λj y=>?_⟩;rw[←k];unfold fA Cl;rw[t.cC,t.st.tb]
 ·have e:dU A sp want=(A,sp):=by unfold dU;rw[zB O]
  rw[e];exact⟨St.refl h hw,rfl,rfl,λ_ _=>Iff.rfl⟩
end Go.Ar
namespace Go.Ar
structure Pc where
 k:Nat
 cls:Int
 addr:Nat
 size:Nat
 dZ:Bool
 deriving DecidableEq
structure Wd where
 tb:List bX
 sp:Sp
 bT:List AR
 held:List Pc
structure Act where
 kd:Int
 ar:Int
 cl:Int
 a:Int
 b:Int
 l:List Int
abbrev Key:=Nat×Int×Nat
def Pc.key (p:Pc):Key:=(p.k,p.cls,p.addr)
def mF (k:Nat)(cls x:Int)(p:Pc):Bool:=p.k==k&&(p.cls==cls&&((p.addr:Int)==x && !p.dZ))
def vD (held:List Pc)(k:Nat)(cls x:Int):Option Nat:=held.findIdx? (mF k cls x)
def jN (held:List Pc)(k:Nat)(cls:Int)(l:List Int):Bool:=l.all (λx=>(vD held k cls x).isSome)&&decide l.Nodup
def mR (k:Nat)(cls:Int)(held:List Pc)(x:Int):List Pc:=match vD held k cls x with
 | some i=>held.take i++held.drop (i+1)
 | none=>held
def xO (held:List Pc)(k:Nat)(cls:Int)(l:List Int):List Pc:=l.foldl (mR k cls) held
def eD (k:Nat)(cls:Int)(l:List Int)(p:Pc):Bool:=p.k==k&&(p.cls==cls&&l.contains (p.addr:Int))
def GO (held:List Pc)(k:Nat)(cls:Int)(l:List Int)(m:Bool):List Pc:=held.map λp=>if eD k cls l p then{p with dZ:=m}else p
def vn (us:List AR)(held:List Pc):List Pc:=held.filter λp=>!p.dZ||(match us[p.k]? with
 | some A=>xh A (p.addr:Int)
 | none=>false)
def pK (tb:List bX)(k:Int):Nat:=((tb[k.toNat]?).map (·.size)).getD 0
def Wd.put (W:Wd)(k:Nat)(A:AR)(sp:Sp)(held:List Pc):Wd:={W with sp:=sp,bT:=W.bT.set k A,held:=held}
def Hd (A:AR)(p:Pc):Prop:=(p.cls = -1/\p.dZ=false/\∃r∈A.runs,p.addr=r.1*256/\p.size=r.2*256) ∨
 ∃(j:Nat) (c:bX),p.cls=j/\A.tb[j]?=some c/\p.size=c.size/\fA A j (p.addr:Int)/\(p.dZ=true↔ik A j (p.addr:Int))
structure WI (W:Wd):Prop where
 ga:∀(k:Nat) (A:AR),W.bT[k]?=some A->GA A
 ow:∀(k:Nat) (A:AR),W.bT[k]?=some A->Ow A W.sp
 tb:∀(k:Nat) (A:AR),W.bT[k]?=some A->A.tb=W.tb
 low:∀(k:Nat) (A:AR),W.bT[k]?=some A->∀p,p<16->A.f p=0
 own:∀p,gf W.sp.st p≠0->∃(k:Nat) (A:AR),W.bT[k]?=some A/\A.f p≠0
 one:∀p (k l:Nat) (A B:AR),W.bT[k]?=some A->W.bT[l]?=some B->A.f p≠0->B.f p≠0->k=l
 hk:(W.held.map Pc.key).Nodup
 hf:∀p∈W.held,∃A,W.bT[p.k]?=some A/\Hd A p
 ht:∀(k:Nat) (A:AR),W.bT[k]?=some A->∀(j:Nat) (y:Int),fA A j y->∃p∈W.held,p.k=k/\p.cls=j/\(p.addr:Int)=y
 hr:∀(k:Nat) (A:AR),W.bT[k]?=some A->∀r∈A.runs,∃p∈W.held,p.k=k/\p.cls = -1/\p.addr=r.1*256
variable {W:Wd}{k:Nat}{A:AR}
theorem Vo {α:Type}{l:List α}{k j:Nat}{x y:α}(h:(l.set k x)[j]?=some y):(j=k/\y=x/\k<l.length)\/(j≠k/\l[j]?=some y):=by
 by_cases hjk:j=k
 ·subst hjk;have a:j<l.length:=by have:=(cS.1 h).1;simpa using this
  rw[zM a]at h;exact .inl ⟨rfl,(Option.some.inj h).symm,a⟩
 ·rw[zj (Ne.symm hjk)]at h;exact .inr ⟨hjk,h⟩
theorem WI.unique (h:WI W){p q:Pc}(hp:p∈W.held)(hq:q∈W.held)(e:p.key=q.key):p=q:=by
 obtain⟨i,g⟩:=zL hp;obtain⟨j,d⟩:=zL hq;obtain⟨a,rfl⟩:=cS.1 g;obtain⟨b,rfl⟩:=cS.1 d;have:=zy.1 h.hk;rcases qD i j with hl|hl|hl
 ·exact(this i j (by simpa using a) (by simpa using b) hl (by simpa using e)).elim
 ·subst hl;rfl
 ·exact(this j i (by simpa using b) (by simpa using a) hl (by simpa using e.symm)).elim
theorem WI.step (h:WI W)(hk:W.bT[k]?=some A){B:AR}{sp':Sp}{held':List Pc}(s:St A B W.sp sp')(h1:(held'.map Pc.key).Nodup)(h2:∀p∈held',p.k=k->Hd B p)(h3:∀p,p.k≠k->(p∈held'↔p∈W.held))
 (h4:∀(j:Nat) (y:Int),fA B j y->∃p∈held',p.k=k/\p.cls=j/\(p.addr:Int)=y) (h5:∀r∈B.runs,∃p∈held',p.k=k/\p.cls = -1/\p.addr=r.1*256):WI (W.put k B sp' held'):=by
 have E:=(cS.1 hk).1;have m:(W.bT.set k B)[k]?=some B:=zM E;have J:∀{j:Nat} {C:AR},j≠k->W.bT[j]?=some C->(W.bT.set k B)[j]?=some C:=λa e=>(zj (Ne.symm a)).trans e;have g:∀{j:Nat} {C:AR},j≠k->W.bT[j]?=some C->∀p,C.f p≠0->A.f p=0/\B.f p=0/\gf sp'.st p=gf W.sp.st p:=by
  intro j C a e p b;have u:A.f p=0:=Classical.byContradiction λz=>a (h.one p j k C A e hk b z);have w:B.f p=0:=Classical.byContradiction λz=>by
   have:=(s.new p u z).1;exact(h.ow j C e).own p b this
  exact⟨u,w,s.same p u w⟩
 refine⟨λj C a=>?_,λj C a=>?_,λj C a=>?_,λj C a p b=>?_,λp b=>?_,λp j l C D a L e F=>?_,h1,λp b=>?_,λj C a i y K=>?_,λj C a r hr=>?_⟩
 ·rcases Vo a with⟨rfl,rfl,_⟩|⟨_,a⟩
  ·exact s.ga
  ·exact h.ga j C a
 ·rcases Vo a with⟨rfl,rfl,_⟩|⟨d,a⟩
  ·exact s.ow
  ·have o:=h.ow j C a;have M:=h.ow k A hk;refine⟨?_,λp b=>?_,λp b=>?_,s.ow.le⟩
   ·show sp'.st.length=C.n;rw[s.ow.l,s.n,←M.l,o.l]
   ·show gf sp'.st p≠0;rw[(g d a p b).2.2];exact o.own p b
   ·show gf sp'.st p=1;rw[(g d a p O).2.2];exact o.cl p b
 ·rcases Vo a with⟨rfl,rfl,_⟩|⟨_,a⟩
  ·exact s.tb.trans (h.tb _ A hk)
  ·exact h.tb j C a
 ·rcases Vo a with⟨rfl,rfl,_⟩|⟨_,a⟩
  ·apply Classical.byContradiction;intro z;have:=s.new p (h.low _ A hk p b) z;omega
  ·exact h.low j C a p b
 ·have b:gf sp'.st p≠0:=b;by_cases w:B.f p=0
  ·by_cases u:A.f p=0
   ·rw[s.same p u w]at b;obtain⟨j,C,a,e⟩:=h.own p b;have d:j≠k:=by
     rintro rfl;rw[hk]at a;cases a;exact e u
    exact⟨j,C,J d a,e⟩
   ·exact(b (s.gone p u w)).elim
  ·exact⟨k,B,m,w⟩
 ·rcases Vo a with⟨rfl,rfl,_⟩|⟨d,hj'⟩
  ·rcases Vo L with⟨rfl,rfl,_⟩|⟨hne2,hl'⟩
   ·rfl
   ·exact(e (g hne2 hl' p F).2.1).elim
  ·rcases Vo L with⟨rfl,rfl,_⟩|⟨hne2,hl'⟩
   ·exact(F (g d hj' p e).2.1).elim
   ·exact h.one p j l C D hj' hl' e F
 ·by_cases hpk:p.k=k
  ·exact⟨B,by rw[hpk];exact m,h2 p b hpk⟩
  ·obtain⟨C,e,N⟩:=h.hf p ((h3 p hpk).1 b);exact⟨C,J hpk e,N⟩
 ·rcases Vo a with⟨rfl,rfl,_⟩|⟨d,a⟩
  ·exact h4 i y K
  ·obtain⟨p,b,x,H,G⟩:=h.ht j C a i y K;exact⟨p,(h3 p (by rw[x];exact d)).2 b,x,H,G⟩
 ·rcases Vo a with⟨rfl,rfl,_⟩|⟨d,a⟩
  ·exact h5 r hr
  ·obtain⟨p,b,x,H,G⟩:=h.hr j C a r hr;exact⟨p,(h3 p (by rw[x];exact d)).2 b,x,H,G⟩
theorem Hd.to {B:AR}{p:Pc}(h:Hd A p)(e1:B.tb=A.tb)(e2:B.runs=A.runs)(e3:∀j y,fA A j y->fA B j y)(e4:∀j y,ik B j y↔ik A j y):Hd B p:=by
 rcases h with⟨h1,h2,r,hr,h3⟩|⟨j,c,h1,h2,h3,h4,h5⟩
 ·exact .inl ⟨h1,h2,r,by rw[e2];exact hr,h3⟩
 ·exact .inr ⟨j,c,h1,by rw[e1];exact h2,h3,e3 _ _ h4,by rw[e4];exact h5⟩
theorem WI.hd (h:WI W)(hk:W.bT[k]?=some A){p:Pc}(hp:p∈W.held)(e:p.k=k):Hd A p:=by
 obtain⟨C,a,b⟩:=h.hf p hp;rw[e,hk]at a;cases a;exact b
theorem WI.jz (h:WI W)(hk:W.bT[k]?=some A){B:AR}{sp':Sp}(s:St A B W.sp sp')(e2:B.runs=A.runs)(e3:∀j y,fA B j y↔fA A j y)(e4:B.cE=A.cE):WI (W.put k B sp' W.held):=
 h.step hk s h.hk (λp a e=>(h.hd hk a e).to s.tb e2 (λj y=>(e3 j y).2) λj y=>by unfold ik;rw[e4]) (λ_ _=>Iff.rfl) (λj y b=>h.ht k A hk j y ((e3 j y).1 b)) λr hr=>h.hr k A hk r (by rw[←e2];exact hr)
theorem WI.cls (h:WI W){p:Pc}(hp:p∈W.held){j:Nat}(e:p.cls=j)(hk:W.bT[p.k]?=some A):∃c,A.tb[j]?=some c/\p.size=c.size/\fA A j (p.addr:Int)/\(p.dZ=true↔ik A j (p.addr:Int)):=by
 rcases h.hd hk hp rfl with⟨h1,_⟩|⟨i,c,h1,h2,h3,h4,h5⟩
 ·omega
 ·obtain rfl:i=j:=by omega
  exact⟨c,h2,h3,h4,h5⟩
theorem WI.run (h:WI W){p:Pc}(hp:p∈W.held)(e:p.cls = -1)(hk:W.bT[p.k]?=some A):p.dZ=false/\∃r∈A.runs,p.addr=r.1*256/\p.size=r.2*256:=by
 rcases h.hd hk hp rfl with⟨_,h2⟩|⟨i,c,h1,_⟩
 ·exact h2
 ·omega
theorem KJ {k:Nat}{cls x:Int}{p:Pc}:mF k cls x p=true↔p.k=k/\p.cls=cls/\(p.addr:Int)=x/\p.dZ=false:=by
 simp[mF]
theorem Z8 {k:Nat}{cls:Int}{l:List Int}{p:Pc}:eD k cls l p=true↔p.k=k/\p.cls=cls/\(p.addr:Int)∈l:=by
 simp[eD]
theorem Sa {held:List Pc}{k:Nat}{cls x:Int}{i:Nat}(h:vD held k cls x=some i):∃p,held[i]?=some p/\mF k cls x p=true:=by
 obtain⟨b,a,_⟩:=pj.1 h;exact⟨held[i],cL b,a⟩
theorem Sv {held:List Pc}{k:Nat}{cls x:Int}{p:Pc}(hp:p∈held)(h:mF k cls x p=true):(vD held k cls x).isSome=true:=by
 unfold vD;rw[List.findIdx?_isSome,zq];exact⟨p,hp,h⟩
theorem KM {held:List Pc}{k:Nat}{cls:Int}{l:List Int}:jN held k cls l=true↔(∀x∈l,∃p∈held,mF k cls x p=true)/\l.Nodup:=by
 unfold jN;rw[zF,kR,zR];refine and_congr_left λ_=>forall_congr' λx=>imp_congr_right λa=>?_;unfold vD;rw[List.findIdx?_isSome,zq]
theorem Oz {held:List Pc}(hn:(held.map Pc.key).Nodup){i:Nat}{p:Pc}(hi:held[i]?=some p):held.take i++held.drop (i+1)=held.filter λq=>!(q.key==p.key):=by
 induction held generalizing i with
 | nil=>simp at hi
 | cons q l ih=>
  rw[zK,zo]at hn;cases i with
  | zero=>
   simp only[vG,Option.some.injEq]at hi;subst hi;have:l.filter (λr=>!(r.key==q.key))=l:=by
    rw[ov];intro r hr;have:r.key≠q.key:=λe=>hn.1 (zD.2 ⟨r,hr,e⟩);simpa using this
   simp[this]
  | succ i=>
   have hi:l[i]?=some p:=by simpa using hi
   have a:q.key≠p.key:=λe=>hn.1 (zD.2 ⟨p,zE hi,e.symm⟩);rw[sL,Av,lZ,ih hn.2 hi,ri];have:(!(q.key==p.key))=true:=by simpa using a
   rw[this];rfl
theorem Ue {held:List Pc}(hn:(held.map Pc.key).Nodup)(f:Pc->Bool):((held.filter f).map Pc.key).Nodup:=hn.sublist (List.filter_sublist.map _)
theorem ID {k:Nat}{cls:Int}:∀(l:List Int) {held:List Pc},(held.map Pc.key).Nodup->(∀x∈l,∃p∈held,mF k cls x p=true)->l.Nodup->xO held k cls l=held.filter λp=>!eD k cls l p
 | [],held,_,_,_=>by
  have:∀p,eD k cls [] p=false:=λp=>by simp[eD]
  exact(ov.2 λp _=>by rw[this];rfl).symm
 | x::l,held,hn,ho,hl=>by
  obtain⟨p,B,C⟩:=ho x aA;obtain⟨i,s⟩:=pN.1 (Sv B C);obtain⟨q,A,j⟩:=Sa s;have d:=zo.1 hl;have D:mR k cls held x=held.filter λr=>!(r.key==q.key):=by unfold mR;rw[s];exact Oz hn A
  obtain⟨J,H,E,G⟩:=KJ.1 j;have m:=ID l (held:=held.filter λr=>!(r.key==q.key)) (Ue hn _) (λy w=>by
   obtain⟨r,u,g⟩:=ho y (by simp[w]);refine⟨r,zH.2 ⟨u,?_⟩,g⟩;have:r.key≠q.key:=λe=>by
    have F:r.addr=q.addr:=congrArg (λz:Key=>z.2.2) e;have:=(KJ.1 g).2.2.1;have:y=x:=by omega
    subst this;exact d.1 w
   simpa using this) d.2
  unfold xO at m ⊢;rw[lC,D,m,C2];apply yN;intro r u;have e:(r.key==q.key)=(r.k==k&&(r.cls==cls&&(r.addr:Int)==x)):=by
   rw[mX];simp only[Pc.key,zZ,zF,Prod.mk.injEq];constructor
   ·rintro⟨a,b,c⟩;exact⟨O,O,O⟩
   ·rintro⟨a,b,c⟩;exact⟨O,O,O⟩
  rw[e];unfold eD;rw[List.contains_cons];cases r.k==k<;>cases r.cls==cls<;>cases((r.addr:Int)==x)<;>cases l.contains (r.addr:Int)<;>rfl
theorem QQ {held:List Pc}{k:Nat}{cls:Int}{l:List Int}{m:Bool}{p:Pc}:p∈GO held k cls l m↔∃q∈held,p=if eD k cls l q then{q with dZ:=m}else q:=by
 unfold GO;rw[zD];constructor
 ·rintro⟨q,hq,rfl⟩;exact⟨q,hq,rfl⟩
 ·rintro⟨q,hq,rfl⟩;exact⟨q,hq,rfl⟩
theorem NY {held:List Pc}{k:Nat}{cls:Int}{l:List Int}{m:Bool}:(GO held k cls l m).map Pc.key=held.map Pc.key:=by
 unfold GO;rw[kP];apply kA;intro p _;simp only[Function.comp];split<;>rfl
theorem Ay (hk:W.bT[k]?=some A)(h:WI W):WI (W.put k A W.sp W.held):=h.jz hk (St.refl (h.ga k A hk) (h.ow k A hk)) rfl (λ_ _=>Iff.rfl) rfl
theorem BC (h:GA A){j:Nat}{c:bX}{ss:List cI}(hc:Cl A j c ss){l:Nat}{s:cI}{i:Nat}(hs:ss[l]?=some s)(hi:i<c.n){x:Nat}(h1:at_ c s i<=x)(h2:x<at_ c s i+c.size):Uj A (x:Int)=some ((j:Int),at_ c s i):=by
 have d:=h.cC j c ss hc;have b:=Hc d.pos hi h1 h2;have a:=h.used hc (zE hs) b.1 b.2;have g:=h.pg.lt (p:=x/256) (by rw[a.1];omega);have r:=h.pg.n2;have m:=hc.lt;have e:=h.tb;unfold Uj;rw[zA O,dC];simp only;rw[zB (show x/256<1024 by omega),a.2,zA O,zA O,Ds,hc.1,hc.2];simp only;rw[(IK d).2 ⟨l,s,i,hs,hi,rfl,O,O⟩];rfl
theorem HX (h:GA A){r:Nat×Nat}(hr:r∈A.runs){x:Nat}(h1:r.1*256<=x)(h2:x<(r.1+r.2)*256):Uj A (x:Int)=some (-1,r.1*256):=by
 have a:=h.jd hr (p:=x/256) O O;have b:=h.pg.lt (p:=x/256) (by rw[a.1];omega);have d:=h.pg.n2;unfold Uj;rw[zA O,dC];simp only;rw[zB (show x/256<1024 by omega),a.2,zA O,zB rfl,HF h.kL hr O O];rfl
theorem Gi (h:GA A){x:Int}{k:Int}{a:Nat}(hf:Uj A x=some (k,a)):(k = -1/\∃r∈A.runs,a=r.1*256/\((r.1*256:Nat):Int)<=x/\x<(((r.1+r.2)*256:Nat):Int)) ∨
 ∃(j:Nat) (c:bX) (ss:List cI) (l:Nat) (s:cI) (i:Nat),k=j/\Cl A j c ss/\ss[l]?=some s/\i<c.n/\a=at_ c s i/\((at_ c s i:Nat):Int)<=x/\x<((at_ c s i+c.size:Nat):Int):=by
 unfold Uj at hf;split at hf
 ·cases hf
 ·rename_i hx;obtain⟨y,rfl⟩:=zk (show 0<=x by omega);rw[dC]at hf;simp only at hf;by_cases hlt:y/256<1024
  ·rw[zB hlt]at hf;split at hf
   ·cases hf
   ·split at hf
    ·rename_i h0 h41;obtain⟨r,d,b⟩:=qQ.1 hf;have m:=uQ d;have w:=tQ d;simp at w;cases b;exact .inl ⟨rfl,r,m,rfl,O,O⟩
    ·rename_i h0 h41;split at hf
     ·rename_i c ss h1 h2;obtain⟨C,p,b⟩:=qQ.1 hf;cases b;have e:Cl A (A.ow (y/256)-1) c ss:=⟨h1,h2⟩;obtain⟨l,s,i,u,z,rfl,B,g⟩:=(IK (h.cC _ _ _ e)).1 p;exact .inr ⟨_,c,ss,l,s,i,rfl,e,u,z,rfl,B,g⟩
     ·cases hf
  ·rw[zA hlt,zB rfl]at hf;cases hf
theorem fA.find (h:GA A){j:Nat}{x:Int}(hx:fA A j x):∃y:Nat,x=y/\Uj A x=some ((j:Int),y):=by
 obtain⟨c,g,a,m⟩:=hx;have b:=h.cC j c g a;obtain⟨l,s,i,d,e,rfl,p⟩:=(VT b).1 m;exact⟨_,rfl,BC h a d e (zC _) (by have:=b.pos;omega)⟩
theorem DK (h:GA A){x:Int}:xh A x=true↔(∃j,fA A j x)\/∃r∈A.runs,x=((r.1*256:Nat):Int):=by
 constructor
 ·intro hx;unfold xh at hx;split at hx
  ·rename_i k a d;split at hx
   ·rename_i he;rcases Gi h d with⟨rfl,r,hr,rfl,_⟩|⟨j,c,e,l,s,i,rfl,b,hs,hi,rfl,_⟩
    ·exact .inr ⟨r,hr,he.symm⟩
    ·rw[zA O,dC,b.1,b.2]at hx;exact .inl ⟨j,c,e,b,by simpa[Tk]using hx⟩
   ·cases hx
  ·cases hx
 ·rintro(⟨j,hj⟩|⟨r,hr,rfl⟩)
  ·obtain⟨y,rfl,d⟩:=hj.find h;obtain⟨c,e,b,g⟩:=hj;unfold xh;rw[d];simp only;rw[zB True.intro,zA O,dC,b.1,b.2];unfold Tk at g;show(eB c e (y:Int)==some true)=true;rw[g];rfl
  ·unfold xh;have:=h.gE r hr;rw[HX h hr (zC _) O];simp
theorem WI.ye (h:WI W)(hk:W.bT[k]?=some A){cl:Int}{l:List Int}(ho:jN W.held k cl l=true){j:Nat}(e:cl=j):∀x∈l,¬ik A j x:=by
 intro x hx hin;obtain⟨p,i,a⟩:=(KM.1 ho).1 x hx;obtain⟨r,g,m,d⟩:=KJ.1 a;obtain⟨c,_,_,_,b⟩:=h.cls i (j:=j) (by rw[g,e]) (by rw[r];exact hk);rw[m]at b;rw[b.2 hin]at d;cases d
theorem WI.grow (h:WI W)(hk:W.bT[k]?=some A)(x:Int):WI (W.put k (cR A W.sp x).1 (cR A W.sp x).2 W.held):=by
 obtain⟨s,d,a,b,_⟩:=M3 (h.ga k A hk) (h.ow k A hk) x;exact h.jz hk s d b a
theorem WI.from (h:WI W)(hk:W.bT[k]?=some A)(cl m:Int):WI (W.put k (YS A cl m) W.sp (W.held++(Yy A cl m).map λy=>⟨k,cl,y,pK W.tb cl,false⟩)):=by
 obtain⟨o,F,N,J,D,B⟩:=Jp (h.ga k A hk) cl m;have tb:(YS A cl m).tb=A.tb:=o.kp.tb;have i:∀y∈Yy A cl m,∃j:Nat,cl=j/\j<A.tb.length:=λy g=>J (λe=>by rw[e]at g;simp at g);have w:∀y∈Yy A cl m,∀p∈W.held,¬(p.k=k/\p.cls=cl/\p.addr=y):=by
  rintro y g p d ⟨M,P,L⟩;obtain⟨j,rfl,_⟩:=i y g;obtain⟨c,_,_,ht,_⟩:=h.cls d P (by rw[M];exact hk);rw[L]at ht;exact D y g (by rw[dC];exact ht)
 refine h.step hk (o.st (h.ow k A hk)) ?_ (λp d e=>?_) (λp C=>?_) (λj y g=>?_) λr hr=>?_
 ·rw[kQ,oO];refine⟨h.hk,?_,λa H b Q e=>?_⟩
  ·rw[kP];exact List.Pairwise.map (R:=(· ≠ ·)) _ (λa b z e=>z (by simpa[Pc.key]using e)) N
  ·subst e;obtain⟨p,d,rfl⟩:=zD.1 H;obtain⟨q,G,e⟩:=zD.1 Q;obtain⟨y,g,rfl⟩:=zD.1 G;simp only[Pc.key,Prod.mk.injEq]at e;exact w y g p d ⟨e.1.symm,e.2.1.symm,e.2.2.symm⟩
 ·rcases zP.1 d with d|d
  ·exact(h.hd hk d e).to tb o.runs (λj y s=>(B j y).2 (.inl s)) λj y=>by unfold ik;rw[F]
  ·obtain⟨y,g,rfl⟩:=zD.1 d;obtain⟨j,rfl,s⟩:=i y g;refine .inr ⟨j,A.tb[j],rfl,by rw[tb];exact cL s,?_,(B j y).2 (.inr ⟨(dC j).symm,y,g,rfl⟩),?_⟩
   ·show pK W.tb (j:Int)=_;unfold pK;rw[dC,←h.tb k A hk,cL s];rfl
   ·constructor
    ·intro hx;cases hx
    ·rintro⟨t,ht,hx⟩;rw[F]at ht;obtain⟨c,K,S,E,u⟩:=(h.ga k A hk).cl s;rw[ht]at u;cases u;exact(D y g (by rw[dC];exact(K0 E).2 ((h.ga k A hk).l8 j c K t E ht _ hx))).elim
 ·rw[zP];constructor
  ·rintro(d|d)
   ·exact d
   ·obtain⟨y,_,rfl⟩:=zD.1 d;exact(C rfl).elim
  ·exact .inl
 ·rcases(B j y).1 g with g|⟨rfl,x,hx,rfl⟩
  ·obtain⟨p,d,q⟩:=h.ht k A hk j y g;exact⟨p,mr _ d,q⟩
  ·obtain⟨j,rfl,_⟩:=i x hx;exact⟨_,qg _ (zD.2 ⟨x,hx,rfl⟩),rfl,by simp,rfl⟩
 ·rw[o.runs]at hr;obtain⟨p,d,q⟩:=h.hr k A hk r hr;exact⟨p,mr _ d,q⟩
theorem WI.Ap (h:WI W){cl:Int}{l:List Int}(ho:jN W.held k cl l=true):xO W.held k cl l=W.held.filter λp=>!eD k cl l p:=
 ID l h.hk (KM.1 ho).1 (KM.1 ho).2
theorem WI.Ot (h:WI W)(hk:W.bT[k]?=some A){cl:Int}{l:List Int}(ho:jN W.held k cl l=true):WI (W.put k (Zj A cl l) W.sp (if Q3 A cl l=0 then xO W.held k cl l else W.held)):=by
 have ga:=h.ga k A hk;obtain⟨o,M,w,H⟩:=Bc ga (k:=cl) (xs:=l) λg x m=>by
  obtain⟨j,c,J,rfl,_⟩:=Cp ga g;rw[dC];exact h.ye hk ho rfl x m
 by_cases g:Q3 A cl l=0
 ·rw[zB g,h.Ap ho];obtain⟨j,c,J,rfl,N,P⟩:=Cp ga g;have w:=w g;rw[dC]at w;refine h.step hk (o.st (h.ow k A hk)) (Ue h.hk _) (λp s e=>?_) (λp D=>?_) (λi y K=>?_) λr hr=>?_
  ·have u:=zH.1 s;have G:eD k (j:Int) l p=false:=by simpa using u.2
   rcases h.hd hk u.1 e with⟨h1,h2,r,hr,h3⟩|⟨i,d,h1,h2,h3,h4,h5⟩
   ·exact .inl ⟨h1,h2,r,by rw[o.runs];exact hr,h3⟩
   ·refine .inr ⟨i,d,h1,by rw[o.kp.tb];exact h2,h3,(w i _).2 ⟨h4,λ⟨a,b⟩=>?_⟩,by unfold ik at h5 ⊢;rw[M];exact h5⟩;have:eD k (j:Int) l p=true:=Z8.2 ⟨e,by rw[h1,a],b⟩;rw[G]at this;cases this
  ·rw[zH];have:eD k (j:Int) l p=false:=by
    apply mn.2;intro m;exact D (Z8.1 m).1
   rw[this];simp
  ·obtain⟨B,C⟩:=(w i y).1 K;obtain⟨p,s,E,F,z⟩:=h.ht k A hk i y B;refine⟨p,zH.2 ⟨s,?_⟩,E,F,z⟩;have:eD k (j:Int) l p=false:=by
    apply mn.2;intro m;obtain⟨_,Q,L⟩:=Z8.1 m;exact C ⟨O,by rw[←z];exact L⟩
   rw[this];rfl
  ·rw[o.runs]at hr;obtain⟨p,s,E,F,z⟩:=h.hr k A hk r hr;refine⟨p,zH.2 ⟨s,?_⟩,E,F,z⟩;have:eD k (j:Int) l p=false:=by
    apply mn.2;intro m;have:=(Z8.1 m).2.1;omega
   rw[this];rfl
 ·rw[zA g,H g];exact Ay hk h
theorem WI.move (h:WI W)(hk:W.bT[k]?=some A){B:AR}{j:Nat}{l:List Int}{m:Bool}(o:Ob A B)(e1:∀i y,fA B i y↔fA A i y)(e2:∀i y,ik B i y↔if i=j/\y∈l then m=true else ik A i y):WI (W.put k B W.sp (GO W.held k (j:Int) l m)):=by
 refine h.step hk (o.st (h.ow k A hk)) (by rw[NY];exact h.hk) (λp b e=>?_) (λp a=>?_) (λi y g=>?_) λr hr=>?_
 ·obtain⟨q,s,rfl⟩:=QQ.1 b;have d:q.k=k:=by
   split at e<;>exact e
  rcases h.hd hk s d with⟨h1,h2,r,hr,h3⟩|⟨i,c,h1,h2,h3,h4,h5⟩
  ·have:eD k (j:Int) l q=false:=by
    apply mn.2;intro hx;have:=(Z8.1 hx).2.1;omega
   rw[this];exact .inl ⟨h1,h2,r,by rw[o.runs];exact hr,h3⟩
  ·by_cases hx:eD k (j:Int) l q=true
   ·rw[zB hx];obtain⟨_,D,C⟩:=Z8.1 hx;have z:i=j:=by omega
    refine .inr ⟨i,c,h1,by rw[o.kp.tb];exact h2,h3,(e1 _ _).2 h4,?_⟩;show m=true↔ik B i (q.addr:Int);rw[e2,zB ⟨z,C⟩]
   ·rw[zA hx];refine .inr ⟨i,c,h1,by rw[o.kp.tb];exact h2,h3,(e1 _ _).2 h4,?_⟩;rw[e2,zA λg=>hx (Z8.2 ⟨d,by rw[h1,g.1],g.2⟩)];exact h5
 ·rw[QQ];constructor
  ·rintro⟨q,s,rfl⟩;have:eD k (j:Int) l q=false:=by
    apply mn.2;intro hx;rw[zB hx]at a;exact a (Z8.1 hx).1
   rw[this];exact s
  ·intro b;refine⟨p,b,?_⟩;have:eD k (j:Int) l p=false:=by
    apply mn.2;intro hx;exact a (Z8.1 hx).1
   rw[this];rfl
 ·obtain⟨p,b,w,x,u⟩:=h.ht k A hk i y ((e1 i y).1 g);refine⟨_,QQ.2 ⟨p,b,rfl⟩,?_,?_,?_⟩
  ·split<;>exact w
  ·split<;>exact x
  ·split<;>exact u
 ·rw[o.runs]at hr;obtain⟨p,b,w,x,u⟩:=h.hr k A hk r hr;refine⟨_,QQ.2 ⟨p,b,rfl⟩,?_,?_,?_⟩
  ·split<;>exact w
  ·split<;>exact x
  ·split<;>exact u
theorem NL {held:List Pc}{k:Nat}{cls:Int}{m:Bool}:GO held k cls [] m=held:=by
 unfold GO;have:∀p,eD k cls [] p=false:=λp=>by simp[eD]
 simp[this]
theorem WI.wF (h:WI W)(hk:W.bT[k]?=some A)(cl:Int):WI (W.put k (ZW A cl) W.sp (GO W.held k cl (YP A cl) false)):=by
 obtain⟨o,b,w,u,d,a⟩:=LA (h.ga k A hk) cl;by_cases hv:YP A cl=[]
 ·rw[hv,NL];have g:∀j y,ik (ZW A cl) j y↔ik A j y:=λj y=>by rw[a,hv];simp
  refine h.step hk (o.st (h.ow k A hk)) h.hk (λp m e=>(h.hd hk m e).to o.kp.tb o.runs (λj y=>(b j y).2) g) (λ_ _=>Iff.rfl) (λj y s=>h.ht k A hk j y ((b j y).1 s)) λr hr=>h.hr k A hk r (by rw[←o.runs];exact hr)
 ·obtain⟨j,rfl,_⟩:=d hv;rw[dC]at a;exact h.move hk o b λi y=>by
   rw[a];split
   ·rename_i hx;simp[hx]
   ·rename_i hx;simp[hx]
theorem WI.Tg (h:WI W)(hk:W.bT[k]?=some A){cl:Int}{l:List Int}(ho:jN W.held k cl l=true):WI (W.put k (Kf A cl l) W.sp (if Vp A cl l then GO W.held k cl l true else W.held)):=by
 by_cases a:Vp A cl l=true
 ·have b:∃j:Nat,cl=j:=by
   have g:HW A cl l=0:=by
    unfold Vp at a;simp only[zF,zR]at a;exact a.1
   have b:A.ck cl=true:=by
    unfold HW at g;split at g
    ·assumption
    ·cases g
   obtain⟨j,m,_⟩:=Hu.1 b;exact⟨j,m⟩
  obtain⟨j,rfl⟩:=b;obtain⟨o,p,d,_⟩:=M5 (h.ga k A hk) (j:Int) (xs:=l) (KM.1 ho).2 (by rw[dC];exact h.ye hk ho rfl);obtain⟨_,_,d⟩:=d a;rw[dC]at d;rw[a,zB rfl];exact h.move hk o p λi y=>by
   rw[d];split
   ·rename_i hx;simp[hx]
   ·rename_i hx;simp[hx]
 ·have a:Vp A cl l=false:=by simpa using a
  have e:Kf A cl l=A:=by unfold Kf;rw[a];rfl
  rw[a,e];exact Ay hk h
theorem WI.xR (h:WI W)(hk:W.bT[k]?=some A)(m a:Int):WI (W.put k (cD A W.sp m a).1 (cD A W.sp m a).2 (if QH A W.sp m a=0 then W.held++[⟨k, -1,Qb A W.sp m a*256,m.toNat*256,false⟩]else W.held)):=by
 rcases RE (h.ga k A hk) (h.ow k A hk) m a with⟨e,hE,_⟩|⟨x,A1,sp1,g,hE,hV,e,htk,hor,s,et,ek⟩
 ·rw[zA hE,e];exact Ay hk h
 ·rw[zB hE,hV];have z:(cD A W.sp m a).1.runs=A.runs++[(x,m.toNat)]:=by rw[e]
  have w:∀r∈A.runs,r.1≠x:=by
   have hd:=s.ga.jV;rw[z]at hd;intro r hr D;have u:=(oe.1 hd).2.2 r hr (x,m.toNat) aA;have B:=(h.ga k A hk).gE r hr;have i:=s.ga.gE (x,m.toNat) (by rw[z];simp);simp only at u i;omega
  refine h.step hk s ?_ (λp g e=>?_) (λp C=>?_) (λj y E=>?_) λr hr=>?_
  ·rw[kQ,oO];refine⟨h.hk,by simp,λb F d hd D=>?_⟩;subst D;obtain⟨p,g,rfl⟩:=zD.1 F;simp only[zK,qz,zS,Pc.key,Prod.mk.injEq]at hd;obtain⟨_,r,hr,i,_⟩:=h.run g hd.2.1 (A:=A) (by rw[hd.1];exact hk);exact w r hr O
  ·rcases zP.1 g with g|g
   ·rcases h.hd hk g e with⟨u,B,r,hr,i⟩|⟨j,c,u,B,i,h4,h5⟩
    ·exact .inl ⟨u,B,r,by rw[z];exact mr _ hr,i⟩
    ·exact .inr ⟨j,c,u,by rw[s.tb];exact B,i,(ek _ _).2 h4,by unfold ik at h5 ⊢;rw[et];exact h5⟩
   ·simp only[zS]at g;subst g;exact .inl ⟨rfl,rfl,(x,m.toNat),by rw[z];simp,rfl,rfl⟩
  ·rw[zP];constructor
   ·rintro(g|g)
    ·exact g
    ·simp only[zS]at g;subst g;exact(C rfl).elim
   ·exact .inl
  ·obtain⟨p,g,q⟩:=h.ht k A hk j y ((ek j y).1 E);exact⟨p,mr _ g,q⟩
  ·rw[z]at hr;rcases zP.1 hr with hr|hr
   ·obtain⟨p,g,q⟩:=h.hr k A hk r hr;exact⟨p,mr _ g,q⟩
   ·simp only[zS]at hr;subst hr;exact⟨_,qg _ (zS.2 rfl),rfl,rfl,rfl⟩
theorem WI.nP (h:WI W)(hk:W.bT[k]?=some A){r:Nat×Nat}(hr:r∈A.runs):jN W.held k (-1) [(r.1:Int)*256]=true:=by
 refine KM.2 ⟨λx e=>?_,by simp⟩;simp only[zS]at e;subst e;obtain⟨p,b,a,d,g⟩:=h.hr k A hk r hr;exact⟨p,b,KJ.2 ⟨a,d,O,(h.run b d (by rw[a];exact hk)).1⟩⟩
theorem WI.xG (h:WI W)(hk:W.bT[k]?=some A)(x:Int):WI (W.put k (QL A x) W.sp (if Va A x=0 then xO W.held k (-1) [x*256]else W.held)):=by
 have ga:=h.ga k A hk;obtain⟨⟨kp,g⟩,K,J,N,L⟩:=NQ ga x;by_cases h0:Va A x=0
 ·rw[zB h0];obtain⟨r,hr,rfl,G⟩:=L h0;rw[h.Ap (h.nP hk hr)];have m:∀p:Pc,eD k (-1) [(r.1:Int)*256] p=true↔p.k=k/\p.cls = -1/\p.addr=r.1*256:=λp=>by
   rw[Z8];simp only[zS];constructor
   ·rintro⟨a,b,c⟩;exact⟨a,b,O⟩
   ·rintro⟨a,b,c⟩;exact⟨a,b,O⟩
  refine h.step hk (St.kp g (h.ow k A hk) kp) (Ue h.hk _) (λp s e=>?_) (λp C=>?_) (λi y M=>?_) λq d=>?_
  ·have u:=zH.1 s;have w:¬eD k (-1) [(r.1:Int)*256] p=true:=by simpa using u.2
   rw[m]at w;rcases h.hd hk u.1 e with⟨h1,h2,q,d,z⟩|⟨j,c,h1,h2,z,H,D⟩
   ·refine .inl ⟨h1,h2,q,?_,z⟩;rw[G,zH];refine⟨d,?_⟩;have:q≠r:=by rintro rfl;exact w ⟨e,h1,z.1⟩
    simpa using this
   ·exact .inr ⟨j,c,h1,by rw[kp.tb];exact h2,z,(J _ _).2 H,by unfold ik at D ⊢;rw[K];exact D⟩
  ·rw[zH];have:eD k (-1) [(r.1:Int)*256] p=false:=by
    apply mn.2;intro hx;exact C (Z8.1 hx).1
   rw[this];simp
  ·obtain⟨p,s,E,F,B⟩:=h.ht k A hk i y ((J i y).1 M);refine⟨p,zH.2 ⟨s,?_⟩,E,F,B⟩;have:eD k (-1) [(r.1:Int)*256] p=false:=by
    apply mn.2;intro hx;have:=((m p).1 hx).2.1;omega
   rw[this];rfl
  ·rw[G,zH]at d;obtain⟨p,s,E,F,B⟩:=h.hr k A hk q d.1;refine⟨p,zH.2 ⟨s,?_⟩,E,F,B⟩;have:eD k (-1) [(r.1:Int)*256] p=false:=by
    apply mn.2;intro hx;have z:=((m p).1 hx).2.2;have H:=ga.gE q d.1;have D:=ga.gE r hr;have:q=r:=ga.ia d.1 hr (x:=q.1) O O O O;subst this;simp at d
   rw[this];rfl
 ·rw[zA h0,N h0];exact Ay hk h
theorem WI.tick (h:WI W)(hk:W.bT[k]?=some A):WI (W.put k (Hl A) W.sp (vn (W.bT.set k (Hl A)) W.held)):=by
 have ga:=h.ga k A hk;have t:=MH ga;have m:=(cS.1 hk).1;have d:(W.bT.set k (Hl A))[k]?=some (Hl A):=zM m;have bU:∀p∈W.held,p∈vn (W.bT.set k (Hl A)) W.held↔(p.k=k->∀j:Nat,p.cls=j->fA (Hl A) j (p.addr:Int)):=by
  intro p a;unfold vn;rw[zH];simp only[a,tU,nX,nj];by_cases hpk:p.k=k
  ·rw[hpk,d];simp only[true_implies];rcases h.hd hk a hpk with⟨h1,h2,r,hr,h3⟩|⟨j,c,h1,h2,h3,h4,h5⟩
   ·exact⟨λ_ j u=>O,λ_=>.inl h2⟩
   ·constructor
    ·intro hx i G;obtain rfl:i=j:=by omega
     rcases hx with hx|hx
     ·refine(t.tk i _).2 ⟨h4,λB=>?_⟩;rw[h5.2 B]at hx;cases hx
     ·rcases(DK t.ob.ga).1 hx with⟨j',hj'⟩|⟨r,hr,e⟩
      ·obtain⟨y,e,hf⟩:=((t.tk j' _).1 hj').1.find ga;obtain⟨L,J,b⟩:=h4.find ga;rw[hf]at b;have:j'=i:=by
        have:=congrArg Prod.fst (Option.some.inj b);simp only at this;omega
       rw[←this];exact hj'
      ·rw[t.ob.runs]at hr;have:=ga.gE r hr;have H:=HX ga hr (x:=r.1*256) (zC _) O;obtain⟨L,J,b⟩:=h4.find ga;rw[e,H]at b;have:=congrArg Prod.fst (Option.some.inj b);simp only at this;omega
    ·intro hx;by_cases hm:p.dZ=true
     ·exact .inr ((DK t.ob.ga).2 (.inl ⟨j,hx j h1⟩))
     ·exact .inl (by simpa using hm)
  ·constructor
   ·intro _ hx;exact(hpk hx).elim
   ·intro _;obtain⟨C,E,K⟩:=h.hf p a;rw[zj (Ne.symm hpk),E];rcases K with⟨h1,h2,_⟩|⟨j,c,_,_,_,h4,_⟩
    ·exact .inl h2
    ·exact .inr ((DK (h.ga _ C E)).2 (.inl ⟨j,h4⟩))
 have sub:∀p,p∈vn (W.bT.set k (Hl A)) W.held->p∈W.held:=λp a=>(zH.1 a).1;refine h.step hk (t.ob.st (h.ow k A hk)) (Ue h.hk _) (λp a e=>?_) (λp w=>⟨sub p,λa=>(bU p a).2 λe=>(w e).elim⟩) (λj y F=>?_) λr hr=>?_
 ·have s:=(bU p (sub p a)).1 a e;rcases h.hd hk (sub p a) e with⟨h1,h2,r,hr,h3⟩|⟨j,c,h1,h2,h3,h4,h5⟩
  ·exact .inl ⟨h1,h2,r,by rw[t.ob.runs];exact hr,h3⟩
  ·have u:=s j h1;refine .inr ⟨j,c,h1,by rw[t.ob.kp.tb];exact h2,h3,u,?_⟩;rw[h5];exact⟨((t.tk j _).1 u).2,t.sub j _⟩
 ·obtain⟨p,a,z,D,g⟩:=h.ht k A hk j y ((t.tk j y).1 F).1;refine⟨p,(bU p a).2 λ_ i G=>?_,z,D,g⟩;obtain rfl:i=j:=by omega
  rw[g];exact F
 ·rw[t.ob.runs]at hr;obtain⟨p,a,z,D,g⟩:=h.hr k A hk r hr;exact⟨p,(bU p a).2 λ_ i G=>O,z,D,g⟩
theorem WI.nD (h:WI W){p:Pc}(hp:p∈W.held)(hk:W.bT[p.k]?=some A){x:Nat}(h1:p.addr<=x)(h2:x<p.addr+p.size):A.f (x/256)=1:=by
 have ga:=h.ga _ A hk;rcases h.hd hk hp rfl with⟨_,_,r,hr,e1,e2⟩|⟨j,c,_,hc,e1,ht,_⟩
 ·exact(ga.jd hr O O).1
 ·obtain⟨b,w,a,d⟩:=ht;have:b=c:=Option.some.inj (a.1.symm.trans hc);subst this;have g:=ga.cC j b w a;obtain⟨l,s,i,m,u,e,_⟩:=(VT g).1 d;have y:p.addr=at_ b s i:=Int.ofNat.inj e;have:=Hc g.pos u (s:=s) (x:=x) O O;exact(ga.used a (zE m) this.1 this.2).1
theorem fA.lt (h:GA A){j:Nat}{x:Int}(hx:fA A j x):∃y:Nat,x=y/\y<262144:=by
 obtain⟨c,g,b,r⟩:=hx;have a:=h.cC j c g b;obtain⟨l,s,i,e,m,rfl,w⟩:=(VT a).1 r;have d:=Hc a.pos (s:=s) (x:=at_ c s i) m (zC _) (by have:=a.pos;omega);have u:=(h.used b (zE e) d.1 d.2).1;have:=h.pg.lt (p:=at_ c s i/256) O;have:=h.pg.n2;exact⟨_,rfl,O⟩
theorem GA.Bi (h:GA A):lG A:=by
 intro t ht xs hxs x hx;obtain⟨k,d⟩:=zL ht;have a:k<A.tb.length:=by rw[←h.lt];exact(cS.1 d).1
 obtain⟨c,e,g,b,_⟩:=h.cl a;obtain⟨y,rfl,i⟩:=fA.lt h ((K0 b).2 (h.l8 k c e t b d x (List.mem_flatten.2 ⟨xs,hxs,hx⟩)));unfold iF;omega
theorem WI.kj (h:WI W){p:Pc}(hp:p∈W.held):p.addr<262144/\p.addr+p.size<=270000:=by
 obtain⟨A,d,g⟩:=h.hf p hp;have ga:=h.ga _ A d;have x:=ga.pg.n2;rcases g with⟨_,_,r,hr,h1,h2⟩|⟨j,c,_,hc,h2,h3,_⟩
 ·have s:=ga.fit hr;have w:=ga.gE r hr;omega
 ·obtain⟨y,e,u⟩:=h3.lt ga;obtain⟨m,i,a,_⟩:=h3;have:m=c:=Option.some.inj (a.1.symm.trans hc);subst this;have b:=(ga.cC j _ i a).ok;unfold bX.ok at b;omega
theorem EN:∀(N:Nat) (l:List Nat),l.Nodup->(∀x∈l,x<N)->l.length<=N
 | 0,l,_,h=>by
  cases l with
  | nil=>simp
  | cons x l=>have:=h x aA;omega
 | N+1,l,hn,h=>by
  have g:=EN N (l.filter (· != N)) (hn.sublist sk) λx b=>by
   have b:=zH.1 b;have:=h x b.1;have:x≠N:=by simpa using b.2
   omega
  have d:=List.length_eq_countP_add_countP (l:=l) (p:=(· != N));have i:l.countP (λa=>¬(a != N)=true)<=1:=by
   have e:l.countP (λa=>¬(a != N)=true)=l.count N:=by
    unfold List.count;apply A4;intro x _;simp
   rw[e];exact BP.1 hn N
  rw[wW]at d;omega
theorem WI.apart (h:WI W){p q:Pc}(hp:p∈W.held)(hq:q∈W.held){x:Nat}(p1:p.addr<=x)(p2:x<p.addr+p.size)(q1:q.addr<=x)(q2:x<q.addr+q.size):p=q:=by
 obtain⟨A,y,H⟩:=h.hf p hp;obtain⟨B,m,F⟩:=h.hf q hq;have M:=h.nD hp y p1 p2;have N:=h.nD hq m q1 q2;have z:p.k=q.k:=h.one (x/256) p.k q.k A B y m O O;rw[←z,y]at m;cases m;have ga:=h.ga _ A y;have L:=ga.tb;have own:∀{r:Pc},Hd A r->r.addr<=x->x<r.addr+r.size->(r.cls = -1/\A.ow (x/256)=41/\∃u∈A.runs,r.addr=u.1*256/\u.1<=x/256/\x/256<u.1+u.2) ∨
  ∃(j:Nat) (c:bX) (b:List cI) (l:Nat) (s:cI) (i:Nat),r.cls=j/\A.ow (x/256)=j+1/\Cl A j c b/\b[l]?=some s/\i<c.n/\r.addr=at_ c s i/\r.size=c.size:=by
  intro r hr r1 r2;rcases hr with⟨c1,_,u,hu,c2,c3⟩|⟨j,c,c1,c2,c3,c4,_⟩
  ·exact .inl ⟨c1,(ga.jd hu O O).2,u,hu,c2,O,O⟩
  ·obtain⟨d,b,a,J⟩:=c4;have:d=c:=Option.some.inj (a.1.symm.trans c2);subst this;have E:=ga.cC j d b a;obtain⟨l,s,i,C,D,e,_⟩:=(VT E).1 J;have G:r.addr=at_ d s i:=Int.ofNat.inj e;have g:=Hc E.pos (s:=s) (x:=x) D O O;exact .inr ⟨j,d,b,l,s,i,c1,(ga.used a (zE C) g.1 g.2).2,a,C,D,G,c3⟩
 refine h.unique hp hq ?_;rcases own H p1 p2 with⟨a1,a2,u,hu,a3,a4,a5⟩|⟨j,c,b,l,s,i,a1,a2,a3,a4,a5,a6,a7⟩
 ·rcases own F q1 q2 with⟨b1,b2,w,hw,b3,b4,b5⟩|⟨j',d,ss',l',s',i',b1,b2,b3,b4,b5,b6,b7⟩
  ·have:=ga.ia hu hw a4 a5 b4 b5;subst this;unfold Pc.key;rw[z,a1,b1,a3,b3]
  ·have:=b3.lt;omega
 ·rcases own F q1 q2 with⟨b1,b2,w,hw,b3,b4,b5⟩|⟨j',d,ss',l',s',i',b1,b2,b3,b4,b5,b6,b7⟩
  ·have:=a3.lt;omega
  ·have K:j=j':=by omega
   subst K;obtain⟨rfl,rfl⟩:=a3.eq b3;have:=Uw (ga.cC j c b a3) a4 b4 a5 b5 (x:=x) O O O O;unfold Pc.key;rw[z,a1,b1,a6,b6,this.2.1,this.2.2]
theorem WI.size_pos (h:WI W){p:Pc}(hp:p∈W.held):8<=p.size/\p.size%8=0:=by
 obtain⟨A,d,e⟩:=h.hf p hp;have ga:=h.ga _ A d;rcases e with⟨_,_,r,hr,h1,h2⟩|⟨j,c,_,hc,h2,h3,_⟩
 ·have m:=ga.gE r hr;omega
 ·obtain⟨i,g,a,_⟩:=h3;have:i=c:=Option.some.inj (a.1.symm.trans hc);subst this;have b:=(ga.cC j _ g a).ok;unfold bX.ok at b;omega
theorem WI.len (h:WI W):W.held.length<=262144:=by
 have w:(W.held.map (·.addr)).Nodup:=by
  have g:=zy.1 h.hk;refine zy.2 λi j m u d e=>?_;have a:i<W.held.length:=by simpa using m
  have b:j<W.held.length:=by simpa using u
  refine g i j (by simpa using a) (by simpa using b) d ?_;simp only[sF]at e ⊢;have s1:=(h.size_pos (zd a)).1;have y:=(h.size_pos (zd b)).1;rw[h.apart (zd a) (zd b) (x:=W.held[i].addr) (zC _) O O O]
 have:=EN 262144 _ w λx s=>by
  obtain⟨p,r,rfl⟩:=zD.1 s;exact(h.kj r).1
 simpa using this
end Go.Ar
namespace Go.Ar
open Go.Vc (bV dE cT)
def m5 (live:List (Int×Bk))(k x:Int):Nat:=live.countP λe=>e.2.2.2.1==k&&e.1==x
def mD (ls:List Li)(k x:Int):Nat:=if 0<=k then(ls.getD k.toNat iD).os.count x else 0
def mH (bs:List Bt)(k x:Int):Nat:=(bs.map λb=>if(b.1:Int)=k then b.2.count x else 0).sum
def kh (p:Option Ph)(k x:Int):Nat:=match p with
 | some (.dK s _)=>if k = -1/\x=s*256 then 1 else 0
 | _=>0
def gZ (g:Th)(k x:Int):Nat:=mD g.ls k x+mH g.bP k x+kh g.ph k x
def qT (H:Hw)(k x:Int):Nat:=m5 H.live k x+(H.bS.map λg=>gZ g k x).sum
def Um (held:List Pc)(k x:Int):Prop:=∃p∈held,p.dZ=false/\p.cls=k/\(p.addr:Int)=x
open Classical in
noncomputable def k5 (held:List Pc)(k x:Int):Nat:=if Um held k x then 1 else 0
theorem I6 (held:List Pc)(k x:Int):k5 held k x<=1:=by unfold k5;split<;>omega
theorem Ci {held:List Pc}{k x:Int}(h:1<=k5 held k x):Um held k x:=by
 unfold k5 at h;split at h
 ·assumption
 ·omega
theorem KY {held:List Pc}{k x:Int}(h:Um held k x):k5 held k x=1:=by unfold k5;rw[zB h]
theorem QY {held:List Pc}{k x:Int}(h:¬Um held k x):k5 held k x=0:=by unfold k5;rw[zA h]
theorem Rv {held held':List Pc}(h:∀k x,Um held' k x↔Um held k x)(k x:Int):k5 held' k x=k5 held k x:=by
 by_cases hu:Um held k x
 ·rw[KY hu,KY ((h k x).2 hu)]
 ·rw[QY hu,QY λa=>hu ((h k x).1 a)]
theorem Mn {l:List Int}(hn:l.Nodup)(x:Int):l.count x=if x∈l then 1 else 0:=by
 split
 ·rename_i h;have b:=BP.1 hn x;have a:=DY.2 h;omega
 ·rename_i h;exact xm.2 h
theorem BF {held held':List Pc}{cl:Int}{l:List Int}(hn:l.Nodup)(h0:∀x∈l,¬Um held cl x)(h:∀k x,Um held' k x↔Um held k x\/(k=cl/\x∈l))(k x:Int):k5 held' k x=k5 held k x+(if cl=k then l.count x else 0):=by
 by_cases hk:cl=k
 ·subst hk;rw[zB rfl,Mn hn];by_cases hx:x∈l
  ·rw[zB hx,QY (h0 x hx),KY ((h _ _).2 (.inr ⟨rfl,hx⟩))]
  ·rw[zA hx,zr];by_cases hu:Um held cl x
   ·rw[KY hu,KY ((h _ _).2 (.inl hu))]
   ·rw[QY hu,QY λa=>by rcases(h _ _).1 a with a|⟨_,a⟩;exact hu a;exact hx a]
 ·rw[zA hk,zr];by_cases hu:Um held k x
  ·rw[KY hu,KY ((h _ _).2 (.inl hu))]
  ·rw[QY hu,QY λa=>by rcases(h _ _).1 a with a|⟨a,_⟩;exact hu a;exact hk a.symm]
theorem Jt {held held':List Pc}{cl:Int}{l:List Int}(hn:l.Nodup)(h0:∀x∈l,Um held cl x)(h:∀k x,Um held' k x↔Um held k x/\¬(k=cl/\x∈l))(k x:Int):k5 held k x=k5 held' k x+(if cl=k then l.count x else 0):=by
 by_cases hk:cl=k
 ·subst hk;rw[zB rfl,Mn hn];by_cases hx:x∈l
  ·rw[zB hx,KY (h0 x hx),QY λa=>((h _ _).1 a).2 ⟨rfl,hx⟩]
  ·rw[zA hx,zr];by_cases hu:Um held cl x
   ·rw[KY hu,KY ((h _ _).2 ⟨hu,λa=>hx a.2⟩)]
   ·rw[QY hu,QY λa=>hu ((h _ _).1 a).1]
 ·rw[zA hk,zr];by_cases hu:Um held k x
  ·rw[KY hu,KY ((h _ _).2 ⟨hu,λa=>hk a.1.symm⟩)]
  ·rw[QY hu,QY λa=>hu ((h _ _).1 a).1]
theorem FH {α:Type}(f:α->Nat):∀{l:List α} {t:Nat} {g:α} (g':α),l[t]?=some g->((l.set t g').map f).sum+f g=(l.map f).sum+f g'
 | [],t,g,g',h=>by simp at h
 | a::l,0,g,g',h=>by
  simp only[vG,Option.some.injEq]at h;subst h;simp only[List.set_cons_zero,zK,zu];omega
 | a::l,t+1,g,g',h=>by
  have:=FH f (l:=l) (t:=t) g' (by simpa using h);simp only[sK,zK,zu];omega
theorem Cm {α:Type}(f:α->Nat){l:List α}{g:α}(h:g∈l):f g<=(l.map f).sum:=by
 induction l with
 | nil=>simp at h
 | cons a l ih=>
  simp only[zK,zu];rcases zT.1 h with rfl|h
  ·omega
  ·have:=ih h;omega
theorem xD (ls:List Li)(k:Nat)(x:Int):mD ls (k:Int) x=(ls.getD k iD).os.count x:=by
 unfold mD;rw[zB O,dC]
theorem Fj {ls:List Li}{j:Nat}(l:Li)(k:Nat)(h:j<ls.length):(ls.set j l).getD k iD=if k=j then l else ls.getD k iD:=by
 rw[zN,nq];by_cases hkj:k=j
 ·subst hkj;simp[h]
 ·rw[zA hkj,zA (Ne.symm hkj),zN]
theorem WnA {ls:List Li}{j:Nat}(l:Li)(h:j<ls.length)(k x:Int):mD (ls.set j l) k x+(if(j:Int)=k then(ls.getD j iD).os.count x else 0)=mD ls k x+(if(j:Int)=k then l.os.count x else 0):=by
 by_cases hk:0<=k
 ·obtain⟨k,rfl⟩:=zk hk;rw[xD,xD,Fj l k h];by_cases hjk:j=k
  ·subst hjk;simp;omega
  ·have:¬(j:Int)=(k:Int):=by omega
   rw[zA (Ne.symm hjk),zA this,zA this]
 ·unfold mD;rw[zA hk,zA hk,zA O,zA O]
theorem VO (k x:Int):mH [] k x=0:=rfl
theorem KN (b:Bt)(bs:List Bt)(k x:Int):mH (b::bs) k x=(if(b.1:Int)=k then b.2.count x else 0)+mH bs k x:=by
 unfold mH;rw[zK,zu]
theorem Ln (a b:List Bt)(k x:Int):mH (a++b) k x=mH a k x+mH b k x:=by
 unfold mH;rw[kQ,uh]
theorem I0 {f:bX->Li->List Int×Li}(hf:∀c l x,(f c l).1.count x+(f c l).2.os.count x=l.os.count x){tb:List bX}{ls:List Li}(hl:ls.length=tb.length)(k x:Int):mH (Ki f tb ls) k x+mD (Kg f tb ls) k x=mD ls k x:=by
 have key:∀n,n<=tb.length->mH ((List.range n).filterMap λk=>match tb[k]?,ls[k]? with
  | some c,some l=>if(f c l).1=[]then none else some (k,(f c l).1)
  | _,_=>none) k x=if 0<=k/\k<(n:Int)then(match tb[k.toNat]?,ls[k.toNat]? with
  | some c,some l=>(f c l).1.count x
  | _,_=>0)else 0:=by
  intro n
  induction n with
  | zero=>intro _;rw[zA O];rfl
  | succ n i=>
   intro hn;have i:=i O;rw[zw,vw,Ln,i];have d:tb[n]?=some tb[n]:=cL O;have a:ls[n]?=some ls[n]:=cL O;have e:mH ([n].filterMap λk=>match tb[k]?,ls[k]? with
    | some c,some l=>if(f c l).1=[]then none else some (k,(f c l).1)
    | _,_=>none) k x=if(n:Int)=k then(f tb[n] ls[n]).1.count x else 0:=by
    rw[BZ,d,a];simp only;by_cases he:(f tb[n] ls[n]).1=[]
    ·rw[zB he,he];simp[VO]
    ·rw[zA he];simp only[List.filterMap_nil,KN,VO,zr]
   rw[e];by_cases b:0<=k/\k<(n:Int)
   ·rw[zB b,zA (show ¬(n:Int)=k by omega),zr,zB (show 0<=k/\k<((n+1:Nat):Int)from⟨b.1,O⟩)]
   ·rw[zA b,zG];by_cases g:(n:Int)=k
    ·subst g;rw[zB rfl,zB (show(0:Int)<=(n:Int)/\(n:Int)<((n+1:Nat):Int)from⟨O,O⟩),dC,d,a]
    ·rw[zA g,zA O]
 have b:=key tb.length (zC _);have e:Ki f tb ls=(List.range tb.length).filterMap λk=>match tb[k]?,ls[k]? with
  | some c,some l=>if(f c l).1=[]then none else some (k,(f c l).1)
  | _,_=>none:=rfl
 rw[e,b];by_cases hk:0<=k
 ·obtain⟨k,rfl⟩:=zk hk;rw[xD,xD,dC];by_cases hkl:k<tb.length
  ·have d:tb[k]?=some tb[k]:=cL hkl;have a:ls[k]?=some ls[k]:=cL O;rw[zB ⟨O,O⟩,d,a];simp only;have:(Kg f tb ls).getD k iD=(f tb[k] ls[k]).2:=by
    unfold Kg;rw[zN,DH,d,a];rfl
   rw[this,zN,a];exact hf _ _ _
  ·rw[zA O,zG];have b:(Kg f tb ls).getD k iD=iD:=by
    unfold Kg;rw[zN,zX (by rw[List.length_zipWith];omega)];rfl
   have g:ls.getD k iD=iD:=by rw[zN,zX O];rfl
   rw[b,g]
 ·rw[zA O,zG];unfold mD;rw[zA hk,zA hk]
theorem CD (m:Nat)(l:Li)(x:Int):(gS m l).1.count x+(gS m l).2.os.count x=l.os.count x:=by
 show(l.os.take m).count x+(l.os.drop m).count x=_;rw[←vA,nS]
theorem Po (c:bX)(l:Li)(x:Int):(KQ c l).1.count x+(KQ c l).2.os.count x=l.os.count x:=CD _ l x
theorem Ry (c:bX)(l:Li)(x:Int):(Z2 c l).1.count x+(Z2 c l).2.os.count x=l.os.count x:=CD _ l x
theorem δ (c:bX)(y:Int)(l:Li)(hl:l.os.length<=255)(x:Int):(dS c y l).1.count x+(dS c y l).2.os.count x=l.os.count x + [y].count x:=by
 have a:(eO [y] l).os=l.os++[y]:=by
  unfold eO;rw[zA aE]
 unfold dS;rw[zA O];split
 ·rw[a,List.count_nil,zG,vA]
 ·rw[CD];have:(nC c (eO [y] l)).os=(eO [y] l).os:=by unfold nC;split<;>rfl
  rw[this,a,vA]
theorem Fh {c:bX}{l l':Li}{y:Int}(h:Kj c l=(some y,l'))(x:Int):l.os.count x=l'.os.count x + [y].count x:=by
 unfold Kj at h;split at h
 ·simp at h
 ·rename_i z hz;cases h;have:l.os=l.os.dropLast++[y]:=by
   obtain⟨b,a⟩:=List.getLast?_eq_some_iff.1 hz;rw[a];simp
  conv=>lhs;rw[this]
  rw[vA]
theorem WjN {c:bX}{l l':Li}(h:Kj c l=(none,l')):l.os=[]/\l'.os=[]:=by
 unfold Kj at h;split at h
 ·rename_i hz;have:l.os=[]:=by simpa using hz
  cases h;refine⟨this,?_⟩;split<;>exact this
 ·simp at h
theorem Ew {live:List (Int×Bk)}{x:Int}(b:Bk)(h:bV live x=none)(k y:Int):m5 (dE live x b) k y=m5 live k y+(if b.2.2.1=k then[x].count y else 0):=by
 have a:live.any (λe=>e.1==x)=false:=by
  rw[np];intro e he hx;unfold bV at h;rw[qX,oV]at h;exact h e he hx
 unfold dE;rw[a,zA aA];unfold m5;rw[tO]
 congr 1
 rw[qw,List.countP_nil,zG];by_cases h1:b.2.2.1=k
 ·by_cases h2:x=y
  ·subst h2;simp[h1]
  ·simp[h1,h2]
 ·simp[h1]
theorem BI {live:List (Int×Bk)}{x:Int}{b:Bk}(h:bV live x=none){e:Int×Bk}:e∈dE live x b↔e∈live\/e=(x,b):=by
 have a:live.any (λe=>e.1==x)=false:=by
  rw[np];intro e he hx;unfold bV at h;rw[qX,oV]at h;exact h e he hx
 unfold dE;rw[a,zA aA,zP,zS]
theorem Co {live:List (Int×Bk)}{x:Int}{e:Int×Bk}:e∈cT live x↔e∈live/\e.1≠x:=by
 unfold cT;rw[zH];simp
theorem DJ:∀{live:List (Int×Bk)} {x:Int} {b:Bk},(live.map (·.1)).Nodup->bV live x=some b->∀k y,m5 live k y=m5 (cT live x) k y+(if b.2.2.1=k then[x].count y else 0)
 | [],x,b,_,h,_,_=>by simp[bV]at h
 | e::l,x,b,hn,h,k,y=>by
  rw[zK,zo]at hn;by_cases he:e.1=x
  ·have hb:e.2=b:=by
    unfold bV at h;rw[List.find?_cons_of_pos (by simpa using he)]at h;simpa using h
   have hd:cT (e::l) x=l:=by
    unfold cT;rw[tx (by simpa using he),ov];intro a ha;have:a.1≠x:=λg=>hn.1 (zD.2 ⟨a,ha,g.trans he.symm⟩);simpa using this
   rw[hd];unfold m5;rw[qw,hb,he]
   congr 1
   by_cases h1:b.2.2.1=k
   ·by_cases h2:x=y
    ·subst h2;simp[h1]
    ·simp[h1,h2]
   ·simp[h1]
  ·have i:bV l x=some b:=by
    unfold bV at h ⊢
    rwa [List.find?_cons_of_neg (by simpa using he)]at h
   have d:=DJ hn.2 i k y;have hd:cT (e::l) x=e::cT l x:=by
    unfold cT;rw[uz (by simpa using he)]
   rw[hd];unfold m5 at d ⊢;rw[qw,qw,d];omega
theorem LH {live:List (Int×Bk)}{e:Int×Bk}(h:e∈live):1<=m5 live e.2.2.2.1 e.1:=by
 unfold m5;exact List.countP_pos_iff.2 ⟨e,h,by simp⟩
structure gM (s s':Sp):Prop where
 l:s'.st.length=s.st.length
 z:∀p,gf s'.st p=0↔gf s.st p=0
 w:s'.wd=s.wd
def iG (m:Nat)(g:Th):Prop:=match g.ph with
 | none=>g.bP=[]
 | some (.take k)=>g.bP=[]/\k<m
 | some (.cO k w)=>g.bP=[]/\k<m/\(g.li k).os=[]/\1<=w/\w<=32
 | some (.cQ k w)=>g.bP=[]/\k<m/\(g.li k).os=[]/\1<=w/\w<=32
 | some (.grow k w)=>g.bP=[]/\k<m/\(g.li k).os=[]/\1<=w/\w<=32
 | some .fill=>∃k x xs,g.bP=[(k,x::xs)]/\k<m/\(g.li k).os=[]/\xs.length<=128
 | some (.eT n)=>g.bP=[]/\1<=n/\n<=64
 | some (.find x)=>g.bP=[]/\iF x
 | some (.put k x)=>g.bP=[(k,[x])]/\k<m
 | some .back=>g.bP≠[]
 | some (.dK _ _)=>g.bP=[]
 | some .drain=>g.bP=[]
structure tT (m:Nat) (g:Th):Prop where
 ll:g.ls.length=m
 lo:∀l∈g.ls,fT l/\l.os.length<=128
 hb:∀b∈g.bP,b.1<m/\b.2≠[]/\b.2.length<=256
 hl:g.bP.length<=41
 ph:iG m g
def Lv (held:List Pc)(e:Int×Bk):Prop:=e.2.1=e.1/\∃p∈held,p.dZ=false/\p.cls=e.2.2.2.1/\(p.addr:Int)=e.1/\e.2.2.1=(p.size:Int)/\e.2.2.2.2=(p.k:Int)
def Gv (held:List Pc)(s a:Int):Prop:=∃p∈held,p.dZ=false/\p.cls = -1/\(p.addr:Int)=s*256/\a=(p.k:Int)
structure HI (H:Hw) (held:List Pc) (s0:Sp):Prop where
 wi:WI ⟨H.tb,s0,H.bT,held⟩
 k7:gM s0 H.sp
 cn:∀k x,qT H k x=k5 held k x
 lk:(H.live.map (·.1)).Nodup
 lv:∀e∈H.live,Lv held e
 gv:∀g∈H.bS,∀s a,g.ph=some (.dK s a)->Gv held s a
 th:∀g∈H.bS,tT H.tb.length g
 ok:∀c∈H.tb,c.ok
 a1:1<=H.bT.length
 sl:H.sp.st.length=H.cf.aF
variable {H:Hw}{held:List Pc}{s0:Sp}{t k:Nat}{g:Th}{A:AR}
theorem gM.refl (s:Sp):gM s s:=⟨rfl,λ_=>Iff.rfl,rfl⟩
theorem HI.apart (h:HI H held s0){p q:Pc}(hp:p∈held)(hq:q∈held){x:Nat}(p1:p.addr<=x)(p2:x<p.addr+p.size)(q1:q.addr<=x)(q2:x<q.addr+q.size):p=q:=h.wi.apart hp hq p1 p2 q1 q2
theorem WI.same {W:Wd}(h:WI W){p q:Pc}(hp:p∈W.held)(hq:q∈W.held)(e:p.addr=q.addr):p=q:=by
 have b:=(h.size_pos hp).1;have a:=(h.size_pos hq).1;exact h.apart hp hq (x:=p.addr) (zC _) O O O
theorem WI.um {W:Wd}(h:WI W){p:Pc}(hp:p∈W.held){k x:Int}(hu:Um W.held k x)(e:(p.addr:Int)=x):p.dZ=false/\p.cls=k:=by
 obtain⟨q,d,a,b,g⟩:=hu;obtain rfl:=h.same hp d O;exact⟨a,b⟩
theorem HI.nZ (h:HI H held s0){e:Int×Bk}(he:e∈H.live):Um held e.2.2.2.1 e.1:=by
 obtain⟨_,p,b,a,d,g,_⟩:=h.lv e he;exact⟨p,b,a,d,g⟩
theorem HI.pL (h:HI H held s0){g:Th}(hg:g∈H.bS)(k x:Int):gZ g k x<=k5 held k x:=by
 rw[←h.cn];unfold qT;have:=Cm (λg=>gZ g k x) hg;omega
theorem HI.rj (h:HI H held s0){g:Th}(hg:g∈H.bS){k x:Int}(hc:1<=gZ g k x):Um held k x:=Ci (zI hc (h.pL hg k x))
theorem HI.mV (h:HI H held s0){g:Th}(hg:g∈H.bS){k x:Int}(hc:1<=gZ g k x):bV H.live x=none:=by
 cases hm:bV H.live x with
 | none=>rfl
 | some b=>
  have a:=KK hm;have m:=h.rj hg hc;obtain⟨q,j,w,r,s⟩:=h.nZ a;have u:k=b.2.2.1:=by
   have:=(h.wi.um (W:=⟨H.tb,s0,H.bT,held⟩) j m s).2;exact this.symm.trans r
  have i:=LH a;have d:=h.cn k x;have p:=I6 held k x;have e:=Cm (λg=>gZ g k x) hg;simp only at i e;unfold qT at d;rw[u]at d p e hc;omega
theorem HI.uK (h:HI H held s0){x:Int}(hn:∀k,¬Um held k x):bV H.live x=none:=by
 cases hm:bV H.live x with
 | none=>rfl
 | some b=>exact(hn _ (h.nZ (KK hm))).elim
theorem HI.fQ (h:HI H held s0)(hg:H.bS[t]?=some g){g':Th}{live':List (Int×Bk)}{s0' sp':Sp}{ars':List AR}{held':List Pc}(wi:WI ⟨H.tb,s0',ars',held'⟩)(k7:gM s0' sp')(hsl:sp'.st.length=H.sp.st.length)(hl:ars'.length=H.bT.length)
 (sub:∀p∈held',p.dZ=false->p∈held\/∀k,¬Um held k (p.addr:Int))
 (cn:∀k x,m5 live' k x+gZ g' k x+k5 held k x=m5 H.live k x+gZ g k x+k5 held' k x)
 (lk:(live'.map (·.1)).Nodup) (lv:∀e∈live',e∈H.live\/Lv held' e) (gv:∀s a,g'.ph=some (.dK s a)->Gv held' s a) (th:tT H.tb.length g') :
 HI {H with live:=live',sp:=sp',bT:=ars',bS:=H.bS.set t g'} held' s0':=by
 have r:∀k x,qT {H with live:=live',sp:=sp',bT:=ars',bS:=H.bS.set t g'} k x=k5 held' k x:=λk x=>by
  have b:=h.cn k x;have u:=cn k x;have i:=FH (λg=>gZ g k x) g' hg;unfold qT at b ⊢;simp only at i ⊢;omega
 have G:=(cS.1 hg).1;have bU:∀p∈held,p.dZ=false->Um held' p.cls (p.addr:Int)->p∈held':=λp m E ⟨q,A,b,u,i⟩=>by
  rcases sub q A b with hs|hs
  ·have:q=p:=h.wi.same (W:=⟨H.tb,s0,H.bT,held⟩) hs m O;rw[←this];exact A
  ·exact(hs p.cls ⟨p,m,E,rfl,i.symm⟩).elim
 refine⟨wi,k7,r,lk,λe B=>?_,λw d s a m=>?_,λw d=>?_,h.ok,by simp only;rw[hl];exact h.a1,hsl.trans h.sl⟩
 ·rcases lv e B with he'|he'
  ·obtain⟨D,p,m,b,u,i,y⟩:=h.lv e he';refine⟨D,p,bU p m b ?_,b,u,i,y⟩;rw[u,i];apply Ci;rw[←r];have:1<=m5 live' e.2.2.2.1 e.1:=LH B;unfold qT;simp only;omega
  ·exact he'
 ·rcases List.mem_iff_getElem?.1 d with⟨j,hj⟩;rcases Vo hj with⟨rfl,rfl,_⟩|⟨hne,hj'⟩
  ·exact gv s a m
  ·obtain⟨p,z,b,u,i,y⟩:=h.gv w (zE hj') s a m;refine⟨p,bU p z b ?_,b,u,i,y⟩;rw[u,i];apply Ci;rw[←r];have C:=Cm (λg=>gZ g (-1) (s*256)) d;have F:1<=gZ w (-1) (s*256):=by unfold gZ;rw[m];simp[kh]
   unfold qT;simp only at C ⊢;omega
 ·rcases List.mem_iff_getElem?.1 d with⟨j,hj⟩;rcases Vo hj with⟨rfl,rfl,_⟩|⟨hne,hj'⟩
  ·exact th
  ·exact h.th w (zE hj')
theorem HI.kX (h:HI H held s0)(hg:H.bS[t]?=some g){g':Th}{live':List (Int×Bk)}(cn:∀k x,m5 live' k x+gZ g' k x=m5 H.live k x+gZ g k x)(lk:(live'.map (·.1)).Nodup)(lv:∀e∈live',e∈H.live\/Lv held e)
 (gv:∀s a,g'.ph=some (.dK s a)->Gv held s a) (th:tT H.tb.length g'):HI {H with live:=live',bS:=H.bS.set t g'} held s0:=
 h.fQ hg h.wi h.k7 rfl rfl (λp b _=>.inl b) (λk x=>by have:=cn k x;omega) lk lv gv th
theorem HI.tJ (h:HI H held s0){s0' sp':Sp}{ars':List AR}{held':List Pc}(wi:WI ⟨H.tb,s0',ars',held'⟩)(k7:gM s0' sp')(hsl:sp'.st.length=H.sp.st.length)(hl:ars'.length=H.bT.length)(um:∀k x,Um held' k x↔Um held k x)(sub:∀p∈held',p.dZ=false->p∈held) :
 HI {H with sp:=sp',bT:=ars'} held' s0':=by
 have bU:∀p∈held,p.dZ=false->p∈held':=λp d w=>by
  obtain⟨q,m,b,i,z⟩:=(um p.cls (p.addr:Int)).2 ⟨p,d,w,rfl,rfl⟩;have:q=p:=h.wi.same (W:=⟨H.tb,s0,H.bT,held⟩) (sub q m b) d O;rw[←this];exact m
 refine⟨wi,k7,λk x=>(h.cn k x).trans (Rv um k x).symm,h.lk,λe y=>?_,λg r s a d=>?_,h.th,h.ok,by simp only;rw[hl];exact h.a1,hsl.trans h.sl⟩
 ·obtain⟨u,p,d,b,i⟩:=h.lv e y;exact⟨u,p,bU p d b,b,i⟩
 ·obtain⟨p,j,b,i⟩:=h.gv g r s a d;exact⟨p,bU p j b,b,i⟩
theorem R5 {A:AR}{x:Int}:UZ A x=true↔0<=x/\A.f x.toNat≠0:=by
 unfold UZ AR.f gf;simp
theorem WI.owner {W:Wd}(h:WI W){p:Pc}(hp:p∈W.held){x:Nat}(h1:p.addr<=x)(h2:x<p.addr+p.size):Ye W.bT (x:Int)=(p.k:Int):=by
 obtain⟨A,b,_⟩:=h.hf p hp;have g:=h.nD hp b h1 h2;have a:=(cS.1 b).1;have own:∀(j:Nat) (B:AR),W.bT[j]?=some B->(UZ B ((x:Int)/256)=true↔j=p.k):=λj B d=>by
  have e:((x:Int)/256).toNat=x/256:=by omega
  rw[R5,e];constructor
  ·rintro⟨_,hf⟩;exact h.one (x/256) j p.k B A d b hf O
  ·rintro rfl;rw[b]at d;cases d;exact⟨O,O⟩
 unfold Ye;rw[zA O];have hf:W.bT.findIdx? (λA=>UZ A ((x:Int)/256))=some p.k:=by
  rw[pj];refine⟨a,(own p.k _ (cL a)).2 rfl,λj i=>?_⟩;have:=own j W.bT[j] (cL O);intro hx;have:=this.1 hx;omega
 rw[hf]
theorem HI.owner (h:HI H held s0){p:Pc}(hp:p∈held){x:Nat}(h1:p.addr<=x)(h2:x<p.addr+p.size):Ye H.bT (x:Int)=(p.k:Int):=h.wi.owner (W:=⟨H.tb,s0,H.bT,held⟩) hp h1 h2
theorem HI.pZ (h:HI H held s0){p:Pc}(hp:p∈held):Ye H.bT (p.addr:Int)=(p.k:Int):=h.owner hp (zC _) (by have:=(h.wi.size_pos (W:=⟨H.tb,s0,H.bT,held⟩) hp).1;omega)
theorem HI.i63 (h:HI H held s0){k x:Int}(hu:Um held k x):iF x/\0<=x/\0<=Ye H.bT x:=by
 obtain⟨p,a,_,_,rfl⟩:=hu;have:=(h.wi.kj (W:=⟨H.tb,s0,H.bT,held⟩) a).1;refine⟨by unfold iF;omega,O,?_⟩;rw[h.pZ a];omega
end Go.Ar