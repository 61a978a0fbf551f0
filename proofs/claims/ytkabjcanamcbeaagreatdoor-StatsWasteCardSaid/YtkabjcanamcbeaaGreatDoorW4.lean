/- Texts joined. -/
import Derived.Test.YtkabjcanamcbeaaGreatDoorW3
set_option linter.unusedVariables false
set_option linter.unusedSimpArgs false
namespace Go.Ar
open Go Go.Vc Go.Proofs
open Go.Bu (Zf)
variable {σ:Hp}{F:Rg}{p q r:Nat}{sp:Sp}{l:List (Int×Sl)}{B:Nat->Nat}
theorem Og (h:dE σ F p sp)(g:Gl σ)(x:Int)(hx:x<=9223372036854775807){R:aN}(hR:∀σ',bO σ σ'->R (j5 sp x) σ') :
 X1.c (aW p) x 1 σ R:=by
 refine X1.o ?_;unfold X1.v;have D:=h;obtain⟨q,r,l,B,h⟩:=h;have n2:=h.n2;have d:(x<0\/x%8≠0)->R 7 σ:=λj=>by
  have:=hR σ (Ext.refl _ _);unfold j5 at this;rw[zB j]at this;exact this
 refine Hk D (cG rfl (cG rfl (bY.intro (cI (λC=>cK rfl (d (.inl C))) λC=>nz aB ?_))));obtain⟨y,rfl⟩:=zi (show 0<=x by omega);refine cU (λi=>?_) λi=>?_
 ·refine d (.inr ?_);rw[Q8 O]at i;simpa using i
 have K:y%8=0:=by
  rw[Q8 O]at i;have:((y:Int)%8)=0:=by simpa using i
  omega
 have ok:¬((y:Int)<0\/(y:Int)%8≠0):=by omega
 refine nz aB (cA (m:=y/256) (by rw[YN O];simp) O (nz aB (cA (m:=y/8) (by rw[YN O];simp) O ?_)));refine cA (m:=y/8+1) O O (cA (m:=y/8) O O (nz aB (cA (m:=y/256) (by rw[YN O];simp;omega) O ?_)));have fin:∀(b:Bool) σ',bO σ σ'->(b=true↔sp.st.getD (y/256) 0=0)->If b (R 7 σ') (R 0 σ'):=λb σ' e j=>by
  have:=hR σ' e;unfold j5 at this;rw[zA ok]at this;refine cU (λh=>?_) λh=>?_
  ·rw[zB (by simpa using j.1 h)]at this;exact this
  ·rw[zA (λE=>by rw[j.2 (by simpa using E)]at h;cases h)]at this;exact this
 obtain⟨c,J,hd⟩:=h.hd;refine Jn.intro ⟨λm=>bX m p [.slice (some ⟨q,0,none⟩) sp.st.length c,.map (some r),.int .i64 (sp.pk:Int)]/\Gl m,⟨hd,g⟩,?_⟩;refine aG ⟨⟨some ⟨q,0,none⟩,sp.st.length,c⟩,λm a=>by rw[add_lit,a.1.cell];rfl,?_⟩;refine cI (λs=>?_) λs=>?_
 ·simp only at s;refine fin _ σ (Ext.refl _ _) ⟨λ_=>?_,λ_=>rfl⟩;rw[zL,zZ O];rfl
 simp only at s;refine aG ⟨⟨some ⟨q,0,none⟩,sp.st.length,c⟩,λm a=>by rw[add_lit,a.1.cell];rfl,?_⟩;refine cA (m:=y/256+1) O O (jd O aC (zD _) ?_);simp only;rw[zA O];refine⟨false,λm a=>a.2.u0,⟨false,λm a=>a.2.u1,?_⟩⟩;have e:(Option.map (λ(u:Addr)=>u.add (y/256*2)) (some (⟨q,0,none⟩:Addr)))=some ⟨q,2*(y/256),none⟩:=by
  simp only[zf,add_lit];congr 2;omega
 rw[e,DI];have G:=h.part (x:=y/256) (y:=1) (c:=c-y/256) O;refine GO (v:=0) G (by rw[zO,zr];omega) (λz H=>h.qs z (qQ (mc H))) O λσ' w=>?_;refine⟨⟨w.bZ hd id,g.bK w⟩,fin _ σ' w ?_⟩;have A:y/256<sp.st.length:=by omega
 rw[zL,cM A,qh A,sy,Au];simp[eq_comm]
theorem fL.DG (h:fL σ F p q r l B sp){k:Nat}(hk:k<sp.st.length)(hn:sp.st[k]?≠some 2){σ':Hp}{b:Nat}{s:Sl}{T:Rg}(e:Ext T σ σ')(hT:∀i,i<σ.size->T i->i=q\/i=r)(hz:σ.size<=b){rest:List Value}
 (hb:bX σ' q (ic (sp.st.set k 2)++rest)) (hm:dK σ' r .i64 .s (dF l (k:Int) s)) (ha:s.a=some ⟨b,0,none⟩) (hl:s.len=32) (hc:s.cap=32) (hw:bX σ' b (List.replicate 32 (.int .i64 0))) :
 fL σ' (Grow F σ) p q r (dF l (k:Int) s) (λj=>if j=k then b else B j) {sp with st:=sp.st.set k 2}:=by
 have u:∀j:Nat,(sp.st.set k 2)[j]?=some 2↔j=k\/sp.st[j]?=some 2:=λj=>by
  rw[ov];by_cases hjk:k=j
  ·subst hjk;rw[zB rfl,zB hk];simp
  ·rw[zA hjk];exact⟨λh=>.inr h,λh=>h.resolve_left λe=>hjk e.symm⟩
 obtain⟨c,H,hd⟩:=h.hd;obtain⟨_,A⟩:=h.row;have U:=hd.lt;have W:=A.lt;have V:=h.map.lt;have S:=e.1;have g:=h.fs;have z:∀{j:Nat},sp.st[j]?=some 2->B j<σ.size:=λ{j} d=>by
  obtain⟨t,_,_,_,_,cs,G,_⟩:=h.entry d;exact G.lt
 have cW:∀{i:Nat} {cs:List Value},bX σ i cs->i≠q->i≠r->bX σ' i cs:=λ{i cs} D E y=>e.bZ D λL=>by
  rcases hT i D.lt L with h|h
  ·exact E h
  ·exact y h
 refine⟨⟨c,by simpa using H,by simpa using cW hd g.2.2.2.1 g.2.2.2.2.1⟩,⟨rest,hb⟩,hm,λx=>?_,λj t d=>?_,λj C E y m=>?_,λj d=>?_,⟨.inl g.1,.inl g.2.1,.inl g.2.2.1,g.2.2.2⟩,λw J=>?_,by simpa using h.n1,by simpa using h.n2,EU h.qs O,h.pk⟩
 ·rw[Br];by_cases hx:x=(k:Int)
  ·rw[zB hx];subst hx;simp only[Option.isSome_some,true_iff];exact⟨k,rfl,(u k).2 (.inl rfl)⟩
  ·rw[zA hx,h.keys];constructor
   ·rintro⟨j,rfl,d⟩;exact⟨j,rfl,(u j).2 (.inr d)⟩
   ·rintro⟨j,rfl,d⟩;exact⟨j,rfl,((u j).1 d).resolve_left O⟩
 ·rw[Br]at d;by_cases hx:(j:Int)=(k:Int)
  ·have:j=k:=by omega
   subst this;rw[zB rfl]at d;cases d;rw[zB rfl];refine⟨ha,hl,O,_,hw,by simp,λi D=>?_⟩;rw[nr,zB D];simp only;rw[h.zero _ (by rw[show(32*j+i)/32=j by omega];exact hn)]
  ·rw[zA hx]at d;obtain⟨N,P,R,cs,G,Q,M⟩:=h.wd j t d;have K:=h.out j (h.dJ d);rw[zA O];exact⟨N,P,R,cs,cW G K.2.2.1 K.2.2.2,Q,M⟩
 ·by_cases e1:j=k
  ·by_cases e2:C=k
   ·omega
   ·rw[zB e1,zA e2]at m;have:=z (((u C).1 y).resolve_left e2);omega
  ·rw[zA e1]at m;by_cases e2:C=k
   ·rw[zB e2]at m;have:=z (((u j).1 E).resolve_left e1);omega
   ·rw[zA e2]at m;exact h.inj j C (((u j).1 E).resolve_left e1) (((u C).1 y).resolve_left e2) m
 ·by_cases e1:j=k
  ·rw[zB e1];exact⟨.inr hz,O,O,O⟩
  ·rw[zA e1];have:=h.out j (((u j).1 d).resolve_left e1);exact⟨.inl this.1,this.2⟩
 ·refine h.zero w λy=>J ((u _).2 (.inr y))
theorem fL.dM (h:fL σ F p q r l B sp){σ':Hp}{n c:Nat}(hn:n<=1024)(ho:QD σ σ' p)(hc:sp.st.length<=c)(hb:bX σ' p [.slice (some ⟨q,0,none⟩) sp.st.length c,.map (some r),.int .i64 (n:Int)]):fL σ' F p q r l B {sp with pk:=n}:=by
 have b:=h.fs;obtain⟨rest,a⟩:=h.row;refine⟨⟨c,hc,hb⟩,⟨rest,Ws ho a O⟩,Hl ho h.map O,h.keys,λj t d=>?_,h.inj,h.out,b,h.zero,h.n1,h.n2,h.qs,hn⟩;obtain⟨w,g,u,i,e,m,s⟩:=h.wd j t d;exact⟨w,g,u,i,Ws ho e (h.out j (h.dJ d)).2.1,m,s⟩
theorem fL.word (h:fL σ F p q r l B sp){w:Nat}{v:Int}(hk:sp.st[w/32]?=some 2){σ':Hp}{cs:List Value}(h32:32<=cs.length)(ho:QD σ σ' (B (w/32)))(hcs:∀j,j<32->cs[j]?=some (.int .i64 (sp.wd (32*(w/32)+j))))
 (hb:bX σ' (B (w/32)) (cs.set (w%32) (.int .i64 v))):fL σ' F p q r l B {sp with wd:=λu=>if u=w then v else sp.wd u}:=by
 have s:=h.out _ hk;obtain⟨c,G,hd⟩:=h.hd;obtain⟨rest,a⟩:=h.row;refine⟨⟨c,G,Ws ho hd O⟩,⟨rest,Ws ho a O⟩,Hl ho h.map O,h.keys,λj t y=>?_,h.inj,h.out,h.fs,λu z=>?_,h.n1,h.n2,h.qs,h.pk⟩
 ·obtain⟨x,m,A,d,C,D,E⟩:=h.wd j t y;by_cases hjk:j=w/32
  ·subst hjk;refine⟨x,m,A,_,hb,by simpa using h32,λi b=>?_⟩;rw[ov];by_cases hiw:w%32=i
   ·rw[zB hiw,zB O];simp only;rw[zB O]
   ·rw[zA hiw];simp only;rw[zA O];exact hcs i b
  ·have g:B j≠B (w/32):=λe=>hjk (h.inj _ _ (h.dJ y) hk e);refine⟨x,m,A,d,Ws ho C g,D,λi b=>?_⟩;rw[E i b];simp only;rw[zA O]
 ·have:u≠w:=λe=>by subst e;exact z hk
  simp only;rw[zA this];exact h.zero u z
theorem NM (h:dE σ F p sp)(g:Gc σ){w:Nat}(hw:w/32<sp.st.length)(v:Int){R:aP}(hR:∀σ',Ext F σ σ'->dE σ' (Grow F σ) p (nT sp w v)->R σ') :
 Zn.c (aW p) (w:Int) v σ R:=by
 refine Zn.o ?_;unfold Zn.v;obtain⟨q,r,l,B,h⟩:=h;have ab:=h.n2;have j:sp.st[w/32]?=some sp.st[w/32]:=cM hw;have tm:((w:Int).tmod 32)=((w%32:Nat):Int):=by rw[Q8 O];simp
 have word:∀(u:Hp) (s':Sp) (l':List (Int×Sl)) (B':Nat->Nat),Ext F σ u->fL u (Grow F σ) p q r l' B' s'->s'.st[w/32]?=some 2->({s' with wd:=λz=>if z=w then v else s'.wd z}:Sp)=nT sp w v →
  bS (some ⟨p,0,none⟩) λY=>mQ (Y.add 1) u λZ=>Lk .i64 .s Z ((w/32:Nat):Int) u λH=>Nz 32<|Ix (H.getD ⟨none,0,0⟩).a (H.getD ⟨none,0,0⟩).len ((w:Int).tmod 32) 1 λW=>dL W (.int .i64 v) u λv1=>R v1:=by
  intro u s' l' B' eu hu A he;refine aG (hu.rM ⟨l',hu.map,nz aB ?_⟩);obtain⟨s,hs,w1,w2,w3,cs,w4,w5,w6⟩:=hu.entry A;rw[hs,tm];simp only[oV];rw[w1];refine ix O O ?_;rw[add_lit,show 0+((w%32:Nat):Int).toNat*1=w%32 by omega];refine w4.s0 O λu2 o2 M=>?_;have h2:=hu.word (v:=v) A w5 o2 w6 M;rw[he]at h2;exact hR u2 (eu.fC o2.ext λb d=>by subst d;exact(hu.out _ A).1) ⟨_,_,_,_,h2⟩
 refine nz aB (cA (m:=w/32) (by rw[YN O];simp) O (Jn.intro (aG (h.rS λcap G=>ix O aC ?_))));rw[add_lit,show 0+((w/32:Nat):Int).toNat*2=2*(w/32) by omega];refine h.yA j (lO (n:=true) g.d0 (lO (n:=true) g.d1 ?_));have e0:(((fM sp.st[w/32]).1==true)&&(((fM sp.st[w/32]).2==true)&&true))=(sp.st[w/32]==2):=A0 (h.qs _ (zc hw)) (y:=2) O;rw[e0];refine cU (λhd=>?_) λhd=>?_
 ·have C:sp.st[w/32]≠2:=by simpa using hd
  refine aG (h.rS λcap G=>lO (n:=true) g.d0 (lO (n:=true) g.d1 (ix O aC ?_)));rw[add_lit,show 0+((w/32:Nat):Int).toNat*2=2*(w/32) by omega];obtain⟨rest,E⟩:=h.row;refine E.s1 (by rw[zK,Vo];omega) λu1 o1 b1=>b1.s1 (by rw[oR,zK,Vo];omega) λu2 o2 M=>?_;rw[zq]at M;have ac:bX u2 q (ic (sp.st.set (w/32) 2)++rest):=by rw[←JP hw];exact M
  have U:Ext (· = q) σ u2:=o1.ext.trans o2.ext;obtain⟨c,hc,J⟩:=h.hd;have D:=U.bZ J h.fs.2.2.2.1;refine⟨λm=>bX m p [.slice (some ⟨q,0,none⟩) sp.st.length c,.map (some r),.int .i64 (sp.pk:Int)],D,aG ⟨some r,λm hm=>by rw[add_lit,hm.cell];rfl,?_⟩⟩;refine mk (n:=32) O O λu3 hz3 N b3=>⟨Ext.bZ N D id,?_⟩;have S:bX u3 u2.size (List.replicate 32 (.int .i64 0)):=b3;have q3:=Ext.bZ N ac id;have P:=U.gL h.map (λe=>h.fs.2.2.2.2.2 e.symm);refine⟨r,l,rfl,Ext.gL N P id,λu4 o4 X=>?_⟩;have sz2:u2.size=σ.size:=by rw[o2.1,o1.1]
  have ad:=h.map.lt;have hplt:=J.lt;have e4:Ext (λb=>b=q\/b=r) σ u4:=((U.sub λb d=>.inl d).trans (bO.to N)).trans (o4.ext.sub λb d=>.inr d);have K:=h.DG hw (by rw[j];simpa using C) (s:=⟨some ⟨u2.size,0,none⟩,32,32⟩) (b:=u2.size) e4 (λi _ L=>L) O (Ws o4 q3 h.fs.2.2.2.2.2) X rfl rfl rfl (Ws o4 S O);obtain⟨c4,aa,x⟩:=K.hd;refine aG (x.rI rfl (aG (x.rM rfl ⟨_,K.map,aG ?_⟩)));rw[K.rX];have hcl:(sp.st.set (w/32) 2).count 2<=1024:=zI vM (by simpa using ab);have hpk:=h.pk;have hv:(if((List.count 2 (sp.st.set (w/32) 2):Nat):Int)>(sp.pk:Int)then((List.count 2 (sp.st.set (w/32) 2):Nat):Int)else(sp.pk:Int))=((max sp.pk ((sp.st.set (w/32) 2).count 2):Nat):Int):=by
   by_cases hgt:((List.count 2 (sp.st.set (w/32) 2):Nat):Int)>(sp.pk:Int)
   ·rw[zB hgt];omega
   ·rw[zA hgt];omega
  simp only;rw[hv];refine x.s1 aA λu5 o5 b5=>?_;have h5:=K.dM O o5 aa b5;have e5:Ext F σ u5:=(e4.sub λb d=>by
   rcases d with rfl|rfl
   ·exact h.fs.2.1
   ·exact h.fs.2.2.1).trans (o5.ext.sub λb d=>by subst d;exact h.fs.1)
  refine word u5 _ _ _ e5 h5 (by simp only;rw[ov,zB rfl,zB hw]) ?_;unfold nT;rw[zA (by rw[zL,j];exact C)]
 ·have Q:sp.st[w/32]=2:=by simpa using hd
  rw[Q]at j;have V:fL σ (Grow F σ) p q r l B sp:={h with out:=λk A=>⟨.inl (h.out k A).1,(h.out k A).2⟩,fs:=⟨.inl h.fs.1,.inl h.fs.2.1,.inl h.fs.2.2.1,h.fs.2.2.2⟩};refine word σ sp l B (Ext.refl _ _) V j ?_;unfold nT;rw[zB (by rw[zL,j];rfl)];have:sp.st.set (w/32) 2=sp.st:=by
   apply zy;intro i;rw[ov];by_cases L:w/32=i
   ·subst L;rw[zB rfl,zB hw,j]
   ·rw[zA L]
  rw[this]
theorem Pw (h:dE σ F p sp)(g:Gl σ)(gd:Gc σ)(x:Int)(hx:x<=9223372036854775807)(v:Int){R:aN}(hR:∀σ',Ext F σ σ'->dE σ' (Grow F σ) p (US sp x v)->R (j5 sp x) σ') :
 YC.c (aW p) x v σ R:=by
 refine YC.o ?_;unfold YC.v;have j:dE σ (Cut F σ) p sp:=dQ.cut dE.loc h;refine Og h g x hx λA e=>?_;have w:=j.bK e;have D:=g.bK e;refine cU (λr=>?_) λr=>?_
 ·have u:¬j5 sp x=0:=by simpa using r
  refine hR A (bO.to e) ?_;unfold US;rw[zA u];exact dQ.mono dE.loc w λb _ a=>.inl a.1
 ·have d:j5 sp x=0:=by simpa using r
  have i:0<=x/\sp.st.getD (x.toNat/256) 0≠0:=by
   unfold j5 at d;by_cases a:x<0\/x%8≠0
   ·rw[zB a]at d;cases d
   ·rw[zA a]at d;by_cases hz:sp.st.getD (x.toNat/256) 0=0
    ·rw[zB hz]at d;cases d
    ·exact⟨O,hz⟩
  obtain⟨y,rfl⟩:=zi i.1;have s:y/8/32<sp.st.length:=by
   rcases ma (y/256) sp.st.length with h|h
   ·omega
   ·exact absurd (by rw[zL,zZ (by simpa using h)];rfl) i.2
  refine nz aB (cA (m:=y/8) (by rw[YN O];simp) O (NM w (gd.bK e) s v λz B C=>?_));have:=hR z (Ext.cut ((bO.to e).trans B)) ?_
  ·rw[d]at this;exact this
  ·unfold US;rw[zB d];exact dQ.mono dE.loc C λb _ a=>by
    rcases a with a|a
    ·exact .inl a.1
    ·exact .inr (zI e.1 a)
def Vq (n:Nat):Sp:=⟨List.replicate n 0,λ_=>0,0⟩
theorem WnO {σ:Hp}{F:Rg}{p q r n c:Nat}(h1:1<=n)(h2:n<=1024)(hc:n<=c)(hd:bX σ p [.slice (some ⟨q,0,none⟩) n c,.map (some r),.int .i64 0])(hq:bX σ q (ic (List.replicate n 0)))(hr:dK σ r .i64 .s [])
 (hF:F p/\F q/\F r) (hne:p≠q/\p≠r/\q≠r):fL σ F p q r [] (λ_=>0) (Vq n):=by
 have b:∀k:Nat,(List.replicate n 0)[k]?≠some 2:=λk a=>by
  rw[nr]at a;split at a<;>cases a
 refine⟨⟨c,by simpa[Vq]using hc,by simpa[Vq]using hd⟩,⟨[],by simpa[Vq]using hq⟩,hr,λx=>?_,λk s e=>(by cases e),λk g h1=>absurd h1 (b k),λk a=>absurd a (b k),⟨hF.1,hF.2.1,hF.2.2,hne⟩,λw _=>rfl,by simpa[Vq]using h1,by simpa[Vq]using h2,λx d=>?_,by simp[Vq]⟩
 ·constructor
  ·intro h;cases h
  ·rintro⟨k,_,a⟩;exact absurd a (b k)
 ·have:=Cu d;omega
theorem PM {n:Nat}(h1:1<=n)(h2:n<=1024){R:Option Addr->Int->Hp->Prop}(hR:∀σ' p',bO σ σ'->σ.size<=p'->dE σ' (λb=>σ.size<=b) p' (Vq n)->R (some ⟨p',0,none⟩) 0 σ'):Q2.c (n:Int) σ R:=by
 refine Q2.o ?_;unfold Q2.v;refine bY.intro (fH O ?_);rw[zh O];refine cG rfl (mk O O λe w p i=>tL λx y d m=>nw (cs:=[.slice (some ⟨σ.size,0,none⟩) n n,.map (some e.size),.int .i64 0]) λj z a r=>?_);have u:=Ext.bZ a (Ext.bZ d i id) id;have g:=Ext.gL a (m .i64 .s) id;refine hR j _ (Ext.trans (Ext.trans p d) a) O ⟨σ.size,e.size,[],_,WnO h1 h2 (zD _) r ?_ g ⟨O,O,O⟩ O⟩;rw[SU];exact u
end Go.Ar
namespace Go.Vc
open Go
def yb (h:Hp)(it r:Nat):Nat:=
 match h[it]?,h[r]? with
 | some (.mapIter _ _ seen _),some (.map es _)=>(es.toList.filter λe=>!seen.contains e.born).length
 | _,_=>0
variable {σ:Hp}{k:IntKind}{c:CK}{l todo:List (Int×c.T)}{cur:Option (Int×c.T)}{r it:Nat}
theorem It.num {h:Hp}(hi:It h it k c (some r) l todo cur):yb h it r=todo.length:=by
 obtain⟨j,e,a,d,g,p,u,i,m,b,s⟩:=hi;unfold yb;rw[d,g];have:=congrArg List.length b;simpa using this
theorem It.bU {h h':Hp}(hi:It h it k c (some r) l todo cur)(h1:h'[it]?=h[it]?)(h2:h'[r]?=h[r]?):It h' it k c (some r) l todo cur:=by
 obtain⟨e,b,a,g,d,rest⟩:=hi;exact⟨e,b,a,h1.trans g,h2.trans d,rest⟩
theorem wL {A:aP}{body:Int->c.T->Hp->(Hp->Prop)->Prop}(hm:dK σ r k c l)(I:List (Int×c.T)->Hp->Prop)
 (h0:∀v,v.size=σ.size+1->bO σ v->I l v)
 (hend:∀v,I [] v->A v)
 (hstep:∀todo n x v v' (J:aP),I todo v->(n,x)∈todo->QD v v' σ.size->σ.size<v.size->(∀w,w[σ.size]?=v'[σ.size]?->w[r]?=v'[r]?->I (todo.filter λy=>!(y.1==n)) w->J w)->body n x v' J) :
 su k c (some r) σ λit v3=>W6 [] (λI=>I v3) λJ1 v4=>sC k c it v4 (A v4) λ_ _ v5=>sk k c it v5 λkey1 val1=>body key1 val1 v5 J1:=by
 refine⟨l,hm,λv M N G=>?_⟩;have L:bO σ v:=⟨O,λb p _=>N b p⟩;refine Ek (λw=>∃todo d,It w σ.size k c (some r) l todo d/\I todo w/\σ.size<w.size) (λw=>yb w σ.size r) ⟨l,none,G,h0 v M L,O⟩ ?_;rintro w ⟨todo,d,g,C,m⟩;refine⟨rfl,some r,l,todo,d,g,λE=>?_,λn x B D K e=>?_⟩
 ·subst E;exact hend w C
 ·refine⟨rfl,some r,l,_,n,x,e,hstep todo n x w D _ C B K m λu i j s=>?_⟩;have a:=e.bU i j;refine⟨⟨_,_,a,s,?_⟩,?_⟩
  ·obtain⟨P,F,z,H,_⟩:=a;exact(mA.1 H).1
  ·rw[a.num,g.num];exact List.length_filter_lt_length_iff_exists.2 ⟨(n,x),B,by simp⟩
theorem tj {a:CK}{x0:a.T}{A:a.T->Hp->Prop}{body:Int->c.T->a.T->Hp->(a.T->Hp->Prop)->Prop}(hm:dK σ r k c l)(I:List (Int×c.T)->a.T->Hp->Prop)
 (h0:∀v,v.size=σ.size+1->bO σ v->I l x0 v)
 (hend:∀z v,I [] z v->A z v)
 (hstep:∀todo n x z v v' (J:a.T->Hp->Prop),I todo z v->(n,x)∈todo->QD v v' σ.size->σ.size<v.size->(∀z' w,w[σ.size]?=v'[σ.size]?->w[r]?=v'[r]?->I (todo.filter λy=>!(y.1==n)) z' w->J z' w)->body n x z v' J) :
 su k c (some r) σ λit v3=>W6 [a] (λI=>I x0 v3) λJ1 z v4=>sC k c it v4 (A z v4) λ_ _ v5=>sk k c it v5 λkey1 val1=>body key1 val1 z v5 J1:=by
 refine⟨l,hm,λv P Q K=>?_⟩;have N:bO σ v:=⟨O,λb s _=>Q b s⟩;refine ZU (a:=a) (λz w=>∃todo e,It w σ.size k c (some r) l todo e/\I todo z w/\σ.size<w.size) (λ_ w=>yb w σ.size r) ⟨l,none,K,h0 v P N,O⟩ ?_;rintro z w ⟨todo,e,i,E,p⟩;refine⟨rfl,some r,l,todo,e,i,λG=>?_,λn x D F M g=>?_⟩
 ·subst G;exact hend z w E
 ·refine⟨rfl,some r,l,_,n,x,g,hstep todo n x z w F _ E D M p λz' u j m B=>?_⟩;have d:=g.bU j m;refine⟨⟨_,_,d,B,?_⟩,?_⟩
  ·obtain⟨R,H,C,L,_⟩:=d;exact(mA.1 L).1
  ·rw[d.num,i.num];exact List.length_filter_lt_length_iff_exists.2 ⟨(n,x),D,by simp⟩
end Go.Vc
namespace Go.Ar
open Go Go.Vc Go.Proofs
open Go.Bu (Zf)
variable {σ:Hp}{F:Rg}{p q r:Nat}{sp:Sp}{l:List (Int×Sl)}{B:Nat->Nat}
theorem V9 {α:Type}{l:List (Int×α)}(hn:(l.map (·.1)).Nodup){n:Int}{x:α}(h:(n,x)∈l):bV l n=some x:=by
 induction l with
 | nil=>simp at h
 | cons y l ih=>
  rw[Kl];simp only[zJ,zp]at hn;rcases zQ.1 h with h1|h1
  ·subst h1;rw[zB rfl]
  ·have:¬y.1=n:=λe=>hn.1 (zC.2 ⟨_,h1,e.symm⟩);rw[zA this];exact ih hn.2 h1
end Go.Ar
namespace Go.Bu
open Go Go.Vc Go.Proofs
variable {σ:Hp}{p n sb:Nat}{S:Nat->Bool}{ms:List Nat}
def k7 (ms:List Nat):List Value:=ms.map λm=>Value.map (some m)
structure Part (B:Nat) (h:Hp) (p n:Nat) (j:Nat) (s:Sl) (ms:List Nat):Prop where
 len:ms.length=j
 sl:s.len=j
 hd:bX h p [.int .i64 n,.slice s.a s.len s.cap]
 own:Own (λb=>B<=b/\b≠p/\b∉ms) h s 1 (k7 ms)
 new:∀m∈ms,B<=m/\m≠p/\m<h.size
 nd:ms.Nodup
theorem Part.done {B:Nat}{h:Hp}{j:Nat}{s:Sl}(hp:Part B h p n j s ms)(hB:B<=p)(hj:0<j)(n1:1<=n)(n2:n<=1024)(lo:2^j<=2*n)(hi:n<2^j)(jG:Bounded S n)
 (maps:∀k m,ms[k]?=some m->∃B:List (Int×Bool),dK h m .i64 .b B/\Keys S k B):∃sb,BH h p n S sb ms/\∀b,fp p sb ms b->B<=b:=by
 rcases hp.own.2 with⟨_,hl,_⟩|⟨sb,cs,⟨hq,hqp,hqm⟩,ha,hb,hle,hcl,ht⟩
 ·have:=hp.sl;omega
 ·refine⟨sb,⟨?_,?_,maps,?_,n1,n2,?_,?_,jG⟩,?_⟩
  ·refine⟨s.cap,?_⟩;have:=hp.hd;rw[ha,hp.sl,←hp.len]at this;exact this
  ·refine⟨cs.drop (k7 ms).length,?_⟩;have:k7 ms++cs.drop (k7 ms).length=cs:=by
    conv=>lhs;lhs;rw[←ht]
    exact nu _ _
   show bX h sb (k7 ms++_);rw[this];exact hb
  ·simp only[zp,zQ,not_or];exact⟨⟨λe=>hqp e.symm,λa=>(hp.new p a).2.1 rfl⟩,hqm,hp.nd⟩
  ·rw[hp.len];exact lo
  ·rw[hp.len];exact hi
  ·intro b hb;simp only[fp,zQ]at hb;rcases hb with rfl|rfl|h
   ·exact hB
   ·exact hq
   ·exact(hp.new b h).1
theorem Part.Sh {B:Nat}{h:Hp}{j:Nat}{s:Sl}(hp:Part B h p n j s ms):cell h ⟨p,1,none⟩=some (.slice s.a s.len s.cap):=by rw[hp.hd.cell];rfl
theorem Part.bK {B:Nat}{h h':Hp}{j:Nat}{s:Sl}(hp:Part B h p n j s ms)(e:bO h h'):Part B h' p n j s ms:=
 ⟨hp.len,hp.sl,e.bZ hp.hd id,hp.own.bK e,λm a=>⟨(hp.new m a).1,(hp.new m a).2.1,vn (hp.new m a).2.2 e.1⟩,hp.nd⟩
theorem Part.step {B:Nat}{h:Hp}{j m e t bytes:Nat}{s:Sl}{zs:List Value}{K:Sl->Hp->Prop}(hp:Part B h p n j s ms)(hj:j<=1000)(hbt:bytes<=1000)(hz:zs.length=1)(hm:B<=m)(hmp:m≠p)(hml:m<h.size)(hmn:m∉ms)(hms:¬Ho s m)
 (hpB:p<h.size) (hBh:B<=h.size)
 (hgo:∀s' h',Ext (Ho s) h h'->s'.len=j+1->bX h' p [.int .i64 n,.slice s.a s.len s.cap] →
  (∀h2,QD h' h2 p->bX h2 p [.int .i64 n,.slice s'.a s'.len s'.cap]->Part B h2 p n (j+1) s' (ms++[m]))->K s' h') :
 App s 1 bytes e zs ⟨some ⟨h.size,0,none⟩,1,1⟩ (h.push (.cells #[.map (some m)] t (0,0))) K:=by
 have N:=hp.sl;have u:Own (λb=>B<=b/\b≠p/\b∉ms++[m]) (h.push (.cells #[.map (some m)] t (0,0))) s 1 (k7 ms):=by
  have d:=hp.own;have h2:Own (λb=>B<=b/\b≠p/\b∉ms++[m]) h s 1 (k7 ms):=by
   refine⟨d.1,d.2.imp id ?_⟩;rintro⟨b,cs,⟨q1,q2,q3⟩,ha,r⟩;refine⟨b,cs,⟨q1,q2,?_⟩,ha,r⟩;simp only[zR,zW,not_or];exact⟨q3,λe=>hms ⟨0,by rw[ha,e]⟩⟩
  exact h2.bK (Hh _ _)
 have D:(h.push (.cells #[.map (some m)] t (0,0))).size=h.size+1:=by simp
 refine u.app (ys:=[.map (some m)]) ?_ hz rfl Pt (by simp[dN]) ?_ ?_ nA λs' h' C G L H=>?_
 ·intro b i;rw[D]at i;refine⟨O,O,?_⟩;simp only[zR,zW,not_or];exact⟨λy=>by have:=(hp.new b y).2.2;omega,O⟩
 ·simp only;have:(s.len+1)*bytes<=1001*1000:=kO O hbt;omega
 ·simp only;omega
 ·simp only at C;have g:Ext (Ho s) h h':=(Hh h _).to.trans G;have z:¬Ho s p:=λi=>(hp.own.jM i).1.2.1 rfl;refine hgo s' h' g O (g.bZ hp.hd z) λh2 w A=>⟨by simp[hp.len],O,A,?_,?_,?_⟩
  ·have:k7 (ms++[m])=k7 ms++[.map (some m)]:=by simp[k7]
   rw[this];exact L.bU (Ext.eP (F:=(· = p)) w rfl) (λb M _ E=>M.2.1 E)
  ·intro x hx;have J:h2.size=h'.size:=w.1;have:=g.1;rcases zR.1 hx with d|d
   ·have:=hp.new x d;exact⟨this.1,this.2.1,O⟩
   ·simp at d;subst d;exact⟨hm,hmp,O⟩
  ·rw[oD];refine⟨hp.nd,by simp,?_⟩;intro a ha b i;simp at i;subst i;rintro rfl;exact hmn ha
def iL:Nat->Bool:=λ_=>false
theorem Wgq (k:Nat):Keys iL k []:=by
 refine⟨by simp,λq a=>?_⟩;have:=KT a (KC k q);simp[iL]at this
theorem tD (aF:Int){R:Option Addr->Int->Hp->Prop}(hbad:¬(1<=aF/\aF<=1024)->R none 1 σ)
 (hR:∀(n:Nat),aF=(n:Int)->1<=n->n<=1024->∀σ' sb ms,bO σ σ'->BH σ' σ.size n iL sb ms->(∀b,fp σ.size sb ms b->σ.size<=b)->R (some ⟨σ.size,0,none⟩) 0 σ'):QY.c aF σ R:=by
 refine QY.o ?_;unfold QY.v;refine bY.intro (cI (λg=>cK rfl (hbad O)) λg=>?_);refine cI (λh2=>hbad O) λh2=>?_;obtain⟨n,rfl⟩:=zi (show 0<=aF by omega);have M:1<=n:=by omega
 have P:n<=1024:=by omega
 unfold Nw;have e0:=Hh σ (.cells #[.int .i64 (n:Int),.slice none 0 0] 52 (0,0));refine ZU (a:=bN) (λt h=>∃(j:Nat) (s:Sl) (ms:List Nat),t=((2^j:Nat):Int)/\2^j<=2*n/\bO σ h/\σ.size<h.size/\Part σ.size h σ.size n j s ms/\∀m∈ms,dK h m .i64 .b []) (λt _=>2*n+1-t.toNat)
  ⟨0,⟨none,0,0⟩,[],rfl,by simp;omega,Ext.push _ _ _,by simp,⟨rfl,rfl,bX.push _ _ _,Own.nil _ _ _,by simp,by simp⟩,by simp⟩ ?_
 rintro t h ⟨j,s,ms,rfl,B,N,ab,d,y⟩;have hj:j<=11:=by
  apply Classical.byContradiction;intro hc;have:2^12<=2^j:=oK aB O;omega
 have ac:=lb j;refine cI (λaa=>?_) (λJ=>?_)
 ·refine aG ?_;rw[add_lit,zG];refine oA d.Sh ?_;have K:=Hh h (.map #[] 0);have U:(h.push (.map #[] 0)).size=h.size+1:=by simp
  have L:=d.bK K;refine L.step (m:=h.size) O O rfl O O O (λw=>by have:=(d.new _ w).2.2;omega) (λr=>by have:=(d.own.jM r).2;omega) O O λV h' C hl r p=>?_;refine aG (r.NL aA λh2 z H=>?_);have E:=p h2 z H;have D:bO σ h2:=by
   refine Ext.fresh (Ext.fresh (N.trans K) C λi A=>(d.own.jM A).1.1) (Ext.eP (F:=(· = σ.size)) z rfl) λi A=>?_;rw[A];exact zD _
  refine cA (m:=2^(j+1)) (by rw[nk];omega) (by rw[nk];omega) ⟨⟨j+1,V,ms++[h.size],rfl,by rw[nk];omega,D,?_,E,?_⟩,by rw[nk];omega⟩
  ·have:=z.1;have:=C.1;omega
  ·intro m w;have oY:∀{m:Nat},dK (h.push (.map #[] 0)) m .i64 .b []->¬Ho s m->m≠σ.size->dK h2 m .i64 .b []:=λX Z G=>Hl z (C.gL X Z) G;rcases zR.1 w with g|g
   ·exact oY (K.gL (y m g) id) (λr=>(d.own.jM r).1.2.2 g) (d.new m g).2.1
   ·simp at g;subst g;exact oY (dK.push _ _ _) (λr=>by have:=(d.own.jM r).2;omega) O
 ·have u:0<j:=by
   rcases wR j with e|e
   ·subst e;simp at J;omega
   ·exact e
  obtain⟨sb,Q,Y⟩:=d.done (S:=iL) (zD _) u M P B O (λx W=>by simp[iL]at W) λk m w=>⟨[],y m (zE w),Wgq k⟩;exact hR n rfl M P h sb ms N Q Y
end Go.Bu
namespace Go.Proofs
open Go.Vc
set_option maxRecDepth 100000
def X5.h:Hn:=.q .o6 (.q (.q .o3 (.c (.q .o6 .l) .l)) (.q .o5 (.q (.q .o6 (.k (.loop [(8,.I),(9,.I),(10,.I),(11,.I),(28,.I)] (.q .o1 (.q (.c .l .l) (.q (.k (.q .o6 (.q .o7 (.q .fV (.q (.cV (.held true [] (.tk [0,1,2,3,4,5,6,7,10,11] (.all [(8,.tk [9,12,13,14] (.done))])))) (.q (.cV (.held true [] (.tk [0,1,2,3,4,5,6,7,9,10] (.all [(8,.tk [11,12,13] (.done))])))) (.q .o6 .o7))))))) .o2)))))) (.q (.q .o5 (.k (.loop [(12,.I)] (.q (.cV (.seq [.it .i64 bN,.op])) (.q (.c .l .l) (.k (.q (.cV (.seq [.it .i64 bN,.op,.op])) .o4))))))) (.q (.o 16) .l)))))
def X5.v (a:R2)(b:Hp)(c:Int->Int->Int->Int->Int->Int->Hp->Prop):Prop:=WD.c a b λd e=>If (!d) (c 0 0 0 0 0 0 e) (bE a 0 e λg=>W6 [bN,bN,bN,bN,bN] (λh=>h 0 0 0 0 0 e) λi (j:Int) (k:Int) (l:Int) (m:Int) (n:Int) o=>If (n<((g.len:Nat):Int)) (Ix g.a g.len n 3 λp=>aQ p 0 o λq=>aQ p 1 o λr=>aQ p 2 o λs=>aV #[.I 0,.I 0,.I 0] 31 o λt u=>aR t 0 (.I q) u λv=>aR t 1 (.I r) v λw=>aR t 2 (.I s) w λx=>aQ t 0 x λy=>aQ t 1 x λz=>aQ t 2 x λaa=>Qo.c y z aa x λab ac ad=>bE a 5 ad λaf=>Ix af.a af.len n 1 λag=>fZ ag ad λah=>X9.c ah ad λai aj=>dT aj λak=>bS a λal=>aT ak al 6 λam=>Ix am.a am.len n 1 λan=>gQ ak .p an λ(ao:R2)=>aS ak t 0 λap=>W3.c ao aj λaq ar=>And (ak ar) <| bL (((aq.len:Nat):Int)*ap) λau=>bL (j+au) λav=>dT ar λaw=>bS a λax=>aT aw ax 5 λay=>Ix ay.a ay.len n 1 λaz=>gQ aw .p az λ(a0:R2)=>aS aw t 0 λa1=>YF.c a0 ar λa2 a3=>And (aw a3) <| bL (a2*a1) λa4=>bL (k+a4) λa5=>bL (((ai.len:Nat):Int)*ab) λa6=>bL (l+a6) λa7=>aQ t 1 a3 λa8=>bL (((ai.len:Nat):Int)*a8) λa9=>bL (m+a9) λba=>bL (n+1) λbb=>i av a5 a7 ba bb a3) (bI a 7 o λbd=>su .i64 bN bd o λbe bf=>
 W6 [bN] (λbg=>bg 0 bf) λbh (bi:Int) bj=>sC .i64 bN be bj (bF a 2 bj λbl=>Zt.c bl bj λbm bn=>c j k l m bi bm bn) (λbo bp bq=>sk .i64 bN be bq λbr bs=>bL (bi+bs) λbt=>bh bt bq)))
theorem X5.o {a b c}(d:X5.v a b c):X5.c a b c:=Wa Tryz.func74 (x:=X5.h) (R0 d)
def Y3.h:Hn:=.q .o3 (.q (.q .o3 (.c (.q .o3 .l) .l)) (.q (.q .o2 (.c (.q .o3 .l) .l)) (.q .o8 (.q (.q .o2 (.c (.q .o3 .l) .l)) (.jI [] (.q .o2 (.c (.q .o5 (.k (.loop [] (.q (.cV (.seq [.it .i64 bN,.op])) (.q (.c .l .l) (.k (.q (.cV (.seq [.it .i64 bN,.op,.op,.op,.op])) (.q .o3 (.q (.cV (.seq [.op,.op,.op,.op,.dD true 5 (RI.ops 5)])) (.c (.q .o5 .l) .l)))))))))) .l)) (.q (.o 15) (.q (.q .o2 (.c (.q .o4 .l) .l)) (.q .o6 .l))))))))
def Y3.v (a:R2)(b:Int)(c:Hp)(d:Int->Int->Int->Hp->Prop):Prop:=WD.c a c λe f=>If (!e) (d 0 0 5 f) (If (b<0) (d 0 0 8 f) (bF a 4 f λh=>Nz 256<|bL (b.tdiv 256) λi=>Zr.c h i f λj k=>If (j==0) (d 0 0 8 k) (Jn [] (λl=>bE a 5 l λn=>bL (j-1) λo=>Ix n.a n.len o 1 λp=>fZ p l λq=>YB.c q b l λr s t=>If (s != 0) (d 0 0 s t) (bL (j-1) λu=>d u r 0 t)) λv=>If (j==41) (bI a 7 k λx=>su .i64 bN x k λy z=>W6 [] (λaa=>aa z) λab ac=>sC .i64 bN y ac (v ac) (λad ae af=>sk .i64 bN y af λag ah=>Nz 256<|bL (b.tdiv 256) λai=>bY (λaj ak=>If aj (bL (ag*256) λal=>d (-1) al 0 ak) (ab ak)) λam=>If (ag<=ai) (bL (ag+ah) λan=>am (decide (ai<an)) af) (am false af))) (v k))))
theorem Y3.o {a b c d}(e:Y3.v a b c d):Y3.c a b c d:=Wa Tryz.func76 (x:=Y3.h) (R0 e)
def WD.h:Hn:=.q .o1 (.q (.cV (.seq [.op,.op,.op,.dD true 5 (RI.ops 5),.op])) .l)
def WD.v (a:R2)(b:Hp)(c:aO):Prop:=bY (λd e=>c d e) λf=>If (!a.isNone) (bF a 1 b λh=>f (!h.isNone) b) (f false b)
theorem WD.o {a b c}(d:WD.v a b c):WD.c a b c:=Wa Tryz.func106 (x:=WD.h) (R0 d)
def Zb.h:Hn:=.q .o1 (.q (.cV (.seq [.op,.op,.op,.dD true 7 (RI.ops 7),.op])) .l)
def Zb.v (a:R2)(b:Int)(c:Hp)(d:aO):Prop:=WD.c a c λe f=>bY (λg h=>d g h) λi=>If e (bF a 3 f λk=>X2.c k b f λl m=>i (decide (l>0)) m) (i false f)
theorem Zb.o {a b c d}(e:Zb.v a b c d):Zb.c a b c d:=Wa Tryz.func113 (x:=Zb.h) (R0 e)
def QZ.h:Hn:=.q .o2 (.q (.q .o3 .aJ) (.q .o3 (.q (.q (.cV (.seq [.op,.op,.op,.dD false 3 (RI.ops 3),.op,.dD false 2 [.op,.op],.op,.dD false 2 [.op,.op]])) .aJ) (.q .o8 (.q .o9 (.q .o9 (.q (.q .o3 (.k (.loop [(61,.I)] (.q .o1 (.q (.c .l .l) (.q (.k (.q .o4 (.q .o7 (.q .o9 (.cV (.iw true [18,21] [] (.tk [0,1,2,3,4,5,6,9,10,11,12,13] (.all [(7,.all [(8,.all [(14,.all [(15,.take 16 (.take 17 (.all [(18,.take 19 (.take 20 (.all [(21,.done)])))])))])]),(14,.all [(8,.all [(15,.take 16 (.take 17 (.all [(18,.take 19 (.take 20 (.all [(21,.done)])))])))])])]),(14,.all [(7,.all [(8,.all [(15,.take 16 (.take 17 (.all [(18,.take 19 (.take 20 (.all [(21,.done)])))])))])])])])))))))) .o2)))))) (.q .o3 .l))))))))
def QZ.v (a:Sl)(b:R2)(c:Int)(d:Hp)(e:Option Addr->Int->Hp->Prop):Prop:=ZE.c a d λf g=>If (!f) (e none 2 g) (Xq.c b g λh i=>bY (λj k=>bY (λl m=>bY (λn o=>If n (e none 1 o) (Wc.c a o λp q=>Qg.c q λr s=>Nw (.map #[] 0) s λt u=>aV #[.slice p.a p.len p.cap,.pointer b,.pointer none,.pointer none,.pointer r,.slice none 0 0,.slice none 0 0,.map (some t.block)] 177 u λv w=>QY.c h w λx y z=>bS (some v) λaa=>aR aa 2 (.pointer x) z λab=>Kx.c h ab λac ad ae=>bS (some v) λaf=>aR af 3 (.pointer ac) ae λag=>W6 [bN] (λah=>ah 0 ag) λai (aj:Int) ak=>If (aj<((a.len:Nat):Int)) (Ix a.a a.len aj 3 λal=>aQ al 0 ak λam=>aQ al 1 ak λan=>aQ al 2 ak λao=>aV #[.I 0,.I 0,.I 0] 31 ak λap aq=>aR ap 0 (.I am) aq λar=>aR ap 1 (.I an) ar λau=>aR ap 2 (.I ao) au λav=>aQ ap 0 av λaw=>aQ ap 1 av λax=>aQ ap 2 av λay=>Qh.c aw ax ay av λaz a0 a1=>aQ ap 2 a1 λa2=>ZZ.c a2 c a1 λa3 a4 a5=>Jn [] (λa6=>bL (aj+1) λa7=>ai a7 a6) λa8=>dT a5 λa9=>bS (some v) λba=>aT a9 ba 5 λbb=>bS (some v) λbc=>aT a9 bc 6 λbd=>(aV #[.pointer az] 178 a5 λbe bf=>And (a9 bf) <| (App bb 1 8 178 [.pointer none] ⟨some be,1,1⟩ bf λbg bh=>And (a9 bh) <| aV #[.pointer a3] 180 bh λbi bj=>And (a9 bj) <| App bd 1 8 180 [.pointer none] ⟨some bi,1,1⟩ bj λbk bl=>And (a9 bl) <|
 bS (some v) λbm=>aR bm 5 (.slice bg.a bg.len bg.cap) bl λbn=>bS (some v) λbo=>aR bo 6 (.slice bk.a bk.len bk.cap) bn λbp=>a8 bp) ∧ (aV #[.pointer a3] 180 bf λbq br=>And (a9 br) <| App bb 1 8 178 [.pointer none] ⟨some be,1,1⟩ br λbs bt=>And (a9 bt) <| App bd 1 8 180 [.pointer none] ⟨some bq,1,1⟩ bt λbu bv=>And (a9 bv) <| bS (some v) λbw=>aR bw 5 (.slice bs.a bs.len bs.cap) bv λbx=>bS (some v) λbz=>aR bz 6 (.slice bu.a bu.len bu.cap) bx λb0=>a8 b0)) ∧ (aV #[.pointer a3] 180 a5 λb1 b2=>And (a9 b2) <| aV #[.pointer az] 178 b2 λb3 b4=>And (a9 b4) <| App bb 1 8 178 [.pointer none] ⟨some b3,1,1⟩ b4 λb5 b6=>And (a9 b6) <| App bd 1 8 180 [.pointer none] ⟨some b1,1,1⟩ b6 λb7 b8=>And (a9 b8) <| bS (some v) λb9=>aR b9 5 (.slice b5.a b5.len b5.cap) b8 λca=>bS (some v) λcb=>aR cb 6 (.slice b7.a b7.len b7.cap) ca λcc=>a8 cc)) (e (some v) 0 ak))) λcd=>If l (cd true m) (cd (decide (c>8)) m)) λce=>If j (ce true k) (ce (decide (c<0)) k)) λcf=>If (h<32) (cf true i) (Nz 16 <| cf ((h.tmod 16) != 0) i))
theorem QZ.o {a b c d e}(f:QZ.v a b c d e):QZ.c a b c d e:=Wa Tryz.func125 (x:=QZ.h) (R0 f)
def Xk.h:Hn:=.q .o2 (.q (.k (.q .o4 (.c .aL (.q .o3 .aJ)))) (.q (.q .o6 (.k (.loop [(28,.I)] (.q .o1 (.q (.c .l .l) (.q (.k (.q .o3 .o4)) .o2)))))) (.q (.o 11) (.q (.q .o2 (.c (.q .o3 .l) .l)) (.q .o1 (.q (.cV (.tail 10 (RI.ops 10) [.op,.op])) (.q (.q .o3 (.k (.loop [(10,.I),(62,.I)] (.q .o1 (.q (.c .l .l) (.q (.k (.q .o4 (.q (.q .o3 (.k (.loop [(68,.I)] (.q .o1 (.q (.c .l .l) (.q (.k (.q .o3 .o6)) .o2)))))) .o5))) .o2)))))) (.q .o3 .l))))))))
def Xk.v (a:R2)(b:Int)(c:Hp)(d:Int->Int->Hp->Prop):Prop:=WD.c a c λe f=>If (!e) (d 0 5 f) (If (b<0) (d 0 1 f) (bE a 5 f λh=>W6 [bN] (λi=>i 0 f) λj (k:Int) l=>If (k<((h.len:Nat):Int)) (Ix h.a h.len k 1 λm=>fZ m l λn=>WZ.c n l λo p=>Xf.c a o p λq=>bL (k+1) λr=>j r q) (bF a 3 l λt=>YH.c t b l λu v w=>If (v != 0) (d 0 v w) (bF a 3 w λy=>bF a 1 w λaa=>Nw (.cells #[.func (.func 192) #[.pointer y] #[],.func (.func 193) #[.pointer aa] #[]] 54 (0,0)) w λab ac=>W6 [bN,bN] (λad=>ad 0 0 ac) λae (af:Int) (ag:Int) ah=>If (ag<((u.len:Nat):Int)) (Ix u.a u.len ag 2 λai=>aQ ai 0 ah λaj=>aQ ai 1 ah λak=>aV #[.I 0,.I 0] 92 ah λal am=>aR al 0 (.I aj) am λan=>aR al 1 (.I ak) an λao=>W6 [bN] (λap=>ap 0 ao) λaq (ar:Int) au=>If (ar<((2:Nat):Int)) (Ix (some ab) 2 ar 1 λav=>Be av au λaw=>aQ al 0 au λax=>aQ al 1 au λay=>VU Tryz.prog aw [.I ax,.I ay] [.I] au λaz a0=>bL (ar+1) λa1=>aq a1 a0) (aQ al 1 au λa2=>bL (af+a2) λa3=>bL (ag+1) λa4=>ae a3 a4 au)) (d af 0 ah)))))
theorem Xk.o {a b c d}(e:Xk.v a b c d):Xk.c a b c d:=Wa Tryz.func134 (x:=Xk.h) (R0 e)
def Yl.h:Hn:=.q .o1 (.q (.q .o3 .aK) (.q .o6 (.q (.q .o3 (.k (.loop [(16,.I)] (.q .o1 (.q (.c .l .l) (.q (.k (.q .o3 (.q .o6 (.q .o7 .o7)))) .o2)))))) (.q .o3 .l))))
def Yl.v (a:R2)(b:Hp)(c:aN):Prop:=WD.c a b λd e=>If (!d) (c 0 e) (bF a 3 e λg=>Yw.c g e λh i=>W6 [bN] (λj=>j 0 i) λk (l:Int) m=>If (l<((h.len:Nat):Int)) (Ix h.a h.len l 1 λn=>bM n m λo=>bF a 3 m λq=>Xj.c q o m λr s=>bF a 2 s λu=>bL (o*16) λv=>Xy.c u v 16 s λw x=>bF a 1 x λz=>bL (o*16) λaa=>YE.c z aa 16 x λab ac=>bL (l+1) λad=>k ad ac) (c ((h.len:Nat):Int) m))
theorem Yl.o {a b c}(d:Yl.v a b c):Yl.c a b c:=Wa Tryz.func135 (x:=Yl.h) (R0 d)
def Y1.h:Hn:=.q (.q .o3 (.c .l .l)) (.q .o6 (.k (.loop [(14,.I)] (.q .o1 (.q (.c .l .l) (.q (.k (.q .o5 (.q .o4 (.k (.loop [(22,.I)] (.q .o1 (.q (.c .l .l) (.q (.k (.q .o3 .o4)) .o2)))))))) .o2))))))
def Y1.v (a:R2)(b:Hp)(c:aP):Prop:=WD.c a b λd e=>If (!d) (c e) (bE a 6 e λg=>W6 [bN] (λh=>h 0 e) λi (j:Int) k=>If (j<((g.len:Nat):Int)) (Ix g.a g.len j 1 λl=>fZ l k λm=>Xm.c m k λn o=>W6 [bN] (λp=>p 0 o) λq (r:Int) s=>If (r<((n.len:Nat):Int)) (Ix n.a n.len r 1 λt=>jk t s λu=>WA.c a j u s λv w=>bL (r+1) λx=>q x w) (bL (j+1) λy=>i y s)) (c k))
theorem Y1.o {a b c}(d:Y1.v a b c):Y1.c a b c:=Wa Tryz.func136 (x:=Y1.h) (R0 d)
def WB.h:Hn:=.q .o2 (.q (.q .o4 (.q .o2 (.c (.q .o3 .l) .l))) (.q (.o 12) .l))
def WB.v (a:R2)(b:Int)(c:Hp)(d:Sl->Int->Hp->Prop):Prop:=WY.c a b c λe f=>If (e != 0) (d ⟨none,0,0⟩ e f) (bE a 6 f λh=>Ix h.a h.len b 1 λi=>fZ i f λj=>Wz.c j f λk l m=>d k l m)
theorem WB.o {a b c d}(e:WB.v a b c d):WB.c a b c d:=Wa Tryz.func174 (x:=WB.h) (R0 e)
def WE.h:Hn:=.q .o2 (.q (.q .o4 (.q .o2 (.c (.q .o3 .l) .l))) (.q (.o 13) .l))
def WE.v (a:R2)(b c:Int)(d:Hp)(e:Sl->Int->Hp->Prop):Prop:=WY.c a b d λf g=>If (f != 0) (e ⟨none,0,0⟩ f g) (bE a 5 g λi=>Ix i.a i.len b 1 λj=>fZ j g λk=>Xd.c k c g λl m n=>e l m n)
theorem WE.o {a b c d e}(f:WE.v a b c d e):WE.c a b c d e:=Wa Tryz.func176 (x:=WE.h) (R0 f)
def Yf.h:Hn:=.q .o1 (.q (.q .o4 (.q .o2 .aJ)) (.q (.o 17) (.q (.q .o2 .aJ) (.q .fV .l))))
def Yf.v (a:R2)(b:Int)(c:Hp)(d:aN):Prop:=WY.c a b c λe f=>If (e != 0) (d e f) (bE a 0 f λh=>Ix h.a h.len b 3 λi=>aQ i 1 f λj=>bL (b+1) λk=>YS.c a j 1 k f λl m n=>If (m != 0) (d m n) (bE a 5 n λp=>Ix p.a p.len b 1 λq=>fZ q n λr=>Y9.c r l n λs t=>d s t))
theorem Yf.o {a b c d}(e:Yf.v a b c d):Yf.c a b c d:=Wa Tryz.func177 (x:=Yf.h) (R0 e)
def WS.h:Hn:=.q .o2 (.q (.k (.q .o4 (.c .aL (.q (.cV (.seq [.op,.op,.op,.dD false 2 [.op,.op],.op,.dD false 2 [.op,.op],.op,.dD false 2 [.op,.op],.op,.dD false 5 (RI.ops 5),.op])) .aJ)))) (.q .o9 (.q (.q .o2 (.c (.q .o3 .l) .l)) (.q .o7 (.q .o3 .l)))))
def WS.v (a:R2)(b c:Int)(d:Hp)(e:Int->Int->Hp->Prop):Prop:=WD.c a d λf g=>If (!f) (e 0 5 g) (bY (λh i=>bY (λj k=>bY (λl m=>bY (λn o=>If n (e 0 1 o) (YS.c a b c 41 o λp q r=>If (q != 0) (e 0 q r) (bI a 7 r λt=>k6 .i64 bN t p b r λu=>e p 0 u))) λv=>If l (v true m) (bL (c-1) λw=>v ((bits .and .i64 c w) != 0) m)) λx=>If j (x true k) (x (decide (c>16)) k)) λy=>If h (y true i) (y (decide (c<1)) i)) λz=>If (b<1) (z true g) (z (decide (b>64)) g))
theorem WS.o {a b c d e}(f:WS.v a b c d e):WS.c a b c d e:=Wa Tryz.func179 (x:=WS.h) (R0 f)
def WR.h:Hn:=.q .o1 (.q (.q .o3 .aK) (.q (.o 11) (.q (.q .o2 .aK) (.q .o6 (.q .o6 .aM)))))
def WR.v (a:R2)(b:Int)(c:Hp)(d:aN):Prop:=WD.c a c λe f=>If (!e) (d 5 f) (bI a 7 f λh=>Lk .i64 bN h b f λi=>If (!i.isSome) (d 8 f) (bI a 7 f λk=>mK .i64 bN k b f λl=>aV #[.I b,.I (i.getD 0)] 92 l λm n=>Xf.c a ⟨some m,1,1⟩ n λo=>d 0 o))
theorem WR.o {a b c d}(e:WR.v a b c d):WR.c a b c d:=Wa Tryz.func187 (x:=WR.h) (R0 e)
def Xf.h:Hn:=.q .o3 (.k (.loop [(8,.I)] (.q .o1 (.q (.c .l .l) (.q (.k (.q .o4 (.q (.cV (.tail 8 (RI.ops 8) [.op])) (.q (.cV (.tail 8 (RI.ops 8) [.op])) (.cV (.tail 8 (RI.ops 8) [.op])))))) .o2)))))
def Xf.v (a:R2)(b:Sl)(c:Hp)(d:aP):Prop:=W6 [bN] (λe=>e 0 c) λf (g:Int) h=>If (g<((b.len:Nat):Int)) (Ix b.a b.len g 2 λi=>aQ i 0 h λj=>aQ i 1 h λk=>aV #[.I 0,.I 0] 92 h λl m=>aR l 0 (.I j) m λn=>aR l 1 (.I k) n λo=>bF a 4 o λq=>aQ l 0 o λr=>aQ l 1 o λs=>XY.c q r s o λt u=>bF a 3 u λw=>aQ l 0 u λx=>aQ l 1 u λy=>XB.c w x y u λz aa=>bF a 2 aa λac=>aQ l 0 aa λad=>aQ l 1 aa λae=>Yp.c ac ad ae aa λaf ag=>bL (g+1) λah=>f ah ag) (d h)
theorem Xf.o {a b c d}(e:Xf.v a b c d):Xf.c a b c d:=Wa Tryz.func189 (x:=Xf.h) (R0 e)
def WA.h:Hn:=.q .o1 (.q (.q .o4 (.q .o2 .aJ)) (.q (.o 14) (.q (.q .o2 .aJ) (.q .o3 .aM))))
def WA.v (a:R2)(b:Int)(c:Sl)(d:Hp)(e:aN):Prop:=WY.c a b d λf g=>If (f != 0) (e f g) (bE a 5 g λi=>Ix i.a i.len b 1 λj=>fZ j g λk=>Y4.c k c g λl m n=>If (m != 0) (e m n) (Xf.c a l n λo=>e 0 o))
theorem WA.o {a b c d e}(f:WA.v a b c d e):WA.c a b c d e:=Wa Tryz.func199 (x:=WA.h) (R0 f)
def WY.h:Hn:=.q .o1 (.q (.k (.q .o4 (.c .aM (.q (.cV (.seq [.op,.op,.op,.dD false 7 (RI.ops 7),.op])) .aK)))) .aM)
def WY.v (a:R2)(b:Int)(c:Hp)(d:aN):Prop:=WD.c a c λe f=>If (!e) (d 5 f) (bY (λg h=>If g (d 1 h) (d 0 h)) λi=>If (b<0) (i true f) (bE a 0 f λk=>i (decide (b≥((k.len:Nat):Int))) f))
theorem WY.o {a b c d}(e:WY.v a b c d):WY.c a b c d:=Wa Tryz.func212 (x:=WY.h) (R0 e)
def YS.h:Hn:=.q .o2 (.q (.o 12) (.jI [(10,.I),(11,.I)] (.q .o2 (.c (.q .o1 (.q (.k (.loop [(12,.I)] (.q (.q .o5 (.c .l .l)) (.k .o3)))) (.q (.q .o4 .aJ) (.o 12)))) .l)) (.q (.q .o2 (.c (.q .o3 .l) .l)) (.q .o7 (.q .o8 (.q .o3 .l))))))
def YS.v (a:R2)(b c d:Int)(e:Hp)(f:Int->Int->Hp->Prop):Prop:=bF a 2 e λh=>XT.c h b c e λi j k=>Jn [bN,bN] (λ(l:Int) (m:Int) n=>If (m != 0) (f 0 m n) (bF a 3 n λp=>XM.c p l b n λq r=>bF a 4 r λt=>Yq.c t l b d r λu v=>f l 0 v)) λw=>If (j==6) (W6 [bN] (λx=>x 16 k) λy (z:Int) aa=>If (z<(if c>b then c else b)) (bL (z*2) λab=>y ab aa) (Y7.c a z aa λac ad=>If (!ac) (f 0 6 ad) (bF a 2 ad λaf=>XT.c af b c ad λag ah ai=>w ag ah ai))) (w i j k)
theorem YS.o {a b c d e f}(g:YS.v a b c d e f):YS.c a b c d e f:=Wa Tryz.func215 (x:=YS.h) (R0 g)
def WK.h:Hn:=.q .o2 (.q (.q .o4 (.q .o2 (.c (.q .o3 .l) .l))) (.q (.q (.o 11) .aJ) (.q (.q .o3 (.k (.loop [(32,.I)] (.q .o1 (.q (.c .l .l) (.q (.k (.q .o3 (.q (.o 14) (.q (.cV (.seq [.op,.op,.op,.dD false 2 [.op,.op]])) .aJ)))) .o2)))))) (.q (.o 13) .l))))
def WK.v (a:R2)(b:Int)(c:Sl)(d:Hp)(e:Bool->Int->Hp->Prop):Prop:=WY.c a b d λf g=>If (f != 0) (e false f g) (bE a 0 g λi=>Ix i.a i.len b 3 λj=>aQ j 2 g λk=>If (((c.len:Nat):Int) != k) (e false 1 g) (W6 [bN] (λl=>l 0 g) λm (n:Int) o=>If (n<((c.len:Nat):Int)) (Ix c.a c.len n 1 λp=>bM p o λq=>bE a 5 o λs=>Ix s.a s.len b 1 λt=>fZ t o λu=>W7.c u q o λv w x=>bY (λy z=>If y (e false 8 z) (bL (n+1) λaa=>m aa z)) λab=>If (w != 0) (ab true x) (ab (!v) x)) (bE a 6 o λad=>Ix ad.a ad.len b 1 λae=>fZ ae o λaf=>Xa.c af c o λag ah ai=>e ag ah ai)))
theorem WK.o {a b c d e}(f:WK.v a b c d e):WK.c a b c d e:=Wa Tryz.func222 (x:=WK.h) (R0 f)
def Y7.h:Hn:=.q .o1 (.q (.q .o2 (.k (.loop [(5,.I)] (.q (.q .o9 (.c .l .l)) (.q (.k (.q (.q .o8 (.c .l .l)) (.q (.q .o3 (.k (.loop [(6,.I)] (.q (.q .o6 (.c .l .l)) (.q (.k .o6) .o3))))) (.q .o7 .aM)))) .o4))))) .aM)
def Y7.v (a:R2)(b:Int)(c:Hp)(d:aO):Prop:=W6 [bN] (λe=>e b c) λf (g:Int) h=>bL (g+b) λi=>bF a 1 h λk=>Xq.c k h λl m=>If (i<=l) (bF a 1 m λo=>Zo.c o g b m λp q=>If (p != 0) (bL (g+b) λr=>f r q) (Nz 16<|bL (g.tdiv 16) λs=>W6 [bN] (λt=>t s q) λu (v:Int) w=>bL (g+b) λx=>Nz 16<|bL (x.tdiv 16) λy=>If (v<y) (bF a 3 w λaa=>Yg.c aa v w λab ac=>bL (v+1) λad=>u ad ac) (bF a 2 w λaf=>Yp.c af g b w λag ah=>d true ah))) (d false m)
theorem Y7.o {a b c d}(e:Y7.v a b c d):Y7.c a b c d:=Wa Tryz.func253 (x:=Y7.h) (R0 e)
end Go.Proofs
namespace Go.Ar
open Go Go.Vc Go.Proofs
open Go.Bu (Zf QO Zu iR)
inductive Lb where
 | hd|dB|free|mM|own|dG|cL|runs
 | cC (k:Nat)
 | cE (k:Nat)
 deriving DecidableEq
structure Lay where
 p:Nat
 hs:Nat
 fr:Nat
 tr:Nat
 op:Nat
 rn:Nat
 dB:Sl
 dG:Sl
 cL:Sl
 fJ:List Nat
 gC:List Nat
def kW (Y:Lay):List Value:=[.slice Y.dB.a Y.dB.len Y.dB.cap,.pointer (some ⟨Y.hs,0,none⟩),.pointer (some ⟨Y.fr,0,none⟩),.pointer (some ⟨Y.tr,0,none⟩),.pointer (some ⟨Y.op,0,none⟩),.slice Y.dG.a Y.dG.len Y.dG.cap,.slice Y.cL.a Y.cL.len Y.cL.cap,.map (some Y.rn)]
def gg (tb:List bW):List Value:=tb.flatMap λc=>[.int .i64 (c.size:Int),.int .i64 (c.aF:Int),.int .i64 (c.batch:Int)]
def eX (l:List Nat):List Value:=l.map λb=>.pointer (some ⟨b,0,none⟩)
def iA (l:List (Nat×Nat)):List (Int×Int):=l.map λr=>((r.1:Int),(r.2:Int))
def sU (p n:Nat)(S:Nat->Bool):Hp->Rg->Prop:=λσ F=>∃sb ms,Go.Bu.BH σ p n S sb ms/\∀b,Go.Bu.fp p sb ms b->F b
def mU (p:Nat)(st:List Nat):Hp->Rg->Prop:=λσ F=>∃q,gI σ p q st/\F p/\F q
def kE (p:Option Nat)(c:Option bW)(ss:Option (List cH)):Hp->Rg->Prop:=λσ F=>match p,c,ss with
 | some p,some c,some ss=>∃ps,fB σ F p c ps ss
 | _,_,_=>True
def lT (p:Option Nat)(c:Option bW)(room:Nat)(t:Option fP):Hp->Rg->Prop:=λσ F=>match p,c,t with
 | some p,some c,some t=>iD σ F p c.batch room t
 | _,_,_=>True
def AC (A:AR)(Y:Lay)(T:Nat->Hp->Rg->Prop):Lb->Hp->Rg->Prop
 | .hd=>iH Y.p (kW Y)
 | .dB=>cR Y.dB 3 (gg A.tb)
 | .free=>sU Y.fr A.n A.S
 | .mM=>mU Y.tr A.st
 | .own=>λσ F=>jF σ F Y.op A.ow
 | .dG=>bR Y.dG 1 (eX Y.fJ)
 | .cL=>bR Y.cL 1 (eX Y.gC)
 | .runs=>j4 Y.rn .i64 bN (iA A.runs)
 | .cC k=>kE Y.fJ[k]? A.tb[k]? A.cC[k]?
 | .cE k=>T k
def cF (A:AR)(Y:Lay)(k:Nat):Hp->Rg->Prop:=lT Y.gC[k]? A.tb[k]? A.room A.cE[k]?
theorem sU.loc (p n:Nat)(S:Nat->Bool):dQ (sU p n S):=by
 rintro σ σ' F G ⟨g,m,h,s⟩ x r;have i:∀b,Go.Bu.fp p g m b->b<σ.size:=λb a=>by
  unfold Go.Bu.fp at a;rcases zQ.1 a with h1|h1
  ·obtain⟨c,j⟩:=h.hd;rw[h1];exact j.lt
  rcases zQ.1 h1 with h2|h2
  ·obtain⟨c,j⟩:=h.row;rw[h2];exact j.lt
  ·obtain⟨k,y⟩:=zN h2;obtain⟨B,u,_⟩:=h.maps k b y;exact u.lt
 have e:Ext (λb=>¬Go.Bu.fp p g m b) σ σ':=⟨x,λb a d=>(r b a (s b (Classical.not_not.1 d))).2⟩;exact⟨g,m,h.bU e λb a w=>w a,λb a=>(r b (i b a) (s b a)).1⟩
theorem mU.loc (p:Nat)(st:List Nat):dQ (mU p st):=by
 rintro σ σ' F G ⟨q,h,i,m⟩ s a;have e:Ext (λb=>b≠p/\b≠q) σ σ':=⟨s,λb j r=>by
  by_cases h1:b=p
  ·subst h1;exact(a b j i).2
  ·have d:b=q:=Classical.byContradiction λd=>r ⟨h1,d⟩;subst d;exact(a b j m).2⟩
 exact⟨q,h.bU e (λg=>g.1 rfl) (λg=>g.2 rfl),(a p h.lt.1 i).1,(a q h.lt.2 m).1⟩
theorem kE.loc (p:Option Nat)(c:Option bW)(ss:Option (List cH)):dQ (kE p c ss):=by
 rintro σ e F G h a d;unfold kE at *;split
 ·simp only at h;obtain⟨b,h⟩:=h;exact⟨b,fB.loc _ _ _ _ h a d⟩
 ·trivial
theorem lT.loc (p:Option Nat)(c:Option bW)(room:Nat)(t:Option fP):dQ (lT p c room t):=by
 rintro σ d F G h b a;unfold lT at *;split
 ·exact iD.loc _ _ _ _ h b a
 ·trivial
theorem AC.loc {A:AR}{Y:Lay}{T:Nat->Hp->Rg->Prop}(hT:∀k,dQ (T k)):∀i,dQ (AC A Y T i)
 | .hd=>iH.loc _ _
 | .dB=>cR.loc _ _ _
 | .free=>sU.loc _ _ _
 | .mM=>mU.loc _ _
 | .own=>jF.loc
 | .dG=>bR.loc _ _ _
 | .cL=>bR.loc _ _ _
 | .runs=>j4.loc _ _ _ _
 | .cC k=>kE.loc _ _ _
 | .cE k=>hT k
theorem cF.loc {A:AR}{Y:Lay}(k:Nat):dQ (cF A Y k):=lT.loc _ _ _ _
structure eY (A:AR) (Y:Lay):Prop where
 c:Y.fJ.length=A.tb.length
 t:Y.gC.length=A.tb.length
 cC:A.cC.length=A.tb.length
 cE:A.cE.length=A.tb.length
 nC:1<=A.tb.length
 oC:A.tb.length<=40
 n1:32<=A.n
 n2:A.n<=1024
 n3:A.n%16=0
 st:A.st.length=A.n
 room:A.room<=8
 ok:∀c∈A.tb,c.ok
structure cX (σ:Hp) (F:Rg) (Y:Lay) (A:AR) (T:Nat->Hp->Rg->Prop):Prop where
 lay:eY A Y
 tl:∀k,dQ (T k)
 sep:Sep (AC A Y T) σ F
def AH (σ:Hp)(F:Rg)(p hs:Nat)(A:AR):Prop:=∃Y:Lay,Y.p=p/\Y.hs=hs/\cX σ F Y A (cF A Y)
variable {σ:Hp}{F:Rg}{p hs:Nat}{A:AR}{Y:Lay}{T:Nat->Hp->Rg->Prop}
theorem cX.loc:dQ λσ F=>cX σ F Y A T:=λσ d F G h b a=>⟨h.lay,h.tl,Sep.loc (AC.loc h.tl) _ _ _ _ h.sep b a⟩
theorem AH.loc:dQ λσ F=>AH σ F p hs A:=λσ e F G ⟨Y,b,d,h⟩ a hs=>⟨Y,b,d,cX.loc _ _ _ _ h a hs⟩
theorem cX.bK {σ':Hp}(h:cX σ F Y A T)(e:bO σ σ'):cX σ' F Y A T:=dQ.bK cX.loc h e
theorem cX.hd (h:cX σ F Y A T):bX σ Y.p (kW Y):=by
 obtain⟨G,b,d,a⟩:=h.sep.get .hd;exact a
theorem Kd (tb:List bW):(gg tb).length=tb.length*3:=by
 induction tb with
 | nil=>rfl
 | cons x l ih=>simp only[gg,mO,zK,zP,mh]at *;omega
theorem HJ {tb:List bW}{i:Nat}{c:bW}(h:tb[i]?=some c):(gg tb)[3*i]?=some (.int .i64 (c.size:Int))/\(gg tb)[3*i+1]?=some (.int .i64 (c.aF:Int))/\(gg tb)[3*i+2]?=some (.int .i64 (c.batch:Int)):=by
 induction tb generalizing i with
 | nil=>simp at h
 | cons x l ih=>
  have e:gg (x::l)=[.int .i64 (x.size:Int),.int .i64 (x.aF:Int),.int .i64 (x.batch:Int)]++gg l:=by simp[gg]
  rw[e];cases i with
  | zero=>simp at h;subst h;simp
  | succ i=>
   have:=ih (i:=i) (by simpa using h);rw[show 3*(i+1)=3*i+3 by omega];simpa using this
theorem cX.oE (h:cX σ F Y A T):Y.dB.len=A.tb.length:=by
 obtain⟨G,b,a⟩:=h.sep.get .dB;have:=a.1;rw[Kd]at this;omega
theorem uH {s:Sl}{tb:List bW}(h:cR s 3 (gg tb) σ F){k d:Nat}{c:bW}(hc:tb[k]?=some c)(hd:d<3){K:Int->Prop}(hK:K (if d=0 then c.size else if d=1 then c.aF else c.batch:Nat)) :
 Ix s.a s.len (k:Int) 3 λa=>fF .i64 (a.add d) σ K:=by
 have g:=HJ hc;have j:(gg tb)[3*k+d]?=some (.int .i64 ((if d=0 then c.size else if d=1 then c.aF else c.batch:Nat):Int)):=by
  match d,hd with
  | 0,_=>exact g.1
  | 1,_=>exact g.2.1
  | 2,_=>exact g.2.2
 have p:=(cQ.1 hc).1;obtain⟨b,o,m,e⟩:=h.cell j;have i:=h.1;rw[Kd]at i;rw[m];refine ix O O ?_;rw[add_lit,add_lit];refine nI ?_ hK;rw[show o+(k:Int).toNat*3+d=o+(3*k+d) by omega];exact e
theorem cX.xf (h:cX σ F Y A T){k d:Nat}{c:bW}(hc:A.tb[k]?=some c)(hd:d<3){K:Int->Prop}(hK:K (if d=0 then c.size else if d=1 then c.aF else c.batch:Nat)) :
 Ix Y.dB.a Y.dB.len (k:Int) 3 λa=>fF .i64 (a.add d) σ K:=by
 obtain⟨G,e,b⟩:=h.sep.get .dB;exact uH b hc hd hK
theorem D5 {s:Sl}{l:List Nat}(h:cR s 1 (eX l) σ F){k q:Nat}(hq:l[k]?=some q){K:Option Addr->Prop}(hK:K (some ⟨q,0,none⟩)):Ix s.a s.len (k:Int) 1 λa=>fZ a σ K:=by
 have i:=(cQ.1 hq).1;obtain⟨b,o,g,d⟩:=h.cell (j:=k) (v:=.pointer (some ⟨q,0,none⟩)) (by simp[eX,hq]);have e:=h.1;simp[eX]at e;rw[g];refine ix O O ?_;rw[add_lit];exact s7 (by rw[show o+(k:Int).toNat*1=o+k by omega];exact d) hK
theorem cX.xI (h:cX σ F Y A T):Y.dG.len=A.tb.length:=by
 obtain⟨G,b,a⟩:=h.sep.get .dG;have:=a.1;have:=h.lay.c;simp[eX]at *;omega
theorem cX.jy (h:cX σ F Y A T):Y.cL.len=A.tb.length:=by
 obtain⟨G,b,a⟩:=h.sep.get .cL;have:=a.1;have:=h.lay.t;simp[eX]at *;omega
theorem cX.ko (h:cX σ F Y A T){k q:Nat}(hq:Y.fJ[k]?=some q){K:Option Addr->Prop}(hK:K (some ⟨q,0,none⟩)):Ix Y.dG.a Y.dG.len (k:Int) 1 λa=>fZ a σ K:=by
 obtain⟨G,d,b⟩:=h.sep.get .dG;exact D5 (bR.fX b) hq hK
theorem cX.pt (h:cX σ F Y A T){k q:Nat}(hq:Y.gC[k]?=some q){K:Option Addr->Prop}(hK:K (some ⟨q,0,none⟩)):Ix Y.cL.a Y.cL.len (k:Int) 1 λa=>fZ a σ K:=by
 obtain⟨G,d,b⟩:=h.sep.get .cL;exact D5 (bR.fX b) hq hK
theorem cX.at_ (h:cX σ F Y A T){k:Nat}(hk:k<A.tb.length):∃c ss q t r,A.tb[k]?=some c/\A.cC[k]?=some ss/\Y.fJ[k]?=some q/\A.cE[k]?=some t/\Y.gC[k]?=some r/\c.ok:=by
 have a:=h.lay.c;have e:=h.lay.t;have d:=h.lay.cC;have b:=h.lay.cE;exact⟨A.tb[k],A.cC[k],Y.fJ[k],A.cE[k],Y.gC[k],by simp,by simp,by simp,by simp,by simp,h.lay.ok _ (zc hk)⟩
theorem FF {k q:Nat}{c:bW}{ss:List cH}{G:Rg}(h1:Y.fJ[k]?=some q)(h2:A.tb[k]?=some c)(h3:A.cC[k]?=some ss)(h:AC A Y T (.cC k) σ G):∃ps,fB σ G q c ps ss:=by
 simp only[AC]at h;rw[h1,h2,h3]at h;exact h
theorem cX.cC (h:cX σ F Y A T){k q:Nat}{c:bW}{ss:List cH}(h1:Y.fJ[k]?=some q)(h2:A.tb[k]?=some c)(h3:A.cC[k]?=some ss):∃G ps,(∀b,G b->F b)/\fB σ G q c ps ss:=by
 obtain⟨G,e,a⟩:=h.sep.get (.cC k);obtain⟨ps,d⟩:=FF h1 h2 h3 a;exact⟨G,ps,e,d⟩
theorem KV (h:cX σ F Y A T){R:aO}(hR:R true σ):WD.c (aW Y.p) σ R:=by
 refine WD.o ?_;unfold WD.v;exact bY.intro (cK rfl (aG (h.hd.rP rfl hR)))
theorem UC (h:cX σ F Y A T)(k:Int){R:aN}(h1:A.ck k=false->R 1 σ)(h0:∀x:Nat,k=x->x<A.tb.length->R 0 σ):WY.c (aW Y.p) k σ R:=by
 refine WY.o ?_;unfold WY.v;have g:=h.oE;have a:¬(0<=k/\k<A.tb.length)->R 1 σ:=λe=>h1 (by unfold AR.ck;rw[←vO];exact zh e);refine KV h (cG rfl (bY.intro (cI (λd=>cK rfl (a O)) λd=>aG (h.hd.rS rfl (cI (λb=>?_) λb=>?_)))))
 ·simp only at b;exact a O
 ·simp only at b;exact h0 k.toNat O O
theorem Φ (h:cX σ F Y A T)(x:Int){R:aO}(hR:R (UP A x) σ):Zb.c (aW Y.p) x σ R:=by
 refine Zb.o ?_;unfold Zb.v;obtain⟨G,b,q,a,_⟩:=h.sep.get .mM;refine KV h (bY.intro (cK rfl (aG (h.hd.rP rfl (TB a x ?_)))));have:decide (yn A.st x>0)=UP A x:=by
  unfold yn UP;by_cases hx:0<=x
  ·by_cases hl:x<A.st.length
   ·rw[zB ⟨hx,hl⟩,zV hx,vL,decide_eq_decide];omega
   ·rw[zA O,zV hx,vL,zL,zZ O];rfl
  ·rw[zA O,zh hx];rfl
 rw[this];exact hR
structure jb (A:AR):Prop where
 uf:∀r∈A.runs,∀s∈A.runs,∀x,r.1<=x->x<r.1+r.2->s.1<=x->x<s.1+s.2->r=s
 xS:∀x,x<1024->A.ow x=41->(r9 A x).isSome=true
 cls:∀x,x<1024->A.ow x≠0->A.ow x≠41->A.ow x<=A.tb.length
 fit:∀r∈A.runs,r.1+r.2<=1024
theorem BW (h:jb A){x:Nat}{r:Nat×Nat}(hr:r∈A.runs)(h1:r.1<=x)(h2:x<r.1+r.2):r9 A x=some r:=by
 cases hf:r9 A x with
 | none=>
  unfold r9 at hf;rw[oh]at hf;have:=hf r hr;simp[h1,h2]at this
 | some s=>
  unfold r9 at hf;have b:=tQ hf;have a:=ue hf;simp at a;rw[h.uf r hr s b x h1 h2 a.1 a.2]
theorem RM (h:cX σ F Y A T)(hr:jb A)(x:Int)(hx:iO x){R:Int->Int->Int->Hp->Prop}(h1:∀σ' k a,bO σ σ'->U2 A x=some (k,a)->R k (a:Int) 0 σ')(h0:∀σ',bO σ σ'->U2 A x=none->R 0 0 8 σ') :
 Y3.c (aW Y.p) x σ R:=by
 refine Y3.o ?_;unfold Y3.v;refine KV h (cG rfl (cI (λX=>h0 σ (Ext.refl _ _) (by unfold U2;rw[zB X])) λX=>aG (h.hd.rP rfl (nz aB ?_))));obtain⟨y,rfl⟩:=zi (show 0<=x by omega);have hy:y<=9223372036854775807:=by unfold iO at hx;omega
 have U:((y:Int).tdiv 256)=((y/256:Nat):Int):=by rw[YN O];simp
 refine ar (by rw[U];omega) (by rw[U];omega) ?_;rw[U];obtain⟨G,hG,hP⟩:=h.sep.get .own;refine RP hP _ ?_;have eo:rh A.ow ((y/256:Nat):Int)=if y/256<1024 then A.ow (y/256)else 0:=by
  unfold rh;by_cases hl:y/256<1024
  ·rw[zB O,zB hl];rfl
  ·rw[zA O,zA hl]
 have g:U2 A (y:Int)=(let no:=if y/256<1024 then A.ow (y/256)else 0
  if no=0 then none else if no=41 then(r9 A (y/256)).map λr=>(-1,r.1*256)else
  match A.tb[no-1]?,A.cC[no-1]? with
  | some c,some ss=>(q8 c ss (y:Int)).map λa=>(((no-1:Nat):Int),a)
  | _,_=>none):=by
  unfold U2;rw[zA X];rfl
 rw[eo];generalize hno:(if y/256<1024 then A.ow (y/256)else 0)=no at *
 simp only at g;rw[vd];refine cU (λQ=>h0 σ (Ext.refl _ _) (by rw[g,zB (by simpa using Q)])) λQ=>?_;have D:no≠0:=by simpa using Q
 rw[zA D]at g;have C:y/256<1024:=by
  rcases ma (y/256) 1024 with h|h
  ·exact h
  ·rw[zA O]at hno;exact absurd hno.symm D
 rw[zB C]at hno;refine Jn.intro ?_;have Z:(((no:Nat):Int)==41)=(no==41):=j3 no 41;rw[Z];refine cU (λc2=>?_) λc2=>?_
 ·have j:no=41:=by simpa using c2
  subst j;rw[zB rfl]at g;obtain⟨r,K⟩:=qj.1 (hr.xS _ C hno);have w:=tQ K;have E:=ue K;simp at E;obtain⟨G,hG,M⟩:=h.sep.get .runs;refine aG (h.hd.rM rfl ?_);refine wL M.2 (λb v=>bO σ v/\(∀z∈b,z∈iA A.runs)/\((r.1:Int),(r.2:Int))∈b) (λv hz e=>⟨e,λz hz=>hz,zC.2 ⟨r,w,rfl⟩⟩) (λv hv=>absurd hv.2.2 aA) ?_;rintro b n z v v' J ⟨e,d,B⟩ hm ho hlt2 hJ;have e':bO σ v':=Ext.fresh e ho.ext λi hi=>by omega
  obtain⟨s,P,hse⟩:=zC.1 (d _ hm);cases hse;have hfit:=hr.fit s P;refine nz aB (ar O O ?_);refine bY.intro (cI (λc3=>ar O O (cI (λc4=>?_) λc4=>?_)) λc3=>cG rfl ?_)
  ·have W:=BW hr P (x:=y/256) O O;refine ar O O ?_;have:=h1 v' (-1) (s.1*256) e' (by rw[g,W];rfl);simpa using this
  ·refine hJ v' rfl rfl ⟨e',λu hu=>d u (zH.1 hu).1,zH.2 ⟨B,?_⟩⟩;have:¬(r.1:Int)=(s.1:Int):=λe=>by
    have:=BW hr w E.1 E.2;have e1:r.1=s.1:=by omega
    by_cases h2:r.2=0
    ·omega
    by_cases h3:s.2=0
    ·have:=M.2.nodup;have N:=V9 this (zC.2 ⟨r,w,rfl⟩);have L:=V9 this (zC.2 ⟨s,P,rfl⟩);rw[e1,L]at N;have:s.2=r.2:=by
      have:(s.2:Int)=(r.2:Int):=Option.some.inj N;omega
     omega
    ·have:=hr.uf r w s P r.1 O O O O;subst this;omega
   simpa using this
  ·refine hJ v' rfl rfl ⟨e',λu hu=>d u (zH.1 hu).1,zH.2 ⟨B,?_⟩⟩;have:¬(r.1:Int)=(s.1:Int):=λe=>by omega
   simpa using this
 ·have j:no≠41:=by simpa using c2
  rw[zA j]at g;have V:=hr.cls _ C (by rw[hno];exact D) (by rw[hno];exact j);rw[hno]at V;obtain⟨c,ss,q,t,r,hc,H,hq,_,_,hok⟩:=h.at_ (k:=no-1) O;obtain⟨G,ps,hG,hC⟩:=h.cC hq hc H;rw[hc,H]at g;simp only at g;refine aG (h.hd.rS rfl (cA (m:=no-1) O (by have:=h.lay.oC;omega) (h.ko hq (Wll hC _ hx (λa S=>?_) λS=>?_))))
  ·refine cG rfl (cA (m:=no-1) O (by have:=h.lay.oC;omega) (h1 σ _ a (Ext.refl _ _) ?_));rw[g,S];rfl
  ·refine cK rfl (h0 σ (Ext.refl _ _) ?_);rw[g,S];rfl
end Go.Ar
namespace Go.Ar
open Go Go.Vc Go.Proofs
open Go.Bu (Zf QO Zu iR)
open Classical in
theorem _root_.Go.Vc.Sep.kK {L:Type}{C:L->Hp->Rg->Prop}{σ:Hp}{F:Rg}(hC:∀i,dQ (C i))(h:Sep C σ F)(i:L):∃G:Rg,(∀b,G b->F b)/\C i σ G/\(∀j,j≠i->∃H:Rg,(∀b,H b->F b)/\(∀b,H b->¬G b)/\C j σ H)/\∀(σ':Hp) (C':L->Hp->Rg->Prop) (G':Rg),
 (∀j,j≠i->C' j=C j)->Ext G σ σ'->(∀b,G' b->G b\/σ.size<=b)->C' i σ' G'->dQ (C' i)->Sep C' σ' λb=>F b/\b<σ.size/\¬G b\/G' b:=by
 obtain⟨ρ,h⟩:=h;refine⟨_,λb a=>a.1,h i,λj r=>⟨_,λb a=>a.1,λb m y=>r (m.2.symm.trans y.2),h j⟩,λσ' C' G' r e u x w=>⟨λb=>if G' b then i else ρ b,λj=>?_⟩⟩
 by_cases hji:j=i
 ·subst hji;exact w.mono x λb _ a=>⟨.inr a,zB a⟩
 ·rw[r j hji];refine hC j _ _ _ _ (h j) e.1 λb a p=>?_;have d:¬(F b/\ρ b=i):=λs=>hji (p.2.symm.trans s.2);have g:¬G' b:=λs=>by
   rcases u b s with m|m
   ·exact d m
   ·omega
  exact⟨⟨.inl ⟨p.1,a,d⟩,(zA g).trans p.2⟩,e.2 b a d⟩
variable {σ:Hp}{F:Rg}{p hs:Nat}{A:AR}{Y:Lay}{T:Nat->Hp->Rg->Prop}
theorem cX.step (h:cX σ F Y A T)(i:Lb):∃G:Rg,(∀b,G b->F b)/\AC A Y T i σ G/\(∀j,j≠i->∃H:Rg,(∀b,H b->F b)/\(∀b,H b->¬G b)/\AC A Y T j σ H)/\∀(σ':Hp) (A':AR) (Y':Lay) (T':Nat->Hp->Rg->Prop) (G' H:Rg),
 eY A' Y'->(∀k,dQ (T' k))->(∀j,j≠i->AC A' Y' T' j=AC A Y T j)->Ext G σ σ'->(∀b,G' b->G b\/σ.size<=b)->AC A' Y' T' i σ' G'->(∀b,(F b/\b<σ.size/\¬G b\/G' b)->H b)->cX σ' H Y' A' T':=by
 obtain⟨G,s,r,hd,a⟩:=h.sep.kK (AC.loc h.tl) i;refine⟨G,s,r,hd,λσ' A' Y' T' G' H p d u e m g x=>⟨p,d,?_⟩⟩;exact(Sep.loc (AC.loc d)).mono (a σ' _ G' u e m g (AC.loc d i)) λb _ w=>x b w
theorem U0 {σ:Hp}{F G G':Rg}(hG:∀b,G b->F b)(hg:∀b,G' b->G b\/σ.size<=b):∀b,(F b/\b<σ.size/\¬G b\/G' b)->Grow F σ b:=λb a=>by
 rcases a with a|a
 ·exact .inl a.1
 ·exact(hg b a).imp (hG b) id
theorem yM {σ:Hp}{F G G':Rg}(hG:∀b,G b->F b)(hg:∀b,G' b->G b):∀b,(F b/\b<σ.size/\¬G b\/G' b)->F b:=λb a=>by
 rcases a with a|a
 ·exact a.1
 ·exact hG b (hg b a)
theorem CY {σ:Hp}{F G:Rg}(hG:∀b,G b->F b):∀b,(F b/\b<σ.size/\¬G b\/Cut G σ b)->Cut F σ b:=λb a=>by
 rcases a with a|a
 ·exact⟨a.1,a.2.1⟩
 ·exact⟨hG b a.1,a.2⟩
theorem JW {ow:Nat->Nat}:∀j,j≠Lb.own->AC {A with ow:=ow} Y T j=AC A Y T j:=by
 intro j hj;cases j<;>first|rfl|exact absurd rfl hj
theorem Ι {st:List Nat}:∀j,j≠Lb.mM->AC {A with st:=st} Y T j=AC A Y T j:=by
 intro j hj;cases j<;>first|rfl|exact absurd rfl hj
theorem DK {S:Nat->Bool}:∀j,j≠Lb.free->AC {A with S:=S} Y T j=AC A Y T j:=by
 intro j hj;cases j<;>first|rfl|exact absurd rfl hj
theorem NR {rs:List (Nat×Nat)}:∀j,j≠Lb.runs->AC {A with runs:=rs} Y T j=AC A Y T j:=by
 intro j hj;cases j<;>first|rfl|exact absurd rfl hj
theorem NP {k:Nat}{ss:List cH}:∀j,j≠Lb.cC k->AC {A with cC:=A.cC.set k ss} Y T j=AC A Y T j:=by
 intro j hj;cases j<;>first|rfl|skip
 rename_i k';have a:k≠k':=λe=>hj (by rw[e]);simp only[AC];rw[zj a]
theorem eY.ow {ow:Nat->Nat}(h:eY A Y):eY {A with ow:=ow} Y:=⟨h.c,h.t,h.cC,h.cE,h.nC,h.oC,h.n1,h.n2,h.n3,h.st,h.room,h.ok⟩
theorem eY.BY {S:Nat->Bool}(h:eY A Y):eY {A with S:=S} Y:=⟨h.c,h.t,h.cC,h.cE,h.nC,h.oC,h.n1,h.n2,h.n3,h.st,h.room,h.ok⟩
theorem eY.rp {rs:List (Nat×Nat)}(h:eY A Y):eY {A with runs:=rs} Y:=⟨h.c,h.t,h.cC,h.cE,h.nC,h.oC,h.n1,h.n2,h.n3,h.st,h.room,h.ok⟩
theorem eY.xL {st:List Nat}(h:eY A Y)(hl:st.length=A.st.length):eY {A with st:=st} Y:=⟨h.c,h.t,h.cC,h.cE,h.nC,h.oC,h.n1,h.n2,h.n3,hl.trans h.st,h.room,h.ok⟩
theorem eY.lA {k:Nat}{ss:List cH}(h:eY A Y):eY {A with cC:=A.cC.set k ss} Y:=⟨h.c,h.t,by simpa using h.cC,h.cE,h.nC,h.oC,h.n1,h.n2,h.n3,h.st,h.room,h.ok⟩
theorem D4 (st:List Nat)(a m:Int)(v:Nat)(fr:List Nat):(VS st a m v fr).length=st.length:=by
 unfold VS;split<;>simp[Qj]
theorem Rs (st:List Nat)(k:Int):(jv st k).length=st.length:=by
 unfold jv;split<;>simp[Qj]
theorem O0 (st:List Nat)(k:Int):(jN st k).length=st.length:=by
 unfold jN;split<;>simp[Qj]
theorem cX.Clear (h:cX σ F Y A T)(a m:Nat)(ha:a<=1000000){R:aN}(hR:∀σ' t,Ext F σ σ'->cX σ' (Grow F σ) Y {A with ow:=j7 A.ow a m 0} T->R t σ'):XY.c (aW Y.op) a m σ R:=by
 obtain⟨G,i,j,_,d⟩:=h.step .own;refine Χ j a m ha λσ' e p=>hR σ' _ (e.sub i) ?_;exact d σ' _ _ T (Grow G σ) _ h.lay.ow h.tl JW e (λb g=>g) p (U0 i λb g=>g)
theorem cX.Set (h:cX σ F Y A T)(a m:Nat)(ha:a<=1000000){no:Nat}(h1:1<=no)(h2:no<=1000){R:aN}(hR:∀σ' t,Ext F σ σ'->cX σ' (Grow F σ) Y {A with ow:=j7 A.ow a m no} T->R t σ'):Yq.c (aW Y.op) a m no σ R:=by
 obtain⟨G,i,j,_,d⟩:=h.step .own;refine Rh j a m ha h1 h2 λσ' e p=>hR σ' _ (e.sub i) ?_;exact d σ' _ _ T (Grow G σ) _ h.lay.ow h.tl JW e (λb g=>g) p (U0 i λb g=>g)
theorem cX.mM (h:cX σ F Y A T):∃G:Rg,(∀b,G b->F b)/\∃q,gI σ Y.tr q A.st/\F q/\∀(σ':Hp) (st:List Nat),st.length=A.st.length->Ext (· = q) σ σ'->gI σ' Y.tr q st->Ext F σ σ'/\cX σ' F Y {A with st:=st} T:=by
 obtain⟨G,g,⟨q,p,r,i⟩,_,d⟩:=h.step .mM;refine⟨G,g,q,p,g _ i,λσ' st j e m=>⟨e.sub λb a=>by subst a;exact g _ i,?_⟩⟩;exact d σ' _ _ T G _ (h.lay.xL j) h.tl Ι (e.sub λb a=>by subst a;exact i) (λb a=>.inl a) ⟨q,m,r,i⟩ (yM g λb a=>a)
theorem cX.vP (h:cX σ F Y A T)(a m:Int){R:aN}(hR:∀σ' t,Ext F σ σ'->cX σ' F Y {A with st:=VS A.st a m 2 [1]} T->R t σ'):XB.c (aW Y.tr) a m σ R:=by
 obtain⟨G,i,q,g,_,b⟩:=h.mM;refine NU g a m λσ' e d=>?_;have:=b σ' _ (D4 _ _ _ _ _) e d;exact hR σ' _ this.1 this.2
theorem cX.Mv (h:cX σ F Y A T)(a m:Int){R:aN}(hR:∀σ' t,Ext F σ σ'->cX σ' F Y {A with st:=VS A.st a m 1 [2,3]} T->R t σ'):XM.c (aW Y.tr) a m σ R:=by
 obtain⟨G,i,q,g,_,b⟩:=h.mM;refine Nl g a m λσ' e d=>?_;have:=b σ' _ (D4 _ _ _ _ _) e d;exact hR σ' _ this.1 this.2
theorem cX.Rel (h:cX σ F Y A T)(a m:Int){R:aN}(hR:∀σ' t,Ext F σ σ'->cX σ' F Y {A with st:=VS A.st a m 3 [2]} T->R t σ'):W9.c (aW Y.tr) a m σ R:=by
 obtain⟨G,i,q,g,_,b⟩:=h.mM;refine O2 g a m λσ' e d=>?_;have:=b σ' _ (D4 _ _ _ _ _) e d;exact hR σ' _ this.1 this.2
theorem cX.CP (h:cX σ F Y A T)(k:Int){R:aN}(hR:∀σ' t,Ext F σ σ'->cX σ' F Y {A with st:=jv A.st k} T->R t σ'):Yg.c (aW Y.tr) k σ R:=by
 obtain⟨G,g,q,d,_,a⟩:=h.mM;refine OV d k λσ' e b=>?_;have:=a σ' _ (Rs _ _) e b;exact hR σ' _ this.1 this.2
theorem cX.Bs (h:cX σ F Y A T)(k:Int){R:aN}(hR:∀σ' t,Ext F σ σ'->cX σ' F Y {A with st:=jN A.st k} T->R t σ'):Xj.c (aW Y.tr) k σ R:=by
 obtain⟨G,g,q,d,_,a⟩:=h.mM;refine OS d k λσ' e b=>?_;have:=a σ' _ (O0 _ _) e b;exact hR σ' _ this.1 this.2
theorem cX.free (h:cX σ F Y A T):∃sb ms,Go.Bu.BH σ Y.fr A.n A.S sb ms/\∀(σ':Hp) (S:Nat->Bool),Ext (· ∈ ms) σ σ'->Go.Bu.BH σ' Y.fr A.n S sb ms->Ext F σ σ'/\cX σ' F Y {A with S:=S} T:=by
 obtain⟨G,i,⟨sb,ms,m,j⟩,_,d⟩:=h.step .free;have g:∀b,b∈ms->G b:=λb a=>j b (by unfold Go.Bu.fp;simp[a]);refine⟨sb,ms,m,λσ' S e p=>⟨e.sub λb a=>i b (g b a),?_⟩⟩;exact d σ' _ _ T G _ h.lay.BY h.tl DK (e.sub g) (λb a=>.inl a) ⟨sb,ms,p,j⟩ (yM i λb a=>a)
theorem cX.vQ (h:cX σ F Y A T)(a m:Int){R:aN}(hR:∀σ' t,Ext F σ σ'->cX σ' F Y {A with S:=QO A.n A.S a m} T->R t σ'):Yp.c (aW Y.fr) a m σ R:=by
 obtain⟨j,i,d,b⟩:=h.free;refine Go.Bu.qO d a m λσ' e g=>?_;have:=b σ' _ e g;exact hR σ' _ this.1 this.2
theorem cX.qP (h:cX σ F Y A T)(a m:Int){R:aN}(hR:∀σ' t,Ext F σ σ'->cX σ' F Y {A with S:=Go.Bu.j6 A.n A.S a m} T->R t σ'):Xy.c (aW Y.fr) a m σ R:=by
 obtain⟨j,i,d,b⟩:=h.free;refine Go.Bu.nm d a m λσ' e g=>?_;have:=b σ' _ e g;exact hR σ' _ this.1 this.2
theorem cX.vY (h:cX σ F Y A T)(a m:Int){R:Int->Int->Hp->Prop}(hR:∀σ',Ext F σ σ'->cX σ' F Y {A with S:=Go.Bu.jl A.n A.S a m} T->R ((Go.Bu.jm A.n A.S a m:Nat):Int) (Go.Bu.jh A.n A.S a m) σ'):XT.c (aW Y.fr) a m σ R:=by
 obtain⟨j,i,d,b⟩:=h.free;refine Go.Bu.lK d a m λσ' e g=>?_;have:=b σ' _ e g;exact hR σ' this.1 this.2
def rV (rs:List (Nat×Nat)):List Value:=rs.flatMap λr=>[.int .i64 (r.1:Int),.int .i64 (r.2:Int)]
theorem yV (rs:List (Nat×Nat)):(rV rs).length=rs.length*2:=by
 induction rs with
 | nil=>rfl
 | cons x l ih=>simp only[rV,mO,zK,zP,mh]at *;omega
theorem Wog {l:List (Nat×Nat)}{i:Nat}{r:Nat×Nat}(h:l[i]?=some r):(rV l)[2*i]?=some (.int .i64 (r.1:Int))/\(rV l)[2*i+1]?=some (.int .i64 (r.2:Int)):=by
 induction l generalizing i with
 | nil=>simp at h
 | cons x l ih=>
  have e:rV (x::l)=[.int .i64 (x.1:Int),.int .i64 (x.2:Int)]++rV l:=by simp[rV]
  rw[e];cases i with
  | zero=>simp at h;subst h;simp
  | succ i=>
   have:=ih (i:=i) (by simpa using h);rw[show 2*(i+1)=2*i+2 by omega];simpa using this
theorem JV (c:bW)(l:List Nat):iz c l=rV (l.map λs=>(s,c.aF)):=by
 simp[iz,rV,List.flatMap_map]
theorem FJ {s:Sl}{rs:List (Nat×Nat)}(h:cR s 2 (rV rs) σ F){i:Nat}{r:Nat×Nat}(hr:rs[i]?=some r){K:Int->Int->Prop}(hK:K (r.1:Int) (r.2:Int)) :
 Ix s.a s.len (i:Int) 2 λa=>fF .i64 (a.add 0) σ λu=>fF .i64 (a.add 1) σ λw=>K u w:=by
 have g:=Wog hr;have y:=(cQ.1 hr).1;obtain⟨b,o,j,p⟩:=h.cell g.1;obtain⟨x,o1,d,e⟩:=h.cell g.2;rw[j]at d;cases d;have m:=h.1;rw[yV]at m;rw[j];refine ix O O ?_;rw[add_lit];refine nI ?_ (nI ?_ hK)<;>rw[add_lit]
 ·rw[show o+(i:Int).toNat*2+0=o+2*i by omega];exact p
 ·rw[show o+(i:Int).toNat*2+1=o+(2*i+1) by omega];exact e
theorem cX.mono {G:Rg}(h:cX σ F Y A T)(hs:∀b,b<σ.size->F b->G b):cX σ G Y A T:=dQ.mono cX.loc h hs
theorem cX.cut (h:cX σ F Y A T):cX σ (Cut F σ) Y A T:=dQ.cut cX.loc h
theorem Oy (A:AR)(rs:List (Nat×Nat))(r:Nat×Nat):VR A (rs++[r])=VX (VR A rs) r:=by simp[VR]
theorem A6 (h:cX σ F Y A T){sl:Sl}{rs:List (Nat×Nat)}{X:Rg}(hs:cR sl 2 (rV rs) σ X)(hX:∀b,b<σ.size->X b->¬F b)(hl:rs.length<=1000000)(hb:∀r∈rs,r.1<=1000000){R:aP}
 (hR:∀σ',Ext F σ σ'->cX σ' (Grow F σ) Y (VR A rs) T->R σ'):Xf.c (aW Y.p) sl σ R:=by
 refine Xf.o ?_;unfold Xf.v;have U:sl.len=rs.length:=by have:=hs.1;rw[yV]at this;omega
 have M:cR sl 2 (rV rs) σ (Cut X σ):=aH.cut hs;refine ZU (a:=bN) (λ(t:Int) v=>∃i:Nat,t=(i:Int)/\i<=rs.length/\Ext F σ v/\cX v (Grow F σ) Y (VR A (rs.take i)) T) (λt _=>rs.length-t.toNat) ⟨0,rfl,O,Ext.refl _ _,by simpa[VR]using h.mono λb _ hb=>.inl hb⟩ ?_;rintro t v ⟨i,rfl,V,e,L⟩;refine cI (λaa=>?_) λhge=>?_
 ·have j:i<rs.length:=by omega
  have y:rs[i]?=some rs[i]:=cM j;have z:=hb _ (zc j);have D:=aH.bU M e λb C y s=>hX b C y.1 s;refine FJ D y ?_;have K:rs.take (i+1)=rs.take i++[rs[i]]:=by rw[zg,y];rfl
  generalize rs[i]=r at *;refine nw (cs:=[.int .i64 0,.int .i64 0]) λv4 hz4 e4 B=>B.s1 aA λv5 o5 b5=>b5.s1 aA λv6 o6 P=>?_;have w:bO v v6:=Ext.fresh (Ext.fresh e4 o5.ext λi V=>O) o6.ext λi V=>by omega
  have x:=L.cut.bK w;have Q:¬Cut (Grow F σ) v v.size:=λs=>by have:=s.2;omega
  have g:bX v6 v.size [.int .i64 (r.1:Int),.int .i64 (r.2:Int)]:=P;have z6:v.size<v6.size:=P.lt;refine aG (x.hd.rP rfl (g.rI rfl (g.rI rfl (x.Clear r.1 r.2 z λv7 t7 W H=>?_))));have E:=W.bZ g Q;have d:=H.mono (G:=λb=>Cut (Grow F σ) v b\/v.size<b) λb _ hb=>by
   rcases hb with hb|hb
   ·exact .inl hb
   ·exact .inr O
  have N:¬(Cut (Grow F σ) v v.size\/v.size<v.size):=λs=>by
   rcases s with h|h
   ·exact Q h
   ·omega
  refine aG (d.hd.rP rfl (E.rI rfl (E.rI rfl (d.vP _ _ λv8 t8 S u=>?_))));have Z:=S.bZ E N;refine aG (u.hd.rP rfl (Z.rI rfl (Z.rI rfl (u.vQ _ _ λv9 t9 e9 J=>?_))));have sub:∀b,(Cut (Grow F σ) v b\/v.size<b)->Grow F σ b:=λb hb=>by
   rcases hb with hb|hb
   ·exact hb.1
   ·exact .inr (by have:=e.1;omega)
  have ee:Ext F σ v9:=((((e.trans (bO.to w)).iM (W.sub λb hb=>hb.1))).iM (S.sub sub)).iM (e9.sub sub);refine cA (m:=i+1) O O ⟨⟨i+1,rfl,O,ee,?_⟩,O⟩;rw[K,Oy];exact J.mono λb _ hb=>sub b hb
 ·have:i=rs.length:=by omega
  subst this;rw[zl]at L;exact hR v e L
end Go.Ar
namespace Go.Proofs
open Go.Vc
set_option maxRecDepth 100000
def Xs.h:Hn:=.q .o1 (.q (.q .o3 .aK) (.q .o1 (.q (.q .o5 (.k (.loop [(3,.I)] (.q (.cV (.seq [.it .i64 .p,.op])) (.q (.c .l .l) (.k (.q (.cV (.seq [.it .i64 .p,.op,.op,.op,.op])) (.oq 17)))))))) .aL)))
def Xs.v (a:R2)(b:Hp)(c:aN):Prop:=Xe.c a b λd e=>If (!d) (c 0 e) (bI a 2 e λg=>su .i64 .p g e λh i=>W6 [bN] (λj=>j 0 i) λk (l:Int) m=>sC .i64 .p h m (c l m) (λn o p=>sk .i64 .p h p λq r=>bE a 0 p λt=>Ix t.a t.len q 3 λu=>aQ u 0 p λv=>bE r 0 p λx=>bL (v*((x.len:Nat):Int)) λy=>bL (l+y) λz=>k z p))
theorem Xs.o {a b c}(d:Xs.v a b c):Xs.c a b c:=Wa Tryz.func73 (x:=Xs.h) (R0 d)
def Xe.h:Hn:=.q .o1 (.q (.cV (.seq [.op,.op,.op,.dD true 5 (RI.ops 5),.op])) .l)
def Xe.v (a:R2)(b:Hp)(c:aO):Prop:=bY (λd e=>c d e) λf=>If (!a.isNone) (bI a 2 b λh=>f (!h.isNone) b) (f false b)
theorem Xe.o {a b c}(d:Xe.v a b c):Xe.c a b c:=Wa Tryz.func105 (x:=Xe.h) (R0 d)
def Q0.h:Hn:=.q .o2 (.q (.k (.q .o4 (.c .aL (.q (.cV (.seq [.op,.op,.op,.dD false 2 [.op,.op],.op])) .aJ)))) (.q .o8 .l))
def Q0.v (a:Sl)(b:Int)(c:Hp)(d:Option Addr->Int->Hp->Prop):Prop:=ZE.c a c λe f=>If (!e) (d none 2 f) (bY (λg h=>If g (d none 1 h) (Wc.c a h λi j=>Nw (.map #[] 0) j λk l=>aV #[.slice i.a i.len i.cap,.I b,.map (some k.block)] 167 l λm n=>d (some m) 0 n)) λo=>If (b<0) (o true f) (o (decide (b>65536)) f))
theorem Q0.o {a b c d}(e:Q0.v a b c d):Q0.c a b c d:=Wa Tryz.func126 (x:=Q0.h) (R0 e)
def Yd.h:Hn:=.q .o2 (.q .o8 (.q (.q .o2 (.c (.q .o3 .l) .l)) (.q (.q .o6 (.c (.q (.q .o9 (.q .o6 (.c .o8 (.o 11)))) .aL) .l)) (.q .o7 (.q .o8 (.q .fV (.q .fV (.q .o3 .l))))))))
def Yd.v (a:R2)(b:Int)(c:Hp)(d:Int->Int->Hp->Prop):Prop:=Xp.c a b c λe f g=>If (f != 0) (d 0 f g) (bE e 0 g λi=>If (((i.len:Nat):Int)==0) (bE a 0 g λk=>Ix k.a k.len b 3 λl=>aQ l 2 g λm=>bD e 1 g λo=>If (o<m) (bD e 1 g λq=>bL (q+1) λr=>bS e λs=>aR s 1 (.I r) g λt=>d 0 4 t) (bD e 1 g λv=>bL (v+m) λw=>bS e λx=>aR x 1 (.I (if 128<w then 128 else w)) g λy=>d 0 4 y)) (bE e 0 g λaa=>bL (((aa.len:Nat):Int)-1) λab=>bE e 0 g λad=>Ix ad.a ad.len ab 1 λae=>bM ae g λaf=>bE e 0 g λah=>eW ah 1 0 ab (ah.cap:Nat) λai=>bS e λaj=>aR aj 0 (.slice ai.a ai.len ai.cap) g λak=>bD e 2 ak λam=>bS e λan=>aR an 2 (.I (if ab<am then ab else am)) ak λao=>d af 0 ao))
theorem Yd.o {a b c d}(e:Yd.v a b c d):Yd.c a b c d:=Wa Tryz.func171 (x:=Yd.h) (R0 e)
def Yn.h:Hn:=.q .o2 (.q .o8 (.q (.q .o2 (.c (.q .o3 .l) .l)) (.q (.oq 15) .l)))
def Yn.v (a:R2)(b:Int)(c:Hp)(d:Int->Int->Hp->Prop):Prop:=Xp.c a b c λe f g=>If (f != 0) (d 0 f g) (bD e 1 g λi=>bE a 0 g λk=>Ix k.a k.len b 3 λl=>aQ l 2 g λm=>d (if m<i then m else i) 0 g)
theorem Yn.o {a b c d}(e:Yn.v a b c d):Yn.c a b c d:=Wa Tryz.func173 (x:=Yn.h) (R0 e)
def Ym.h:Hn:=.q .o1 (.q .o8 (.q (.q .o2 .aJ) (.q .o3 (.q .o2 (.q .o4 .l)))))
def Ym.v (a:R2)(b:Int)(c:Sl)(d:Hp)(e:aN):Prop:=Xp.c a b d λf g h=>If (g != 0) (e g h) (WH.c c h λi j=>W0.c i j λk=>W1.c f i k λl m=>e l m)
theorem Ym.o {a b c d e}(f:Ym.v a b c d e):Ym.c a b c d e:=Wa Tryz.func178 (x:=Ym.h) (R0 f)
def YR.h:Hn:=.q .o2 (.q .o8 (.q (.q .o2 (.c (.q .o3 .l) .l)) (.q (.q .o5 (.q .o2 (.c (.q .o3 .l) .l))) (.q (.q (.oq 10) .aJ) (.q .o9 (.jI [] (.q .o6 (.c .o8 .l)) (.q (.o 11) .l)))))))
def YR.v (a:R2)(b c:Int)(d:Hp)(e:Sl->Int->Hp->Prop):Prop:=Xp.c a b d λf g h=>If (g != 0) (e ⟨none,0,0⟩ g h) (aV #[.I c] 3 h λi j=>W1.c f ⟨some i,1,1⟩ j λk l=>If (k != 0) (e ⟨none,0,0⟩ k l) (bE f 0 l λn=>bD f 1 l λp=>If (((n.len:Nat):Int)<=p) (e ⟨none,0,0⟩ 0 l) (bE a 0 l λr=>Ix r.a r.len b 3 λs=>aQ s 2 l λt=>Jn [] (λu=>bE f 0 u λw=>Xc.c f (if((w.len:Nat):Int)<t then((w.len:Nat):Int)else t) u λx y=>e x 0 y) λz=>bD f 1 l λab=>If (ab<t) (bD f 1 l λad=>bL (ad+1) λae=>bS f λaf=>aR af 1 (.I ae) l λag=>z ag) (z l))))
theorem YR.o {a b c d e}(f:YR.v a b c d e):YR.c a b c d e:=Wa Tryz.func181 (x:=YR.h) (R0 f)
def Yj.h:Hn:=.q .o1 (.q (.cV (.iw false [] [(2,.one .b)] (.take 0 (.all [(1,.take 2 (.split 5 (.tk [3,5,6,7] (.all [(4,.all [(8,.tk [9,10,11] (.done))]),(8,.all [(4,.tk [9,10,11] (.done))])])) (.tk [3,4,5,6,7,8,9,10,11] (.done))))])))) .l)
def Yj.v (a:R2)(b:Hp)(c:aO):Prop:=Jn [.b] (λ(d:Bool) e=>c d e) λf=>Xe.c a b λg h=>If g (bS a λi=>(Xs.c a h λj k=>aQ i 1 k λl=>f (decide (j>l)) k) ∧ (aQ i 1 h λm=>Xs.c a h λn o=>f (decide (n>m)) o)) (f false h)
theorem Yj.o {a b c}(d:Yj.v a b c):Yj.c a b c:=Wa Tryz.func182 (x:=Yj.h) (R0 d)
def W8.h:Hn:=.q .o1 (.q .o3 .l)
def W8.v (a:R2)(b:Hp)(c:Sl->Hp->Prop):Prop:=Xl.c a ⟨221,#[],#[]⟩ b λd e=>c d e
theorem W8.o {a b c}(d:W8.v a b c):W8.c a b c:=Wa Tryz.func183 (x:=W8.h) (R0 d)
def XP.h:Hn:=.q .o1 (.q .o3 .l)
def XP.v (a:R2)(b:Hp)(c:Sl->Hp->Prop):Prop:=Xl.c a ⟨223,#[],#[]⟩ b λd e=>c d e
theorem XP.o {a b c}(d:XP.v a b c):XP.c a b c:=Wa Tryz.func188 (x:=XP.h) (R0 d)
def Xp.h:Hn:=.q .o2 (.q (.q .o3 .aJ) (.q .o4 (.q (.q .o2 .aJ) (.q .o3 .l))))
def Xp.v (a:R2)(b:Int)(c:Hp)(d:Option Addr->Int->Hp->Prop):Prop:=Xe.c a c λe f=>If (!e) (d none 5 f) (Zz.c a b f λg h=>If g.isNone (d none 1 h) (d g 0 h))
theorem Xp.o {a b c d}(e:Xp.v a b c d):Xp.c a b c d:=Wa Tryz.func211 (x:=Xp.h) (R0 e)
def W1.h:Hn:=.q .o1 (.q (.q .o9 .aK) (.q (.o 11) .aM))
def W1.v (a:R2)(b:Sl)(c:Hp)(d:aN):Prop:=bE a 0 c λf=>bL (((f.len:Nat):Int)+((b.len:Nat):Int)) λg=>If (g>256) (d 6 c) (bE a 0 c λi=>Xh.c i c λj k=>App j 1 8 3 [.I 0] b k λl m=>bS a λn=>aR n 0 (.slice l.a l.len l.cap) m λo=>d 0 o)
theorem W1.o {a b c d}(e:W1.v a b c d):W1.c a b c d:=Wa Tryz.func218 (x:=W1.h) (R0 e)
def Xc.h:Hn:=.q .o1 (.q .o8 (.q (.o 11) (.q (.cV (.tail 13 (RI.ops 13) [.op])) .aL)))
def Xc.v (a:R2)(b:Int)(c:Hp)(d:Sl->Hp->Prop):Prop:=bE a 0 c λf=>eW f 1 0 b (f.cap:Nat) λg=>WH.c g c λh i=>bE a 0 i λk=>eW k 1 b (k.len:Nat) (k.cap:Nat) λl=>WH.c l i λm n=>bS a λo=>aR o 0 (.slice m.a m.len m.cap) n λp=>bD a 2 p λr=>bE a 0 p λt=>bS a λu=>aR u 2 (.I (if((t.len:Nat):Int)<r then((t.len:Nat):Int)else r)) p λv=>d h v
theorem Xc.o {a b c d}(e:Xc.v a b c d):Xc.c a b c d:=Wa Tryz.func219 (x:=Xc.h) (R0 e)
def Xl.h:Hn:=.q .o1 (.q (.q .o3 .aK) (.q .o1 (.q (.q .o5 (.k (.loop [(5,.one .s)] (.q (.cV (.seq [.it .i64 .p,.op])) (.q (.c .l .l) (.k (.q (.cV (.seq [.it .i64 .p,.op,.op,.op,.op])) (.q (.o 12) (.q .o3 (.c .o7 .l)))))))))) (.q .o2 .aL))))
def Xl.v (a:R2)(b:Fv)(c:Hp)(d:Sl->Hp->Prop):Prop:=Xe.c a c λe f=>If (!e) (d ⟨none,0,0⟩ f) (bI a 2 f λh=>su .i64 .p h f λi j=>W6 [.s] (λk=>k ⟨none,0,0⟩ j) λl (m:Sl) n=>sC .i64 .p i n (Z0.c m ⟨262,#[],#[]⟩ n λo=>d m o) (λp q r=>sk .i64 .p i r λs t=>bE a 0 r λv=>Ix v.a v.len s 3 λw=>aQ w 2 r λx=>VU Tryz.prog b [.pointer t,.I x] [.one .s] r λy z=>If (((y.len:Nat):Int)>0) (aV #[.I s,.slice y.a y.len y.cap] 130 z λaa ab=>App m 2 32 130 [.I 0,.slice none 0 0] ⟨some aa,1,1⟩ ab λac ad=>l ac ad) (l m z)))
theorem Xl.o {a b c d}(e:Xl.v a b c d):Xl.c a b c d:=Wa Tryz.func220 (x:=Xl.h) (R0 e)
def Xx.h:Hn:=.q .o1 (.q .o9 (.jI [] (.q .o6 (.c (.o 12) .l)) (.q .o9 .aL)))
def Xx.v (a:R2)(b:Int)(c:Hp)(d:Sl->Hp->Prop):Prop:=bD a 2 c λf=>bL (f+1) λg=>Nz 2<|bL (g.tdiv 2) λh=>Xc.c a h c λi j=>Jn [] (λk=>bE a 0 k λm=>bS a λn=>aR n 2 (.I ((m.len:Nat):Int)) k λo=>d i o) λp=>bD a 1 j λr=>If (r>b) (bD a 1 j λt=>bL (t-b) λu=>bS a λv=>aR v 1 (.I (if b>u then b else u)) j λw=>p w) (p j)
theorem Xx.o {a b c d}(e:Xx.v a b c d):Xx.c a b c d:=Wa Tryz.func221 (x:=Xx.h) (R0 e)
def YJ.h:Hn:=.q .o1 (.q .o8 .l)
def YJ.v (a:R2)(b:Int)(c:Hp)(d:Sl->Hp->Prop):Prop:=bE a 0 c λf=>Xc.c a ((f.len:Nat):Int) c λg h=>d g h
theorem YJ.o {a b c d}(e:YJ.v a b c d):YJ.c a b c d:=Wa Tryz.func223 (x:=YJ.h) (R0 e)
def Zz.h:Hn:=.q .o1 (.q (.q (.cV (.seq [.op,.op,.op,.op,.dD false 2 [.op,.op],.op,.dD false 7 (RI.ops 7)])) .aK) (.jI [] (.q .o7 (.c .o8 .l)) (.q .o7 .l)))
def Zz.v (a:R2)(b:Int)(c:Hp)(d:Option Addr->Hp->Prop):Prop:=Xe.c a c λe f=>bY (λg h=>bY (λi j=>If i (d none j) (Jn [] (λk=>bI a 2 k λm=>Lk .i64 .p m b k λn=>d (n.getD none) k) λo=>bS a λp=>bB p 2 j λq=>Lk .i64 .p q b j λr=>If ((r.getD none).isNone) (bI a 2 j λt=>aV #[.slice none 0 0,.I 1,.I 0] 170 j λu v=>k6 .i64 .p t b (some u) v λw=>o w) (o j))) λx=>If g (x true h) (bE a 0 h λz=>x (decide (b≥((z.len:Nat):Int))) h)) λaa=>If (!e) (aa true f) (aa (decide (b<0)) f)
theorem Zz.o {a b c d}(e:Zz.v a b c d):Zz.c a b c d:=Wa Tryz.func250 (x:=Zz.h) (R0 e)
end Go.Proofs
namespace Go.Ar
open Go Go.Vc Go.Proofs
theorem cR.sub {σ:Hp}{F:Rg}{s:Sl}{sz:Nat}{xs:List Value}(h:cR s sz xs σ F){lo hi mx:Nat}(h1:lo<=hi)(h2:hi<=s.len)(h3:hi<=mx) :
 cR ⟨if mx=lo then s.a else s.a.map (·.add (lo*sz)),hi-lo,mx-lo⟩ sz ((xs.drop (lo*sz)).take ((hi-lo)*sz)) σ F:=by
 have e:=h.1;have g:hi*sz<=s.len*sz:=lB _ h2;have m:(hi-lo)*sz=hi*sz-lo*sz:=Nat.sub_mul _ _ _;have i:lo*sz<=hi*sz:=lB _ h1;refine⟨by rw[zO,zr];simp only;omega,?_⟩;by_cases hm:mx=lo
 ·left;have:hi-lo=0:=by omega
  rw[this,tz,Au]
 ·rcases h.2 with h0|⟨b,o,cs,hb,ha,hq,hc⟩
  ·left;subst h0;simp
  ·refine .inr ⟨b,o+lo*sz,cs,hb,?_,hq,λj d=>?_⟩
   ·simp only[zA hm,ha,zf,add_lit]
   ·rw[zO,zr]at d;rw[qn,hc _ O,zY,zo,zB O]
inductive sS where
 | hd|dB|mp
 | li (k:Nat)
 deriving DecidableEq
structure ie where
 p:Nat
 m:Nat
 dB:Sl
 ps:List (Nat×Nat)
def jC (ps:List (Nat×Nat))(k:Nat):Option Nat:=(ps.find? λx=>x.1==k).map (·.2)
def kf (ps:List (Nat×Nat)):List (Int×Option Addr):=ps.map λx=>((x.1:Int),some ⟨x.2,0,none⟩)
def nM (s:Sl)(l:Li):List Value:=[.slice s.a s.len s.cap,.int .i64 (l.lim:Int),.int .i64 (l.low:Int)]
def jj (b:Nat)(l:Li):Hp->Rg->Prop:=λσ F=>F b/\fQ l/\∃s:Sl,bX σ b (nM s l)/\cR s 1 (Wv l.os) σ (λq=>F q/\q≠b)/\s.len<=s.cap
def pO (b:Option Nat)(l:Option Li):Hp->Rg->Prop:=λσ F=>match b,l with
 | some b,some l=>jj b l σ F
 | none,some l=>l=iC
 | _,none=>True
def BD (Y:ie)(bud:Nat):List Value:=[.slice Y.dB.a Y.dB.len Y.dB.cap,.int .i64 (bud:Int),.map (some Y.m)]
def CC (tb:List bW)(bud:Nat)(ls:List Li)(Y:ie):sS->Hp->Rg->Prop
 | .hd=>iH Y.p (BD Y bud)
 | .dB=>cR Y.dB 3 (gg tb)
 | .mp=>j4 Y.m .i64 .p (kf Y.ps)
 | .li k=>pO (jC Y.ps k) ls[k]?
theorem jj.loc (b:Nat)(l:Li):dQ (jj b l):=by
 rintro σ y F G ⟨x,p,s,i,m,r⟩ w a;have g:=a b i.lt x;obtain⟨e,u⟩:=i;exact⟨g.1,p,s,⟨e,g.2.trans u⟩,cR.loc _ _ _ _ _ _ _ m w λq j d=>⟨⟨(a q j d.1).1,d.2⟩,(a q j d.1).2⟩,r⟩
theorem pO.loc (b:Option Nat)(l:Option Li):dQ (pO b l):=by
 intro σ σ' F G h hz hs;unfold pO at *;split at h
 ·exact jj.loc _ _ _ _ _ _ h hz hs
 ·exact h
 ·trivial
theorem CC.loc {tb:List bW}{bud:Nat}{ls:List Li}{Y:ie}:∀i,dQ (CC tb bud ls Y i)
 | .hd=>iH.loc _ _
 | .dB=>cR.loc _ _ _
 | .mp=>j4.loc _ _ _ _
 | .li k=>pO.loc _ _
structure eH (σ:Hp) (F:Rg) (Y:ie) (tb:List bW) (bud:Nat) (ls:List Li):Prop where
 nC:tb.length<=40
 ok:∀c∈tb,c.ok
 len:ls.length=tb.length
 keys:∀x∈Y.ps,x.1<tb.length
 sep:Sep (CC tb bud ls Y) σ F
variable {σ:Hp}{F G:Rg}{Y:ie}{tb:List bW}{bud:Nat}{ls:List Li}{b k:Nat}{l:Li}
theorem eH.loc:dQ λσ F=>eH σ F Y tb bud ls:=λσ d F G h b a=>⟨h.nC,h.ok,h.len,h.keys,Sep.loc CC.loc _ _ _ _ h.sep b a⟩
theorem eH.bK {σ':Hp}(h:eH σ F Y tb bud ls)(e:bO σ σ'):eH σ' F Y tb bud ls:=dQ.bK eH.loc h e
theorem eH.hd (h:eH σ F Y tb bud ls):bX σ Y.p (BD Y bud):=by
 obtain⟨G,b,a⟩:=h.sep.get .hd;exact a.2
theorem eH.jQ (h:eH σ F Y tb bud ls):cR Y.dB 3 (gg tb) σ F:=by
 obtain⟨G,d,a⟩:=h.sep.get .dB;exact aH.mono a λb _ a=>d b a
theorem eH.oE (h:eH σ F Y tb bud ls):Y.dB.len=tb.length:=by
 have:=h.jQ.1;rw[Kd]at this;omega
theorem eH.map (h:eH σ F Y tb bud ls):dK σ Y.m .i64 .p (kf Y.ps):=by
 obtain⟨G,b,a⟩:=h.sep.get .mp;exact a.2
theorem Bo (ps:List (Nat×Nat))(k:Nat):bV (α:=Option Addr) (kf ps) (k:Int)=(jC ps k).map λb=>some ⟨b,0,none⟩:=by
 induction ps with
 | nil=>rfl
 | cons x l ih=>
  simp only[bV,kf,jC,zJ,uY]at *;have e:(((x.1:Nat):Int)==(k:Int))=(x.1==k):=j3 _ _;rw[e];cases x.1==k
  ·exact ih
  ·rfl
theorem Ef {ps:List (Nat×Nat)}(h:jC ps k=none):∀x∈ps,x.1≠k:=by
 unfold jC at h;simp only[rr,oh,zX]at h;exact h
theorem OO {ps:List (Nat×Nat)}(h:jC ps k=none)(b:Nat):dF (α:=Option Addr) (kf ps) (k:Int) (some ⟨b,0,none⟩)=kf (ps++[(k,b)]):=by
 unfold dF;rw[zA]
 ·simp[kf]
 ·simp only[kf,List.any_map,ka,Function.comp,zX,not_exists,not_and];intro x hx e;exact Ef h x hx O
theorem UG {ps:List (Nat×Nat)}(h:jC ps k=none)(b j:Nat):jC (ps++[(k,b)]) j=if j=k then some b else jC ps j:=by
 have a:=Ef h;unfold jC at *;rw[List.find?_append];by_cases hj:j=k
 ·subst hj;have:ps.find? (λx=>x.1==j)=none:=by simpa using h
  rw[this];simp
 ·rw[zA hj];cases hf:ps.find? (λx=>x.1==j)with
  | none=>
   have:(k==j)=false:=by simpa using λe=>hj e.symm
   simp[this]
  | some x=>simp
theorem IY {ps:List (Nat×Nat)}(hn:((kf ps).map (·.1)).Nodup)(h:(k,b)∈ps):jC ps k=some b:=by
 induction ps with
 | nil=>simp at h
 | cons x l ih=>
  simp only[kf,zJ,zp]at hn;unfold jC;rw[uY];rcases zQ.1 h with rfl|h
  ·simp
  ·have:(x.1==k)=false:=by
    have:x.1≠k:=λe=>hn.1 (zC.2 ⟨(((k:Nat):Int),some ⟨b,0,none⟩),zC.2 ⟨(k,b),h,rfl⟩,by rw[e]⟩);simpa using this
   rw[this];exact ih hn.2 h
theorem Hm (h:eH σ F Y tb bud ls){R:aO}(hR:R true σ):Xe.c (aW Y.p) σ R:=by
 refine Xe.o ?_;unfold Xe.v;exact bY.intro (cK rfl (aG (h.hd.rM rfl hR)))
theorem eH.wK (h:eH σ F Y tb bud ls)(hb:jC Y.ps k=some b)(hl:ls[k]?=some l):∃G:Rg,(∀q,G q->F q)/\jj b l σ G/\¬G Y.m ∧
 ∀(σ':Hp) (l':Li) (G':Rg),Ext G σ σ'->(∀q,G' q->Grow G σ q)->jj b l' σ' G'->Ext F σ σ'/\eH σ' (λq=>F q/\q<σ.size/\¬G q\/G' q) Y tb bud (ls.set k l'):=by
 have i:=(cQ.1 hl).1;obtain⟨G,s,g,d,a⟩:=h.sep.kK CC.loc (.li k);have g:jj b l σ G:=by
  simp only[CC,pO,hb,hl]at g;exact g
 have p:¬G Y.m:=by
  obtain⟨H,_,hd,r⟩:=d .mp (by intro e;cases e);exact hd _ r.1
 refine⟨G,s,g,p,λσ' l' G' e u w=>⟨e.sub s,h.nC,h.ok,by rw[oR];exact h.len,h.keys,?_⟩⟩;refine a σ' (CC tb bud (ls.set k l') Y) G' (λj x=>?_) e u ?_ (CC.loc _)
 ·cases j<;>try rfl
  rename_i m;have p:m≠k:=λe=>x (by rw[e]);simp only[CC,zj (Ne.symm p)]
 ·simp only[CC,pO,hb,zM i];exact w
theorem eH.mono (h:eH σ F Y tb bud ls)(hs:∀q,q<σ.size->F q->G q):eH σ G Y tb bud ls:=dQ.mono eH.loc h hs
theorem eH.cut (h:eH σ F Y tb bud ls):eH σ (Cut F σ) Y tb bud ls:=dQ.cut eH.loc h
theorem eH.fO {v:Hp}(h:eH v (Grow F σ) Y tb bud ls)(e0:Ext F σ v)(hb:jC Y.ps k=some b)(hl:ls[k]?=some l):∃G:Rg,jj b l v G ∧
 ∀(σ':Hp) (l':Li) (G':Rg),Ext G v σ'->(∀q,G' q->Grow G v q)->jj b l' σ' G'->Ext F σ σ'/\eH σ' (Grow F σ) Y tb bud (ls.set k l'):=by
 obtain⟨G,r,j,_,d⟩:=h.wK hb hl;refine⟨G,j,λσ' l' G' e i g=>?_⟩;obtain⟨m,p⟩:=d σ' l' G' e i g;refine⟨e0.iM m,p.mono λq _ a=>?_⟩;have:=e0.1;rcases a with a|a
 ·exact a.1
 ·rcases i q a with h2|h2
  ·exact r q h2
  ·exact .inr O
theorem Td (h:eH σ F Y tb bud ls)(hk:k<tb.length){R:Option Addr->Hp->Prop}(hR:∀σ' Y' b,Ext F σ σ'->Y'.p=Y.p->jC Y'.ps k=some b->eH σ' (Grow F σ) Y' tb bud ls->R (some ⟨b,0,none⟩) σ') :
 Zz.c (aW Y.p) (k:Int) σ R:=by
 refine Zz.o ?_;unfold Zz.v;have y:k<ls.length:=by rw[h.len];exact hk
 have z:ls[k]?=some ls[k]:=cM y;generalize ls[k]=l at z;have P:=h.oE;refine Hm h (bY.intro (cG rfl ?_));refine bY.intro (fH O (aG (h.hd.rS rfl ?_)));refine fH aC ?_;refine Jn.intro (aG (h.hd.rM rfl ⟨_,h.map,?_⟩));rw[Bo];cases hf:jC Y.ps k with
 | some b=>
  refine cG rfl (aG (h.hd.rM rfl ⟨_,h.map,?_⟩));rw[Bo,hf];exact hR σ Y b (Ext.refl _ _) rfl hf (h.mono λq _ a=>.inl a)
 | none=>
  refine cK rfl (aG (h.hd.rM rfl (nw (cs:=[.slice none 0 0,.int .i64 1,.int .i64 0]) λv U e B=>?_)));obtain⟨G,H,u,S,hd,g,w,s⟩:=h.cut.sep.pN CC.loc .mp (.li k) (by intro e;cases e);have L:∀q,G q->F q:=λq a=>(u q a).1;have g:j4 Y.m .i64 .p (kf Y.ps) σ G:=g;have w:l=iC:=by
   simp only[CC,pO,hf,z]at w;exact w
  have M:=g.2.lt;have J:dK v Y.m .i64 .p (kf Y.ps):=e.gL g.2 id;refine⟨Y.m,_,rfl,J,λv2 C r=>?_⟩;rw[OO hf]at r;have Q:Ext F σ v2:=(bO.to e).only C (.inl (L _ g.1));have D:Ext (λq=>G q\/H q) σ v2:=(bO.to e).only C (.inl (.inl g.1));have A:bX v2 σ.size [.slice none 0 0,.int .i64 1,.int .i64 0]:=Ws C B O;have d:eH v2 (Grow F σ) {Y with ps:=Y.ps++[(k,σ.size)]} tb bud ls:=by
   refine⟨h.nC,h.ok,h.len,λx i=>?_,?_⟩
   ·rcases zR.1 i with i|i
    ·exact h.keys x i
    ·simp only[zW]at i;subst i;exact hk
   refine(Sep.loc CC.loc).mono (s v2 (CC tb bud ls {Y with ps:=Y.ps++[(k,σ.size)]}) G (· = σ.size) (λj E K=>?_) D (λq a=>.inl (.inl a)) (λq a=>.inr O) (λq E K=>?_) ⟨g.1,r⟩ ?_ CC.loc) λq _ a=>?_
   ·cases j<;>first|rfl|exact absurd rfl E|skip
    rename_i m;have N:m≠k:=λe=>K (by rw[e]);simp only[CC,UG hf,zA N]
   ·have:=(u q E).2;omega
   ·simp only[CC,UG hf,zT,z,w,pO];exact⟨rfl,fQ.nil,⟨none,0,0⟩,A,cR.nil _ _ _ _,zD _⟩
   ·rcases a with a|a|a
    ·exact .inl a.1.1
    ·exact .inl (L q a)
    ·exact .inr O
  refine aG (d.hd.rM rfl ⟨_,d.map,?_⟩);rw[Bo,UG hf,zB rfl];exact hR v2 {Y with ps:=Y.ps++[(k,σ.size)]} σ.size Q rfl (by show jC (Y.ps++[(k,σ.size)]) k=_;rw[UG hf,zB rfl]) d
theorem Al (h:eH σ F Y tb bud ls)(hk:k<tb.length){R:Option Addr->Int->Hp->Prop}(hR:∀σ' Y' b,Ext F σ σ'->Y'.p=Y.p->jC Y'.ps k=some b->eH σ' (Grow F σ) Y' tb bud ls->R (some ⟨b,0,none⟩) 0 σ') :
 Xp.c (aW Y.p) (k:Int) σ R:=by
 refine Xp.o ?_;unfold Xp.v;exact Hm h (cG rfl (Td h hk λσ' Y' b e a d g=>cG rfl (hR σ' Y' b e a d g)))
theorem bR.qG {s:Sl}{sz:Nat}{xs:List Value}(h:bR s sz xs σ F):s.len<=s.cap:=by
 rcases h.2 with⟨q1,q2⟩|⟨_,_,_,_,_,q,_⟩
 ·omega
 ·exact q
theorem H7 (h:jj b l σ G){m:Nat}(hm:m<=l.os.length){R:Sl->Hp->Prop}
 (hR:∀s z σ',Ext (· = b) σ σ'->σ.size<=z->bR s 1 (Wv (l.os.take m)) σ' (λq=>σ.size<=q/\q<z)->jj b (gT m l).2 σ' (λq=>q=b\/z<=q)->R s σ') :
 Xc.c (aW b) (m:Int) σ R:=by
 refine Xc.o ?_;unfold Xc.v;obtain⟨Z,a,s,C,B,Y⟩:=h;have W:s.len=l.os.length:=by have:=B.1;simp[Wv]at this;omega
 have H:=a.many;have M:=a.low;have g:=cR.sub B (lo:=0) (hi:=m) (mx:=s.cap) O O O;have V:((Wv l.os).drop (0*1)).take ((m-0)*1)=Wv (l.os.take m):=by simp[Wv]
 rw[V]at g;refine aG (C.rS rfl (jd (lo:=0) O aC aC (HL g Va aC λs1 L U y A=>?_)));have p:=y.bZ C id;have J:=aH.bK B y;have r:=cR.sub J (lo:=m) (hi:=s.len) (mx:=s.cap) O O O;have X:((Wv l.os).drop (m*1)).take ((s.len-m)*1)=Wv (l.os.drop m):=by
  rw[ng (by simp[Wv];omega)];simp[Wv]
 rw[X]at r;refine aG (p.rS rfl (jd aC aC aC (HL r Va aC λx N K F u=>?_)));have D:=F.bZ p id;refine aG (D.s1 (by simp[nM]) λv3 o3 d=>aG (d.rI rfl (aG (d.rS rfl (aG (d.s1 (by simp[nM]) λv4 o4 j=>?_))))));have e:Ext (· = b) N v4:=o3.ext.trans o4.ext;have P:=C.lt;have E:=y.1;have i:x.len=l.os.length-m:=by rw[K];simp only;omega
 refine hR s1 L.size v4 ((bO.to (y.trans F)).trans e) E ?_ ⟨.inl rfl,zx a,x,?_,?_,bR.qG u⟩
 ·refine aI.bU (aI.bK (aI.mono A (G:=λq=>σ.size<=q/\q<L.size) λq w Q=>⟨Q,w⟩) F) e λq _ w S=>by omega
 ·have:(if((x.len:Nat):Int)<(l.low:Int)then((x.len:Nat):Int)else(l.low:Int))=((min l.low (l.os.length-m):Nat):Int):=by rw[i];split<;>omega
  rw[this]at j;exact j
 ·refine aH.mono (aH.bU u.fX e λq _ w S=>O) λq _ w=>⟨.inr w,O⟩
theorem TW (h:jj b l σ G){sl:Sl}{xs:List Int}{X:Rg}(hs:cR sl 1 (Wv xs) σ X)(hx:xs≠[])(hfit:l.os.length+xs.length<=256){R:aN}
 (hR:∀σ',Ext (· = b) σ σ'->jj b (eL xs l) σ' (λq=>q=b\/σ.size<=q)->R 0 σ'):W1.c (aW b) sl σ R:=by
 refine W1.o ?_;unfold W1.v;obtain⟨J,p,s,g,d,H⟩:=h;have F:s.len=l.os.length:=by have:=d.1;simp[Wv]at this;omega
 have C:sl.len=xs.length:=by have:=hs.1;simp[Wv]at this;omega
 have x:=qz.2 hx;have z:eL xs l = {l with os:=l.os++xs}:=by unfold eL;rw[zA O]
 refine aG (g.rS rfl (cA (m:=l.os.length+xs.length) aC O (fH O (aG (g.rS rfl ?_)))));refine Xh.o ?_;unfold Xh.v;refine jd (lo:=0) aC aC aC ?_;have B:=g.lt;refine⟨Wv l.os,Wv xs,by simp[Wv];omega,by simp[Wv];omega,?_,hs.rd,Va,?_,by simp only;omega,λi=>by simp only at i;omega,λy c u=>?_⟩
 ·by_cases h0:s.len=0
  ·have:l.os=[]:=xW.1 O;rw[this];simp only[h0,zT];cases s.a<;>simp[Rd,Wv]
  ·simp only[zA h0,tz];have:=d.rd;cases ha:s.a with
   | none=>rw[ha]at this;simpa[Rd]using this
   | some a=>rw[ha]at this;simpa[Rd,Addr.add_zero']using this
 ·simp only;have:(s.len-0+sl.len)*8<=256*8:=kO O O;omega
 ·refine nw λv K e w=>aG ((e.bZ g id).s1 (by simp[nM]) λA o2 r=>?_);have D:l.os.length+xs.length<=c:=by simp only at u;omega
  refine hR A ((bO.to e).trans o2.ext) ?_;rw[z];have:=x8 (xs:=xs) p;rw[z]at this;refine⟨.inl rfl,this,⟨some ⟨σ.size,0,none⟩,s.len-0+sl.len,c⟩,r,⟨by simp[Wv];omega,.inr ⟨σ.size,0,_,⟨.inr (zD _),O⟩,rfl,(Ws o2 w O).q,λj E=>?_⟩⟩,by simp only;omega⟩;simp only[Wv,za,zK]at E;rw[zG,kJ,←kJ,zd (by simp[Wv];omega)];simp[Wv]
theorem T5 (h:jj b l σ G){sl:Sl}{xs:List Int}{X:Rg}(hs:cR sl 1 (Wv xs) σ X)(hfit:¬l.os.length+xs.length<=256)(hxs:xs.length<=1000000){R:aN}
 (hR:R 6 σ):W1.c (aW b) sl σ R:=by
 refine W1.o ?_;unfold W1.v;obtain⟨p,a,s,g,d,j⟩:=h;have i:s.len=l.os.length:=by have:=d.1;simp[Wv]at this;omega
 have e:sl.len=xs.length:=by have:=hs.1;simp[Wv]at this;omega
 have:=a.many;exact aG (g.rS rfl (cA (m:=l.os.length+xs.length) aC O (lV O hR)))
end Go.Ar
namespace Go.Ar
open Go Go.Vc Go.Proofs
variable {σ:Hp}{F G:Rg}{Y:ie}{tb:List bW}{bud:Nat}{ls:List Li}{b k:Nat}{l:Li}{c:bW}
theorem eH.cls (h:eH σ F Y tb bud ls)(hc:tb[k]?=some c):c.ok/\k<tb.length:=⟨h.ok c (zE hc),(cQ.1 hc).1⟩
theorem jj.st {v:Hp}(h:jj b l σ G){s:Sl}{l':Li}(ho:Ext (· = b) σ v)(hb:bX v b (nM s l'))(hs:cR s 1 (Wv l'.os) σ (λq=>G q/\q≠b))(hc:s.len<=s.cap)(ok:fQ l'):jj b l' v G:=
 ⟨h.1,ok,s,hb,aH.bU hs ho λq _ a d=>a.2 d,hc⟩
theorem lK (h:eH σ F Y tb bud ls)(hc:tb[k]?=some c)(hl:ls[k]?=some l){R:Int->Int->Hp->Prop}
 (hR:∀σ' Y',Ext F σ σ'->Y'.p=Y.p->eH σ' (Grow F σ) Y' tb bud (ls.set k (Ka c l).2)->R ((Ka c l).1.getD 0) (if(Ka c l).1.isSome then 0 else 4) σ'):Yd.c (aW Y.p) (k:Int) σ R:=by
 obtain⟨r,hk⟩:=h.cls hc;refine Yd.o ?_;unfold Yd.v;refine Al h hk λv Y' b e hp hb P=>cG rfl ?_;obtain⟨G,hL,J⟩:=P.fO e hb hl;have z:=hL;obtain⟨U,i,s,g,K,w⟩:=hL;have N:=P.hd;rw[hp]at N;have Z:s.len=l.os.length:=by have:=K.1;simp[Wv]at this;omega
 have o1:=i.low;have o2:=i.many;have o3:=i.lim;have o4:=i.oo;have a:=Ik r i;have fin:∀v' G',Ext G v v'->(∀q,G' q->Grow G v q)->jj b (Ka c l).2 v' G'->R ((Ka c l).1.getD 0) (if(Ka c l).1.isSome then 0 else 4) v':=λv' G' W hg X=>by
  obtain⟨A,h2⟩:=J v' _ G' W hg X;exact hR v' Y' A hp h2
 unfold bW.ok at r;have y:∀{v':Hp},Ext (· = b) v v'->Ext G v v':=λW=>W.sub λq C=>by rw[C];exact U
 refine aG (g.rS rfl ?_);by_cases h0:l.os=[]
 ·have Q:(Ka c l).1=none:=by unfold Ka;rw[h0];rfl
  have A:(Ka c l).2=if l.lim<c.batch then{l with lim:=l.lim+1}else{l with lim:=min (l.lim+c.batch) 128}:=by unfold Ka;rw[h0];rfl
  rw[Q,A]at fin;rw[A]at a;refine cK (by simp[Z,h0]) (aG (N.rS rfl (uH P.jQ hc (d:=2) O ?_)));simp only[zA (show ¬(2=0) by omega),zA (show ¬(2=1) by omega)];refine aG (g.rI rfl (cI (λc1=>?_) λc1=>?_))
  ·have B:l.lim<c.batch:=by omega
   rw[zB B]at fin a;refine aG (g.rI rfl (cA (m:=l.lim+1) O O (aG (g.s1 (by simp[nM]) λv' D j=>?_))));exact fin v' G (y D.ext) (λq C=>.inl C) (z.st D.ext j K w a)
  ·have B:¬l.lim<c.batch:=by omega
   rw[zA B]at fin a;refine aG (g.rI rfl (cA (m:=l.lim+c.batch) O O (aG (g.s1 (by simp[nM]) λv' D j=>?_))));refine fin v' G (y D.ext) (λq C=>.inl C) (z.st D.ext ?_ K w a);have:(if(128:Int)<((l.lim+c.batch:Nat):Int)then(128:Int)else((l.lim+c.batch:Nat):Int))=((min (l.lim+c.batch) 128:Nat):Int):=by split<;>omega
   rw[this]at j;exact j
 ·have hpos:=qz.2 h0;obtain⟨x,hx⟩:∃x,l.os[l.os.length-1]?=some x:=⟨_,cM O⟩;have H:l.os.getLast?=some x:=by rw[List.getLast?_eq_getElem?];exact hx
  have Q:(Ka c l).1=some x:=by unfold Ka;rw[H]
  have A:(Ka c l).2 = {l with os:=l.os.dropLast,low:=min l.low (l.os.length-1)}:=by unfold Ka;rw[H]
  rw[Q,A]at fin;rw[A]at a;refine cG (by simp only[m0];omega) ?_;refine aG (g.rS rfl (cA (m:=l.os.length-1) aC O (aG (g.rS rfl (K.pa hx (aG (g.rS rfl ?_)))))));have u:=cR.sub K (lo:=0) (hi:=l.os.length-1) (mx:=s.cap) O O O;have ed:((Wv l.os).drop (0*1)).take ((l.os.length-1-0)*1)=Wv l.os.dropLast:=by simp[Wv,Ah]
  rw[ed]at u;refine jd (lo:=0) O aC aC (aG (g.s1 (by simp[nM]) λv1 V M=>aG (M.rI rfl (aG (M.s1 (by simp[nM]) λv2 S E=>?_)))));have L:=V.ext.trans S.ext;refine fin v2 G (y L) (λq C=>.inl C) (z.st L ?_ u aC a);have:(if((l.os.length-1:Nat):Int)<(l.low:Int)then((l.os.length-1:Nat):Int)else(l.low:Int))=((min l.low (l.os.length-1):Nat):Int):=by split<;>omega
  rw[this]at E;exact E
theorem Pb (h:eH σ F Y tb bud ls)(hc:tb[k]?=some c)(hl:ls[k]?=some l){R:Int->Int->Hp->Prop}
 (hR:∀σ' Y',Ext F σ σ'->Y'.p=Y.p->eH σ' (Grow F σ) Y' tb bud ls->R ((qb c l:Nat):Int) 0 σ'):Yn.c (aW Y.p) (k:Int) σ R:=by
 obtain⟨j,A⟩:=h.cls hc;refine Yn.o ?_;unfold Yn.v;refine Al h A λv Y' b e m z g=>cG rfl ?_;obtain⟨G,w,u⟩:=g.fO e z hl;obtain⟨x,y,s,i,B,r⟩:=w;have a:=g.hd;rw[m]at a;refine aG (i.rI rfl (aG (a.rS rfl (uH g.jQ hc (d:=2) O ?_))));simp only[zA (show ¬(2=0) by omega),zA (show ¬(2=1) by omega)];have:(if(c.batch:Int)<(l.lim:Int)then(c.batch:Int)else(l.lim:Int))=((qb c l:Nat):Int):=by unfold qb;split<;>omega
 rw[this];exact hR v Y' e m g
theorem Rl (l:List Int)(i:Nat)(h:i<l.length):l.reverse[i]?=l[l.length-1-i]? := by
 rw[List.getElem?_reverse h]
theorem Ma {s:Sl}{xs:List Int}(h:bR s 1 (Wv xs) σ F)(hlen:xs.length<=1000000){R:aP}(hR:∀σ',Ext F σ σ'->bR s 1 (Wv xs.reverse) σ' F->R σ'):W0.c s σ R:=by
 refine W0.o ?_;unfold W0.v;have U:s.len=xs.length:=by have:=h.1;simp[Wv]at this;omega
 let jJ (i:Nat):List Int:=(List.range xs.length).map λj=>if j<i\/xs.length-i<=j then xs.getD (xs.length-1-j) 0 else xs.getD j 0
 have kU:∀i,(jJ i).length=xs.length:=λi=>by simp[jJ]
 have bV:∀i j,j<xs.length->(jJ i)[j]?=some (if j<i\/xs.length-i<=j then xs.getD (xs.length-1-j) 0 else xs.getD j 0):=λi j g=>by simp[jJ,g]
 have Q:jJ 0=xs:=by
  apply zy;intro j;by_cases g:j<xs.length
  ·rw[bV 0 j g,zA O];simp[zL,cM g]
  ·rw[zZ (by rw[kU];omega),zZ O]
 have r:∀i,xs.length<=2*i+1->i<=xs.length->jJ i=xs.reverse:=by
  intro i K H;apply zy;intro j;by_cases g:j<xs.length
  ·rw[bV i j g,Rl xs j g,zL,zL,cM (show xs.length-1-j<xs.length by omega),cM g];split
   ·rfl
   ·have:xs.length-1-j=j:=by omega
    simp only[this];rfl
  ·rw[zZ (by rw[kU];omega),zZ aE]
 have step:∀i,2*i+1<xs.length->((jJ i).set i (xs.getD (xs.length-1-i) 0)).set (xs.length-1-i) (xs.getD i 0)=jJ (i+1):=by
  intro i hi;apply zy;intro j;by_cases g:j<xs.length
  ·rw[bV (i+1) j g,ov,ov];simp only[oR,kU];by_cases C:xs.length-1-i=j
   ·subst C;rw[zB rfl,zB O,zB O]
    congr 2;omega
   ·rw[zA C];by_cases A:i=j
    ·subst A;rw[zB rfl,zB O,zB O]
    ·rw[zA A,bV i j g];by_cases e3:j<i\/xs.length-i<=j
     ·rw[zB e3,zB O]
     ·rw[zA e3,zA O]
  ·rw[zZ (by simp[kU];omega),zZ (by rw[kU];omega)]
 refine yu ?_;rw[UM O O];refine Kf (a:=bN) (bb:=bN) (λ(i j:Int) v=>∃n:Nat,i=(n:Int)/\j=(xs.length:Int)-1-n/\n<=xs.length/\Ext F σ v/\bR s 1 (Wv (jJ n)) v F) (λi _ _=>xs.length-i.toNat) ⟨0,rfl,O,O,Ext.refl _ _,by rw[Q];exact h⟩ ?_;rintro i j v ⟨n,rfl,rfl,X,ev,y⟩;refine cI (λM=>?_) λS=>?_
 ·have w:2*n+1<xs.length:=by omega
  have D:(xs.length:Int)-1-n=((xs.length-1-n:Nat):Int):=by omega
  rw[D];have G:=bV n (xs.length-1-n) O;have E:=bV n n O;rw[zA O]at G E;rw[zL]at G E;obtain⟨b,p⟩:∃b,s.a=some ⟨b,0,none⟩:=by
   rcases y.2 with⟨q1,q2⟩|⟨b,cs,_,B,_⟩
   ·omega
   ·exact⟨b,B⟩
  have d:∀u,bR s 1 (Wv (jJ n)) u F->∀(j:Nat) (x:Int),(jJ n)[j]?=some x->cell u (Addr.add ⟨b,0,none⟩ ((j:Int).toNat*1))=some (.int .i64 x):=λu z j x N=>by
   obtain⟨L,o,B,P⟩:=z.fX.cell (j:=j) (v:=.int .i64 x) (by simp[Wv,N]);rw[p]at B;cases B;rw[add_lit,show 0+(j:Int).toNat*1=0+j by omega];exact P
  rw[p];refine⟨λu=>bR s 1 (Wv (jJ n)) u F,y,?_⟩;refine ix O O ⟨_,λu z=>d u z _ _ G,?_⟩;refine ix O O ⟨_,λu z=>d u z _ _ E,?_⟩;refine ix O O ?_;refine y.st (j:=n) (by simp[Wv,kU];omega) (λL e=>by rw[p]at e;cases e;rw[add_lit];simp) λW C K=>?_;refine ix O O ?_;refine K.st (j:=xs.length-1-n) (by simp[Wv,kU];omega) (λL e=>by rw[p]at e;cases e;rw[add_lit];simp) λV A H=>?_;refine cA (m:=n+1) O O (cA (m:=xs.length-1-n-1) O O ⟨⟨n+1,rfl,O,O,(ev.trans C).trans A,?_⟩,O⟩);rw[←step n w,zL,zL];have J:∀(l:List Int) (i:Nat) (x:Int),Wv (l.set i x)=(Wv l).set i (.int .i64 x):=λl i x=>by simp[Wv,sZ]
  rw[J,J];exact H
 ·rw[r n O O]at y;exact hR v ev y
theorem RO (h:jj b l σ G){sl:Sl}(hz:sl.len=0){R:aN}(hR:∀σ',Ext (· = b) σ σ'->jj b l σ' G->R 0 σ'):W1.c (aW b) sl σ R:=by
 refine W1.o ?_;unfold W1.v;have B:=h;obtain⟨E,j,s,x,i,D⟩:=h;have y:s.len=l.os.length:=by have:=i.1;simp[Wv]at this;omega
 have p:=j.many;refine aG (x.rS rfl (cA (m:=l.os.length) aC O (fH O (aG (x.rS rfl ?_)))));refine Xh.o ?_;unfold Xh.v;refine jd (lo:=0) aC aC aC ?_;have d:=cR.sub i (lo:=0) (hi:=s.len) (mx:=s.len) O O O;have C:((Wv l.os).drop (0*1)).take ((s.len-0)*1)=Wv l.os:=by rw[y,ng (by simp[Wv])];simp
 rw[C]at d;have key:∀(e:Sl),cR e 1 (Wv l.os) σ (λq=>G q/\q≠b)->e.len<=e.cap->bS (some ⟨b,0,none⟩) λu=>dL (u.add 0) (.slice e.a e.len e.cap) σ λv2=>R 0 v2:=λe r w=>by
  refine aG (x.s1 (by simp[nM]) λv2 o2 z=>hR v2 o2.ext ?_);exact B.st (l':=l) (s:=e) o2.ext z r w j
 refine⟨Wv l.os,[],by simp[Wv];omega,by simp[hz],d.rd,by cases sl.a<;>simp[Rd],by simp,?_,by simp only;omega,λA=>?_,λg=>absurd (by simp only[hz];omega) g⟩
 ·simp only[hz];have:(s.len-0+0)*8<=256*8:=kO O O;omega
 ·simp only[hz,zq];cases ha:(if s.len=0 then s.a else s.a.map (·.add (0*1)))
  ·rw[ha]at d;exact key ⟨none,s.len-0,s.len-0⟩ d (zD _)
  ·rw[ha]at d;exact key ⟨some _,s.len-0,s.len-0⟩ d (zD _)
theorem EN (h:jj b l σ G){sl:Sl}{xs:List Int}{X:Rg}(hs:cR sl 1 (Wv xs) σ X)(hfit:l.os.length+xs.length<=256){R:aN}
 (hR:∀σ',Ext (· = b) σ σ'->jj b (eL xs l) σ' (Grow G σ)->R 0 σ'):W1.c (aW b) sl σ R:=by
 by_cases hx:xs=[]
 ·subst hx;have g:eL [] l=l:=by unfold eL;rw[zA (by simp only[mh]at hfit ⊢;omega)];simp
  refine RO h (by have:=hs.1;simp[Wv]at this;omega) λσ' e a=>hR σ' e ?_;rw[g];exact(jj.loc _ _).mono a λq _ d=>.inl d
 ·exact TW h hs hx hfit λσ' e a=>hR σ' e ((jj.loc _ _).mono a λq _ d=>d.imp (λe=>by rw[e];exact h.1) id)
theorem Sm (h:eH σ F Y tb bud ls)(hc:tb[k]?=some c)(hl:ls[k]?=some l){sl:Sl}{xs:List Int}{X:Rg}(hs:cR sl 1 (Wv xs) σ X)(hX:∀q,X q->¬F q)(hfit:l.os.length+xs.length<=256){R:aN}
 (hR:∀σ' Y',Ext F σ σ'->Y'.p=Y.p->eH σ' (Grow F σ) Y' tb bud (ls.set k (eL xs.reverse l))->R 0 σ'):Ym.c (aW Y.p) (k:Int) sl σ R:=by
 obtain⟨u,D⟩:=h.cls hc;have E:sl.len=xs.length:=by have:=hs.1;simp[Wv]at this;omega
 refine Ym.o ?_;unfold Ym.v;refine Al h D λv Y' b e x C B=>cG rfl ?_;have j:=aH.bU hs e λq _ a=>hX q a;refine HL j Va O λs1 K J A i=>?_;refine Ma i O λv2 H r=>?_;have d:bO v v2:=Ext.fresh A H λq a=>a;obtain⟨G,s,g⟩:=(B.bK d).fO (e.trans (bO.to d)) C hl;refine EN s r.fX aE λv3 y m=>?_;obtain⟨w,z⟩:=g v3 _ _ (y.sub λq a=>a▸s.1) (λq a=>a) m;exact hR v3 Y' w x z
theorem Ql {α:Type}{ls:List α}{k:Nat}{l:α}(h:ls[k]?=some l):ls.set k l=ls:=by
 apply zy;intro j;by_cases hj:j=k
 ·subst hj;rw[zM (cQ.1 h).1,h]
 ·rw[zj (Ne.symm hj)]
theorem L8 (h:eH σ F Y tb bud ls)(hc:tb[k]?=some c)(hl:ls[k]?=some l)(x:Int){R:Sl->Int->Hp->Prop}
 (hR:∀σ' Y' s e (Q:Rg),Ext F σ σ'->Y'.p=Y.p->(l.os.length+1<=256->e=0)->(∀q,Q q->σ.size<=q)->bR s 1 (Wv (dP c x l).1) σ' Q->eH σ' (λq=>Grow F σ q/\¬Q q) Y' tb bud (ls.set k (dP c x l).2)->R s e σ'):YR.c (aW Y.p) (k:Int) x σ R:=by
 obtain⟨L,hk⟩:=h.cls hc;refine YR.o ?_;unfold YR.v;refine Al h hk λv Y' b e hp hb h'=>cG rfl ?_;have hσv:=e.1;obtain⟨G,hG,hL,_,V⟩:=h'.wK hb hl;have hblt:b<v.size:=by obtain⟨_,_,s,hbk,_⟩:=hL;exact hbk.lt
 have u:=hL.1;have P:=hL.2.1;have hmany:=P.many;have r:∀(σ':Hp) (l':Li) (G':Rg),Ext G v σ'->(∀q,G' q->Grow G v q)->jj b l' σ' G'->Ext F σ σ'/\eH σ' (λq=>Grow F σ q/\q<v.size/\¬G q\/G' q) Y' tb bud (ls.set k l'):=λσ' l' G' e' hg hL'=>by
  obtain⟨E,h1⟩:=V σ' l' G' e' hg hL';exact⟨e.iM E,h1⟩
 have hin:∀{G':Rg} {q:Nat},(∀q,G' q->Grow G v q)->(Grow F σ q/\q<v.size/\¬G q\/G' q)->Grow F σ q:=λhg a=>by
  rcases a with a|a
  ·exact a.1
  ·rcases hg _ a with H|H
   ·exact hG _ H
   ·exact .inr O
 refine nw (cs:=[.int .i64 x]) λv1 hz1 E hb1=>?_;have W:=(jj.loc _ _).bK hL E;have K:cR ⟨some ⟨v.size,0,none⟩,1,1⟩ 1 (Wv [x]) v1 (· = v.size):=hb1.fX (o:=0) rfl (by simp[Wv]) (λj hj=>by
  simp only[Wv,zJ,pI,zP,mh]at hj ⊢;rw[zG])
 by_cases hfit:l.os.length+1<=256
 ·refine EN W K (by simpa using hfit) λv2 e2 C=>cG rfl ?_;have A:Ext G v v2:=(bO.to E).trans (e2.sub λq a=>a▸u);have N:∀q,Grow G v1 q->Grow G v q:=λq a=>a.imp id λX=>by omega
  obtain⟨eF2,H⟩:=r v2 _ _ A N C;have i:(eL [x] l).os=l.os++[x]/\(eL [x] l).lim=l.lim/\(eL [x] l).low=l.low:=by unfold eL;rw[zA (by simp only[zP,mh];omega)];exact⟨rfl,rfl,rfl⟩
  have y:=C;obtain⟨_,ok2,s2,g,aa,D⟩:=C;have hs2l:s2.len=l.os.length+1:=by have:=aa.1;simp[Wv,i.1]at this;omega
  refine aG (g.rS rfl (aG (g.rI rfl ?_)));rw[i.2.1];refine cI (λc1=>?_) λc1=>?_
  ·have B:l.os.length+1<=l.lim:=by simp only at c1;omega
   have w:dP c x l=([],eL [x] l):=by unfold dP;rw[zA O,zB B]
   refine hR v2 Y' _ 0 (λ_=>False) eF2 hp (λ_=>rfl) (λq a=>a.elim) (by rw[w];exact bR.nil _ _ _ _) ?_;rw[w];exact H.mono λq _ a=>⟨hin N a,id⟩
  ·have B:¬l.os.length+1<=l.lim:=by simp only at c1;omega
   have w:dP c x l=gT (min c.batch (l.os.length+1)) (m9 c (eL [x] l)):=by unfold dP;rw[zA O,zA B]
   have ac:=H.hd;rw[hp]at ac;refine aG (ac.rS rfl (uH H.jQ hc (d:=2) O ?_));simp only[zA (show ¬(2=0) by omega),zA (show ¬(2=1) by omega)];refine Jn.intro ?_;have rest:∀v3,Ext (· = b) v2 v3->jj b (m9 c (eL [x] l)) v3 (Grow G v1)->bS (some ⟨b,0,none⟩) λa62=>jk (a62.add 0) v3 λM=>Xc.c (aW b) (if((M.len:Nat):Int)<(c.batch:Int)then((M.len:Nat):Int)else(c.batch:Int)) v3 λt67 v4=>R t67 0 v4:=by
    intro v3 e3 hL3;have J:=hL3;obtain⟨_,ok3,s3,Z,hs3,hcap3⟩:=hL3;have S:(m9 c (eL [x] l)).os=l.os++[x]:=by unfold m9;split<;>exact i.1
    have U:s3.len=l.os.length+1:=by have:=hs3.1;simp[Wv,S]at this;omega
    refine aG (Z.rS rfl ?_);have em:(if((s3.len:Nat):Int)<(c.batch:Int)then((s3.len:Nat):Int)else(c.batch:Int))=((min c.batch (l.os.length+1):Nat):Int):=by rw[U];split<;>omega
    rw[em];refine H7 J (by rw[S];simp;omega) λs z v4 e4 hz hr hL4=>?_;have e24:Ext (· = b) v2 v4:=e3.trans e4;have e04:Ext G v v4:=A.trans (e24.sub λq a=>a▸u);have hs23:=e3.1;have hs02:=A.1;obtain⟨eF4,h4⟩:=r v4 _ (λq=>q=b\/z<=q) e04 (λq a=>a.imp (λ(X:q=b)=>by rw[X];exact u) λ(X:z<=q)=>O) hL4;refine hR v4 Y' s 0 (λq=>v3.size<=q/\q<z) eF4 hp (λ_=>rfl) (λq a=>O) (by rw[w];exact hr) ?_;rw[w];refine h4.mono λq _ a=>⟨?_,λhQ=>?_⟩
    ·rcases a with a|a|a
     ·exact a.1
     ·subst a;exact hG _ u
     ·exact .inr O
    ·rcases a with a|a|a<;>omega
   refine aG (g.rI rfl ?_);rw[i.2.1];refine cI (λc2=>?_) λc2=>?_
   ·have c2':l.lim<c.batch:=by omega
    have eu:m9 c (eL [x] l) = {eL [x] l with lim:=l.lim+1}:=by unfold m9;rw[i.2.1,zB c2']
    have ab:=Jj L ok2;refine aG (g.rI rfl ?_);rw[i.2.1];have hl128:=P.lim;refine cA (m:=l.lim+1) O O (aG (g.s1 (by simp[nM]) λv3 o3 hb3=>rest v3 o3.ext ?_));rw[eu]at ab ⊢;exact y.st o3.ext hb3 aa D ab
   ·have eu:m9 c (eL [x] l)=eL [x] l:=by unfold m9;rw[i.2.1,zA O]
    exact rest v2 (Ext.refl _ _) (by rw[eu];exact y)
 ·refine T5 W K (by simpa using hfit) aA (cK rfl ?_);have w:dP c x l=([],l):=by unfold dP;rw[zB O]
  refine hR v1 Y' _ 6 (λ_=>False) (e.trans (bO.to E)) hp (λX=>absurd X hfit) (λq a=>a.elim) (by rw[w];exact bR.nil _ _ _ _) ?_;rw[w,Ql hl];exact(h'.bK E).mono λq _ a=>⟨a,id⟩
end Go.Ar
namespace Go.Ar
open Go Go.Vc Go.Proofs
open Go.Bu (Zf QO Zu iR)
variable {σ:Hp}{F:Rg}{p hs:Nat}{A:AR}{Y:Lay}{T:Nat->Hp->Rg->Prop}
theorem cX.qJ (h:cX σ F Y A T){k q:Nat}{c:bW}{ss:List cH}(h1:Y.fJ[k]?=some q)(h2:A.tb[k]?=some c)(h3:A.cC[k]?=some ss) :
 ∃G:Rg,(∀b,G b->F b)/\(∃ps,fB σ G q c ps ss)/\(∀j,∃H:Rg,(∀b,H b->F b)/\(∀b,H b->¬G b)/\T j σ H)/\∀(σ':Hp) (ss':List cH) (ps':List (Nat×Nat)) (G' H:Rg),
  Ext G σ σ'->(∀b,G' b->G b\/σ.size<=b)->fB σ' G' q c ps' ss'->(∀b,(F b/\b<σ.size/\¬G b\/G' b)->H b)->cX σ' H Y {A with cC:=A.cC.set k ss'} T:=by
 obtain⟨G,m,g,hd,a⟩:=h.step (.cC k);have r:k<A.cC.length:=(cQ.1 h3).1;refine⟨G,m,FF h1 h2 h3 g,λj=>hd (.cE j) (by intro e;cases e),λσ' ss' ps' G' H e d i p=>?_⟩;refine a σ' _ _ T G' H h.lay.lA h.tl NP e d ?_ p;simp only[AC];rw[h1,h2,zM r];exact⟨ps',i⟩
theorem MV (h:cX σ F Y A T)(k m:Int){R:Sl->Int->Hp->Prop}(hR:∀s σ',Ext F σ σ'->bR s 1 (ints (Yv A k m)) σ' (λb=>σ.size<=b)->cX σ' (Cut F σ) Y (YQ A k m) T->R s (QJ A k m) σ') :
 WE.c (aW Y.p) k m σ R:=by
 refine WE.o ?_;unfold WE.v;refine UC h k (λw=>?_) λx J y=>?_
 ·have a:QJ A k m=1:=by unfold QJ;rw[w];rfl
  have u:YQ A k m=A:=by unfold YQ;rw[a];rfl
  have d:Yv A k m=[]:=by unfold Yv;rw[a];rfl
  have:=hR ⟨none,0,0⟩ σ (Ext.refl _ _) (by rw[d];exact bR.nil _ _ _ _) (by rw[u];exact h.cut);rw[a]at this;exact cK rfl this
 ·subst J;have w:A.ck (x:Int)=true:=by unfold AR.ck;simp;omega
  obtain⟨c,ss,q,t,r,H,g,E,_,_,K⟩:=h.at_ y;obtain⟨G,D,⟨M,C⟩,_,i⟩:=h.qJ E H g;refine cG rfl (aG (h.hd.rS rfl (h.ko E ?_)));by_cases hm:m<0
  ·have a:QJ A x m=1:=by unfold QJ;rw[w,zB rfl,zB hm]
   have u:YQ A x m=A:=by unfold YQ;rw[a];rfl
   have d:Yv A x m=[]:=by unfold Yv;rw[a];rfl
   have:=hR ⟨none,0,0⟩ σ (Ext.refl _ _) (by rw[d];exact bR.nil _ _ _ _) (by rw[u];exact h.cut);rw[a]at this;exact LZ C m hm this
  ·have a:QJ A x m=0:=by unfold QJ;rw[w,zB rfl,zA hm]
   have B:Vy A x m=Q7 c m.toNat ss:=by unfold Vy;simp only[dC];rw[H,g]
   have u:YQ A x m = {A with cC:=A.cC.set x (Q7 c m.toNat ss).2}:=by unfold YQ;rw[a,zB rfl,B];rfl
   have d:Yv A x m=(Q7 c m.toNat ss).1:=by unfold Yv;rw[a,zB rfl,B]
   refine NA C m O λs σ' e j z=>?_;have:=hR s σ' (e.sub D) (by rw[d];exact j) (by rw[u];exact i σ' _ _ (Cut G σ) _ e (λb L=>.inl L.1) z (CY D));rw[a]at this;exact this
theorem η {k:Nat}{f:fP->fP}:∀j,j≠Lb.cE k->AC {A with cE:=A.cE.modify k f} Y (cF {A with cE:=A.cE.modify k f} Y) j=AC A Y (cF A Y) j:=by
 intro j hj;cases j<;>first|rfl|skip
 rename_i k';have a:k≠k':=λe=>hj (by rw[e]);simp only[AC,cF];simp[tO,a]
theorem eY.kc {k:Nat}{f:fP->fP}(h:eY A Y):eY {A with cE:=A.cE.modify k f} Y:=⟨h.c,h.t,h.cC,by simpa using h.cE,h.nC,h.oC,h.n1,h.n2,h.n3,h.st,h.room,h.ok⟩
theorem cX.uo (h:cX σ F Y A (cF A Y)){k q:Nat}{c:bW}{t:fP}(h1:Y.gC[k]?=some q)(h2:A.tb[k]?=some c)(h3:A.cE[k]?=some t) :
 ∃G:Rg,(∀b,G b->F b)/\iD σ G q c.batch A.room t/\∀(σ':Hp) (f:fP->fP) (G' H:Rg),
  Ext G σ σ'->(∀b,G' b->G b\/σ.size<=b)->iD σ' G' q c.batch A.room (f t)->(∀b,(F b/\b<σ.size/\¬G b\/G' b)->H b)->cX σ' H Y {A with cE:=A.cE.modify k f} (cF {A with cE:=A.cE.modify k f} Y):=by
 obtain⟨G,r,d,hd,a⟩:=h.step (.cE k);have g:iD σ G q c.batch A.room t:=by
  simp only[AC,cF]at d;rw[h1,h2,h3]at d;exact d
 refine⟨G,r,g,λσ' f G' H e i m p=>?_⟩;refine a σ' _ _ _ G' H h.lay.kc (λj=>cF.loc j) η e i ?_ p;simp only[AC,cF];rw[h1,h2,List.getElem?_modify_eq,h3];exact m
theorem GR (h:cX σ F Y A (cF A Y))(k:Int){R:Sl->Int->Hp->Prop}(hR:∀s σ',Ext F σ σ'->(∀b,lq s b->F b)->cR s 1 (Wv (YM A k)) σ' (lq s)->s.len<=s.cap->cX σ' (λb=>F b/\¬lq s b) Y (ZR A k) (cF (ZR A k) Y)->R s (Z7 A k) σ') :
 WB.c (aW Y.p) k σ R:=by
 refine WB.o ?_;unfold WB.v;refine UC h k (λD=>?_) λx P E=>?_
 ·have g:Z7 A k=1:=by unfold Z7;rw[D];rfl
  have B:ZR A k=A:=by unfold ZR;rw[g];rfl
  have w:YM A k=[]:=by unfold YM;rw[g];rfl
  have:=hR ⟨none,0,0⟩ σ (Ext.refl _ _) (λb d=>by obtain⟨a,i,_⟩:=d;cases i) (by rw[w];exact cR.nil _ _ _ _) (zD _) (by rw[B];exact h.mono λb _ d=>⟨d,λ⟨a,i,_⟩=>by cases i⟩);rw[g]at this;exact cK rfl this
 ·subst P;have D:A.ck (x:Int)=true:=by unfold AR.ck;simp;omega
  obtain⟨c,U,q,t,r,Q,M,V,C,L,S⟩:=h.at_ E;obtain⟨G,H,K,y⟩:=h.uo L Q C;refine cG rfl (aG (h.hd.rS rfl (h.pt L ?_)));by_cases d:t.bs=[]
  ·have g:Z7 A x=4:=by unfold Z7;rw[D,zB rfl];simp only[dC];rw[C];simp[d]
   have B:ZR A x=A:=by unfold ZR;rw[g];rfl
   have w:YM A x=[]:=by unfold YM;rw[g];rfl
   have:=hR ⟨none,0,0⟩ σ (Ext.refl _ _) (λb d=>by obtain⟨a,i,_⟩:=d;cases i) (by rw[w];exact cR.nil _ _ _ _) (zD _) (by rw[B];exact h.mono λb _ d=>⟨d,λ⟨a,i,_⟩=>by cases i⟩);rw[g]at this;exact PV K d this
  ·have g:Z7 A x=0:=by unfold Z7;rw[D,zB rfl];simp only[dC];rw[C];simp[d]
   have B:ZR A x = {A with cE:=A.cE.modify x fP.rem}:=by unfold ZR;rw[g,zB rfl];rfl
   have w:YM A x=t.bs.getLast?.getD []:=by unfold YM;rw[g,zB rfl];simp only[dC];rw[C]
   refine M4 K d λs σ' e j m u J=>?_;have z:∀b,(F b/\b<σ.size/\¬G b\/G b/\¬lq s b)->F b/\¬lq s b:=λb d=>by
    rcases d with d|d
    ·exact⟨d.1,λN=>d.2.2 (j b N)⟩
    ·exact⟨H b d.1,d.2⟩
   have:=hR s σ' (e.sub H) (λb d=>H b (j b d)) (by rw[w];exact m) u (by rw[B];exact y σ' _ (λb=>G b/\¬lq s b) _ e (λb d=>.inl d.1) J z);rw[g]at this;exact this
theorem T1 (h:cX σ F Y A (cF A Y))(k:Int){sl:Sl}{xs:List Int}{X:Rg}(hs:cR sl 1 (Wv xs) σ X)(hi:∀x∈xs,iO x){R:Bool->Int->Hp->Prop}(hR:∀σ',Ext F σ σ'->cX σ' (Grow F σ) Y (Q9 A k xs) (cF (Q9 A k xs) Y)->R (Vi A k xs) (HP A k xs) σ') :
 WK.c (aW Y.p) k sl σ R:=by
 refine WK.o ?_;unfold WK.v;have w:sl.len=xs.length:=by have:=hs.1;simp[Wv]at this;omega
 have W:∀e:Int,e≠0->HP A k xs=e->R false e σ:=λe he D=>by
  have e3:Vi A k xs=false:=by unfold Vi;rw[zh O];rfl
  have M:Q9 A k xs=A:=by unfold Q9;rw[e3];rfl
  have:=hR σ (Ext.refl _ _) (by rw[M];exact h.mono λb _ g=>.inl g);rw[D,e3]at this;exact this
 refine UC h k (λhk=>cK rfl (W 1 aB (by unfold HP;rw[hk];rfl))) λx P S=>?_;subst P;have hk:A.ck (x:Int)=true:=by unfold AR.ck;simp;omega
 obtain⟨c,ss,q,t,r,Q,E,hq,ht,hr,Z⟩:=h.at_ S;obtain⟨G1,ps,hG1,V⟩:=h.cC hq Q E;obtain⟨G,hG,hC,L⟩:=h.uo hr Q ht;have N:HP A x xs=if xs.length=c.batch then(if xs.all (λx=>eD c ss x==some true)then 0 else 8)else 1:=by unfold HP;rw[hk,zB rfl];simp only[dC];rw[Q,E]
 refine cG rfl (aG (h.hd.rS rfl (h.xf (d:=2) Q O ?_)));simp only[zA (show ¬(2=0) by omega),zA (show ¬(2=1) by omega)];rw[uC];refine cU (λg=>?_) λg=>?_
 ·have:¬xs.length=c.batch:=by rw[←w];simpa using g
  exact W 1 aB (by rw[N,zA this])
 have H:xs.length=c.batch:=by rw[←w];simpa using g
 rw[zB H]at N;have h32:c.batch<=32:=Z.2.2.2.2.2.2.2;refine ZU (a:=bN) (λ(i:Int) v=>∃j:Nat,i=(j:Int)/\j<=xs.length/\v=σ/\∀y∈xs.take j,eD c ss y=some true) (λi _=>xs.length-i.toNat) ⟨0,rfl,O,rfl,by simp⟩ ?_;rintro i v ⟨j,rfl,hj,rfl,s⟩;refine cI (λhlt2=>?_) λhge=>?_
 ·have J:j<xs.length:=by omega
  have P:xs[j]?=some xs[j]:=cM J;have U:xs.take (j+1)=xs.take j++[xs[j]]:=by rw[zg,P];rfl
  have u:=zc J;generalize xs[j]=y at *;have K:eD c ss y≠some true->R false 8 v:=λhn=>W 8 aB (by
   rw[N,zA];intro ha;rw[kM]at ha;exact hn (by simpa using ha y u))
  refine hs.pa P (aG (h.hd.rS rfl (h.ko hq (Ly V _ (hi y u) (λb g=>?_) λg=>?_))))
  ·refine bY.intro (cG rfl ?_);cases b
   ·exact cK rfl (K (by rw[g];simp))
   ·refine cG rfl (cA (m:=j+1) O O ⟨⟨j+1,rfl,O,rfl,λz hz=>?_⟩,O⟩);rw[U]at hz;rcases zR.1 hz with D|D
    ·exact s z D
    ·simp at D;rw[D];exact g
  ·exact bY.intro (cK rfl (cK rfl (K (by rw[g];simp))))
 ·have:j=xs.length:=by omega
  subst this;rw[zl]at s;have B:HP A x xs=0:=by
   rw[N,zB];rw[kM];intro y hy;simp[s y hy]
  have C:Vi A x xs=decide (t.bs.length<A.room):=by unfold Vi;rw[B];simp only[dC];rw[ht];simp
  refine aG (h.hd.rS rfl (h.pt hr (R8 hC hs O (λhn=>absurd H hn) (λ_ hf=>?_) λ_ hf σ' e hC'=>?_)))
  ·rw[zh O]at C;have M:Q9 A x xs=A:=by unfold Q9;rw[C];rfl
   have:=hR v (Ext.refl _ _) (by rw[M];exact h.mono λb _ g=>.inl g);rw[B,C]at this;exact this
  ·rw[zV O]at C;have M:Q9 A x xs = {A with cE:=A.cE.modify x λt=>{t with bs:=t.bs++[xs]}}:=by unfold Q9;rw[C,zB rfl];rfl
   have:=hR σ' (e.sub hG) (by rw[M];exact L σ' (λt=>{t with bs:=t.bs++[xs]}) (Grow G v) _ e (λb g=>g) hC' (U0 hG λb g=>g));rw[B,C]at this;exact this
theorem fB.Fh {q:Nat}{c:bW}{ps:List (Nat×Nat)}{ss:List cH}{G:Rg}(h:fB σ G q c ps ss):∀s∈ss,s.st<=1024:=by
 intro s hs;obtain⟨i,a⟩:=zN hs;have b:=(cQ.1 a).1;have d:i<ps.length:=by rw[h.len];exact b
 have:=(h.sp _ _ _ (cM d) a).fit;omega
theorem GG (h:cX σ F Y A T)(k:Int){sl:Sl}{xs:List Int}(hi:∀x∈xs,iO x)(hl:xs.length<=1000000)(hcap:sl.len<=sl.cap)
 (hs:(∃X:Rg,cR sl 1 (Wv xs) σ X/\∀b,b<σ.size->X b->¬F b)\/∃j,∀H,T j σ H->cR sl 1 (Wv xs) σ H)
 {R:aN} (hR:∀σ',Ext F σ σ'->cX σ' (Grow F σ) Y (Ze A k xs) T->R (QW A k xs) σ') :
 WA.c (aW Y.p) k sl σ R:=by
 refine WA.o ?_;unfold WA.v;have no:∀e:Int,e≠0->QW A k xs=e->R e σ:=λe he Z=>by
  have e2:Ze A k xs=A:=by unfold Ze;rw[zA O]
  have:=hR σ (Ext.refl _ _) (by rw[e2];exact h.mono λb _ d=>.inl d);rw[Z]at this;exact this
 refine UC h k (λhk=>cK rfl (no 1 aB (by unfold QW;rw[hk];rfl))) λx hx E=>?_;subst hx;have hk:A.ck (x:Int)=true:=by unfold AR.ck;simp;omega
 obtain⟨c,g,q,t,r,P,u,hq,_,_,hok⟩:=h.at_ E;obtain⟨G,V,⟨ps,M⟩,hd,C⟩:=h.qJ hq P u;have hX:∃X:Rg,cR sl 1 (Wv xs) σ X/\∀b,X b->¬G b:=by
  rcases hs with⟨X,Z,h2⟩|⟨j,hj⟩
  ·exact⟨Cut X σ,aH.cut Z,λb d hg=>h2 b d.2 d.1 (V b hg)⟩
  ·obtain⟨H,_,D,hT⟩:=hd j;exact⟨H,hj H hT,D⟩
 obtain⟨X,Q,L⟩:=hX;have J:QW A x xs=iV c g xs:=by unfold QW;rw[hk,zB rfl];simp only[dC];rw[P,u]
 refine cG rfl (aG (h.hd.rS rfl (h.ko hq (Wn5 M Q L hi hl hcap (λD=>?_) λh0 o σ1 W m N=>?_))))
 ·refine cK (by simpa using D) (no _ D J)
 ·refine cG rfl ?_;have eS:Ze A x xs=VR {A with cC:=A.cC.set x (cJ (xs.foldl (fK c) g))} ((Z8 (xs.foldl (fK c) g)).map λs=>(s,c.aF)):=by
   unfold Ze;rw[J,zB h0];simp only[dC];rw[P,u]
  have S:=C σ1 _ _ (Cut G σ) _ W (λb d=>.inl d.1) N (CY V);rw[JV]at m;have B:((Z8 (xs.foldl (fK c) g)).map λs=>(s,c.aF)).length<=1000000/\∀r∈((Z8 (xs.foldl (fK c) g)).map λs=>(s,c.aF)),r.1<=1000000:=by
   have i:∀(ys:List Int) (ls:List cH),((ys.foldl (fK c) ls).map (·.st))=ls.map (·.st):=by
    intro ys
    induction ys with
    | nil=>intro ls;rfl
    | cons y ys ih=>
     intro ls;rw[lp,ih];unfold fK;split
     ·rename_i j hj;split
      ·rename_i s a;split
       ·simp only[sZ];apply zy;intro z;rw[ov];by_cases w:j=z
        ·subst w;rw[zB rfl];have:=(cQ.1 a).1;rw[zB (by simpa using this)];simp[a,cH.put]
        ·rw[zA w]
       ·rfl
      ·rfl
     ·rfl
   have U:∀s∈Z8 (xs.foldl (fK c) g),s∈g.map (·.st):=by
    intro s a;rw[←i xs g];unfold Z8 at a;simp only[zC,zH]at a ⊢;obtain⟨z,w,rfl⟩:=a;exact⟨z,w.1,rfl⟩
   have hfew:=M.ly;refine⟨?_,λr hr=>?_⟩
   ·have:(Z8 (xs.foldl (fK c) g)).length<=(xs.foldl (fK c) g).length:=by
     unfold Z8;rw[za];exact m5 _ _
    have h2:(xs.foldl (fK c) g).length=g.length:=by have:=congrArg List.length (i xs g);simpa using this
    rw[za];omega
   ·obtain⟨s,a,rfl⟩:=zC.1 hr;obtain⟨z,w,rfl⟩:=zC.1 (U s a);have:=M.Fh z w;simp only;omega
  refine A6 S m.fX (λb _ d hf=>by have:=hf.2;omega) B.1 B.2 λσ2 e2 K=>?_;have:=hR σ2 ((W.sub V).trans (e2.sub λb d=>d.1)) ?_
  ·rw[J,h0]at this;exact this
  ·rw[eS];exact K.mono λb _ d=>by
    rcases d with d|d
    ·exact .inl d.1
    ·exact .inr (zI W.1 d)
theorem Ri (l:List (Nat×Nat))(x:Int):bV (iA l) x=(l.find? λr=>(r.1:Int)==x).map λr=>(r.2:Int):=by
 induction l with
 | nil=>rfl
 | cons r l ih=>
  have:iA (r::l)=((r.1:Int),(r.2:Int))::iA l:=rfl;rw[this,Kl,uY,ih];by_cases h:(r.1:Int)=x
  ·simp[h]
  ·have:((r.1:Int)==x)=false:=by simpa using h
   rw[this,zA h]
theorem P0 (l:List (Nat×Nat))(x:Int):cT (iA l) x=iA (l.filter λq=>!((q.1:Int)==x)):=by
 unfold cT iA;rw[List.filter_map];rfl
theorem Rp (l:List (Nat×Nat))(x m:Nat):dF (iA l) (x:Int) (m:Int)=iA (cD.mset2 l x m):=by
 unfold dF cD.mset2 iA;have e:(l.map λr=>((r.1:Int),(r.2:Int))).any (λy=>y.1==(x:Int))=l.any λr=>r.1==x:=by
  rw[List.any_map]
  congr 1
  funext r
  exact j3 r.1 x
 rw[e];split
 ·rw[zt,zt];apply kD;intro r _;simp only[Function.comp_def];rw[j3];split<;>rfl
 ·simp
theorem cX.pU (h:cX σ F Y A T):F Y.rn/\dK σ Y.rn .i64 bN (iA A.runs)/\∀(σ':Hp) (rs:List (Nat×Nat)),QD σ σ' Y.rn->dK σ' Y.rn .i64 bN (iA rs)->cX σ' F Y {A with runs:=rs} T:=by
 obtain⟨G,g,⟨e,j⟩,_,a⟩:=h.step .runs;refine⟨g _ e,j,λσ' rs p m=>?_⟩;exact a σ' _ _ T G _ h.lay.rp h.tl NR (p.ext.sub λb d=>by subst d;exact e) (λb d=>.inl d) ⟨e,m⟩ (yM g λb d=>d)
theorem TQ (h:cX σ F Y A T)(x:Int)(hf:∀r∈A.runs,r.1<=1000000){R:aN}(hR:∀σ',Ext F σ σ'->cX σ' (Grow F σ) Y (QG A x) T->R (KQ A x) σ') :
 WR.c (aW Y.p) x σ R:=by
 refine WR.o ?_;unfold WR.v;obtain⟨P,K,g⟩:=h.pU;refine KV h (cG rfl (aG (h.hd.rM rfl ⟨_,K,?_⟩)));rw[Ri];cases hr:(A.runs.find? λr=>(r.1:Int)==x)with
 | none=>
  have B:KQ A x=8:=by unfold KQ qC;rw[hr];rfl
  have H:QG A x=A:=by unfold QG qC;rw[hr]
  have:=hR σ (Ext.refl _ _) (by rw[H];exact h.mono λb _ a=>.inl a);rw[B]at this;exact cK rfl this
 | some r=>
  have B:KQ A x=0:=by unfold KQ qC;rw[hr];rfl
  have H:QG A x=VX {A with runs:=A.runs.filter λq=>!((q.1:Int)==x)} r:=by unfold QG qC;rw[hr]
  have y:=tQ hr;have w:(r.1:Int)=x:=by simpa using ue hr
  refine cG rfl (aG (h.hd.rM rfl ⟨_,K,λm D _ z=>?_⟩));have o1:=D _ rfl;have d:dK m Y.rn .i64 bN (cT (iA A.runs) x):=z;rw[P0]at d;have J:=g m _ o1 d;simp only[zf,oV];refine nw (cs:=[.int .i64 x,.int .i64 (r.2:Int)]) λM S e G=>?_;have u:=J.cut.bK e;have E:cR ⟨some ⟨m.size,0,none⟩,1,1⟩ 2 (rV [r]) M (· = m.size):=by
   refine⟨rfl,.inr ⟨_,0,_,rfl,rfl,G.q,λj U=>?_⟩⟩;have:rV [r]=[.int .i64 (r.1:Int),.int .i64 (r.2:Int)]:=rfl;rw[this,w,zG]
  refine A6 u E (λb _ a Q=>by have:=Q.2;omega) aA (λq L=>by simp at L;subst L;exact hf _ y) λv3 N s=>?_;have C:Ext F σ v3:=(o1.ext.sub λb a=>by subst a;exact P).trans ((bO.to e).trans (N.sub λb a=>a.1));have:=hR v3 C (by
   rw[H];exact s.mono λb _ a=>by
    rcases a with a|a
    ·exact .inl a.1
    ·exact .inr (by have:=o1.1;omega))
  rw[B]at this;exact this
theorem Qi (rs:List (Nat×Nat)):∀A:AR,(VR A rs).tb=A.tb/\(VR A rs).room=A.room/\(VR A rs).cE=A.cE/\(VR A rs).cC=A.cC/\(VR A rs).runs=A.runs/\(VR A rs).n=A.n:=by
 induction rs with
 | nil=>intro A;exact⟨rfl,rfl,rfl,rfl,rfl,rfl⟩
 | cons r rs ih=>intro A;exact ih (VX A r)
theorem Vw (A:AR)(k:Int)(xs:List Int):(Ze A k xs).tb=A.tb/\(Ze A k xs).room=A.room/\(Ze A k xs).cE=A.cE/\(Ze A k xs).runs=A.runs/\(Ze A k xs).n=A.n:=by
 unfold Ze;split
 ·split
  ·exact⟨(Qi _ _).1,(Qi _ _).2.1,(Qi _ _).2.2.1,(Qi _ _).2.2.2.2.1,(Qi _ _).2.2.2.2.2⟩
  ·exact⟨rfl,rfl,rfl,rfl,rfl⟩
 ·exact⟨rfl,rfl,rfl,rfl,rfl⟩
theorem cX.Sf {T':Nat->Hp->Rg->Prop}(h:cX σ F Y A T)(hT:∀k,dQ (T' k))(hi:∀k G,T k σ G->T' k σ G):cX σ F Y A T':=by
 refine⟨h.lay,hT,?_⟩;obtain⟨ρ,a⟩:=h.sep;refine⟨ρ,λi=>?_⟩;have:=a i;cases i<;>first|exact this|exact hi _ _ this
theorem ζ (h:cX σ F Y A T){k:Nat}(hk:k<A.tb.length){q:Nat}(hq:Y.fJ[k]?=some q){K:aP}(hK:∀σ',Ext F σ σ'->cX σ' (Grow F σ) Y (QM A k) T->K σ') :
 WZ.c (aW q) σ λt34 v2=>Xf.c (aW Y.p) t34 v2 K:=by
 obtain⟨c,m,U,t,r,D,g,j,_,_,N⟩:=h.at_ hk;rw[hq]at j;cases j;obtain⟨G,H,⟨V,w⟩,hd,i⟩:=h.qJ hq D g;refine Jy w λo M C d x=>?_;have y:=i M _ _ (Cut G σ) _ C (λb a=>.inl a.1) x (CY H);rw[JV]at d;have J:QM A k=VR {A with cC:=A.cC.set k (cJ m)} ((Z8 m).map λs=>(s,c.aF)):=by
  unfold QM;rw[D,g]
 have E:=w.ly;have B:=w.Fh;refine A6 y d.fX (λb _ a L=>by have:=L.2;omega) ?_ (λr P=>?_) λR S u=>?_
 ·have:(Z8 m).length<=m.length:=by unfold Z8;rw[za];exact m5 _ _
  rw[za];omega
 ·obtain⟨s,e,rfl⟩:=zC.1 P;unfold Z8 at e;simp only[zC,zH]at e;obtain⟨z,Q,rfl⟩:=e;have:=B z Q.1;simp only;omega
 ·refine hK R ((C.sub H).trans (S.sub λb a=>a.1)) ?_;rw[J];exact u.mono λb _ a=>by
   rcases a with a|a
   ·exact .inl a.1
   ·exact .inr (zI C.1 a)
theorem Su (A:AR)(k:Nat):(QM A k).tb=A.tb/\(QM A k).room=A.room/\(QM A k).cE=A.cE/\(QM A k).runs=A.runs/\(QM A k).n=A.n:=by
 unfold QM;split
 ·exact⟨(Qi _ _).1,(Qi _ _).2.1,(Qi _ _).2.2.1,(Qi _ _).2.2.2.2.1,(Qi _ _).2.2.2.2.2⟩
 ·exact⟨rfl,rfl,rfl,rfl,rfl⟩
theorem Vt (m:Nat)(A:AR):((List.range m).foldl QM A).tb=A.tb/\((List.range m).foldl QM A).room=A.room/\((List.range m).foldl QM A).cE=A.cE/\((List.range m).foldl QM A).runs=A.runs/\((List.range m).foldl QM A).n=A.n:=by
 induction m with
 | zero=>exact⟨rfl,rfl,rfl,rfl,rfl⟩
 | succ m ih=>
  rw[zz,mN];have:=Su ((List.range m).foldl QM A) m;exact⟨this.1.trans ih.1,this.2.1.trans ih.2.1,this.2.2.1.trans ih.2.2.1,this.2.2.2.1.trans ih.2.2.2.1,this.2.2.2.2.trans ih.2.2.2.2⟩
theorem Ni (h:cX σ F Y A T){dG:Sl}(hcr:dG=Y.dG){K:aP}(hK:∀σ',Ext F σ σ'->cX σ' (Grow F σ) Y (YL A) T->K σ') :
 W6 [bN] (λI=>I 0 σ) λJ (t28:Int) v1=>If (decide (t28<((dG.len:Nat):Int))) (Ix dG.a dG.len t28 1 λa30=>fZ a30 v1 λl=>WZ.c l v1 λt34 v2=>
  Xf.c (aW Y.p) t34 v2 λv3=>Ar .i64 (t28+1) λt36=>J t36 v3) (K v1):=by
 subst hcr;have E:=h.xI;refine ZU (a:=bN) (λ(t:Int) v=>∃i:Nat,t=(i:Int)/\i<=A.tb.length/\Ext F σ v/\cX v (Grow F σ) Y ((List.range i).foldl QM A) T) (λt _=>A.tb.length-t.toNat) ⟨0,rfl,O,Ext.refl _ _,h.mono λb _ d=>.inl d⟩ ?_;rintro t v ⟨i,rfl,D,e,u⟩;refine cI (λx=>?_) λC=>?_
 ·have g:i<A.tb.length:=by omega
  have j:=Vt i A;obtain⟨c,G,q,t,r,H,z,w,_,_,B⟩:=h.at_ g;refine u.ko w (ζ u.cut (by rw[j.1];exact g) w λv3 y s=>?_);refine cA (m:=i+1) O (by have:=h.lay.oC;omega) ⟨⟨i+1,rfl,O,e.iM (y.sub λb d=>d.1),?_⟩,O⟩;rw[zz,mN];exact s.mono λb _ d=>by
   rcases d with d|d
   ·exact d.1
   ·exact .inr (zI e.1 d)
 ·have:i=A.tb.length:=by omega
  subst this;exact hK v e u
def lU (A:AR):Prop:=∀t∈A.cE,∀xs∈t.bs,∀x∈xs,iO x
theorem fP.mj (t:fP):∀xs∈t.tick.bs,xs∈t.bs:=λxs h=>qQ h
theorem fP.rO (t:fP):∀xs∈t.out,xs∈t.bs:=λxs h=>mc h
theorem K0 {α:Type}{l:List α}{k:Nat}{t:α}{f:α->α}(h:l[k]?=some t):l.modify k f=l.set k (f t):=by
 apply zy;intro i;rw[ov,tO];by_cases hi:k=i
 ·subst hi;have:=(cQ.1 h).1;rw[zB rfl,zB this,h];simp
 ·simp[hi]
theorem UY (A:AR)(k:Nat):(Ku A k).tb=A.tb/\(Ku A k).room=A.room/\(Ku A k).cE=(match A.cE[k]? with|some t=>A.cE.set k t.tick|none=>A.cE)/\(Ku A k).runs=A.runs/\(Ku A k).n=A.n:=by
 have key:∀(l:List (List Int)) (B:AR),(l.foldl (λA' a=>Ze A' k a) B).tb=B.tb/\(l.foldl (λA' a=>Ze A' k a) B).room=B.room/\(l.foldl (λA' a=>Ze A' k a) B).cE=B.cE/\(l.foldl (λA' a=>Ze A' k a) B).runs=B.runs/\(l.foldl (λA' a=>Ze A' k a) B).n=B.n:=by
  intro l
  induction l with
  | nil=>intro B;exact⟨rfl,rfl,rfl,rfl,rfl⟩
  | cons x l ih=>
   intro B;have b:=ih (Ze B k x);have d:=Vw B k x;exact⟨b.1.trans d.1,b.2.1.trans d.2.1,b.2.2.1.trans d.2.2.1,b.2.2.2.1.trans d.2.2.2.1,b.2.2.2.2.trans d.2.2.2.2⟩
 unfold Ku;cases A.cE[k]? with
 | none=>exact⟨rfl,rfl,rfl,rfl,rfl⟩
 | some t=>exact key _ _
theorem Wg9 {k:Nat}(h:lU A):lU (Ku A k):=by
 unfold lU;rw[(UY A k).2.2.1];cases hk:A.cE[k]? with
 | none=>exact h
 | some t=>
  intro t' ht';rcases xj ht' with h1|h1
  ·exact h t' h1
  ·subst h1;exact λb a=>h t (zE hk) b (t.mj b a)
def GU (A:AR)(Y:Lay)(k r:Nat)(c:bW)(t:fP)(out:Sl)(sls:List Sl)(j:Nat):Hp->Rg->Prop:=
 if j=k then λσ G=>iD σ G r c.batch A.room t.tick/\cR out 1 (sls.map nQ) σ G/\oP sls t.out σ G else cF A Y j
theorem GU.loc {k r:Nat}{c:bW}{t:fP}{out:Sl}{sls:List Sl}(j:Nat):dQ (GU A Y k r c t out sls j):=by
 unfold GU;split
 ·exact λσ i F G ⟨e,g,d⟩ a b=>⟨iD.loc _ _ _ _ e a b,cR.loc _ _ _ _ _ _ _ g a b,oP.loc _ _ _ _ _ _ d a b⟩
 ·exact cF.loc j
theorem OL {k r:Nat}{c:bW}{t:fP}{out:Sl}{sls:List Sl}{tr:List fP}:∀j,j≠Lb.cE k->AC {A with cE:=tr} Y (GU A Y k r c t out sls) j=AC A Y (cF A Y) j:=by
 intro j hj;cases j<;>first|rfl|skip
 rename_i k';have a:¬k'=k:=λe=>hj (by rw[e]);simp only[AC,GU];rw[zA a]
theorem OB (h:cX σ F Y A (cF A Y)){k r:Nat}(hk:k<A.tb.length)(hr:Y.gC[k]?=some r)(hI:lU A){K:aP}(hK:∀σ',Ext F σ σ'->cX σ' (Grow F σ) Y (Ku A k) (cF (Ku A k) Y)->K σ') :
 Xm.c (aW r) σ λt20 v2=>W6 [bN] (λI1=>I1 0 v2) λJ1 (t22:Int) v3=>If (decide (t22<((t20.len:Nat):Int))) (Ix t20.a t20.len t22 1 λa24=>jk a24 v3 λbatch=>
  WA.c (aW Y.p) (k:Int) batch v3 λt29 v4=>Ar .i64 (t22+1) λt30=>J1 t30 v4) (K v3):=by
 obtain⟨c,ss,q,t,r',hc,hss,hq,P,E,hok⟩:=h.at_ hk;rw[hr]at E;cases E;obtain⟨G,hG,Z,hd,J⟩:=h.step (.cE k);have D:iD σ G r c.batch A.room t:=by
  simp only[AC,cF]at Z;rw[hr,hc,P]at Z;exact Z
 refine Rr D λout v2 e2 N U=>?_;obtain⟨d,M,L⟩:=N;have Q:=e2.sub hG;have aa:cR out 1 (d.map nQ) v2 (Grow G σ):=aH.mono M λb _ g=>.inl g;have S:oP d t.out v2 (Grow G σ):=(oP.loc _ _).mono L λb _ g=>.inl g;have R:cX v2 (Grow F σ) Y {A with cE:=A.cE.set k t.tick} (GU A Y k r c t out d):=by
  refine J v2 _ _ _ (Grow G σ) _ ?_ GU.loc OL e2 (λb g=>g) ?_ (U0 hG λb g=>g)
  ·exact⟨h.lay.c,h.lay.t,h.lay.cC,by simpa using h.lay.cE,h.lay.nC,h.lay.oC,h.lay.n1,h.lay.n2,h.lay.n3,h.lay.st,h.lay.room,h.lay.ok⟩
  ·simp only[AC,GU,zT];exact⟨U,aa,S⟩
 have hol:out.len=t.out.length:=by
  have:=M.1;have:=L.1;simp at *;omega
 have hfew:t.out.length<=8:=by
  have h1:=D.ly;have h2:=D.r1;have:t.out.length<=t.bs.length:=by unfold fP.out;rw[zO];omega
  omega
 refine ZU (a:=bN) (λ(i:Int) w=>∃j:Nat,i=(j:Int)/\j<=t.out.length/\Ext F σ w/\cX w (Grow F σ) Y ((t.out.take j).foldl (λA' xs=>Ze A' k xs) {A with cE:=A.cE.set k t.tick}) (GU A Y k r c t out d)) (λi _=>t.out.length-i.toNat) ⟨0,rfl,O,Q,R⟩ ?_;rintro i w ⟨j,rfl,hj,ew,s⟩;refine cI (λhlt=>?_) λhge=>?_
 ·have B:j<t.out.length:=by omega
  have hx:t.out[j]?=some t.out[j]:=cM B;have W:t.out.take (j+1)=t.out.take j++[t.out[j]]:=by rw[zg,hx];rfl
  have z:=t.rO _ (zc B);generalize t.out[j]=xs at *;obtain⟨G2,hG2,y⟩:=s.sep.get (.cE k);simp only[AC,GU,zT]at y;have V:j<d.length:=by rw[y.2.2.1];exact B
  have hs:d[j]?=some d[j]:=cM V;refine y.2.1.yj hs (GG (xs:=xs) s k (hI t (zE P) xs z) (by have:=D.all xs z;have:=D.b1;omega) (y.2.2.2 j _ xs hs hx).2 (.inr ⟨k,λH C=>?_⟩) λw2 e3 X=>?_)
  ·unfold GU at C;rw[zB rfl]at C;exact(C.2.2.2 j _ xs hs hx).1
  ·refine cA (m:=j+1) O O ⟨⟨j+1,rfl,O,ew.iM e3,?_⟩,O⟩;rw[W,mN];exact X.mono λb _ g=>by
    rcases g with g|g
    ·exact g
    ·exact .inr (zI ew.1 g)
 ·have:j=t.out.length:=by omega
  subst this;rw[zl]at s;have x:=UY A k;rw[P]at x;have e1:Ku A k=t.out.foldl (λA' xs=>Ze A' k xs) {A with cE:=A.cE.set k t.tick}:=by unfold Ku;rw[P]
  rw[←e1]at s;refine hK w ew (s.Sf (λj=>cF.loc j) λj G3 u=>?_);unfold GU at u;unfold cF;rw[x.1,x.2.1,x.2.2.1];simp only;split at u
  ·rename_i hjk;subst hjk;rw[hr,hc,zM (by rw[h.lay.cE];exact hk)];exact u.1
  ·rename_i hjk;rw[zj (λe=>hjk e.symm)];exact u
theorem IJ (m:Nat)(A:AR)(hI:lU A):((List.range m).foldl Ku A).tb=A.tb/\((List.range m).foldl Ku A).cE.length=A.cE.length/\((List.range m).foldl Ku A).runs=A.runs/\((List.range m).foldl Ku A).n=A.n/\lU ((List.range m).foldl Ku A):=by
 induction m with
 | zero=>exact⟨rfl,rfl,rfl,rfl,hI⟩
 | succ m ih=>
  rw[zz,mN];have:=UY ((List.range m).foldl Ku A) m;refine⟨this.1.trans ih.1,?_,this.2.2.2.1.trans ih.2.2.1,this.2.2.2.2.trans ih.2.2.2.1,Wg9 ih.2.2.2.2⟩;show(Ku ((List.range m).foldl Ku A) m).cE.length=_;rw[this.2.2.1];split
  ·rw[oR];exact ih.2.1
  ·exact ih.2.1
theorem P3 (h:cX σ F Y A (cF A Y))(hI:lU A){R:aP}(hR:∀σ',Ext F σ σ'->cX σ' (Grow F σ) Y (UV A) (cF (UV A) Y)->R σ'):Y1.c (aW Y.p) σ R:=by
 refine Y1.o ?_;unfold Y1.v;refine KV h (cG rfl (aG (h.hd.rS rfl ?_)));have E:=h.jy;refine ZU (a:=bN) (λ(t:Int) v=>∃i:Nat,t=(i:Int)/\i<=A.tb.length/\Ext F σ v/\cX v (Grow F σ) Y ((List.range i).foldl Ku A) (cF ((List.range i).foldl Ku A) Y)) (λt _=>A.tb.length-t.toNat) ⟨0,rfl,O,Ext.refl _ _,h.mono λb _ d=>.inl d⟩ ?_;rintro t v ⟨i,rfl,D,e,w⟩;refine cI (λs=>?_) λx=>?_
 ·have j:i<A.tb.length:=by simp only at s;omega
  have g:=IJ i A hI;obtain⟨c,G,q,t,r,H,B,J,_,y,C⟩:=h.at_ j;refine w.pt y (OB w.cut (by rw[g.1];exact j) y g.2.2.2.2 λv3 z u=>?_);refine cA (m:=i+1) O (by have:=h.lay.oC;omega) ⟨⟨i+1,rfl,O,e.iM (z.sub λb d=>d.1),?_⟩,O⟩;rw[zz,mN];exact u.mono λb _ d=>by
   rcases d with d|d
   ·exact d.1
   ·exact .inr (zI e.1 d)
 ·have:i=A.tb.length:=by simp only at x;omega
  subst this;refine hR v e ?_;unfold UV;rw[h.lay.cE];exact w
end Go.Ar
namespace Go.Bu
variable {n:Nat}{S:Nat->Bool}
theorem V7 {m a k x:Nat}(h:ZT n S m a k=some x):∃j,j<k/\m<=2^j/\a<=2^j/\(Ko n S j).head?=some x/\∀i,i<j->m<=2^i->a<=2^i->Ko n S i=[]:=by
 have wh:∀k,ZT n S m a k=none->∀i,i<k->m<=2^i->a<=2^i->Ko n S i=[]:=by
  intro k
  induction k with
  | zero=>intro _ i hi;omega
  | succ k ih=>
   intro hn i hi d b;rw[ZT]at hn;split at hn
   ·cases hn
   ·rename_i hn';by_cases e:i=k
    ·subst e;rw[zB ⟨d,b⟩]at hn;simpa using hn
    ·exact ih hn' i O d b
 induction k with
 | zero=>simp[ZT]at h
 | succ k ih=>
  rw[ZT]at h;split at h
  ·rename_i y hy;cases h;obtain⟨j,d,b⟩:=ih hy;exact⟨j,O,b⟩
  ·rename_i hn;split at h
   ·rename_i hc;exact⟨k,O,hc.1,hc.2,h,wh k hn⟩
   ·cases h
theorem U1 {m a:Nat}:∀{k},ZT n S m a k=none->∀i,i<k->m<=2^i->a<=2^i->Ko n S i=[]
 | 0,_,i,hi,_,_=>by omega
 | k+1,hn,i,hi,h1,h2=>by
  rw[ZT]at hn;split at hn
  ·cases hn
  ·rename_i hn';by_cases e:i=k
   ·subst e;rw[zB ⟨h1,h2⟩]at hn;simpa using hn
   ·exact U1 hn' i O h1 h2
theorem lH (hb:Bounded S n){m a x:Nat}(h:Zu n S m a=some x):x+m<=n/\∀y,x<=y->y<x+m->S y=true:=by
 obtain⟨j,_,g,_,e,_⟩:=V7 h;have b:x∈Ko n S j:=List.mem_of_head? e;obtain⟨q,rfl,d⟩:=(QS hb).1 b;have:=ZQ hb (ZL.1 d).1;exact⟨O,λy i p=>KT d (Qe.2 O)⟩
end Go.Bu
namespace Go.Ar
open Go Go.Vc Go.Proofs
open Go.Bu (Zf QO Zu iR)
variable {σ:Hp}{F H:Rg}{p hs:Nat}{A:AR}{sp:Sp}{Y:Lay}{T:Nat->Hp->Rg->Prop}
structure W2 (σ:Hp) (F H:Rg) (Y:Lay) (A:AR) (T:Nat->Hp->Rg->Prop) (sp:Sp):Prop where
 a:cX σ F Y A T
 s:dE σ H Y.hs sp
 d:∀b,F b->¬H b
 g:Gl σ
 o:iY F
 o2:iY H
def gH (F H:Rg):Rg:=λb=>F b\/H b
theorem W2.jZ (h:W2 σ F H Y A T sp){σ':Hp}{A':AR}(e:Ext F σ σ')(ha:cX σ' F Y A' T):W2 σ' F H Y A' T sp:=
 ⟨ha,dQ.bU dE.loc h.s e λb _ a i=>h.d b i a,h.d,h.g.bU e h.o,h.o,h.o2⟩
theorem W2.space (h:W2 σ F H Y A T sp){σ':Hp}{sp':Sp}(e:Ext H σ σ')(hs:dE σ' H Y.hs sp'):W2 σ' F H Y A T sp':=
 ⟨dQ.bU cX.loc h.a e λb _ i j=>h.d b i j,hs,h.d,h.g.bU e h.o2,h.o,h.o2⟩
theorem W2.bK (h:W2 σ F H Y A T sp){σ':Hp}(e:bO σ σ'):W2 σ' F H Y A T sp:=⟨h.a.bK e,h.s.bK e,h.d,h.g.bK e,h.o,h.o2⟩
theorem W2.cut (h:W2 σ F H Y A T sp):W2 σ (Cut F σ) (Cut H σ) Y A T sp:=⟨h.a.cut,dQ.cut dE.loc h.s,λb e i=>h.d b e.1 i.1,h.g,h.o.sub λb e=>e.1,h.o2.sub λb e=>e.1⟩
theorem W2.nh (h:W2 σ F H Y A T sp){σ':Hp}{A':AR}(e:Ext F σ σ')(ha:cX σ' (Grow F σ) Y A' T):W2 σ' (Grow F σ) (Cut H σ) Y A' T sp:=
 ⟨ha,dQ.bU dE.loc (dQ.cut dE.loc h.s) e λb _ a j=>h.d b j a.1,λb a i=>by
  rcases a with a|a
  ·exact h.d b a i.1
  ·have:=i.2;omega,h.g.bU e h.o,h.o.grow h.g,h.o2.sub λb a=>a.1⟩
theorem W2.yg (h:W2 σ F H Y A T sp){K:Option Addr->Prop}(hK:K (some ⟨Y.hs,0,none⟩)):fZ (Addr.add ⟨Y.p,0,none⟩ 1) σ K:=h.a.hd.rP rfl hK
theorem FE (st:List Nat)(a m:Nat):UN st a (m+1)=jv (UN st a m) ((a+m:Nat):Int):=by
 unfold UN;rw[zz,zu,mN];rfl
theorem ON {a m:Int}(h:fD sp a m≠0):gD sp a m=sp:=by unfold gD;rw[zA h]
theorem Sz {size:Nat}(h1:1<=size)(h:∀j,1<=j->j*size+size<=sp.st.length->fD sp ((j*size:Nat):Int) (size:Int)≠0):cY sp size=none:=by
 unfold cY;rw[oh];intro x hx;obtain⟨j,b,rfl⟩:=zC.1 hx;rw[zU]at b;have d:(j+1)*size<=sp.st.length:=zI (lB size b) (yI _ _);rw[zk,Nat.one_mul]at d;by_cases h0:j=0
 ·subst h0;simp
 ·have:=h j O d;have a:(fD sp ((j*size:Nat):Int) (size:Int)==0)=false:=by simpa only[m0]using this
  rw[a,sH];simp
theorem NO {size j:Nat}(h1:1<=size)(h0:1<=j)(hf:j*size+size<=sp.st.length)(hm:fD sp ((j*size:Nat):Int) (size:Int)=0)(h:∀i,1<=i->i<j->fD sp ((i*size:Nat):Int) (size:Int)≠0):cY sp size=some (j*size):=by
 unfold cY;have m:j<sp.st.length/size:=by
  rw[Nat.lt_iff_add_one_le,Nat.le_div_iff_mul_le h1,zk,Nat.one_mul];exact hf
 have a:List.range (sp.st.length/size)=List.range j++(j::(List.range (sp.st.length/size-j-1)).map (j+1 + ·)):=by
  apply zy;intro i;rw[List.getElem?_append,oQ];by_cases d:i<j
  ·rw[zB d,oc O,oc d]
  ·rw[zA d];by_cases hij:i=j
   ·subst hij;rw[pW,uP,oc m]
   ·rw[show i-j=(i-j-1)+1 by omega,yJ,ze];by_cases hl:i<sp.st.length/size
    ·rw[oc hl,oc O];simp only[zf]
     congr 1;omega
    ·rw[zZ (by rw[oQ];omega),zZ (by rw[oQ];omega)];rfl
 rw[a,zu,List.find?_append];have b:((List.range j).map (· * size)).find? (λ(s:Nat)=>s != 0&&fD sp s size==0)=none:=by
  rw[oh];intro x hx;obtain⟨i,d,rfl⟩:=zC.1 hx;rw[zU]at d;by_cases h0:i=0
  ·subst h0;simp
  ·have:=h i O d;have g:(fD sp ((i*size:Nat):Int) (size:Int)==0)=false:=by simpa only[m0]using this
   rw[g,sH];simp
 rw[b,zJ,uY];have:(j*size != 0&&fD sp ((j*size:Nat):Int) (size:Int)==0)=true:=by
  rw[hm];have p:0<j*size:=Nat.mul_pos O O;have e:j*size≠0:=by omega
  simp[e]
 rw[this];rfl
theorem TC (h:W2 σ F H Y A T sp){size:Nat}(h1:size=16\/size=32\/size=64){R:aO}(h0:UO A sp size=none->∀σ',Ext (gH F H) σ σ'->W2 σ' F H Y A T sp->R false σ')
 (hR:∀A' sp',UO A sp size=some (A',sp')->∀σ',Ext (gH F H) σ σ'->W2 σ' F H Y A' T sp'->R true σ'):Y7.c (aW Y.p) (size:Int) σ R:=by
 refine Y7.o ?_;unfold Y7.v;have hn2:sp.st.length<=1024:=by obtain⟨q,r,l,B,hh⟩:=h.s;exact hh.n2
 have es:∀{a b:Hp},Ext H a b->Ext (gH F H) a b:=λe=>e.sub λb Q=>.inr Q;have ea:∀{a b:Hp},Ext F a b->Ext (gH F H) a b:=λe=>e.sub λb Q=>.inl Q;have d:∀j,j*size+size=(j+1)*size:=λj=>by rw[zk,Nat.one_mul]
 refine ZU (a:=bN) (λ(t:Int) v=>∃j:Nat,t=((j*size:Nat):Int)/\1<=j/\j*size<=1024+64/\Ext (gH F H) σ v/\W2 v F H Y A T sp/\∀i,1<=i->i<j->i*size+size<=sp.st.length->fD sp ((i*size:Nat):Int) (size:Int)≠0) (λt _=>2000-t.toNat)
  ⟨1,O,zD _,O,Ext.refl _ _,h,λi h1 h2=>O⟩ ?_
 rintro t v ⟨j,rfl,hj,Q,e,z,y⟩;refine cA (m:=j*size+size) O O (aG (z.yg (AS z.s (cI (λhlt=>?_) λhge=>?_))))
 ·have hf:j*size+size<=sp.st.length:=by omega
  refine aG (z.yg (S6 z.s z.g z.o2 _ _ λv2 P G=>?_));refine cU (λV=>?_) λV=>?_
  ·have L:fD sp ((j*size:Nat):Int) (size:Int)≠0:=by simpa using V
   rw[ON L]at G;refine cA (m:=(j+1)*size) (by rw[←d];omega) (by rw[←d];omega) ⟨⟨j+1,rfl,O,by rw[←d];omega,e.trans (es P),z.space P G,λi x C K=>?_⟩,by rw[←d];omega⟩;by_cases hij:i=j
   ·subst hij;exact L
   ·exact y i x O K
  ·have U:fD sp ((j*size:Nat):Int) (size:Int)=0:=by simpa using V
   have W:=z.space P G;have M:∀i,i<j->i*size+size<=sp.st.length:=λi hi=>by
    have:(i+1)*size<=j*size:=lB _ hi;rw[d];omega
   have E:=NO (sp:=sp) O hj hf U λi x C=>y i x C (M i C);have D:UO A sp size=some ({A with st:=UN A.st (j*size/16) (size/16),S:=QO A.n A.S ((j*size:Nat):Int) size},gD sp ((j*size:Nat):Int) size):=by unfold UO;rw[E]
   have aa:(j*size)%16=0:=by
    rcases h1 with rfl|rfl|rfl
    ·omega
    ·omega
    ·omega
   refine nz aB (cA (m:=j*size/16) (by rw[YN O];simp) O ?_);refine ZU (a:=bN) (λ(t:Int) w=>∃i:Nat,t=((j*size/16+i:Nat):Int)/\i<=size/16/\Ext (gH F H) σ w/\W2 w F H Y {A with st:=UN A.st (j*size/16) i} T (gD sp ((j*size:Nat):Int) size)) (λt _=>200-t.toNat)
    ⟨0,O,O,e.trans (es P),W⟩ ?_
   rintro t w ⟨i,rfl,hi,ew,u⟩;refine cA (m:=j*size+size) O O (nz aB (cA (m:=(j*size+size)/16) (by rw[YN O];simp) O (cI (λhlt2=>?_) λZ=>?_)))
   ·refine aG (u.a.hd.rP rfl (u.a.CP _ λw2 t2 N J=>?_));refine cA (m:=j*size/16+(i+1)) O O ⟨⟨i+1,rfl,O,ew.trans (ea N),?_⟩,O⟩;rw[FE];exact u.jZ N J
   ·have X:i=size/16:=by omega
    subst X;refine aG (u.a.hd.rP rfl (u.a.vQ _ _ λw2 t2 N J=>?_));exact hR _ _ D w2 (ew.trans (ea N)) (u.jZ N J)
 ·have E:=Sz (sp:=sp) (size:=size) O λi x K=>by
   by_cases hij:i<j
   ·exact y i x hij K
   ·have:j*size<=i*size:=lB _ O;omega
  have D:UO A sp size=none:=by unfold UO;rw[E]
  exact h0 D v e z
theorem O8 {m a:Nat}(h1:1<=m)(h2:m<=64)(ha:a=1\/a=2\/a=4\/a=8\/a=16):Go.Bu.fT (m:Int) (a:Int)=true:=by
 have b:Go.Bu.gG (a:Int)=true:=by rcases ha with rfl|rfl|rfl|rfl|rfl<;>decide
 unfold Go.Bu.fT;rw[b];simp only[sN,zF,zS];omega
theorem W2.take (h:W2 σ F H Y A T sp){m a:Nat}(hok:Go.Bu.fT (m:Int) (a:Int)=true){R:Int->Int->Hp->Prop}(h0:Zu A.n A.S m a=none->∀σ',Ext F σ σ'->W2 σ' F H Y A T sp->R 0 6 σ')
 (h1:∀x,Zu A.n A.S m a=some x->x+m<=A.n->∀σ',Ext F σ σ'->W2 σ' F H Y {A with S:=Go.Bu.take A.S x (x+m)} T sp->R (x:Int) 0 σ'):XT.c (aW Y.fr) (m:Int) (a:Int) σ R:=by
 have b:Go.Bu.Bounded A.S A.n:=by obtain⟨s,u,p,_⟩:=h.a.free;exact p.jG
 refine h.a.vY _ _ λσ' e r=>?_;have d:=h.jZ e r;cases ht:Zu A.n A.S m a with
 | none=>
  have g:Go.Bu.jh A.n A.S (m:Int) (a:Int)=6:=by unfold Go.Bu.jh;rw[hok,zB rfl];simp only[dC];rw[ht]
  have i:Go.Bu.jm A.n A.S (m:Int) (a:Int)=0:=by unfold Go.Bu.jm;rw[hok,zB rfl];simp only[dC];rw[ht]
  have j:Go.Bu.jl A.n A.S (m:Int) (a:Int)=A.S:=by unfold Go.Bu.jl;rw[hok,zB rfl];simp only[dC];rw[ht]
  rw[g,i];rw[j]at d;exact h0 ht σ' e d
 | some x=>
  have g:Go.Bu.jh A.n A.S (m:Int) (a:Int)=0:=by unfold Go.Bu.jh;rw[hok,zB rfl];simp only[dC];rw[ht]
  have i:Go.Bu.jm A.n A.S (m:Int) (a:Int)=x:=by unfold Go.Bu.jm;rw[hok,zB rfl];simp only[dC];rw[ht]
  have j:Go.Bu.jl A.n A.S (m:Int) (a:Int)=Go.Bu.take A.S x (x+m):=by unfold Go.Bu.jl;rw[hok,zB rfl];simp only[dC];rw[ht]
  rw[g,i];rw[j]at d;exact h1 x ht (Go.Bu.lH b ht).1 σ' e d
theorem M5 {size:Nat}{A':AR}{sp':Sp}(h:UO A sp size=some (A',sp')):A'.n=A.n:=by
 unfold UO at h;split at h
 ·cases h
 ·cases h;rfl
def Fits (σ:Hp)(F H F' H':Rg):Prop:=(∀b,F' b->Grow F σ b)/\∀b,H' b->H b
theorem FN (h:W2 σ F H Y A T sp){m a no:Nat}(h1:1<=m)(h2:m<=64)(ha:a=1\/a=2\/a=4\/a=8\/a=16)(hn1:1<=no)(hn2:no<=1000){R:Int->Int->Hp->Prop}
 (h0:(cZ A sp m a no).1=none->∀σ',Ext (gH F H) σ σ'->W2 σ' F H Y (cZ A sp m a no).2.1 T (cZ A sp m a no).2.2->R 0 6 σ')
 (hR:∀x,(cZ A sp m a no).1=some x->x+m<=A.n->∀σ' F' H',Fits σ F H F' H'->Ext (gH F H) σ σ'->W2 σ' F' H' Y (cZ A sp m a no).2.1 T (cZ A sp m a no).2.2->R (x:Int) 0 σ') :
 YS.c (aW Y.p) (m:Int) (a:Int) (no:Int) σ R:=by
 refine YS.o ?_;unfold YS.v;have J:=O8 h1 h2 ha;have es:∀{a b:Hp},Ext H a b->Ext (gH F H) a b:=λe=>e.sub λb j=>.inr j;have u:∀{a b:Hp},Ext F a b->Ext (gH F H) a b:=λe=>e.sub λb j=>.inl j;have fin:∀(v:Hp) (x:Nat) (A1:AR) (sp1:Sp),Ext (gH F H) σ v->x+m<=A.n->W2 v F H Y {A1 with S:=Go.Bu.take A1.S x (x+m)} T sp1->cZ A sp m a no=(some x,dU A1 x m no,sp1) →
  bS (some ⟨Y.p,0,none⟩) λQ=>fZ (Q.add 3) v λP=>XM.c P (x:Int) (m:Int) v λt55 r=>bS (some ⟨Y.p,0,none⟩) λZ=>fZ (Z.add 4) r λX=>Yq.c X (x:Int) (m:Int) (no:Int) r λt63 v3=>R (x:Int) 0 v3:=by
  intro v x A1 sp1 e hxm C y;have U:x<=1000000:=by have:=h.a.lay.n2;omega
  refine aG (C.a.hd.rP rfl (C.a.Mv _ _ λr t2 E M=>?_));have g:=C.jZ E M;refine aG (g.a.hd.rP rfl (g.a.Set x m U hn1 hn2 λv3 t3 e3 N=>?_));have L:=g.nh e3 N;refine hR x (by rw[y]) hxm v3 (Grow F r) (Cut H r) ⟨λb j=>?_,λb j=>j.1⟩ ((e.trans (u E)).trans (u e3)) (by rw[y];exact L);rcases j with j|j
  ·exact .inl j
  ·exact .inr (zI (e.trans (u E)).1 j)
 refine aG (h.a.hd.rP rfl (h.take J (λG v e C=>?_) λx G B v e C=>?_))
 ·refine Jn.intro (cK rfl ?_);have V:(if(a:Int)>(m:Int)then(a:Int)else(m:Int))=((max m a:Nat):Int):=by
   by_cases hgt:(a:Int)>(m:Int)
   ·rw[zB hgt];omega
   ·rw[zA hgt];omega
  rw[V];refine ZU (a:=bN) (λ(t:Int) w=>w=v/\(t=16\/t=32/\16<max m a\/t=64/\32<max m a)) (λt _=>100-t.toNat) ⟨rfl,.inl rfl⟩ ?_;rintro(t:Int) w ⟨rfl,hcase⟩;have ab:a<=16:=by omega
  refine cI (λhlt=>?_) λhge=>?_
  ·have:t=16\/t=32:=by omega
   rcases this with rfl|rfl
   ·exact ar O O ⟨⟨rfl,O⟩,by decide⟩
   ·exact ar O O ⟨⟨rfl,O⟩,by decide⟩
  ·have W:t=((Q4 (max m a):Nat):Int):=by
    unfold Q4;by_cases c1:max m a<=16
    ·rw[zB c1];omega
    ·rw[zA c1];by_cases c2:max m a<=32
     ·rw[zB c2];omega
     ·rw[zA c2];omega
   subst W;have aa:Q4 (max m a)=16\/Q4 (max m a)=32\/Q4 (max m a)=64:=by omega
   refine TC C aa (λy σ' K s=>?_) λA' z y σ' K s=>?_
   ·have d:cZ A sp m a no=(none,A,sp):=by unfold cZ;rw[G];simp only;rw[y]
    exact cK rfl (h0 (by rw[d]) σ' ((u e).trans K) (by rw[d];exact s))
   ·refine cG rfl (aG (s.a.hd.rP rfl (s.take J (λD r E g=>?_) λx D B r E g=>?_)))
    ·have d:cZ A sp m a no=(none,A',z):=by unfold cZ;rw[G];simp only;rw[y];simp only;rw[D]
     exact cK rfl (h0 (by rw[d]) r (((u e).trans K).trans (u E)) (by rw[d];exact g))
    ·have d:cZ A sp m a no=(some x,dU A' x m no,z):=by unfold cZ;rw[G];simp only;rw[y];simp only;rw[D]
     exact cG rfl (fin r x A' z (((u e).trans K).trans (u E)) (by rw[←M5 y];exact B) g d)
 ·have d:cZ A sp m a no=(some x,dU A x m no,sp):=by unfold cZ;rw[G]
  refine Jn.intro (cG rfl (cG rfl (fin v x A sp (u e) B C d)))
theorem Fits.refl:Fits σ F H F H:=⟨λb a=>.inl a,λb a=>a⟩
theorem Mc (h:W2 σ F H Y A T sp)(k:Int){R:aN}(hR:∀σ' F' H',Fits σ F H F' H'->Ext (gH F H) σ σ'->W2 σ' F' H' Y (cO A sp k).1 T (cO A sp k).2->R (KN A sp k) σ') :
 Yf.c (aW Y.p) k σ R:=by
 refine Yf.o ?_;unfold Yf.v;refine UC h.a k (λJ=>?_) λx hx L=>?_
 ·have e1:KN A sp k=1:=by unfold KN;rw[J];rfl
  have z:cO A sp k=(A,sp):=by unfold cO;rw[J];rfl
  have:=hR σ F H Fits.refl (Ext.refl _ _) (by rw[z];exact h);rw[e1]at this;exact cK rfl this
 ·subst hx;have J:A.ck (x:Int)=true:=by unfold AR.ck;simp;omega
  obtain⟨c,V,q,t,r,K,C,hq,_,_,P⟩:=h.a.at_ L;have ht2:=h.a.lay.oC;obtain⟨_,_,_,S,hp4,_⟩:=P;refine cG rfl (aG (h.a.hd.rS rfl (h.a.xf (d:=1) K O ?_)));simp only[zA (show ¬(1=0) by omega),zT];refine cA (m:=x+1) O O ?_;have W:KN A sp x=match (cZ A sp c.aF 1 (x+1)).1 with
   | some y=>GT c V y
   | none=>6:=by unfold KN;rw[J,zB rfl];simp only[dC];rw[K,C];rfl
  have X:cO A sp x=match cZ A sp c.aF 1 (x+1)with
   | (some y,A',u)=>(if GT c V y=0 then{A' with cC:=A'.cC.set x (iy c V y)}else A',u)
   | (none,A',u)=>(A',u):=by unfold cO;rw[J,zB rfl];simp only[dC];rw[K,C];rfl
  refine FN (a:=1) h S O (.inl rfl) O O (λD σ' e w=>?_) λy D hyn σ' F' H' i e w=>?_
  ·have:=hR σ' F H Fits.refl e;rw[W,X,D]at this;generalize cZ A sp c.aF 1 (x+1)=g at *;obtain⟨g1,g2,g3⟩:=g;simp only at D;subst D;exact cK rfl (this w)
  ·have B:(cZ A sp c.aF 1 (x+1)).2.1.tb=A.tb/\(cZ A sp c.aF 1 (x+1)).2.1.cC=A.cC:=by
    unfold cZ;split
    ·exact⟨rfl,rfl⟩
    ·split
     ·exact⟨rfl,rfl⟩
     ·rename_i A1 sp1 hga;have:A1.tb=A.tb/\A1.cC=A.cC:=by
       unfold UO at hga;split at hga
       ·cases hga
       ·cases hga;exact⟨rfl,rfl⟩
      split
      ·exact this
      ·exact this
   have s:=λσ' F' H'=>hR σ' F' H';rw[W,X]at s;generalize cZ A sp c.aF 1 (x+1)=g at *;obtain⟨g1,A',u⟩:=g;simp only at D w B s;subst D;simp only at s;have hWc:=w;obtain⟨G,U,⟨ps,hC⟩,_,E⟩:=w.a.qJ hq (by rw[B.1];exact K) (by rw[B.2];exact C);have hn2:=h.a.lay.n2;refine cG rfl (aG (w.a.hd.rS rfl (w.a.ko hq (OA hC O (λh9 v z=>?_) λZ v ps' z N=>?_))))
   ·have:=s v F' H' i (e.lS z) (by rw[h9];exact w.bK z);rw[h9]at this;exact this
   ·have M:=E v _ _ (Grow G σ') _ z (λb j=>j) N (U0 U λb j=>j);have Q:=w.nh (z.sub U) M;have:=s v (Grow F' σ') (Cut H' σ') ⟨λb j=>?_,λb j=>i.2 b j.1⟩ (e.fC (z.sub U) λb j=>?_) (by rw[Z];exact Q)
    ·rw[Z]at this;exact this
    ·rcases j with j|j
     ·exact i.1 b j
     ·exact .inr (zI e.1 j)
    ·rcases i.1 b j with h1|h1
     ·exact .inl (.inl h1)
     ·exact .inr h1
theorem Gq (A:AR)(sp:Sp)(m a no:Nat):(cZ A sp m a no).2.1.tb=A.tb/\(cZ A sp m a no).2.1.cC=A.cC/\(cZ A sp m a no).2.1.cE=A.cE/\(cZ A sp m a no).2.1.room=A.room/\(cZ A sp m a no).2.1.runs=A.runs/\(cZ A sp m a no).2.1.n=A.n:=by
 unfold cZ;split
 ·exact⟨rfl,rfl,rfl,rfl,rfl,rfl⟩
 ·split
  ·exact⟨rfl,rfl,rfl,rfl,rfl,rfl⟩
  ·rename_i A1 sp1 hga;have:A1.tb=A.tb/\A1.cC=A.cC/\A1.cE=A.cE/\A1.room=A.room/\A1.runs=A.runs/\A1.n=A.n:=by
    unfold UO at hga;split at hga
    ·cases hga
    ·cases hga;exact⟨rfl,rfl,rfl,rfl,rfl,rfl⟩
   split
   ·exact this
   ·exact this
theorem Wpm:∀a:Nat,a<17->1<=a->((bits .and .i64 (a:Int) ((a:Int)-1) != 0) = !(a==1||(a==2||(a==4||(a==8||a==16))))):=by decide
theorem Ov (h:W2 σ F H Y A T sp)(m a:Int){R:Int->Int->Hp->Prop}(hR:∀σ' F' H',Fits σ F H F' H'->Ext (gH F H) σ σ'->W2 σ' F' H' Y (cD A sp m a).1 T (cD A sp m a).2->R ((Z6 A sp m a:Nat):Int) (Qz A sp m a) σ') :
 WS.c (aW Y.p) m a σ R:=by
 refine WS.o ?_;unfold WS.v;have N:Kc m a=false->R 0 1 σ:=λu=>by
  have e1:Qz A sp m a=1:=by unfold Qz;rw[u];rfl
  have E:cD A sp m a=(A,sp):=by unfold cD;rw[u];rfl
  have e3:Z6 A sp m a=0:=by unfold Z6;rw[u];rfl
  have:=hR σ F H Fits.refl (Ext.refl _ _) (by rw[E];exact h);rw[e1,e3]at this;exact this
 have d:¬(1<=m/\m<=64/\(a=1\/a=2\/a=4\/a=8\/a=16))->R 0 1 σ:=λhn=>N (by
  rw[←qR];intro hp;unfold Kc at hp;simp at hp;omega)
 refine KV h.a (cG rfl (bY.intro (cI (λc1=>bY.intro (cK rfl (bY.intro (cK rfl (bY.intro (cK rfl (cK rfl (d O)))))))) λc1=>?_)));refine bY.intro (cI (λc2=>bY.intro (cK rfl (bY.intro (cK rfl (cK rfl (d O)))))) λc2=>?_);refine bY.intro (cI (λV=>bY.intro (cK rfl (cK rfl (d O)))) λV=>?_);refine bY.intro (cI (λc4=>cK rfl (d O)) λc4=>ar O O ?_);obtain⟨y,rfl⟩:=zi (show 0<=m by omega);obtain⟨z,rfl⟩:=zi (show 0<=a by omega);rw[Wpm z O O];refine cU (λG=>?_) λG=>?_
 ·refine d (λhh=>?_);simp at G;omega
 ·have hz:z=1\/z=2\/z=4\/z=8\/z=16:=by
   simp at G;omega
  have u:Kc (y:Int) (z:Int)=true:=by
   unfold Kc;simp;omega
  have Q:Qz A sp y z=if(cZ A sp y z 41).1.isSome then 0 else 6:=by unfold Qz;rw[u,zB rfl];rfl
  have U:Z6 A sp y z=(cZ A sp y z 41).1.getD 0:=by unfold Z6;rw[u,zB rfl];rfl
  have P:cD A sp y z=match cZ A sp y z 41 with
   | (some x,A',j)=>({A' with runs:=cD.mset2 A'.runs x y},j)
   | (none,A',j)=>(A',j):=by unfold cD;rw[u,zB rfl];rfl
  refine FN (no:=41) h O O hz O O (λw σ' e B=>?_) λx w Z σ' F' H' s e B=>?_
  ·have:=hR σ' F H Fits.refl e;rw[Q,P,U,w]at this;generalize cZ A sp y z 41=g at *;obtain⟨g1,g2,g3⟩:=g;simp only at w;subst w;exact cK rfl (this B)
  ·have r:=λσ' F' H'=>hR σ' F' H';rw[Q,P,U]at r;generalize cZ A sp y z 41=g at *;obtain⟨g1,A',j⟩:=g;simp only at w B r;subst w;simp only at r;obtain⟨W,X,D⟩:=B.a.pU;refine cG rfl (aG (B.a.hd.rM rfl ⟨_,_,rfl,X,λv S K=>?_⟩));have C:dK v Y.rn .i64 bN (dF (iA A'.runs) (x:Int) (y:Int)):=K;rw[Rp]at C;have J:=D v _ S C;have E:Ext F' σ' v:=S.ext.sub λb L=>by subst L;exact W
   have M:=B.jZ E J;exact r v F' H' s (e.fC E λb L=>by
    rcases s.1 b L with h1|h1
    ·exact .inl (.inl h1)
    ·exact .inr h1) M
theorem ξ (h:W2 σ F H Y A T sp){R:aN}(hR:∀σ',Ext (gH F H) σ σ'->W2 σ' (Cut F σ) (Cut H σ) Y (eJ A sp).1 T (eJ A sp).2->R ((uZ A:Nat):Int) σ') :
 Yl.c (aW Y.p) σ R:=by
 refine Yl.o ?_;unfold Yl.v;have es:∀{a b:Hp},Ext (Cut H σ) a b->Ext (gH F H) a b:=λe=>e.sub λb u=>.inr u.1;have ea:∀{a b:Hp},Ext (Cut F σ) a b->Ext (gH F H) a b:=λe=>e.sub λb u=>.inl u.1;obtain⟨G,hG,q,hT,_⟩:=h.a.mM;refine KV h.a (cG rfl (aG (h.a.hd.rP rfl (OR hT λs v1 W j=>?_))));have hn2:=h.a.lay.n2;have V:=h.a.lay.st;have z:=j.jU;have U:(Kg A.st 0).length<=64:=by
  unfold Kg;refine zI (m5 _ _) ?_;rw[oQ];omega
 have x:∀k∈Kg A.st 0,k<=64:=λk K=>by
  unfold Kg at K;have:=(zH.1 K).1;rw[zU]at this;omega
 have hsl:=aH.cut j.fX;refine ZU (a:=bN) (λ(t:Int) w=>∃i:Nat,t=(i:Int)/\i<=(Kg A.st 0).length/\Ext (gH F H) σ w/\W2 w (Cut F σ) (Cut H σ) Y (((Kg A.st 0).take i).foldl Vh (A,sp)).1 T (((Kg A.st 0).take i).foldl Vh (A,sp)).2/\cR s 1 (ints (Kg A.st 0)) w (λb=>σ.size<=b)) (λt _=>(Kg A.st 0).length-t.toNat)
  ⟨0,rfl,O,bO.to W,h.cut.bK W,j.fX⟩ ?_
 rintro t w ⟨i,rfl,hi,e,C,X⟩;refine cI (λhlt=>?_) λhge=>?_
 ·have y:i<(Kg A.st 0).length:=by omega
  have Z:(Kg A.st 0)[i]?=some (Kg A.st 0)[i]:=cM y;have N:(Kg A.st 0).take (i+1)=(Kg A.st 0).take i++[(Kg A.st 0)[i]]:=by rw[zg,Z];rfl
  have K:=x _ (zc y);generalize (Kg A.st 0)[i]=k at *;refine X.oI Z (aG (C.a.hd.rP rfl (C.a.Bs _ λw2 t2 L D=>?_)));have r:=C.jZ L D;refine aG (r.a.hd.rP rfl (cA (m:=k*16) O O (r.a.qP _ _ λw3 t3 S P=>?_)));have d:=r.jZ S P;refine aG (d.yg (cA (m:=k*16) O O (M8 d.s d.g d.o2 _ _ λw4 M Q=>?_)));have E:=d.space M Q;have J:cR s 1 (ints (Kg A.st 0)) w4 (λb=>σ.size<=b):=aH.bU (aH.bU (aH.bU X L λb _ u B=>by have:=B.2;omega) S λb _ u B=>by have:=B.2;omega) M λb _ u B=>by have:=B.2;omega
  refine cA (m:=i+1) O O ⟨⟨i+1,rfl,O,((e.trans (ea L)).trans (ea S)).trans (es M),?_,J⟩,O⟩;rw[N,mN];exact E
 ·have:i=(Kg A.st 0).length:=by omega
  subst this;rw[zl]at C;rw[z];exact hR w e C
end Go.Ar
namespace Go.Proofs
open Go.Vc
set_option maxRecDepth 100000
def WN.wO:Hn:=.seq (.o 1) (.seq (.o 1) (.block (.loop [(1,.one bN),(2,.one bN),(3,.one bN),(10,.one .b),(11,.one .b)] (.block (.seq (.o 4) (.seq (.seq (.o 2) (.cond (.seq (.o 5) (.leaf)) (.leaf))) .leaf))))))
def WN.Fo (data:Sl)(a:Int)(b:Int)(limit:Int)(cmp:Fv)(σ:Hp)(R:aP):Prop:=
 W6 [bN,bN,bN,.b,.b] (λI=>I a b limit true true σ) λJ (a1:Int) (b1:Int) (limit1:Int) (wasBalanced:Bool) (wasPartitioned:Bool) v=>
 Ar .i64 (b1-a1) λlength=>
 If (decide (length<=12)) (Wr.c data a1 b1 cmp v λv1=>
  R v1)
  False
theorem WN.uy {data:Sl}{a:Int}{b:Int}{limit:Int}{cmp:Fv}{σ:Hp}{R:aP}(hv:WN.Fo data a b limit cmp σ R):WN.c data a b limit cmp σ R:=
 Wa Tryz.func267 (x:=WN.wO) (args:=[.slice data.a data.len data.cap,.int .i64 a,.int .i64 b,.int .i64 limit,.func (.func cmp.f) cmp.first cmp.captured]) (rs:=[]) (R:=R) (R0 hv)
end Go.Proofs
namespace Go.Ar
open Go Go.Vc Go.Proofs
variable {σ:Hp}{Q:Rg}{key:Nat->Nat}
def jt (key:Nat->Nat)(l:List Nat)(h:Nat):List Nat:=l.takeWhile (λg=>decide (key g<key h))++h::l.dropWhile (λg=>decide (key g<key h))
def UR (key:Nat->Nat)(l:List Nat):List Nat:=l.foldl (jt key) []
theorem Dz (l:List Nat)(h:Nat):(jt key l h).Perm (h::l):=by
 unfold jt;refine List.perm_middle.trans ?_;rw[Cr]
theorem TY {l:List Nat}{h:Nat}(hs:l.Pairwise (λa b=>key a<key b))(hne:∀g∈l,key g≠key h):(jt key l h).Pairwise (λa b=>key a<key b):=by
 induction l with
 | nil=>simp[jt]
 | cons g l ih=>
  rw[mR]at hs;unfold jt;by_cases hg:key g<key h
  ·rw[List.takeWhile_cons_of_pos (by simpa using hg),List.dropWhile_cons_of_pos (by simpa using hg),lL,mR];refine⟨λb d=>?_,ih hs.2 λx i=>hne x (kL _ i)⟩;have:=(Dz l h).mem_iff.1 d;rcases zQ.1 this with h1|h1
   ·subst h1;exact hg
   ·exact hs.1 b h1
  ·have e:key h<key g:=by have:=hne g (kX);omega
   rw[CG (by simpa using hg),List.dropWhile_cons_of_neg (by simpa using hg),oZ,mR];refine⟨λb d=>?_,mR.2 hs⟩;rcases zQ.1 d with h1|h1
   ·subst h1;exact e
   ·have:=hs.1 b h1;omega
theorem Er {s:List Nat}{h j:Nat}(hs:s.Pairwise (λa b=>key a<key b))(hj:j<=s.length)(h1:∀g∈s.drop j,key h<key g)(h2:∀g,j≠0->s[j-1]?=some g->key g<key h):jt key s h=s.take j++h::s.drop j:=by
 have x:∀g∈s.take j,key g<key h:=by
  intro g hg;obtain⟨i,p⟩:=zN hg;have w:=(cQ.1 p).1;rw[zO]at w;rw[zY,zB O]at p;have r:s[j-1]?=some (s[j-1]' O):=cM _;have m:=h2 _ O r;by_cases hij:i=j-1
  ·subst hij;rw[r]at p;cases p;exact m
  ·have:=kP.1 hs i (j-1) O O O;have u:s[i]' O=g:=by
    have:=cM (l:=s) (i:=i) O;rw[this]at p;exact Option.some.inj p
   rw[u]at this;omega
 have e:jt key (s.take j++s.drop j) h=s.take j++h::s.drop j:=by
  unfold jt;rw[List.takeWhile_append_of_pos (by intro g hg;simpa using x g hg),List.dropWhile_append_of_pos (by intro g hg;simpa using x g hg)];cases hd:s.drop j with
  | nil=>simp
  | cons g d=>
   have:=h1 g (by rw[hd];exact kX);rw[CG aE,List.dropWhile_cons_of_neg aE,j9]
 rw[nu]at e;exact e
theorem Ks (l:List Nat):(UR key l).Perm l:=by
 have:∀(m acc:List Nat),(m.foldl (jt key) acc).Perm (m++acc):=by
  intro m
  induction m with
  | nil=>intro acc;exact List.Perm.refl _
  | cons h m ih=>
   intro acc;rw[lp];refine(ih _).trans ?_;refine((Dz acc h).append_left m).trans ?_;exact List.perm_middle
 have:=this l []
 rwa [j9]at this
theorem Eg (l:List Nat){i h:Nat}(hh:l[i]?=some h):UR key (l.take (i+1))=jt key (UR key (l.take i)) h:=by
 unfold UR;rw[zg,hh,tB,mN];rfl
theorem GH {l:List Nat}(hn:l.Pairwise (λa b=>key a≠key b)):∀i,(UR key (l.take i)).Pairwise (λa b=>key a<key b)
 | 0=>by simp[UR]
 | i+1=>by
  have ih:=GH hn i;cases hh:l[i]? with
  | none=>
   have:l.take (i+1)=l.take i:=by rw[zg,hh];simp
   rw[this];exact ih
  | some h=>
   rw[Eg l hh];refine TY ih λg m=>?_;have:=(Ks (l.take i)).mem_iff.1 m;obtain⟨a,j⟩:=zN this;have d:=(cQ.1 j).1;rw[zO]at d;rw[zY,zB O]at j;have e:=(cQ.1 hh).1;have:=kP.1 hn a i O e O;rw[(cQ.1 j).2,(cQ.1 hh).2]at this;exact this
theorem OH (l:List Nat)(i x:Nat):(ints l).set i (.int .i64 (x:Int))=ints (l.set i x):=by simp[ints,sZ]
theorem _root_.Go.Vc.bR.yO {s:Sl}{l:List Nat}(h:bR s 1 (ints l) σ Q){i x:Nat}(hx:l[i]?=some x){K:Int->Prop}(hK:K (x:Int)):Ix s.a s.len (i:Int) 1 λa=>gQ (· = σ) bN a K:=by
 have p:=(cQ.1 hx).1;obtain⟨b,o,g,e⟩:=h.fX.cell (EO hx);have j:=h.jU;rw[g];refine ix O O ?_;refine⟨(x:Int),λm d=>?_,hK⟩;rw[d,add_lit,show o+(i:Int).toNat*1=o+i by omega];exact e
theorem _root_.Go.Vc.bR.xC {s:Sl}{l:List Nat}(h:bR s 1 (ints l) σ Q){i x:Nat}(hi:i<l.length){K:aP}(hK:∀σ',Ext Q σ σ'->bR s 1 (ints (l.set i x)) σ' Q->K σ'):Ix s.a s.len (i:Int) 1 λa=>dL a (.int .i64 (x:Int)) σ K:=by
 have m:=h.jU;rcases h.2 with⟨h0,_⟩|⟨b,cs,hq,ha,hb,hle,hcl,ht⟩
 ·omega
 rw[ha];refine ix O O ?_;refine h.st (j:=i) (by rw[QE];exact hi) (λp d=>?_) λσ' e g=>hK σ' e (by rw[←OH];exact g);rw[ha]at d;cases d;rw[add_lit];congr 1;omega
def sP (f:Fv)(key:Nat->Nat)(l:List Nat)(Q:Rg)(σ:Hp):Prop:=∀x∈l,∀y∈l,∀(σ':Hp) (R:aN),Ext Q σ σ'->(∀(d:Int) σ'',bO σ' σ''->(d<0↔key x<key y)->R d σ'') →
 VU Tryz.prog f [.int .i64 (x:Int),.int .i64 (y:Int)] [.one bN] σ' R
theorem Pe (P D:List Nat)(g h:Nat):((P++g::h::D).set (P.length+1) g).set P.length h=P++h::g::D:=by
 rw[Ai _ _ O,show P.length+1-P.length=1 by omega,Ai _ _ (zD _),pW];rfl
set_option maxRecDepth 4000 in
theorem NF {s:Sl}{l:List Nat}{f:Fv}(h:bR s 1 (ints l) σ Q)(hl:l.length<=1000)(hn:l.Pairwise (λa b=>key a≠key b))(hc:sP f key l Q σ){R:aP}
 (hR:∀σ',Ext Q σ σ'->bR s 1 (ints (UR key l)) σ' Q->R σ'):Wr.c s 0 (l.length:Int) f σ R:=by
 refine Wr.o ?_;unfold Wr.v;rcases wR l.length with h0|hpos
 ·have hl0:l=[]:=xW.1 h0;subst hl0;refine ar O O (ZU (a:=bN) (λ(t:Int) v=>t=1/\v=σ) (λ_ _=>0) ⟨rfl,rfl⟩ ?_);rintro t v ⟨rfl,rfl⟩;refine fH aA (hR v (Ext.refl _ _) h)
 refine cA (m:=1) O O (ZU (a:=bN) (λ(t:Int) v=>∃i:Nat,t=(i:Int)/\1<=i/\i<=l.length/\Ext Q σ v/\bR s 1 (ints (UR key (l.take i)++l.drop i)) v Q) (λt _=>l.length-t.toNat) ⟨1,rfl,zD _,hpos,Ext.refl _ _,?_⟩ ?_)
 ·have:UR key (l.take 1)=l.take 1:=by
   cases l with
   | nil=>rfl
   | cons x l=>rfl
  rw[this,nu];exact h
 rintro t v ⟨i,rfl,hi1,hi,e,S⟩;refine cI (λhlt=>?_) λhge=>?_
 ·have r:i<l.length:=by omega
  have hx:l[i]?=some l[i]:=cM r;have E:l.drop i=l[i]::l.drop (i+1):=qh r;have W:=zc r;rw[E]at S;generalize l[i]=x at *;have hsl:(UR key (l.take i)).length=i:=by rw[(Ks _).length_eq,zO];omega
  have F:=GH hn i;have Y:∀g∈UR key (l.take i),g∈l/\key g≠key x:=by
   intro g A;have:=(Ks (l.take i)).mem_iff.1 A;refine⟨mc this,?_⟩;obtain⟨a,Z⟩:=zN this;have V:=(cQ.1 Z).1;rw[zO]at V;rw[zY,zB O]at Z;have:=kP.1 hn a i O r O;rw[(cQ.1 Z).2,(cQ.1 hx).2]at this;exact this
  have N:=Eg (key:=key) l hx;generalize UR key (l.take i)=S0 at *;refine ZU (a:=bN) (λ(t:Int) w=>∃j:Nat,t=(j:Int)/\j<=i/\Ext Q σ w/\bR s 1 (ints (S0.take j++x::(S0.drop j++l.drop (i+1)))) w Q/\∀g∈S0.drop j,key x<key g) (λt _=>t.toNat)
   ⟨i,rfl,zD _,e,?_,λg A=>by rw[Bn O]at A;simp at A⟩ ?_
  ·rw[ng O,Bn O,oZ];exact S
  rintro t w ⟨j,rfl,hj,ew,p,C⟩;have fin:(∀g,j≠0->S0[j-1]?=some g->key g<key x)->Ar .i64 ((i:Int)+1) λi2=>(∃i':Nat,i2=(i':Int)/\1<=i'/\i'<=l.length/\Ext Q σ w/\bR s 1 (ints (UR key (l.take i')++l.drop i')) w Q)/\l.length-i2.toNat<l.length-(i:Int).toNat:=by
   intro h2;refine cA (m:=i+1) O O ⟨⟨i+1,rfl,O,O,ew,?_⟩,O⟩;rw[N,Er F O C h2,kJ,lL];exact p
  refine Jn.intro ⟨(· = w),rfl,cI (λc1=>?_) λc1=>cG rfl (fin λg hj0=>O)⟩;have D:j-1<S0.length:=by omega
  have A:S0[j-1]?=some S0[j-1]:=cM D;have X:S0.take j=S0.take (j-1)++[S0[j-1]]:=by
   have:=zg (l:=S0) (i:=j-1);rw[show j-1+1=j by omega,A]at this;exact this
  have oM:S0.drop (j-1)=S0[j-1]::S0.drop j:=by
   have:=qh (l:=S0) D;rw[show j-1+1=j by omega]at this;exact this
  have P:=Y _ (zc D);generalize S0[j-1]=g at *;have y:S0.take j++x::(S0.drop j++l.drop (i+1))=S0.take (j-1)++g::x::(S0.drop j++l.drop (i+1)):=by rw[X];simp
  have B:(S0.take (j-1)).length=j-1:=by rw[zO];omega
  rw[y]at p;have H:(S0.take (j-1)++g::x::(S0.drop j++l.drop (i+1)))[j]?=some x:=by
   rw[zn O,B,show j-(j-1)=1 by omega];rfl
  have K:(S0.take (j-1)++g::x::(S0.drop j++l.drop (i+1)))[j-1]?=some g:=by
   rw[zn O,B,pW];rfl
  refine p.yO H (cA (m:=j-1) O O (p.yO K (hc x W g P.1 w _ ew λd w2 e2 hd=>?_)));have u:=aI.bK p e2;have G:=ew.trans (bO.to e2);by_cases hlt2:key x<key g
  ·refine cK (zV (hd.2 hlt2)) ⟨(· = w2),rfl,cA (m:=j-1) O O (cA (m:=j-1) O O (u.yO K (u.yO H ?_)))⟩;refine u.xC (i:=j) aE λw3 e3 aa=>aa.xC (i:=j-1) aE λw4 e4 M=>?_;have J:=Pe (S0.take (j-1)) (S0.drop j++l.drop (i+1)) g x;rw[B,show j-1+1=j by omega]at J;rw[J]at M;refine cA (m:=j-1) O O ⟨⟨j-1,rfl,O,(G.trans e3).trans e4,?_,λz L=>?_⟩,O⟩
   ·rw[oM];exact M
   ·rw[oM]at L;rcases zQ.1 L with h1|h1
    ·subst h1;exact hlt2
    ·exact C z h1
  ·refine cG (zh λhh=>hlt2 (hd.1 hh)) ?_;have U:key g<key x:=by have:=P.2;omega
   refine cA (m:=i+1) O O ⟨⟨i+1,rfl,O,O,G,?_⟩,O⟩;rw[N,Er F (j:=j) O C λz _ L=>by rw[A]at L;cases L;exact U];rw[kJ,lL,y];exact u
 ·have:i=l.length:=by omega
  subst this;rw[zl,List.drop_length,j9]at S;exact hR v e S
theorem Oc {e:Int}{K:Int->Prop}(h0:0<=e)(h1:e<256)(hK:K e):Ar .u8 e K:=by
 have a:IntKind.u8.wrap e=e:=by
  unfold IntKind.wrap;simp[IntKind.bits,IntKind.signed];omega
 unfold Ar;rw[a];exact hK
set_option maxRecDepth 100000 in
theorem Sk {n:Nat}(hn:n<=12){R:aN}(hR:∀t,R t σ):ZS.c (n:Int) σ R:=by
 refine ZS.o ?_;unfold ZS.v;refine ZG.o ?_;unfold ZG.v;refine Jn.intro (fH O (Jn.intro (fH O (Jn.intro (fH O ?_)))));refine Oc O O ?_;have a:n=0\/n=1\/n=2\/n=3\/n=4\/n=5\/n=6\/n=7\/n=8\/n=9\/n=10\/n=11\/n=12:=by omega
 rcases a with rfl|rfl|rfl|rfl|rfl|rfl|rfl|rfl|rfl|rfl|rfl|rfl|rfl<;>exact⟨_,O,rfl,hR _⟩
theorem Rv {s:Sl}{l:List Nat}{f:Fv}(h:bR s 1 (ints l) σ Q)(hl:l.length<=12)(hn:l.Pairwise (λa b=>key a≠key b))(hc:sP f key l Q σ){R:aP}
 (hR:∀σ',Ext Q σ σ'->bR s 1 (ints (UR key l)) σ' Q->R σ'):WP.c s f σ R:=by
 refine WP.o ?_;unfold WP.v;have g:=h.jU;rw[g];have j:IntKind.u64.wrap (l.length:Int)=(l.length:Int):=by
  unfold IntKind.wrap;simp[IntKind.bits,IntKind.signed];omega
 unfold Ar;rw[j];refine Sk hl λt=>WN.uy ?_;unfold WN.Fo;refine FT (a:=bN) (bb:=bN) (c:=bN) (d:=.b) (e:=.b) (λ(x:Int) (y:Int) _ _ _ v=>x=0/\y=(l.length:Int)/\v=σ) (λ_ _ _ _ _ _=>0) ⟨rfl,rfl,rfl⟩ ?_;rintro x y z u w v ⟨rfl,rfl,rfl⟩;refine ar O O (lV O ?_);exact NF h O hn hc hR
end Go.Ar
namespace Go.Ar
open Go Go.Vc Go.Proofs
variable {σ:Hp}{F:Rg}{p q:Nat}{st:List Nat}
def jE (st:List Nat)(h:Nat):Nat:=KP st h*100000+used st h*1000+(999-h)
def VD (st:List Nat):List Nat:=(List.range (st.length/16)).filter λh=>0<gA st (16*h) (16*h+16) 2
theorem Gz (st:List Nat)(h:Nat):used st h<=16:=by
 unfold used gA;refine zI vM ?_;rw[zO];omega
theorem yK (st:List Nat)(h:Nat):KP st h<=2:=by
 unfold KP;split
 ·omega
 ·split<;>omega
theorem Jl {g h:Nat}(hg:g<=64)(hh:h<=64):yx st g h=decide (jE st g<jE st h):=by
 have a:=Gz st g;have e:=Gz st h;have d:=yK st g;have b:=yK st h;unfold yx jE;rw[nG];simp only[nV,zF,zS,zX];omega
theorem Ut {α:Type}{P Q:α->Bool}:∀{l:List α},(∀x∈l,P x=Q x)->l.takeWhile P=l.takeWhile Q
 | [],_=>rfl
 | x::l,h=>by
  rw[xE,xE,h x kX,Ut λy hy=>h y (kL _ hy)]
theorem Uz {α:Type}{P Q:α->Bool}:∀{l:List α},(∀x∈l,P x=Q x)->l.dropWhile P=l.dropWhile Q
 | [],_=>rfl
 | x::l,h=>by
  rw[D7,D7,h x kX,Uz λy hy=>h y (kL _ hy)]
theorem VQ (hl:st.length<=1024):∀h∈VD st,16*h+16<=st.length/\h<=64:=by
 intro h hh;unfold VD at hh;have:=(zH.1 hh).1;rw[zU]at this;omega
theorem Uk (hl:st.length<=1024):eM st=UR (jE st) (VD st):=by
 have key:∀(l acc:List Nat),(∀x∈l,x<=64)->(∀x∈acc,x<=64)->l.foldl (mY st) acc=l.foldl (jt (jE st)) acc:=by
  intro l
  induction l with
  | nil=>intro acc _ _;rfl
  | cons h l ih=>
   intro acc h1 h2;have b:=h1 h kX;have e:mY st acc h=jt (jE st) acc h:=by
    unfold mY jt;rw[Ut λg d=>Jl (h2 g d) b,Uz λg d=>Jl (h2 g d) b]
   rw[lp,lp,e];refine ih _ (λx a=>h1 x (kL _ a)) λx a=>?_;rcases zQ.1 ((Dz acc h).mem_iff.1 a)with h3|h3
   ·rw[h3];exact b
   ·exact h2 x h3
 exact key _ [] (λx a=>(VQ hl x a).2) aA
theorem Ps (hl:st.length<=1024):(VD st).Pairwise λa b=>jE st a≠jE st b:=by
 have g:(VD st).Pairwise (· ≠ ·):=List.Pairwise.sublist sq xB;refine List.Pairwise.imp_of_mem (λ{a b} i e d=>?_) g;have j:=(VQ hl a i).2;have m:=(VQ hl b e).2;have:=Gz st a;have:=Gz st b;unfold jE;omega
theorem IA:∀{n m p:Nat},n<=m->(∀j,j<n->st[p+j]?=some 2)->(n=m\/st[p+n]?≠some 2)->gp st p m=n
 | 0,m,p,_,_,he=>by
  unfold gp;rcases he with h|h
  ·rw[←h];simp
  ·cases m with
   | zero=>simp
   | succ m=>
    cases hd:st[p]? with
    | none=>
     have:=List.getElem?_eq_none_iff.1 hd;rw[Bn this];simp
    | some x=>
     have a:=(cQ.1 hd).1;rw[qh a,sy,CG]
     ·rfl
     ·have b:=(cQ.1 hd).2;rw[b];intro h2;rw[zq,hd]at h;exact h (by simpa using h2)
 | n+1,m,p,hm,ha,he=>by
  have d:=ha 0 O;rw[zq]at d;have a:=(cQ.1 d).1;have b:=(cQ.1 d).2;have e:=IA (n:=n) (m:=m-1) (p:=p+1) O (λj g=>by rw[show p+1+j=p+(j+1) by omega];exact ha _ O) (by
   rcases he with h|h
   ·left;omega
   ·right;rw[show p+1+n=p+(n+1) by omega];exact h)
  unfold gp at *;obtain⟨k,rfl⟩:∃k,m=k+1:=⟨m-1,O⟩;rw[qh a,sy,List.takeWhile_cons_of_pos (by rw[b];rfl),zP];rw[DH]at e;rw[e]
theorem Fq (e:Nat):∀(f f' x:Nat),e-x<f->e-x<f'->QX st e f x=QX st e f' x:=by
 intro f
 induction f with
 | zero=>intro f' x h;omega
 | succ f ih=>
  intro f' x h1 h2;obtain⟨g,rfl⟩:∃g,f'=g+1:=⟨f'-1,O⟩;unfold QX;by_cases hc:e<=x
  ·rw[zB hc,zB hc]
  ·rw[zA hc,zA hc];split
   ·exact ih g _ O O
   ·rw[ih g (x+gp st x (e-x)+1) O O]
theorem Ρ {want:Int}{x:Nat}(h:want<=(x:Int)):∀l,gP want x l=[]
 | []=>rfl
 | r::l=>by unfold gP;rw[zB h]
theorem Sa {want:Int}{x:Nat}(h:¬want<=(x:Int))(r:Nat×Nat)(l:List (Nat×Nat)):gP want x (r::l)=r::gP want (x+r.2) l:=by
 show(if want<=(x:Int)then[]else r::gP want (x+r.2) l)=_
 rw[zA h]
theorem WgW {e x f:Nat}(hx:x<e)(hf:e-x<f):QX st e f x=if gp st x (e-x)=0 then QX st e f (x+1)else(x,gp st x (e-x))::QX st e f (x+gp st x (e-x)+1):=by
 obtain⟨g,rfl⟩:∃g,f=g+1:=⟨f-1,O⟩;rw[QX,zA O];split
 ·exact Fq e _ _ _ O O
 ·rw[Fq e g (g+1) _ O O]
theorem MO {e x f:Nat}(hx:e<=x):QX st e f x=[]:=by
 cases f with
 | zero=>rfl
 | succ f=>rw[QX,zB hx]
theorem ι (h:gI σ p q st){n2:Nat}(hb:bX σ n2 [.pointer (some ⟨p,0,none⟩)]){Q:Rg}(hq:¬Q p/\¬Q q/\¬Q n2)(hl:st.length<=1024){l:List Nat}(hm:∀x∈l,16*x+16<=st.length) :
 sP ⟨233,#[],#[.pointer (some ⟨n2,0,none⟩)]⟩ (jE st) l Q σ:=by
 intro x hx y hy σ' R e hR;refine HR (all := #[.int .i64 (x:Int),.int .i64 (y:Int),.pointer (some ⟨n2,0,none⟩)]) (by kernel_rfl) aA ?_;show XL.c (x:Int) (y:Int) ⟨n2,0,none⟩ σ' R;refine XL.o ?_;unfold XL.v;have g:=h.bU e hq.1 hq.2.1;have i:=e.bZ hb hq.2.2;have b:=hm x hx;have d:=hm y hy;have E:=Gz st x;have B:=Gz st y;have D:=yK st x;have A:=yK st y;refine⟨(· = σ'),rfl,⟨_,λm hm=>by rw[hm,i.cell];rfl,⟨_,λm hm=>by rw[hm,i.cell];rfl,?_⟩⟩⟩;refine vp g b λC=>⟨rfl,vp g d λF=>⟨rfl,AY g b (AY g d (ar O O ?_))⟩⟩;refine cU (λs=>?_) λs=>?_
 ·have u:((KP st x:Nat):Int)-((KP st y:Nat):Int)≠0:=by simpa using s
  refine hR _ σ' (Ext.refl _ _) ?_;unfold jE;omega
 ·have z:((KP st x:Nat):Int)-((KP st y:Nat):Int)=0:=by simpa using s
  refine g.iR (v:=1) b (g.iR (v:=1) d ?_);have j:gA st (16*x) (16*x+16) 1=used st x:=rfl;have r:gA st (16*y) (16*y+16) 1=used st y:=rfl;rw[j,r];refine ar O O (cU (λa=>?_) λa=>?_)
  ·have u:((used st x:Nat):Int)-((used st y:Nat):Int)≠0:=by simpa using a
   refine hR _ σ' (Ext.refl _ _) ?_;unfold jE;omega
  ·have w:((used st x:Nat):Int)-((used st y:Nat):Int)=0:=by simpa using a
   refine ar O O (hR _ σ' (Ext.refl _ _) ?_);unfold jE;omega
theorem MY (l:List (Nat×Nat))(r:Nat×Nat):rV (l++[r])=rV l++[.int .i64 (r.1:Int),.int .i64 (r.2:Int)]:=by simp[rV]
theorem VO (n:Nat)(P:Nat->Bool):(List.range (n+1)).filter P=(List.range n).filter P++(if P n then[n]else[]):=by
 rw[zz,uN]
 congr 1
 cases h:P n<;>simp[h]
set_option maxRecDepth 4000 in
theorem WmL (h:gI σ p q st)(want:Int)(h12:(VD st).length<=12){R:Sl->Int->Hp->Prop}(h0:want<0->∀σ',bO σ σ'->R ⟨none,0,0⟩ 1 σ')
 (h1:¬want<0->∀s σ',bO σ σ'->bR s 2 (rV (HN st want)) σ' (λb=>σ.size<=b)->R s 0 σ'):YH.c (aW p) want σ R:=by
 refine YH.o ?_;unfold YH.v;have n2:=h.n2;refine nw (cs:=[.pointer (some ⟨p,0,none⟩)]) λu hz e L=>L.vE rfl (HG (h.bK e) (cG rfl (cI (λhw=>h0 hw u e) λhw=>?_)));have hu:=h.bK e;refine L.vE rfl (Ds hu ?_);refine Kf (a:=.s) (bb:=bN) (λ(A:Sl) (t:Int) v=>∃k:Nat,t=(k:Int)/\k<=st.length/16/\bO u v/\bR A 1 (ints ((List.range k).filter λh=>0<gA st (16*h) (16*h+16) 2)) v (λb=>u.size<=b)) (λ_ t _=>st.length/16-t.toNat)
  ⟨0,rfl,O,Ext.refl _ _,bR.nil _ _ _ _⟩ ?_
 rintro A t v ⟨k,rfl,hk,ev,B⟩;have hv:=hu.bK ev;have hbv:=ev.bZ L id;refine cI (λhlt=>?_) λhge=>?_
 ·have G:16*k+16<=st.length:=by omega
  have hlen:=B.jU;have hfl:((List.range k).filter λh=>0<gA st (16*h) (16*h+16) 2).length<=k:=zI (m5 _ _) (by rw[oQ];omega);refine hbv.vE rfl (vp hv G λc=>hv.iR (v:=2) G (cI (λhc=>?_) λhc=>?_))
  ·have P:0<gA st (16*k) (16*k+16) 2:=by omega
   refine B.push (vs:=[.int .i64 (k:Int)]) (λb L=>zI ev.1 L) rfl rfl (by simp[dN]) O O λs' v' hl' e' S=>?_;refine cA (m:=k+1) O O ⟨⟨k+1,rfl,O,Ext.fresh ev e' λi hi=>hi,?_⟩,O⟩;rw[VO,zB (by simpa using P),Vk];exact S
  ·refine cA (m:=k+1) O O ⟨⟨k+1,rfl,O,ev,?_⟩,O⟩;rw[VO,zA aE,j9];exact B
 have hkk:k=st.length/16:=by omega
 subst hkk;have hplt:=h.lt;have hcmp:=ι hv hbv (Q:=λb=>u.size<=b) ⟨O,O,O⟩ n2 (l:=VD st) λx hx=>(VQ n2 x hx).1;refine Rv B h12 (Ps n2) hcmp λw ew H=>?_;have H:bR A 1 (ints (UR (jE st) (VD st))) w (λb=>u.size<=b):=H;rw[←Uk n2]at H;have E:bO u w:=Ext.fresh ev ew λi hi=>hi;have hT:=hu.bK E;have hbw:=E.bZ L id;have hol:=H.jU;have hmem:∀x∈eM st,16*x+16<=st.length:=λx hx=>by
  rw[Uk n2]at hx;exact(VQ n2 x ((Ks _).mem_iff.1 hx)).1
 have hlen12:(eM st).length<=12:=by rw[Uk n2,(Ks _).length_eq];exact h12
 have hslo:=aH.cut H.fX;refine A9 (a:=.s) (bb:=bN) (c:=bN) (λ(out:Sl) (d:Int) (t:Int) v=>∃(k:Nat) (D:List (Nat×Nat)) (m:Nat),t=(k:Int)/\k<=(eM st).length/\d=(m:Int)/\m<=16*k/\D.length<=16*k/\bO w v/\bR out 2 (rV D) v (λb=>w.size<=b)/\D++gP want m (((eM st).drop k).flatMap (KM st))=HN st want) (λ_ _ t _=>(eM st).length-t.toNat)
  ⟨0,[],0,rfl,O,rfl,O,by simp,Ext.refl _ _,bR.nil _ _ _ _,by simp[HN]⟩ ?_
 rintro out d t v ⟨k,D,m,rfl,hk,rfl,hm,hD,K,U,J⟩;have hTv:=hT.bK K;have hbv2:=K.bZ hbw id;refine cI (λhlt=>?_) λhge=>?_
 ·have G:k<(eM st).length:=by omega
  have hx:(eM st)[k]?=some (eM st)[k]:=cM G;have hxm:=hmem _ (zc G);have oM:(eM st).drop k=(eM st)[k]::(eM st).drop (k+1):=qh G;rw[oM,mO]at J;generalize (eM st)[k]=x at *;have hsl2:=aH.bK hslo K;refine hsl2.oI hx ?_;refine A9 (a:=.s) (bb:=bN) (c:=bN) (λ(out:Sl) (d:Int) (t:Int) z=>∃(i:Nat) (D:List (Nat×Nat)) (m:Nat),t=(i:Int)/\i<=17/\d=(m:Int)/\m<=16*k+i/\m<=16*k+16/\D.length<=16*k+i/\D.length<=16*k+16/\bO w z/\bR out 2 (rV D) z (λb=>w.size<=b)/\D++gP want m (QX st (16*x+16) 17 (16*x+i)++((eM st).drop (k+1)).flatMap (KM st))=HN st want) (λ_ _ t _=>20-t.toNat)
   ⟨0,D,m,rfl,O,rfl,O,O,O,O,K,U,by simpa[KM]using J⟩ ?_
  rintro C g t2 z ⟨i,D2,m2,rfl,hi,rfl,hm1,hm2,hD1,hD2,X,F,r⟩;have hTz:=hT.bK X;have hbz:=X.bZ hbw id;have hlz:C.len=D2.length:=by have:=F.1;rw[yV]at this;omega
  refine cI (λhlt3=>?_) λhge3=>?_
  ·have hi':i<16:=by omega
   refine cI (λhdone=>?_) λhgo=>?_
   ·rw[Ρ O,j9]at r;rw[r]at F;exact h1 hw C z ((Ext.trans e E).trans X) (aI.mono F λb _ L=>by have:=(Ext.trans e E).1;omega)
   ·refine ZU (a:=bN) (λ(t:Int) y=>y=z/\∃n:Nat,t=(n:Int)/\i+n<=16/\∀j,j<n->st[16*x+i+j]?=some 2) (λt _=>20-t.toNat) ⟨rfl,0,rfl,O,λj hj=>O⟩ ?_;rintro t3 y ⟨rfl,n,rfl,hn,N⟩;have M:(i+n=16\/st[16*x+i+n]?≠some 2)->If (decide ((n:Int)>0)) (Ar .i64 ((x:Int)*16) λt73=>Ar .i64 (t73+(i:Int)) λt75=>Nw (.cells #[.int .i64 t75,.int .i64 (n:Int)] 92 (0,0)) y λn78 v13=>
     App C 2 16 92 [.int .i64 0,.int .i64 0] ⟨some n78,1,1⟩ v13 λW v14=>Ar .i64 ((m2:Int)+(n:Int)) λg=>Ar .i64 ((i:Int)+(n:Int)) λi1=>Ar .i64 (i1+1) λi2=>
     (∃(i:Nat) (D:List (Nat×Nat)) (m:Nat),i2=(i:Int)/\i<=17/\g=(m:Int)/\m<=16*k+i/\m<=16*k+16/\D.length<=16*k+i/\D.length<=16*k+16/\bO w v14/\bR W 2 (rV D) v14 (λb=>w.size<=b)/\D++gP want m (QX st (16*x+16) 17 (16*x+i)++((eM st).drop (k+1)).flatMap (KM st))=HN st want)/\20-i2.toNat<20-(i:Int).toNat)
     (Ar .i64 ((i:Int)+1) λi3=>(∃(i:Nat) (D:List (Nat×Nat)) (m:Nat),i3=(i:Int)/\i<=17/\(m2:Int)=(m:Int)/\m<=16*k+i/\m<=16*k+16/\D.length<=16*k+i/\D.length<=16*k+16/\bO w y/\bR C 2 (rV D) y (λb=>w.size<=b)/\D++gP want m (QX st (16*x+16) 17 (16*x+i)++((eM st).drop (k+1)).flatMap (KM st))=HN st want)/\20-i3.toNat<20-(i:Int).toNat):=by
     intro hst;have hrl:gp st (16*x+i) (16*x+16-(16*x+i))=n:=IA O N (by
      rcases hst with h|h
      ·left;omega
      ·right;exact h)
     rw[WgW O O,hrl]at r;refine cI (λP=>?_) λhz0=>?_
     ·rw[zA O,lL,Sa O]at r;refine cA (m:=x*16) O O (cA (m:=16*x+i) O O ?_);refine F.push (vs:=[.int .i64 ((16*x+i:Nat):Int),.int .i64 (n:Int)]) (λb L=>zI X.1 L) rfl rfl (by simp[dN]) O O λs' v' hl' e' S=>?_;refine cA (m:=m2+n) O O (cA (m:=i+n) O O (cA (m:=i+n+1) O O ⟨⟨i+n+1,D2++[(16*x+i,n)],m2+n,rfl,O,rfl,O,O,by simp;omega,?_,Ext.fresh X e' λi hi=>hi,?_,?_⟩,O⟩))
      ·simp;have:D2.length<16*k+16:=by omega
       omega
      ·rw[MY];exact S
      ·rw[←r,kJ,show 16*x+(i+n+1)=16*x+i+n+1 by omega];rfl
     ·rw[zB O]at r;exact cA (m:=i+1) O O ⟨⟨i+1,D2,m2,rfl,O,rfl,O,O,O,O,X,F,r⟩,O⟩
    refine cA (m:=i+n) O O (bY.intro (cI (λhc4=>?_) λhc4=>cG rfl (M (.inl O))));refine hbz.vE rfl (vp hTz hxm λc=>cA (m:=i+n) O O ?_);have hidx:16*x+i+n<st.length:=by omega
    have Z:st[16*x+i+n]?=some st[16*x+i+n]:=cM hidx;have Y:=hTz.part (s:=⟨some ⟨q,16*x,none⟩,16,c⟩) (n:=16) rfl rfl hxm;refine Y.oI (i:=i+n) (x:=st[16*x+i+n]) ?_ ?_
    ·rw[zY,zB O,zo,show 16*x+(i+n)=16*x+i+n by omega];exact Z
    have e2:(((st[16*x+i+n]:Nat):Int)==2)=(st[16*x+i+n]==2):=j3 _ 2;rw[e2];refine cU (λV=>?_) λV=>?_
    ·have h2:st[16*x+i+n]=2:=by simpa using V
     refine cA (m:=n+1) O O ⟨⟨rfl,n+1,rfl,O,λj hj=>?_⟩,O⟩;by_cases hjn:j=n
     ·subst hjn;rw[Z,h2]
     ·exact N j O
    ·have h2:st[16*x+i+n]≠2:=by simpa using V
     refine M (.inr ?_);rw[Z];intro e5;exact h2 (Option.some.inj e5)
  ·rw[MO O,oZ]at r;exact cA (m:=k+1) O O ⟨⟨k+1,D2,m2,rfl,O,rfl,O,O,X,F,r⟩,O⟩
 ·have:k=(eM st).length:=by omega
  subst this;rw[List.drop_length,List.flatMap_nil]at J;have:gP want m []=[]:=rfl;rw[this,j9]at J;rw[J]at U;exact h1 hw out v ((Ext.trans e E).trans K) (aI.mono U λb _ L=>by have:=(Ext.trans e E).1;omega)
end Go.Ar
namespace Go.Ar
open Go Go.Vc Go.Proofs
open Go.Bu (Zf QO Zu iR)
variable {σ:Hp}{F H:Rg}{p hs:Nat}{A:AR}{sp:Sp}{Y:Lay}{T:Nat->Hp->Rg->Prop}
theorem Fm {want:Int}:∀(x:Nat) (l:List (Nat×Nat)),(gP want x l).length<=l.length/\∀r∈gP want x l,r∈l
 | _,[]=>⟨zD _,λr h=>h⟩
 | x,r::l=>by
  have ih:=Fm (want:=want) (x+r.2) l;show(if want<=(x:Int)then[]else r::gP want (x+r.2) l).length<=_/\∀q∈(if want<=(x:Int)then[]else r::gP want (x+r.2) l),_
  split
  ·exact⟨Nat.zero_le _,λq h=>by simp at h⟩
  ·refine⟨by simp only[zP];omega,λq a=>?_⟩;rcases zQ.1 a with h|h
   ·subst h;exact kX
   ·exact kL _ (ih.2 q h)
theorem V6 {st:List Nat}{e:Nat}:∀(f x:Nat),(QX st e f x).length<=f/\∀r∈QX st e f x,r.1+r.2<=e
 | 0,x=>⟨zD _,λr h=>by simp[QX]at h⟩
 | f+1,x=>by
  have h1:=V6 (st:=st) (e:=e) f (x+1);have a:=V6 (st:=st) (e:=e) f (x+gp st x (e-x)+1);have d:gp st x (e-x)<=e-x:=by
   unfold gp;refine zI (List.takeWhile_sublist _).length_le ?_;rw[zO];omega
  unfold QX;split
  ·exact⟨Nat.zero_le _,λr h=>by simp at h⟩
  ·split
   ·exact⟨by have:=h1.1;omega,h1.2⟩
   ·refine⟨by simp only[zP];have:=a.1;omega,λr b=>?_⟩;rcases zQ.1 b with h|h
    ·subst h;simp only;omega
    ·exact a.2 r h
theorem Β {st:List Nat}(hl:st.length<=1024)(want:Int):(HN st want).length<=2000/\∀r∈HN st want,r.1+r.2<=st.length:=by
 have m:∀x∈eM st,16*x+16<=st.length:=λx a=>by
  rw[Uk hl]at a;exact(VQ hl x ((Ks _).mem_iff.1 a)).1
 have j:(eM st).length<=64:=by
  rw[Uk hl,(Ks _).length_eq];refine zI (m5 _ _) ?_;rw[oQ];omega
 have b:∀l:List Nat,(l.flatMap (KM st)).length<=17*l.length:=by
  intro l
  induction l with
  | nil=>simp
  | cons x l ih=>
   rw[mO,zK,zP];have:=(V6 (st:=st) (e:=16*x+16) 17 (16*x)).1;have e:KM st x=QX st (16*x+16) 17 (16*x):=rfl;rw[e];omega
 have g:=Fm (want:=want) 0 ((eM st).flatMap (KM st));refine⟨?_,λr i=>?_⟩
 ·have:=b (eM st);have:=g.1;unfold HN;omega
 ·have:=g.2 r i;rw[rq]at this;obtain⟨x,a,d⟩:=this;have p:=(V6 (st:=st) (e:=16*x+16) 17 (16*x)).2 r d;have s:=m x a;omega
def oB (want:Int):Int:=if want<0 then 1 else 0
theorem Mf (h:W2 σ F H Y A T sp)(want:Int)(h12:(VD (YL A).st).length<=12){R:Int->Int->Hp->Prop}(hR:∀σ' F' H',Fits σ F H F' H'->Ext (gH F H) σ σ'->W2 σ' F' H' Y (dV A sp want).1 T (dV A sp want).2->R ((kq A want:Nat):Int) (oB want) σ') :
 Xk.c (aW Y.p) want σ R:=by
 refine Xk.o ?_;unfold Xk.v;refine KV h.a (cG rfl (cI (λJ=>?_) λJ=>aG (h.a.hd.rS rfl (Ni h.a rfl λv e hA=>?_))))
 ·have e1:dV A sp want=(A,sp):=by unfold dV;rw[zB J]
  have e2:kq A want=0:=by unfold kq;rw[zB J]
  have e3:oB want=1:=by unfold oB;rw[zB J]
  have:=hR σ F H Fits.refl (Ext.refl _ _) (by rw[e1];exact h);rw[e2,e3]at this;exact this
 have e1:dV A sp want=(HN (YL A).st want).foldl fE (YL A,sp):=by unfold dV;rw[zA J];rfl
 have e2:kq A want=((HN (YL A).st want).map (·.2)).sum:=by unfold kq;rw[zA J];rfl
 have e3:oB want=0:=by unfold oB;rw[zA J]
 rw[e1,e2,e3]at hR;have hW:=h.nh e hA;have Z:(YL A).st.length<=1024:=by have:=hA.lay.st;have:=hA.lay.n2;omega
 obtain⟨_,_,q,hT,_⟩:=hW.a.mM;refine aG (hW.a.hd.rP rfl (WmL hT want h12 (λV=>absurd V J) λ_ s v1 D G=>?_));have d:=Β Z want;generalize HN (YL A).st want=P at *;have hlen:s.len=P.length:=by have:=G.1;rw[yV]at this;omega
 have K:=hW.cut.bK D;refine cG rfl (aG (K.a.hd.rP rfl (aG (K.yg ?_))));refine nw (cs:=[.func (.func 192) #[.pointer (some ⟨Y.tr,0,none⟩)] #[],.func (.func 193) #[.pointer (some ⟨Y.hs,0,none⟩)] #[]]) λv2 hz2 Q hb2=>?_;have hW2:=K.bK Q;have esz1:=D.1;have es:∀{a b:Hp},Ext (Cut (Cut H σ) v) a b->Ext (gH F H) a b:=λe=>e.sub λb d=>.inr d.1.1;have ea:∀{a b:Hp},Ext (Cut (Grow F σ) v) a b->Ext (gH (Grow F σ) H) a b:=λe=>e.sub λb d=>.inl d.1;have es':∀{a b:Hp},Ext (Cut (Cut H σ) v) a b->Ext (gH (Grow F σ) H) a b:=λe=>e.sub λb d=>.inr d.1.1;have nF:∀b,v.size<=b->¬Cut (Grow F σ) v b:=λb d hc=>by have:=hc.2;omega
 have nH:∀b,v.size<=b->¬Cut (Cut H σ) v b:=λb d hc=>by have:=hc.2;omega
 have hs2:cR s 2 (rV P) v2 (λb=>v.size<=b):=aH.bK G.fX Q;refine Kf (a:=bN) (bb:=bN) (λ(ab:Int) (t:Int) w=>∃i:Nat,t=(i:Int)/\i<=P.length/\ab=(((P.take i).map (·.2)).sum:Nat)/\((P.take i).map (·.2)).sum<=1024*i/\Ext (gH (Grow F σ) H) v w/\W2 w (Cut (Grow F σ) v) (Cut (Cut H σ) v) Y ((P.take i).foldl fE (YL A,sp)).1 T ((P.take i).foldl fE (YL A,sp)).2/\cR s 2 (rV P) w (λb=>v.size<=b)/\bX w v1.size [.func (.func 192) #[.pointer (some ⟨Y.tr,0,none⟩)] #[],.func (.func 193) #[.pointer (some ⟨Y.hs,0,none⟩)] #[]]) (λ_ t _=>P.length-t.toNat)
  ⟨0,rfl,O,rfl,by simp,(bO.to D).lS Q,hW2,hs2,hb2⟩ ?_
 rintro ab t w ⟨i,rfl,hi,rfl,hsum,ew,N,X,ad⟩;refine cI (λV=>?_) λhge=>?_
 ·have W:i<P.length:=by omega
  have hx:P[i]?=some P[i]:=cM W;have aa:P.take (i+1)=P.take i++[P[i]]:=by rw[zg,hx];rfl
  have hbr:=d.2 _ (zc W);generalize P[i]=r at *;refine FJ X hx ?_;refine nw (cs:=[.int .i64 0,.int .i64 0]) λv4 hz4 e4 hb4=>hb4.s1 aA λv5 o5 b5=>b5.s1 aA λv6 o6 b6=>?_;have C:bO w v6:=Ext.fresh (Ext.fresh e4 o5.ext λi hi=>O) o6.ext λi hi=>by omega
  have b6':bX v6 w.size [.int .i64 (r.1:Int),.int .i64 (r.2:Int)]:=b6;have hW6:=N.bK C;have ac:=C.bZ ad id;have U:=aH.bK X C;have S:v.size<=w.size:=ew.1;have E:v.size<=v1.size:=D.1;refine ZU (a:=bN) (λ(t:Int) z=>∃j:Nat,t=(j:Int)/\j<=2/\Ext (gH (Grow F σ) H) v z/\W2 z (Cut (Grow F σ) v) (Cut (Cut H σ) v) Y (if j=0 then((P.take i).foldl fE (YL A,sp)).1 else(fE ((P.take i).foldl fE (YL A,sp)) r).1) T (if j<=1 then((P.take i).foldl fE (YL A,sp)).2 else(fE ((P.take i).foldl fE (YL A,sp)) r).2)/\cR s 2 (rV P) z (λb=>v.size<=b)/\bX z v1.size [.func (.func 192) #[.pointer (some ⟨Y.tr,0,none⟩)] #[],.func (.func 193) #[.pointer (some ⟨Y.hs,0,none⟩)] #[]]/\bX z w.size [.int .i64 (r.1:Int),.int .i64 (r.2:Int)]) (λt _=>2-t.toNat)
   ⟨0,rfl,O,ew.lS C,hW6,U,ac,b6'⟩ ?_
  rintro t z ⟨j,rfl,hj,ez,u,M,x,L⟩;refine cI (λhlt2=>?_) λhge2=>?_
  ·have hj2:j=0\/j=1:=by omega
   rcases hj2 with rfl|rfl
   ·refine ix O O ?_;refine⟨⟨192,#[.pointer (some ⟨Y.tr,0,none⟩)],#[]⟩,by rw[add_lit,x.cell];rfl,L.rI rfl (L.rI rfl ?_)⟩;refine HR (all := #[.pointer (some ⟨Y.tr,0,none⟩),.int .i64 (r.1:Int),.int .i64 (r.2:Int)]) (by kernel_rfl) aA ?_;rw[zB rfl,zB O]at u;show W9.c (aW Y.tr) (r.1:Int) (r.2:Int) z _;refine u.a.Rel _ _ λz2 t2 B hA5=>?_;refine cA (m:=1) O O ⟨⟨1,rfl,O,ez.trans (ea B),?_,aH.bU M B λb _ d=>nF b d,B.bZ x (nF _ E),B.bZ L (nF _ S)⟩,O⟩;rw[zA O,zB O];exact u.jZ B hA5
   ·refine ix O O ?_;refine⟨⟨193,#[.pointer (some ⟨Y.hs,0,none⟩)],#[]⟩,by rw[add_lit,x.cell];rfl,L.rI rfl (L.rI rfl ?_)⟩;refine HR (all := #[.pointer (some ⟨Y.hs,0,none⟩),.int .i64 (r.1:Int),.int .i64 (r.2:Int)]) (by kernel_rfl) aA ?_;rw[zA O,zB O]at u;show XF.c (aW Y.hs) (r.1:Int) (r.2:Int) z _;refine Tj u.s u.g u.o2 _ _ λz2 B hS5=>?_;refine cA (m:=2) O O ⟨⟨2,rfl,O,ez.trans (es' B),?_,aH.bU M B λb _ d=>nH b d,B.bZ x (nH _ E),B.bZ L (nH _ S)⟩,O⟩;rw[zA O,zA O];exact u.space B hS5
  ·have hjj:j=2:=by omega
   subst hjj;rw[zA O,zA O]at u;have y:((P.take (i+1)).map (·.2)).sum=((P.take i).map (·.2)).sum+r.2:=by rw[aa];simp
   refine L.rI rfl (cA (m:=((P.take i).map (·.2)).sum+r.2) O O (cA (m:=i+1) O O ⟨⟨i+1,rfl,O,by rw[y],by rw[y];omega,ez,?_,M,x⟩,O⟩));rw[aa,mN];exact u
 ·have:i=P.length:=by omega
  subst this;rw[zl]at N ⊢;refine hR w (Cut (Grow F σ) v) (Cut (Cut H σ) v) ⟨λb d=>d.1,λb d=>d.1.1⟩ ((e.sub λb d=>.inl d).fC ew λb d=>?_) N;rcases d with(d|d)|d
  ·exact .inl (.inl d)
  ·exact .inr d
  ·exact .inl (.inr d)
theorem J8 {s:Sl}{l:List Nat}(h:cR s 1 (eX l) σ F){k q:Nat}(hq:l[k]?=some q){K:Option Addr->Prop}(hK:K (some ⟨q,0,none⟩)):Ix s.a s.len (k:Int) 1 λa=>gQ (λm=>bO σ m) .p a K:=by
 have r:=(cQ.1 hq).1;obtain⟨b,o,i,d⟩:=h.cell (j:=k) (v:=.pointer (some ⟨q,0,none⟩)) (by simp[eX,hq]);have e:=h.1;simp[eX]at e;rw[i];refine ix O O ⟨_,λm g=>?_,hK⟩;rw[add_lit,show o+(k:Int).toNat*1=o+k by omega,QI g (QH d) id];exact d
theorem cX.xy (h:cX σ F Y A T){k q:Nat}(hq:Y.fJ[k]?=some q){K:Option Addr->Prop}(hK:K (some ⟨q,0,none⟩)):Ix Y.dG.a Y.dG.len (k:Int) 1 λa=>gQ (λm=>bO σ m) .p a K:=by
 obtain⟨G,d,b⟩:=h.sep.get .dG;exact J8 (bR.fX b) hq hK
theorem cX.wj (h:cX σ F Y A T){k q:Nat}(hq:Y.gC[k]?=some q){K:Option Addr->Prop}(hK:K (some ⟨q,0,none⟩)):Ix Y.cL.a Y.cL.len (k:Int) 1 λa=>gQ (λm=>bO σ m) .p a K:=by
 obtain⟨G,d,b⟩:=h.sep.get .cL;exact J8 (bR.fX b) hq hK
theorem cX.uu (h:cX σ F Y A T){i:Nat}{c:CK}{x:c.T}(hx:(kW Y)[i]?=some (c.v x)){K:c.T->Prop}(hK:K x):gQ (λm=>bO σ m) c (Addr.add ⟨Y.p,0,none⟩ i) K:=by
 refine⟨x,λm a=>?_,hK⟩;rw[add_lit,(Ext.bZ a h.hd id).cell,zG];exact hx
theorem cX.cE (h:cX σ F Y A (cF A Y)){k q:Nat}{c:bW}{t:fP}(h1:Y.gC[k]?=some q)(h2:A.tb[k]?=some c)(h3:A.cE[k]?=some t):∃G:Rg,(∀b,G b->F b)/\iD σ G q c.batch A.room t:=by
 obtain⟨G,a,d,_⟩:=h.uo h1 h2 h3;exact⟨G,a,d⟩
theorem MC {c:bW}{s:Sl}{tb:List bW}(h:cR s 3 (gg tb) σ F){k ty:Nat}(hc:tb[k]?=some c){K:Addr->Hp->Prop}(hK:∀v,bO σ v->bX v σ.size [.int .i64 (c.size:Int),.int .i64 (c.aF:Int),.int .i64 (c.batch:Int)]->K ⟨σ.size,0,none⟩ v) :
 Ix s.a s.len (k:Int) 3 λa31=>fF .i64 (a31.add 0) σ λt32=>fF .i64 (a31.add 1) σ λt321=>fF .i64 (a31.add 2) σ λt322=>
  Nw (.cells #[.int .i64 0,.int .i64 0,.int .i64 0] ty (0,0)) σ λn14 v2=>dL (n14.add 0) (.int .i64 t32) v2 λv3=>dL (n14.add 1) (.int .i64 t321) v3 λv4=>dL (n14.add 2) (.int .i64 t322) v4 λv5=>K n14 v5:=by
 have g:=HJ hc;have E:=(cQ.1 hc).1;obtain⟨b,o,m,r⟩:=h.cell g.1;obtain⟨D,o1,d,z⟩:=h.cell g.2.1;obtain⟨p,o2,e,A⟩:=h.cell g.2.2;rw[m]at d e;cases d;cases e;have y:=h.1;rw[Kd]at y;rw[m];refine ix O O ?_;rw[add_lit,show o+(k:Int).toNat*3=o+3*k by omega];refine dS (by simpa using r) (dS (by rw[qn];exact z) (dS (by rw[qn];exact A) ?_));refine nw (cs:=[.int .i64 0,.int .i64 0,.int .i64 0]) λv2 B C p=>p.s1 aA λv3 o3 w=>w.s1 aA λv4 o4 x=>x.s1 aA λv5 o5 u=>?_;exact hK v5 (Ext.fresh (Ext.fresh (Ext.fresh C o3.ext λi j=>O) o4.ext λi j=>O) o5.ext λi j=>O) u
def part {α:Type}(f:bW->α->Nat)(tb:List bW)(l:List α)(i:Nat):Nat:=(((tb.zip l).take i).map λx=>f x.1 x.2).sum
theorem HO {α:Type}{f:bW->α->Nat}{tb:List bW}{l:List α}{i:Nat}{c:bW}{x:α}(hc:tb[i]?=some c)(hx:l[i]?=some x):part f tb l (i+1)=part f tb l i+f c x:=by
 unfold part;have:(tb.zip l)[i]?=some (c,x):=by rw[List.getElem?_zip_eq_some];exact⟨hc,hx⟩
 rw[zg,this];simp
theorem G7 {α:Type}{f:bW->α->Nat}{tb:List bW}{l:List α}(h:l.length=tb.length):part f tb l tb.length=((tb.zip l).map λx=>f x.1 x.2).sum:=by
 unfold part;rw[ng (by rw[List.length_zip];omega)]
theorem A8:∀{l:List (Int×Int)} {n x:Int},(l.map (·.1)).Nodup->(n,x)∈l->(l.map (·.2)).sum=x+((l.filter λy=>!(y.1==n)).map (·.2)).sum
 | [],_,_,_,h=>by simp at h
 | y::l,n,x,hn,h=>by
  simp only[zJ,zp]at hn;rcases zQ.1 h with h1|h1
  ·subst h1;have:l.filter (λy=>!(y.1==n))=l:=by
    rw[oz];intro z hz;have:z.1≠n:=λe=>hn.1 (zC.2 ⟨z,hz,e⟩);simpa using this
   rw[uB aA,this];simp
  ·have a:y.1≠n:=λe=>hn.1 (zC.2 ⟨_,h1,e.symm⟩);rw[tF (by simpa using a)];simp only[zJ,zm];rw[A8 hn.2 h1];omega
theorem Nu (l:List (Nat×Nat)):((iA l).map (·.2)).sum=(((l.map (·.2)).sum:Nat):Int):=by
 induction l with
 | nil=>rfl
 | cons x l ih=>
  have:iA (x::l)=((x.1:Int),(x.2:Int))::iA l:=rfl;rw[this];simp only[zJ,zm];rw[ih];omega
theorem TZ (h:cX σ F Y A (cF A Y))(hr:Uh A<=1000000){R:Int->Int->Int->Int->Int->Int->Hp->Prop}
 (hR:∀σ',bO σ σ'->Uf A<=40000000000/\pX A<=40000000000/\Uu A<=40000000000/\Ud A<=40000000000->R (Uf A:Nat) (pX A:Nat) (Uu A:Nat) (Ud A:Nat) (Uh A:Nat) (iR A.n A.S:Nat) σ'):X5.c (aW Y.p) σ R:=by
 refine X5.o ?_;unfold X5.v;have htl:=h.oE;have ht2:=h.lay.oC;refine KV h (cG rfl (aG (h.hd.rS rfl ?_)));refine FT (a:=bN) (bb:=bN) (c:=bN) (d:=bN) (e:=bN) (λ(j room C B t:Int) v=>∃i:Nat,t=(i:Int)/\i<=A.tb.length/\bO σ v/\j=(part (λc (t:fP)=>t.bs.flatten.length*c.size) A.tb A.cE i:Nat)/\room=(part (λc b=>Kv b*c.size) A.tb A.cC i:Nat)/\C=(part (λc (b:List cH)=>b.length*c.tail) A.tb A.cC i:Nat)/\B=(part (λc (b:List cH)=>b.length*c.aF) A.tb A.cC i:Nat) ∧
  part (λc (t:fP)=>t.bs.flatten.length*c.size) A.tb A.cE i<=i*1000000000/\part (λc b=>Kv b*c.size) A.tb A.cC i<=i*1000000000/\part (λc (b:List cH)=>b.length*c.tail) A.tb A.cC i<=i*1000000000/\part (λc (b:List cH)=>b.length*c.aF) A.tb A.cC i<=i*1000000000) (λ_ _ _ _ t _=>A.tb.length-t.toNat)
  ⟨0,rfl,O,Ext.refl _ _,by simp[part],by simp[part],by simp[part],by simp[part],by simp[part],by simp[part],by simp[part],by simp[part]⟩ ?_
 rintro j room C B t v ⟨i,rfl,hi,e,rfl,rfl,rfl,rfl,b1,b2,b3,b4⟩;have hv:=h.bK e;refine cI (λhlt=>?_) λhge=>?_
 ·have hi':i<A.tb.length:=by simp only at hlt;omega
  obtain⟨c,b,q,t,r,L,D,hq,ht,hrr,hok⟩:=h.at_ hi';obtain⟨G,hG,htab⟩:=hv.sep.get .dB;refine MC htab L λv5 e5 b5=>?_;have h5:=hv.bK e5;refine b5.rI rfl (b5.rI rfl (b5.rI rfl (Ep hok λv6 e6=>?_)));have h6:=h5.bK e6;have b6:=e6.bZ b5 id;obtain⟨G1,ps,_,hC⟩:=h6.cC hq L D;refine aG (h6.hd.rS rfl (h6.ko hq (Tn hC λs v7 e7 hrow=>?_)));have h7:=h6.bK e7;have b7:=e7.bZ b6 id;have hsl:s.len=b.length:=by have:=hrow.1;rw[Dp,za]at this;omega
  refine⟨λm=>bO v7 m,Ext.refl _ _,aG (h7.uu (c:=.s) (x:=Y.cL) rfl (h7.wj hrr ⟨(c.size:Int),λm W=>by rw[add_lit,(Ext.bZ W b7 id).cell];rfl,?_⟩))⟩;obtain⟨G2,_,Z⟩:=h7.cE hrr L ht;refine Rw Z λs2 v8 e8 hl8 hrow8=>⟨e8,?_⟩;have h8:=h7.bK e8;have b8:=e8.bZ b7 id;have N:=Z.flat;have U:=hC.room;have K:=hC.ly;obtain⟨hz1,E,_,hp1,kB,_⟩:=hok;have hm1:t.bs.flatten.length*c.size<=1000000000:=zI (kO N E) O;have hm2:Kv b*c.size<=1000000000:=zI (kO U E) O;have M:c.tail<=1024:=by unfold bW.tail;omega
  have hm3:b.length*c.tail<=1000000000:=zI (kO K M) O;have hm4:b.length*c.aF<=1000000000:=zI (kO K kB) O;have s1:=HO (f:=λc (t:fP)=>t.bs.flatten.length*c.size) L ht;have P:=HO (f:=λc b=>Kv b*c.size) L D;have s3:=HO (f:=λc (b:List cH)=>b.length*c.tail) L D;have s4:=HO (f:=λc (b:List cH)=>b.length*c.aF) L D;refine cA (m:=t.bs.flatten.length*c.size) (by rw[hl8];simp) O (cA (m:=part (λc (t:fP)=>t.bs.flatten.length*c.size) A.tb A.cE (i+1)) (by rw[s1];simp) (by rw[s1];omega) ?_);refine⟨λm=>bO v8 m,Ext.refl _ _,aG (h8.uu (c:=.s) (x:=Y.dG) rfl (h8.xy hq ⟨(c.size:Int),λm W=>by rw[add_lit,(Ext.bZ W b8 id).cell];rfl,?_⟩))⟩;obtain⟨G3,ps3,_,hC8⟩:=h8.cC hq L D;refine SW hC8 λv9 e9=>⟨e9,?_⟩;have b9:=e9.bZ b8 id;refine cA (m:=Kv b*c.size) aA O (cA (m:=part (λc b=>Kv b*c.size) A.tb A.cC (i+1)) (by rw[P];simp) (by rw[P];omega) ?_);refine cA (m:=b.length*c.tail) (by rw[hsl];simp) O (cA (m:=part (λc (b:List cH)=>b.length*c.tail) A.tb A.cC (i+1)) (by rw[s3];simp) (by rw[s3];omega) ?_);refine b9.rI rfl (cA (m:=b.length*c.aF) (by rw[hsl];simp) O (cA (m:=part (λc (b:List cH)=>b.length*c.aF) A.tb A.cC (i+1)) (by rw[s4];simp) (by rw[s4];omega) ?_));refine cA (m:=i+1) O O ⟨⟨i+1,rfl,O,((((Ext.trans e e5).trans e6).trans e7).trans e8).trans e9,rfl,rfl,rfl,rfl,by rw[s1];omega,by rw[P];omega,by rw[s3];omega,by rw[s4];omega⟩,O⟩
 ·have:i=A.tb.length:=by simp only at hge;omega
  subst this;obtain⟨_,W,_⟩:=hv.pU;have hsum:=Nu A.runs;refine aG (hv.hd.rM rfl (tj (c:=bN) (a:=bN) (x0:=(0:Int)) W (λg (z:Int) w=>bO v w/\(g.map (·.1)).Nodup/\(∀y∈g,0<=(y.2:Int))/\0<=z/\z+(g.map (·.2)).sum=((Uh A:Nat):Int)) (λw hz V=>⟨V,W.nodup,λy hy=>?_,O,?_⟩) (λz w hI=>?_) ?_))
  ·obtain⟨r,_,rfl⟩:=zC.1 hy;show(0:Int)<=(r.2:Int);omega
  ·rw[Int.zero_add];exact hsum
  ·obtain⟨V,_,_,_,hz⟩:=hI;have hz':z=((Uh A:Nat):Int):=by simpa using hz
   subst hz';have hw:=hv.bK V;obtain⟨sb,ms,hB,_⟩:=hw.free;refine aG (hw.hd.rP rfl (Go.Bu.rF hB ?_));rw[G7 h.lay.cE]at b1 ⊢;rw[G7 h.lay.cC]at b2 b3 b4 ⊢;rw[G7 h.lay.cC,G7 h.lay.cC];have hcM:Uf A<=A.tb.length*1000000000:=b1;have hcR:pX A<=A.tb.length*1000000000:=b2;have hcT:Uu A<=A.tb.length*1000000000:=b3;have hcS:Ud A<=A.tb.length*1000000000:=b4;exact hR w (Ext.trans e V) ⟨O,O,O,O⟩
  ·rintro g n (x:Int) (z:Int) w w' J ⟨V,hn,H,X,hz⟩ hx ho hlt hJ;have hd:=A8 hn hx;have hxp:0<=x:=H _ hx;have Q:0<=((g.filter λy=>!(y.1==n)).map (·.2)).sum:=by
    have:∀l:List (Int×Int),(∀y∈l,0<=y.2)->0<=(l.map (·.2)).sum:=by
     intro l
     induction l with
     | nil=>intro _;simp
     | cons y l ih=>
      intro hl;have:=ih λu hu=>hl u (kL _ hu);have:=hl y kX;simp only[zJ,zm];omega
    exact this _ λy hy=>H y (zH.1 hy).1
   have E:z+x+((g.filter λy=>!(y.1==n)).map (·.2)).sum=((Uh A:Nat):Int):=by
    exact(Int.add_assoc z x _).trans ((congrArg (λ(u:Int)=>z+u) hd.symm).trans hz)
   have hxi:(0:Int)<=x:=hxp;have hup:z+x<=((Uh A:Nat):Int):=Int.le_trans (Int.le_add_of_nonneg_right Q) (Int.le_of_eq E);have hlo:(0:Int)<=z+x:=Int.add_nonneg X hxi;refine ar ?_ ?_ (hJ (z+x) w' rfl rfl ⟨Ext.fresh V ho.ext λi hi=>O,?_,λy hy=>H y (zH.1 hy).1,?_,E⟩)
   ·show -9223372036854775808<=(z:Int)+(x:Int);omega
   ·show(z:Int)+(x:Int)<=9223372036854775807;omega
   ·exact List.Nodup.sublist (List.filter_sublist.map _) hn
   ·exact Int.add_nonneg X hxi
end Go.Ar