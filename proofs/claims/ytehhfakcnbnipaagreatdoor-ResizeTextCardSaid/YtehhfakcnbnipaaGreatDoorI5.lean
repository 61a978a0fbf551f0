/- Texts joined. -/
import Derived.Test.YtehhfakcnbnipaaGreatDoorI4
set_option linter.unusedVariables false
set_option linter.unusedSimpArgs false
namespace Go.Ar
open Go Go.Vc Go.Proofs
variable {U:Hp}{F G:Rg}{Y:LayC}{tb:List Cls}{bud:Nat}{ls:List Li}{b k:Nat}{l:Li}{c:Cls}
theorem Wm0 {s:Sl}{xs:List (Int×Int×Int)}(ha:Acts U s xs)(budget:Int){R:Option Addr->Int->Hp->Prop}(h0:Qo xs=false->∀σ',Ext0 U σ'->R none 2 σ')
 (h1:Qo xs=true->¬(0<=budget/\budget<=65536)->∀σ',Ext0 U σ'->R none 1 σ')
 (h2:Qo xs=true->0<=budget->budget<=65536->∀σ' Y,Ext0 U σ'->CaY σ' (λq=>U.size<=q) Y (xs.map Z9) budget.toNat (List.replicate (xs.map Z9).length liN)->R (some ⟨Y.p,0,none⟩) 0 σ') :
 QW.c s budget U R:=by
 refine QW.o ?_;unfold QW.v;refine GF ha λv e=>?_;cases hv:Qo xs
 ·exact ifT rfl (h0 hv v e)
 refine ifF rfl (JnB.intro (ifD (λc1=>ifT rfl (h1 hv (by omega) v e)) λc1=>ifD (λc2=>h1 hv (by omega) v e) λc2=>?_));have hav:=ZX ha e;have hva:=(Z7 xs).1 hv;refine V6 hav hv λtab v1 e1 htab=>WhR λv2 z2 e2 hm=>nw (cs:=[.slice tab.a tab.len tab.cap,.int .i64 budget,.map (some v1.size)]) λv3 z3 e3 hb=>?_;have s1:=e1.1;have s0:=e.1;refine h2 hv (by omega) (by omega) v3 ⟨v2.size,v1.size,tab,[]⟩ (((e.trans e1).trans e2).trans e3) ⟨by rw[zh];omega,λc hc=>?_,by simp,by simp,?_⟩
 ·obtain⟨i,hi⟩:=zM hc;exact(Hm hav hv hi).2
 ·refine⟨λq=>if q=v2.size then .hd else if q=v1.size then .mp else .tab,λi=>?_⟩
  cases i with
  | hd=>
   refine⟨⟨by show U.size<=v2.size;omega,by simp⟩,?_⟩;have:((budget.toNat:Nat):Int)=budget:=by omega
   simp only[hdC,this];exact hb
  | mp=>
   refine⟨⟨by show U.size<=v1.size;omega,?_⟩,e3.mapL (hm .i64 .p) id⟩;show(if v1.size=v2.size then LbC.hd else if v1.size=v1.size then LbC.mp else LbC.tab)=.mp
   rw[zA (by omega),zB rfl]
  | tab=>
   have h3:=(SlR.loc _ _ _).keep0 ((SlR.loc _ _ _).keep0 ((SlR.loc _ _ _).mono htab (G:=λq=>v.size<=q/\q<v1.size) λq hq hf=>⟨hf,hq⟩) e2) e3;refine(SlR.loc _ _ _).mono h3 λq _ hq=>⟨by omega,?_⟩;show(if q=v2.size then LbC.hd else if q=v1.size then LbC.mp else LbC.tab)=.tab
   rw[zA (by omega),zA (by omega)]
  | li k=>
   simp only[CC,LiK,lkp,List.find?_nil,Option.map_none];cases hk:(List.replicate (xs.map Z9).length liN)[k]? with
   | none=>trivial
   | some l=>simp only[zAM]at hk;split at hk<;>simp_all
def sumK (f:Nat->Nat)(l:List (Int×Option Addr)):Nat:=(l.map λx=>f x.1.toNat).sum
theorem We6 (f:Nat->Nat):∀{l:List (Int×Option Addr)} {n:Int} {x:Option Addr},(l.map (·.1)).Nodup->(n,x)∈l->sumK f l=f n.toNat+sumK f (l.filter λy=>!(y.1==n))
 | [],_,_,_,h=>by simp at h
 | y::l,n,x,hn,h=>by
  simp only[zW,zq]at hn;rcases zR.1 h with h1|h1
  ·subst h1;have:l.filter (λy=>!(y.1==n))=l:=by
    rw[zCB];intro z hz;have:z.1≠n:=λe=>hn.1 (zE.2 ⟨z,hz,e⟩);simpa using this
   rw[zGL (by simp),this];simp[sumK]
  ·have hne:y.1≠n:=λe=>hn.1 (zE.2 ⟨_,h1,e.symm⟩);rw[zGM (by simpa using hne)];have:=We6 f hn.2 h1;simp only[sumK,zW,zAU]at *;omega
theorem Wmh (n a v:Nat):((List.range n).map λj=>if j=a then v else 0).sum=if a<n then v else 0:=by
 induction n with
 | zero=>simp
 | succ n ih=>
  rw[zr,zAQ,zFK,ih];by_cases h:a=n
  ·subst h;simp
  ·by_cases h2:a<n
   ·rw[zB h2,zB (by omega)];simp[Ne.symm h]
   ·rw[zA h2,zA (by omega)];simp[Ne.symm h]
theorem Wl7 (l:List Nat)(f g:Nat->Nat):(l.map λj=>f j+g j).sum=(l.map f).sum+(l.map g).sum:=by
 induction l with
 | nil=>rfl
 | cons x l ih=>simp only[zW,zAU,ih];omega
theorem WeJ (f:Nat->Nat)(n:Nat):∀(ps:List (Nat×Nat)),(ps.map (·.1)).Nodup->(∀x∈ps,x.1<n)->(ps.map λx=>f x.1).sum=((List.range n).map λj=>if j∈ps.map (·.1)then f j else 0).sum
 | [],_,_=>by
  have:((List.range n).map λj=>if j∈([]:List (Nat×Nat)).map (·.1)then f j else 0)=(List.range n).map λ_=>0:=by simp
  rw[this]
  induction n with
  | zero=>rfl
  | succ n ih=>rw[zr,zAQ,zFK];simp at *;exact ih
 | x::ps,hn,hl=>by
  simp only[zW,zq]at hn;have ih:=WeJ f n ps hn.2 λy hy=>hl y (by simp[hy]);rw[zW,zAU,ih];have e:((List.range n).map λj=>if j∈(x::ps).map (·.1)then f j else 0)=(List.range n).map λj=>(if j=x.1 then f x.1 else 0)+(if j∈ps.map (·.1)then f j else 0):=by
   apply zy;intro j _;by_cases hj:j=x.1
   ·subst hj;rw[zB (by simp),zB rfl,zA hn.1];rfl
   ·rw[zA hj,zJ];by_cases hm:j∈ps.map (·.1)
    ·rw[zB hm,zB (by simp only[zW,zR];exact .inr hm)]
    ·rw[zA hm,zA (by simp only[zW,zR,not_or];exact⟨hj,hm⟩)]
  rw[e,Wl7,Wmh,zB (hl x (by simp))]
def byK (tb:List Cls)(ls:List Li)(k:Nat):Nat:=match tb[k]?,ls[k]? with
 | some c,some l=>c.size*l.os.length
 | _,_=>0
theorem Waw:∀(tb:List Cls) (ls:List Li),ls.length=tb.length->Q4 tb ls=((List.range tb.length).map (byK tb ls)).sum
 | [],[],_=>rfl
 | c::tb,l::ls,h=>by
  have ih:=Waw tb ls (by simpa using h);simp only[Q4]at ih;simp only[Q4,List.zip_cons_cons,zW,zAU,zV,ih,zGF,zAP];rfl
 | [],_::_,h=>by simp at h
 | _::_,[],h=>by simp at h
theorem CaY.nil (h:CaY U F Y tb bud ls)(hf:lkp Y.ps k=none)(hl:ls[k]?=some l):l=liN:=by
 obtain⟨G,_,hi⟩:=h.sep.get (.li k);simp only[CC,LiK,hf,hl]at hi;exact hi
theorem CaY.keysN (h:CaY U F Y tb bud ls):(Y.ps.map (·.1)).Nodup:=by
 have:=h.map.nodup;have e:(ptI Y.ps).map (·.1)=(Y.ps.map (·.1)).map λ(n:Nat)=>(n:Int):=by simp[ptI]
 rw[e]at this;exact List.Pairwise.of_map (λ(n:Nat)=>(n:Int)) (λa b hab e=>hab (by rw[e])) this
theorem CaY.bytes (h:CaY U F Y tb bud ls):sumK (byK tb ls) (ptI Y.ps)=Q4 tb ls:=by
 have e1:sumK (byK tb ls) (ptI Y.ps)=(Y.ps.map λx=>byK tb ls x.1).sum:=by simp[sumK,ptI,Function.comp_def]
 rw[e1,WeJ _ tb.length _ h.keysN h.keys,Waw _ _ h.len]
 congr 1
 apply zy;intro j hj;have hj':=zb.1 hj;by_cases hm:j∈Y.ps.map (·.1)
 ·rw[zB hm]
 ·rw[zA hm];have hf:lkp Y.ps j=none:=by
   unfold lkp;simp only[zDR,zBW,zY];exact λx hx e=>hm (zE.2 ⟨x,hx,e⟩)
  have hl:ls[j]?=some (ls[j]'(by rw[h.len];exact hj')):=gGe _;have:=h.nil hf hl;unfold byK;rw[gGe hj',hl,this];rfl
theorem Wcy:∀(tb:List Cls) (ls:List Li),(∀c∈tb,c.ok)->(∀l∈ls,LiOk l)->Q4 tb ls<=tb.length*131072
 | [],_,_,_=>by simp[Q4]
 | _::_,[],_,_=>by simp[Q4]
 | c::tb,l::ls,h1,h2=>by
  have ih:=Wcy tb ls (λc hc=>h1 c (by simp[hc])) (λl hl=>h2 l (by simp[hl]));simp only[Q4]at ih;simp only[Q4,List.zip_cons_cons,zW,zAU,zV];have hc:=h1 c (by simp);unfold Cls.ok at hc;have h3:=(h2 l (by simp)).many;have h4:c.size*l.os.length<=512*256:=zAJ (by omega) h3;omega
theorem WgM (h:CaY U F Y tb bud ls)(hok:∀l∈ls,LiOk l):Q4 tb ls<=5242880:=by
 have h1:=Wcy tb ls h.ok hok;have h2:=h.tb1;omega
theorem CaY.lok (h:CaY U F Y tb bud ls):∀l∈ls,LiOk l:=by
 intro l hl;obtain⟨k,hk⟩:=zM hl;cases hf:lkp Y.ps k with
 | none=>rw[h.nil hf hk];exact LiOk.nil
 | some b=>
  obtain⟨G,_,hL,_⟩:=h.liS hf hk;exact hL.2.1
theorem WeR (h:CaY U F Y tb bud ls){R:Int->Hp->Prop}(hR:∀σ',Ext0 U σ'->R ((Q4 tb ls:Nat):Int) σ'):XQ.c (some ⟨Y.p,0,none⟩) U R:=by
 refine XQ.o ?_;unfold XQ.v;have hle:=WgM h h.lok;have hT:=h.bytes;refine Hq h (ifF rfl (nilP (h.hd.rM rfl ?_)));refine rng1 (a:=.i .i64) h.map (λtodo (z:Int) v=>∃n:Nat,z=(n:Int)/\n+sumK (byK tb ls) todo=Q4 tb ls/\(∀e∈todo,e∈ptI Y.ps)/\(todo.map (·.1)).Nodup/\Ext0 U v) ?_ ?_ ?_
 ·intro v hz e;exact⟨0,rfl,by rw[hT];omega,λe he=>he,h.map.nodup,e⟩
 ·rintro z v ⟨n,rfl,hs,_,_,e⟩;simp only[sumK,zDI,List.sum_nil,zo]at hs;rw[hs];exact hR v e
 ·rintro todo n x z v v' J ⟨m,rfl,hs,hsub,hnd,e⟩ hx ho hlt hJ;have e':Ext0 U v':=e.only ho (.inr (zC _));have h':=h.keep0 e';have hmem:=hsub _ hx;simp only[ptI,zE,Prod.mk.injEq]at hmem;obtain⟨⟨k,b⟩,hkb,hk1,hx1⟩:=hmem;simp only at hk1 hx1;subst hk1;subst hx1;have hk:=h.keys _ hkb;simp only at hk;have hc:tb[k]?=some tb[k]:=gGe hk;have hl:ls[k]?=some (ls[k]'(by rw[h.len];exact hk)):=gGe _;generalize tb[k]=c at hc;generalize (ls[k]'(by rw[h.len];exact hk))=l at hl;have hlk:lkp Y.ps k=some b:=Wll h.map.nodup hkb;obtain⟨G,hG,hL,_⟩:=h'.liS hlk hl;obtain⟨_,hok,s,hbk,hss,hcap⟩:=hL;have hsl:s.len=l.os.length:=by have:=hss.1;simp[WB]at this;omega
  have hb:byK tb ls k=c.size*l.os.length:=by unfold byK;rw[hc,hl]
  have hdel:=We6 (byK tb ls) hnd hx;simp only[iTn]at hdel;refine nilP (h'.hd.rS rfl (Gf h'.tabS hc (d:=0) (by omega) ?_));simp only[zO];refine nilP (hbk.rS rfl ?_);have hfin:m+c.size*l.os.length+sumK (byK tb ls) (List.filter (λy=>!(y.1==(k:Int))) todo)=Q4 tb ls:=by
   have h3:=hdel;rw[hb]at h3;rw[←hs,h3,zEG]
  refine arN (m:=c.size*l.os.length) (by simp only[hsl];simp) (by omega) (arN (m:=m+c.size*l.os.length) (by omega) (by omega) (hJ _ v' rfl rfl ⟨_,rfl,hfin,λy hy=>hsub y (zG.1 hy).1,hnd.sublist (List.filter_sublist.map _),e'⟩))
theorem WmK (h:CaY U F Y tb bud ls){R:Bool->Hp->Prop}(hR:∀σ',Ext0 U σ'->R (decide (bud<Q4 tb ls)) σ'):X2.c (some ⟨Y.p,0,none⟩) U R:=by
 refine X2.o ?_;unfold X2.v;have e:decide (((Q4 tb ls:Nat):Int)>(bud:Int))=decide (bud<Q4 tb ls):=by rw[decide_eq_decide];omega
 refine Jn.intro (Hq h (ifT rfl (nilP ⟨WeR h λσ' e'=>(e'.blk h.hd id).rI rfl ?_,h.hd.rI rfl (WeR h λσ' e'=>?_)⟩)))
 ·rw[e];exact hR σ' e'
 ·rw[e];exact hR σ' e'
def Wm3 (f:Cls->Li->List Int×Li)(fn:Nat):Prop:=∀{U:Hp} {G:Rg} {b:Nat} {l:Li} {c:Cls},LiR b l U G->c.ok->∀{R:Sl->Hp->Prop},
 (∀s z σ',Ext (· = b) U σ'->U.size<=z->RowR s 1 (WB (f c l).1) σ' (λq=>U.size<=q/\q<z)->LiR b (f c l).2 σ' (λq=>q=b\/z<=q)->R s σ') →
 V1 Tryz.prog ⟨fn,#[],#[]⟩ [.pointer (some ⟨b,0,none⟩),.int .i64 (c.batch:Int)] [.one .s] U R
theorem Wh1:Wm3 ZM 175:=by
 intro U G b l c h hc R hR;refine Gq (all := #[.pointer (some ⟨b,0,none⟩),.int .i64 (c.batch:Int)]) (by kernel_rfl) (by simp) ?_;refine Yy.o ?_;unfold Yy.v;have hL:=h;obtain⟨_,hok,s,hbk,hss,hcap⟩:=h;have hsl:s.len=l.os.length:=by have:=hss.1;simp[WB]at this;omega
 refine nilP (hbk.rS rfl ?_);simp only[hsl];exact Hz hL (zC _) hR
theorem Wjg:Wm3 KF 173:=by
 intro U G b l c h hc R hR;refine Gq (all := #[.pointer (some ⟨b,0,none⟩),.int .i64 (c.batch:Int)]) (by kernel_rfl) (by simp) ?_;refine Xt.o ?_;unfold Xt.v;have hL:=h;obtain⟨_,hok,s,hbk,hss,hcap⟩:=h;have o1:=hok.low;have o2:=hok.many;have o3:=hok.lim;have hok':=Wfv hc hok;unfold Cls.ok at hc;refine nilP (hbk.rI rfl (arN (m:=l.low+1) (by omega) (by omega) (nz (by decide) (arN (m:=(l.low+1)/2) (by rw[Xm (by omega)];omega) (by omega) ?_))));refine Hz hL (by omega) λout z v e hz hr hL1=>?_;have hL1':=hL1;obtain⟨_,ok1,s1,hb1,hs1,hc1⟩:=hL1;have hs1l:s1.len=(oldL ((l.low+1)/2) l).2.os.length:=by have:=hs1.1;simp[WB]at this;omega
 refine Jn.intro ?_;have rest:∀(v1:Hp) (lim:Nat),Ext (· = b) v v1->lim=(if l.lim>c.batch then max (l.lim-c.batch) c.batch else l.lim)->Blk v1 b (liV s1 {(oldL ((l.low+1)/2) l).2 with lim:=lim}) →
  NilP (some ⟨b,0,none⟩) λa33=>LdS (a33.add 0) v1 λt35=>NilP (some ⟨b,0,none⟩) λa37=>St1 (a37.add 2) (.int .i64 ((t35.len:Nat):Int)) v1 λv2=>R out v2:=by
  intro v1 lim e1 hlim hbk1;refine nilP (hbk1.rS rfl (nilP (hbk1.s1 (by simp[liV]) λv2 o2 hb2=>?_)));have e2:=e1.trans o2.ext;have hbl:=hb1.lt;refine hR out z v2 (e.trans e2) hz ((RowR.loc _ _ _).keep hr e2 λq _ hq he=>?_) ?_
  ·have:=hbk.lt;omega
  ·refine⟨.inl rfl,hok',s1,?_,(SlR.loc _ _ _).keep hs1 e2 λq _ hq he=>hq.2 he,hc1⟩;simp only[hs1l]at hb2;subst hlim;exact hb2
 refine nilP (hb1.rI rfl ?_);refine ifD (λc1=>?_) λc1=>?_
 ·have c1':l.lim>c.batch:=by simp only[oldL]at c1;omega
  refine nilP (hb1.rI rfl (arN (m:=l.lim-c.batch) (by simp only[oldL];omega) (by omega) (nilP (hb1.s1 (by simp[liV]) λv1 o1 hbk1=>rest v1 (max (l.lim-c.batch) c.batch) o1.ext (by rw[zB c1']) ?_))));have:(if(c.batch:Int)>((l.lim-c.batch:Nat):Int)then(c.batch:Int)else((l.lim-c.batch:Nat):Int))=((max (l.lim-c.batch) c.batch:Nat):Int):=by split<;>omega
  rw[this]at hbk1;exact hbk1
 ·have c1':¬l.lim>c.batch:=by simp only[oldL]at c1;omega
  exact rest v l.lim (Ext.refl _ _) (by rw[zA c1']) hb1
def btV (x:Nat×Sl):List Value:=[.int .i64 (x.1:Int),.slice x.2.a x.2.len x.2.cap]
def btsV (l:List (Nat×Sl)):List Value:=l.flatMap btV
theorem KD (l:List (Nat×Sl)):(btsV l).length=l.length*2:=by
 induction l with
 | nil=>rfl
 | cons x l ih=>
  have e:btsV (x::l)=btV x++btsV l:=rfl;have e2:(btV x).length=2:=rfl;rw[e,zQ,ih,e2,zV];omega
theorem UV (a b:List (Nat×Sl)):btsV (a++b)=btsV a++btsV b:=by simp[btsV]
theorem Hb {l:List (Nat×Sl)}:∀v∈btsV l,one1 v=true:=by
 intro v hv;obtain⟨p,_,hp⟩:=zDB.1 hv;simp only[btV,zR,List.not_mem_nil,or_false]at hp;rcases hp with rfl|rfl<;>rfl
theorem Wj0 {l:List (Nat×Sl)}{i:Nat}{p:Nat×Sl}(h:l[i]?=some p){d:Nat}(hd:d<2):(btsV l)[2*i+d]?=(btV p)[d]? := by
 induction l generalizing i with
 | nil=>simp at h
 | cons x l ih=>
  have e:btsV (x::l)=btV x++btsV l:=rfl;have e2:(btV x).length=2:=rfl;rw[e];cases i with
  | zero=>
   simp at h;subst h;rw[zf (by omega)];congr 1;omega
  | succ i=>
   rw[zn (by omega),e2,show 2*(i+1)+d-2=2*i+d by omega];exact ih (by simpa using h)
def BtO (ps:List (Nat×Sl))(bs:List Bt)(U:Hp)(D:Rg):Prop:=ps.length=bs.length/\∀(i:Nat) p x,ps[i]?=some p->bs[i]?=some x->p.1=x.1/\SlR p.2 1 (WB x.2) U D/\p.2.len<=p.2.cap
theorem BtO.loc (ps:List (Nat×Sl))(bs:List Bt):Lcl (BtO ps bs):=λU σ' F G h hz hs=>⟨h.1,λi p x h1 h2=>⟨(h.2 i p x h1 h2).1,SlR.loc _ _ _ _ _ _ _ (h.2 i p x h1 h2).2.1 hz hs,(h.2 i p x h1 h2).2.2⟩⟩
def Djp (ps:List (Nat×Sl)):Prop:=ps.Pairwise λp q=>∀a a',p.2.a=some a->q.2.a=some a'->a.block≠a'.block
theorem Djp.snoc {ps:List (Nat×Sl)}{bs:List Bt}{U v:Hp}{D X:Rg}{s:Sl}{xs:List Int}(h:Djp ps)(hB:BtO ps bs U D)(hne:∀x∈bs,x.2≠[])(hs:SlR s 1 (WB xs) v X)(hx:xs≠[])(hd:∀b,b<U.size->D b->¬X b)(k:Nat):Djp (ps++[(k,s)]):=by
 refine zBO.2 ⟨h,List.pairwise_singleton _ _,λp hp q hq=>?_⟩;rw[zZ]at hq;subst hq;intro a a' h1 h2 e;obtain⟨i,hi⟩:=zM hp;have hil:=(gSi.1 hi).1;have hy:bs[i]?=some (bs[i]'(by rw[←hB.1];exact hil)):=gGe _;generalize (bs[i]'(by rw[←hB.1];exact hil))=y at hy;obtain⟨_,hs1,_⟩:=hB.2 i p y hi hy;have b1:=hs1.blk (by simpa[WB]using hne y (zD hy)) ⟨a,h1,rfl⟩;have b2:=hs.blk (by simpa[WB]using hx) ⟨a',h2,rfl⟩;rw[e]at b1;exact hd _ b1.2 b1.1 b2.1
def BtR (s:Sl)(bs:List Bt):Hp->Rg->Prop:=λU F=>∃(ps:List (Nat×Sl)) (D:Rg),RowO s 2 (btsV ps) U (λq=>F q/\¬D q)/\BtO ps bs U D/\(∀q,D q->F q)/\Djp ps/\∀x∈bs,x.2≠[]
theorem BtR.loc (s:Sl)(bs:List Bt):Lcl (BtR s bs):=λU σ' F G ⟨ps,D,hr,hB,hD,hj⟩ hz hs=>
 ⟨ps,λq=>D q/\q<U.size,RowO.loc _ _ _ _ _ _ _ hr hz λq hq hf=>⟨⟨(hs q hq hf.1).1,λhd=>hf.2 hd.1⟩,(hs q hq hf.1).2⟩,BtO.loc _ _ _ _ _ _ hB hz λq hq hd=>⟨⟨hd,hq⟩,(hs q hq (hD q hd)).2⟩,λq hq=>(hs q hq.2 (hD q hq.1)).1,hj⟩
theorem BtR.nil (U:Hp)(F:Rg)(a:Option Addr):BtR ⟨a,0,0⟩ [] U F:=⟨[],λ_=>False,RowO.nil _ _ _ _,⟨rfl,λi p x h=>by simp at h⟩,λq h=>h.elim,List.Pairwise.nil,by simp⟩
theorem BtR.len {s:Sl}{bs:List Bt}(h:BtR s bs U F):s.len=bs.length:=by
 obtain⟨ps,D,hr,hB,_⟩:=h;have:=hr.1;rw[KD]at this;have:=hB.1;omega
theorem BtR.cap {s:Sl}{bs:List Bt}(h:BtR s bs U F):s.len<=s.cap:=by
 obtain⟨ps,D,hr,_⟩:=h;exact hr.cap
def UW:Prop:=∀{U:Hp} {F:Rg} {s:Sl} {xs:List (Nat×Sl)},RowR s 2 (btsV xs) U F->(∀x∈xs,x.1<64)->xs.length<=1000->∀{R:Hp->Prop},
 (∀xs' σ',xs'.Perm xs->xs'.Pairwise (λa b=>a.1<=b.1)->Ext F U σ'->RowR s 2 (btsV xs') σ' F->R σ')->ZZ.c s ⟨230,#[],#[]⟩ U R
theorem Wk3:∀{a b:List Nat},a.Pairwise (· < ·)->b.Pairwise (· < ·)->(∀x,x∈a↔x∈b)->a=b
 | [],[],_,_,_=>rfl
 | [],y::b,_,_,h=>by have:=(h y).2 (by simp);simp at this
 | x::a,[],_,_,h=>by have:=(h x).1 (by simp);simp at this
 | x::a,y::b,ha,hb,h=>by
  rw[zAY]at ha hb;have e:x=y:=by
   rcases zR.1 ((h x).1 (by simp))with h1|h1
   ·exact h1
   ·rcases zR.1 ((h y).2 (by simp))with h2|h2
    ·exact h2.symm
    ·have:=ha.1 y h2;have:=hb.1 x h1;omega
  subst e
  congr 1
  refine Wk3 ha.2 hb.2 λz=>?_;have hz:=h z;simp only[zR]at hz;constructor
  ·intro hza;have:=ha.1 z hza;rcases hz.1 (.inr hza)with h1|h1
   ·omega
   ·exact h1
  ·intro hzb;have:=hb.1 z hzb;rcases hz.2 (.inr hzb)with h1|h1
   ·omega
   ·exact h1
theorem Hr {f:Cls->Li->List Int×Li}{x:Bt}:x∈Kb f tb ls↔∃c l,tb[x.1]?=some c/\ls[x.1]?=some l/\x.2=(f c l).1/\x.2≠[]:=by
 unfold Kb;rw[zEA];constructor
 ·rintro⟨k,hk,h⟩;split at h
  ·rename_i c l hc hl;split at h
   ·cases h
   ·rename_i hne;cases h;exact⟨c,l,hc,hl,rfl,hne⟩
  ·cases h
 ·rintro⟨c,l,hc,hl,e,hne⟩;refine⟨x.1,zb.2 (gSi.1 hc).1,?_⟩;rw[hc,hl];simp only;rw[zA (by rw[←e];exact hne),←e]
theorem Wgx {f:Cls->Li->List Int×Li}:((Kb f tb ls).map (·.1)).Pairwise (· < ·):=by
 unfold Kb;have key:∀(n:Nat),(((List.range n).filterMap λk=>match tb[k]?,ls[k]? with
  | some c,some l=>if(f c l).1=[]then none else some ((k,(f c l).1):Bt)
  | _,_=>none).map (·.1)).Pairwise (· < ·)/\∀x∈((List.range n).filterMap λk=>match tb[k]?,ls[k]? with
  | some c,some l=>if(f c l).1=[]then none else some ((k,(f c l).1):Bt)
  | _,_=>none),x.1<n:=by
  intro n
  induction n with
  | zero=>simp
  | succ n ih=>
   rw[zr,zDZ,zAQ];refine⟨zBO.2 ⟨ih.1,?_,?_⟩,?_⟩
   ·simp only[zFT,List.filterMap_nil];split<;>simp
   ·intro a ha b hb;obtain⟨x,hx,rfl⟩:=zE.1 ha;obtain⟨y,hy,rfl⟩:=zE.1 hb;have h1:=ih.2 x hx;obtain⟨m,hm,hy2⟩:=zEA.1 hy;clear hy hb ha;simp only[zZ]at hm;subst hm;split at hy2
    ·split at hy2
     ·cases hy2
     ·cases hy2;exact h1
    ·cases hy2
   ·intro x hx;rcases zS.1 hx with hx|hx
    ·have:=ih.2 x hx;omega
    ·obtain⟨m,hm,hy⟩:=zEA.1 hx;simp only[zZ]at hm;subst hm;split at hy
     ·split at hy
      ·cases hy
      ·cases hy;omega
     ·cases hy
 exact(key tb.length).1
def inT (todo:List (Int×Option Addr))(k:Nat):Prop:=((k:Nat):Int)∈todo.map (·.1)
instance (todo:List (Int×Option Addr)) (k:Nat):Decidable (inT todo k):=by unfold inT;infer_instance
theorem HQ {todo:List (Int×Option Addr)}{m k:Nat}:inT (todo.filter λy=>!(y.1==(m:Int))) k↔inT todo k/\k≠m:=by
 unfold inT;simp only[zE,zG,zAV,zAA];constructor
 ·rintro⟨y,⟨h1,h2⟩,h3⟩;exact⟨⟨y,h1,h3⟩,λe=>h2 (by omega)⟩
 ·rintro⟨⟨y,h1,h3⟩,h2⟩;exact⟨y,⟨h1,λe=>h2 (by omega)⟩,h3⟩
structure BtI (f:Cls->Li->List Int×Li) (tb:List Cls) (ls:List Li) (todo:List (Int×Option Addr)) (ls':List Li) (outs:List Bt):Prop where
 l:∀k c l,tb[k]?=some c->ls[k]?=some l->ls'[k]?=some (if inT todo k then l else(f c l).2)
 n:(outs.map (·.1)).Nodup
 o:∀x:Bt,x∈outs↔∃c l,tb[x.1]?=some c/\ls[x.1]?=some l/\¬inT todo x.1/\x.2=(f c l).1/\x.2≠[]
theorem BtI.step {f:Cls->Li->List Int×Li}{todo:List (Int×Option Addr)}{ls':List Li}{outs:List Bt}(h:BtI f tb ls todo ls' outs)(hc:tb[k]?=some c)(hl:ls[k]?=some l)(hk:inT todo k) :
 BtI f tb ls (todo.filter λy=>!(y.1==(k:Int))) (ls'.set k (f c l).2) (if(f c l).1=[]then outs else outs++[(k,(f c l).1)]):=by
 have hlk:=h.l k c l hc hl;have hlt:=(gSi.1 hlk).1;have hno:∀x∈outs,x.1≠k:=λx hx e=>by
  obtain⟨_,_,_,_,h3,_⟩:=(h.o x).1 hx;rw[e]at h3;exact h3 hk
 refine⟨λj d m hd hm=>?_,?_,λx=>?_⟩
 ·by_cases hj:j=k
  ·subst hj;rw[hc]at hd;cases hd;rw[hl]at hm;cases hm;rw[zK hlt,zA (by rw[HQ];exact λhx=>hx.2 rfl)]
  ·rw[zd (Ne.symm hj),h.l j d m hd hm]
   congr 1
   by_cases hi:inT todo j
   ·rw[zB hi,zB (HQ.2 ⟨hi,hj⟩)]
   ·rw[zA hi,zA λhx=>hi (HQ.1 hx).1]
 ·split
  ·exact h.n
  ·rw[zAQ,zBN];refine⟨h.n,by simp,λa ha b hb e=>?_⟩;simp only[zW,zDI,zZ]at hb;subst hb;obtain⟨x,hx,e2⟩:=zE.1 ha;exact hno x hx (e2.trans e)
 ·have old:(∃d m,tb[x.1]?=some d/\ls[x.1]?=some m/\¬inT (todo.filter λy=>!(y.1==(k:Int))) x.1/\x.2=(f d m).1/\x.2≠[])↔x∈outs\/(x=(k,(f c l).1)/\(f c l).1≠[]):=by
   constructor
   ·rintro⟨d,m,hd,hm,hi,e,hne⟩;by_cases hj:x.1=k
    ·right;rw[hj]at hd hm;rw[hc]at hd;cases hd;rw[hl]at hm;cases hm;exact⟨Prod.ext hj e,by rw[←e];exact hne⟩
    ·left;exact(h.o x).2 ⟨d,m,hd,hm,λhx=>hi (HQ.2 ⟨hx,hj⟩),e,hne⟩
   ·rintro(hx|⟨rfl,hne⟩)
    ·obtain⟨d,m,hd,hm,hi,e,hne⟩:=(h.o x).1 hx;exact⟨d,m,hd,hm,λhy=>hi (HQ.1 hy).1,e,hne⟩
    ·exact⟨c,l,hc,hl,λhy=>(HQ.1 hy).2 rfl,rfl,hne⟩
  rw[old];split
  ·rename_i he;constructor
   ·exact .inl
   ·rintro(hx|⟨_,hne⟩)
    ·exact hx
    ·exact absurd he hne
  ·rename_i he;rw[zS,zZ];constructor
   ·rintro(hx|hx)
    ·exact .inl hx
    ·exact .inr ⟨hx,he⟩
   ·rintro(hx|hx)
    ·exact .inl hx
    ·exact .inr hx.1
set_option maxRecDepth 4000 in
theorem Wbu (hso:UW){f:Cls->Li->List Int×Li}{fn:Nat}(hf:Wm3 f fn)(hnil:∀c,c.ok->f c liN=([],liN))(h:CaY U F Y tb bud ls){R:Sl->Hp->Prop}
 (hR:∀σ' s (Q:Rg),Ext F U σ'->(∀q,Q q->U.size<=q)->CaY σ' (λq=>Grow F U q/\¬Q q) Y tb bud (Q8 f tb ls)->BtR s (Kb f tb ls) σ' Q->R s σ') :
 Xj.c (some ⟨Y.p,0,none⟩) ⟨fn,#[],#[]⟩ U R:=by
 refine Xj.o ?_;unfold Xj.v;refine Hq h (ifF rfl (nilP (h.hd.rM rfl ?_)));have htb:=h.tb1;refine rng1 (a:=.s) h.map (λtodo (out:Sl) v=>∃(ls':List Li) (outs:List Bt) (Q D:Rg) (ps:List (Nat×Sl)),Ext F U v/\(∀q,Q q->U.size<q)/\CaY v (λq=>(Cut F U q\/U.size<q)/\¬Q q) Y tb bud ls' ∧
  RowR out 2 (btsV ps) v (λq=>Q q/\¬D q)/\BtO ps outs v D/\(∀q,D q->Q q)/\BtI f tb ls todo ls' outs/\(∀e∈todo,e∈ptI Y.ps)/\(todo.map (·.1)).Nodup/\Djp ps) ?_ ?_ ?_
 ·intro v hz e;refine⟨ls,[],λ_=>False,λ_=>False,[],Ext0.to e,λq hq=>hq.elim,((CaY.loc.keep0 h.cut e).mono λq _ hq=>⟨.inl hq,id⟩),RowR.nil _ _ _ _,⟨rfl,λi p x hp=>by simp at hp⟩,λq hq=>hq.elim,⟨λk c l hc hl=>?_,by simp,λx=>?_⟩,λe he=>he,h.map.nodup,List.Pairwise.nil⟩
  ·by_cases hi:inT (ptI Y.ps) k
   ·rw[zB hi,hl]
   ·rw[zA hi];have hf0:lkp Y.ps k=none:=by
     unfold lkp;simp only[zDR,zBW,zY];exact λx hx e=>hi (zE.2 ⟨((x.1:Int),some ⟨x.2,0,none⟩),zE.2 ⟨x,hx,rfl⟩,by rw[e]⟩)
    have:=h.nil hf0 hl;rw[hl,this,hnil c (h.ok c (zD hc))]
  ·simp only[List.not_mem_nil,false_iff];rintro⟨c,l,hc,hl,hi,e,hne⟩;have hf0:lkp Y.ps x.1=none:=by
    unfold lkp;simp only[zDR,zBW,zY];exact λy hy e=>hi (zE.2 ⟨((y.1:Int),some ⟨y.2,0,none⟩),zE.2 ⟨y,hy,rfl⟩,by rw[e]⟩)
   have:=h.nil hf0 hl;rw[this,hnil c (h.ok c (zD hc))]at e;exact hne e
 ·rintro out v ⟨ls',outs,Q,D,ps,e,hQ,hC,hrow,hB,hD,hI,_,_,hj⟩;have hno:∀k,¬inT [] k:=λk hk=>by simp[inT]at hk
  have hls:ls'=Q8 f tb ls:=by
   apply zm;intro k;by_cases hk:k<tb.length
   ·have hc:tb[k]?=some tb[k]:=gGe hk;have hl:ls[k]?=some (ls[k]'(by rw[h.len];exact hk)):=gGe _;rw[hI.l k _ _ hc hl,zA (hno k)];simp[Q8,zGN,hc,hl]
   ·rw[zU (by rw[hC.len];omega),zU (by simp[Q8,h.len];omega)]
  subst hls;have hk1:∀(i:Nat) p,ps[i]?=some p->∃x,outs[i]?=some x/\p.1=x.1/\SlR p.2 1 (WB x.2) v D/\p.2.len<=p.2.cap:=λi p hp=>by
   have hi:=(gSi.1 hp).1;have hx:outs[i]?=some (outs[i]'(by rw[←hB.1];exact hi)):=gGe _;exact⟨_,hx,hB.2 i p _ hp hx⟩
  have hkeys:ps.map (·.1)=outs.map (·.1):=by
   apply zm;intro i;simp only[zg];cases hp:ps[i]? with
   | none=>
    have:outs[i]?=none:=by
     rw[List.getElem?_eq_none_iff]at hp ⊢;rw[←hB.1];exact hp
    rw[this];rfl
   | some p=>
    obtain⟨x,hx,e1,_⟩:=hk1 i p hp;rw[hx];simp[e1]
  have hbound:∀x∈outs,x.1<40:=λx hx=>by
   obtain⟨c,l,hc,_⟩:=(hI.o x).1 hx;have:=(gSi.1 hc).1;omega
  have hlen:ps.length<=40:=by
   have hn:=hI.n;rw[←hkeys]at hn;have:=hn.length_le_of_subset (l₂:=List.range 40) λj hj=>by
    rw[hkeys]at hj;obtain⟨x,hx,rfl⟩:=zE.1 hj;exact zb.2 (hbound x hx)
   simpa using this
  refine hso hrow (λp hp=>?_) (by omega) λps' v' hperm hsort e' hrow'=>?_
  ·have:p.1∈outs.map (·.1):=by rw[←hkeys];exact zE.2 ⟨p,hp,rfl⟩
   obtain⟨x,hx,e1⟩:=zE.1 this;have:=hbound x hx;omega
  ·have hnd:(ps'.map (·.1)).Nodup:=(hperm.map _).nodup_iff.2 (by rw[hkeys];exact hI.n);have hinc:(ps'.map (·.1)).Pairwise (· < ·):=by
    refine List.Pairwise.map (R:=λa b:Nat×Sl=>a.1<b.1) _ (λa b hab=>hab) ?_;have h1:ps'.Pairwise λa b=>a.1≠b.1:=zDQ.1 hnd;exact(hsort.and h1).imp λ{a b} hab=>by have:=hab.1;have:=hab.2;omega
   have hkk:ps'.map (·.1)=(Kb f tb ls).map (·.1):=by
    refine Wk3 hinc Wgx λj=>?_;rw[(hperm.map _).mem_iff,hkeys];constructor
    ·intro hj;obtain⟨x,hx,rfl⟩:=zE.1 hj;obtain⟨c,l,hc,hl,_,e1,e2⟩:=(hI.o x).1 hx;exact zE.2 ⟨x,Hr.2 ⟨c,l,hc,hl,e1,e2⟩,rfl⟩
    ·intro hj;obtain⟨x,hx,rfl⟩:=zE.1 hj;obtain⟨c,l,hc,hl,e1,e2⟩:=Hr.1 hx;exact zE.2 ⟨x,(hI.o x).2 ⟨c,l,hc,hl,hno _,e1,e2⟩,rfl⟩
   have eQ:Ext F U v':=e.newT e' λq hq=>.inr (zCT (hQ q hq.1));refine hR v' out Q eQ (λq hq=>zCT (hQ q hq)) ?_ ⟨ps',D,hrow'.o,⟨?_,λi p x hp hx=>?_⟩,hD,(hperm.pairwise_iff λ{a b} hab x y h1 h2 e=>hab y x h2 h1 e.symm).2 hj,λx hx=>by
    obtain⟨_,_,_,_,_,h2⟩:=Hr.1 hx;exact h2⟩
   ·refine(CaY.loc.keep hC e' λq _ hq hq2=>hq.2 hq2.1).mono λq _ hq=>⟨?_,hq.2⟩;rcases hq.1 with hx|hx
    ·exact .inl hx.1
    ·exact .inr (zCT hx)
   ·have:=congrArg List.length hkk;simpa using this
   ·have e1:p.1=x.1:=by
     have:=congrArg (λl=>l[i]?) hkk;simp only[zg,hp,hx,zc,Option.some.injEq]at this;exact this
    obtain⟨j,hj⟩:=zM (hperm.mem_iff.1 (zD hp));obtain⟨y,hy,e2,hs,hcap⟩:=hk1 j p hj;have e3:x.2=y.2:=by
     obtain⟨c,l,hc,hl,_,h1,_⟩:=(hI.o y).1 (zD hy);obtain⟨c',l',hc',hl',h2,_⟩:=Hr.1 (zD hx);rw[←e1,e2,hc]at hc';cases hc';rw[←e1,e2,hl]at hl';cases hl';rw[h1,h2]
    rw[e3];exact⟨e1,(SlR.loc _ _ _).keep hs e' λq _ hq hq2=>hq2.2 hq,hcap⟩
 ·rintro todo n x out v v' J ⟨ls',outs,Q,D,ps,e,hQ,hC,hrow,hB,hD,hI,hsub,hnd,hj⟩ hx ho hlt hJ;have e1:Ext F U v':=e.only ho (.inr (zC _));have hC1:CaY v' (λq=>(Cut F U q\/U.size<q)/\¬Q q) Y tb bud ls':=CaY.loc.keep hC ho.ext λq _ hq he=>by
   rcases hq.1 with h1|h1
   ·have:=h1.2;omega
   ·omega
  have hrow1:RowR out 2 (btsV ps) v' (λq=>(Q q/\¬D q)/\q<v'.size):=(RowR.loc _ _ _).cut ((RowR.loc _ _ _).keep hrow ho.ext λq _ hq he=>by have:=hQ q hq.1;omega);have hB1:BtO ps outs v' (λq=>D q/\q<v'.size):=(BtO.loc _ _).cut ((BtO.loc _ _).keep hB ho.ext λq _ hq he=>by have:=hQ q (hD q hq);omega);have hmem:=hsub _ hx;simp only[ptI,zE,Prod.mk.injEq]at hmem;obtain⟨⟨k,b⟩,hkb,hk1,hx1⟩:=hmem;simp only at hk1 hx1;subst hk1;subst hx1;have hk:=h.keys _ hkb;simp only at hk;have hc:tb[k]?=some tb[k]:=gGe hk;have hl:ls[k]?=some (ls[k]'(by rw[h.len];exact hk)):=gGe _;generalize tb[k]=c at hc;generalize (ls[k]'(by rw[h.len];exact hk))=l at hl;have hcok:=h.ok c (zD hc);have hlk:lkp Y.ps k=some b:=Wll h.map.nodup hkb;have hin:inT todo k:=zE.2 ⟨_,hx,rfl⟩;have hl':ls'[k]?=some l:=by rw[hI.l k c l hc hl,zB hin]
  have hstep:=hI.step hc hl hin;have hmF:(λq=>(Cut F U q\/U.size<q)/\¬Q q) Y.m:=by
   obtain⟨H,hH,hm⟩:=hC1.sep.get .mp;exact hH _ hm.1
  obtain⟨G,hG,hL,hGm,hput⟩:=hC1.liS hlk hl';have hbF:=hG b hL.1;have hbm:b≠Y.m:=λe=>hGm (e▸hL.1);have hbs:b≠U.size:=λe=>by
   subst e;rcases hbF.1 with h1|h1
   ·have:=h1.2;omega
   ·omega
  have hblt:b<v'.size:=by obtain⟨_,_,s,hbk,_⟩:=hL;exact hbk.lt
  have hsz1:=ho.1;refine nilP (hC1.hd.rS rfl (Gf hC1.tabS hc (d:=2) (by omega) ?_));simp only[zA (show ¬(2=0) by omega),zA (show ¬(2=1) by omega)];refine hf hL hcok λs z v5 e5 hz hr hL5=>?_;have hs5:=e5.1;obtain⟨eF,h5⟩:=hput v5 _ (λq=>q=b\/z<=q) (e5.sub λq hq=>by rw[hq];exact hL.1) (λq hq=>hq.imp (λ(hx:q=b)=>by rw[hx];exact hL.1) λ(hx:z<=q)=>by omega) hL5;have h5:=h5.cut;have eF5:Ext F U v5:=e1.newT eF λq hq=>by
   rcases hq.1 with h1|h1
   ·exact .inl h1.1
   ·exact .inr (zCT h1)
  have hnb:∀q,Q q->q≠b:=λq hq hqb=>hbF.2 (hqb▸hq);have hrow5:=(RowR.loc _ _ _).keep hrow1 e5 λq _ hq he=>hnb q hq.1.1 he;have hB5:=(BtO.loc _ _).keep hB1 e5 λq _ hq he=>hnb q (hD q hq.1) he;have hsl:s.len=(f c l).1.length:=by have:=hr.1;simp[WB]at this;omega
  have hsub':∀y∈todo.filter (λy=>!(y.1==(k:Int))),y∈ptI Y.ps:=λy hy=>hsub y (zG.1 hy).1;have hnd':((todo.filter λy=>!(y.1==(k:Int))).map (·.1)).Nodup:=hnd.sublist (List.filter_sublist.map _);by_cases hemp:(f c l).1=[]
  ·rw[zB hemp]at hstep;refine ifDF (by rw[hsl,hemp];simp) (hJ out v5 (e5.2 _ (by omega) λhe=>hbs he.symm) (e5.2 _ hC1.map.lt λhe=>hbm he.symm) ?_);refine⟨_,outs,λq=>Q q/\q<v'.size,λq=>D q/\q<v'.size,ps,eF5,λq hq=>hQ q hq.1,h5.mono λq _ hq=>?_,(RowR.loc _ _ _).mono hrow5 λq _ hq=>⟨⟨hq.1.1,hq.2⟩,λhd=>hq.1.2 hd.1⟩,hB5,λq hq=>⟨hD q hq.1,hq.2⟩,hstep,hsub',hnd',hj⟩;rcases hq.1 with h1|h1|h1
   ·exact⟨h1.1.1,λhx=>h1.1.2 hx.1⟩
   ·subst h1;exact⟨hbF.1,λhx=>hbF.2 hx.1⟩
   ·exact⟨.inr (by omega),λhx=>by omega⟩
  ·rw[zA hemp]at hstep;have hpos:=zBZ.2 hemp;refine ifDT (by rw[hsl];omega) (nw (cs:=btV (k,s)) λv6 hz6 e6 hb6=>?_);have hrow6:=(RowR.loc _ _ _).keep0 hrow5 e6;have hB6:=(BtO.loc _ _).keep0 hB5 e6;have hr6:=(RowR.loc _ _ _).keep0 ((RowR.loc _ _ _).cut hr) e6;have hpl:out.len=ps.length:=by have:=hrow.1;rw[KD]at this;omega
   have hol:ps.length<=40:=by
    have hkeys:outs.map (·.1)⊆List.range 40:=λj hj=>by
     obtain⟨x,hx,rfl⟩:=zE.1 hj;obtain⟨c,l,hc,_⟩:=(hI.o x).1 hx;have:=(gSi.1 hc).1;exact zb.2 (by omega)
    have:=hI.n.length_le_of_subset hkeys;rw[hB.1];simpa using this
   refine hrow6.app (ys:=btV (k,s)) rfl rfl ?_ (λv hv=>Hb (l:=[(k,s)]) v (by simpa[btsV]using hv)) ?_ ?_ zBI λs' v7 hl7 e7 hr7=>?_
   ·intro j u hu;rw[add_lit,zJ,hb6.cell];exact hu
   ·simp only;have:(out.len+1)*32<=41*32:=zAJ (by omega) (by omega);omega
   ·simp only;omega
   have hs7:=e7.1;have e57:Ext (λq=>(Q q/\¬D q)/\q<v'.size) v5 v7:=(Ext0.to e6).trans e7;refine hJ s' v7 ?_ ?_ ?_
   ·rw[e57.2 _ (by omega) λhx=>by have:=hQ _ hx.1.1;omega];exact e5.2 _ (by omega) λhe=>hbs he.symm
   ·rw[e57.2 _ (by have:=hC1.map.lt;omega) λhx=>hmF.2 hx.1.1];exact e5.2 _ hC1.map.lt λhe=>hbm he.symm
   refine⟨_,_,λq=>Q q/\q<v'.size\/(v'.size<=q/\q<z)\/v5.size<=q,λq=>D q/\q<v'.size\/(v'.size<=q/\q<z)/\q<v5.size,ps++[(k,s)],eF5.newT e57 λq hq=>.inr (zCT (hQ q hq.1.1)),λq hq=>?_,(CaY.loc.keep h5 e57 λq hq5 hq hx=>?_).mono λq _ hq=>?_,?_,⟨?_,λi p y hp hy=>?_⟩,λq hq=>?_,hstep,hsub',hnd',hj.snoc hB1 (λx hx=>by
    obtain⟨_,_,_,_,_,_,h2⟩:=(hI.o x).1 hx;exact h2) hr.slR hemp (λb hb hx hy=>by have:=hx.2;have:=hy.1;omega) k⟩
   ·rcases hq with hq|hq|hq
    ·exact hQ q hq.1
    ·omega
    ·omega
   ·rcases hq.1 with h1|h1|h1
    ·exact h1.1.2 hx.1.1
    ·exact hnb q hx.1.1 h1
    ·have:=hx.2;omega
   ·have hq5:=hq.2;rcases hq.1 with h1|h1|h1
    ·exact⟨h1.1.1,λhx=>by
      rcases hx with hx|hx|hx
      ·exact h1.1.2 hx.1
      ·have:=h1.2.1;omega
      ·omega⟩
    ·subst h1;exact⟨hbF.1,λhx=>by
      rcases hx with hx|hx|hx
      ·exact hbF.2 hx.1
      ·omega
      ·omega⟩
    ·exact⟨.inr (by omega),λhx=>by
      rcases hx with hx|hx|hx<;>omega⟩
   ·rw[UV];have:btsV [(k,s)]=btV (k,s):=by simp[btsV]
    rw[this];refine(RowR.loc _ _ _).mono hr7 λq _ hq=>?_;rcases hq with hq|hq
    ·exact⟨.inl ⟨hq.1.1,hq.2⟩,λhd=>by
      rcases hd with hd|hd
      ·exact hq.1.2 hd.1
      ·omega⟩
    ·exact⟨.inr (.inr (by omega)),λhd=>by
      rcases hd with hd|hd<;>omega⟩
   ·rw[zQ,zQ,hB.1];rfl
   ·rcases zAH i ps.length with hi|hi
    ·rw[zf hi]at hp;rw[zf (by rw[←hB.1];exact hi)]at hy;obtain⟨a1,a2,a3⟩:=hB6.2 i p y hp hy;exact⟨a1,(SlR.loc _ _ _).mono ((SlR.loc _ _ _).keep a2 e7 λq _ hq hx=>hx.1.2 hq.1) λq _ hq=>.inl hq,a3⟩
    ·rw[zn hi]at hp;rw[zn (by rw[←hB.1];exact hi)]at hy;have hi0:i-ps.length=0:=by
      have:=(gSi.1 hp).1;simp at this;omega
     rw[hi0]at hp;rw[show i-outs.length=0 by rw[←hB.1];exact hi0]at hy;simp at hp hy;subst hp;subst hy;exact⟨rfl,(SlR.loc _ _ _).mono ((SlR.loc _ _ _).keep hr6.slR e7 λq _ hq hx=>by have:=hx.2;have:=hq.1;omega) λq _ hq=>.inr hq,RowR.capO hr⟩
   ·rcases hq with hq|hq
    ·exact .inl ⟨hD q hq.1,hq.2⟩
    ·exact .inr (.inl hq.1)
theorem WjH (hso:UW)(h:CaY U F Y tb bud ls){R:Sl->Hp->Prop}
 (hR:∀σ' s (Q:Rg),Ext F U σ'->(∀q,Q q->U.size<=q)->CaY σ' (λq=>Grow F U q/\¬Q q) Y tb bud (Q8 ZM tb ls)->BtR s (Kb ZM tb ls) σ' Q->R s σ'):XS.c (some ⟨Y.p,0,none⟩) U R:=by
 refine XS.o ?_;unfold XS.v;exact Wbu hso Wh1 (λc _=>WfT c) h hR
theorem Wd2 (hso:UW)(h:CaY U F Y tb bud ls){R:Sl->Hp->Prop}
 (hR:∀σ' s (Q:Rg),Ext F U σ'->(∀q,Q q->U.size<=q)->CaY σ' (λq=>Grow F U q/\¬Q q) Y tb bud (Q8 KF tb ls)->BtR s (Kb KF tb ls) σ' Q->R s σ'):W7.c (some ⟨Y.p,0,none⟩) U R:=by
 refine W7.o ?_;unfold W7.v;exact Wbu hso Wjg Wij h hR
end Go.Ar
namespace Go.Proofs
open Go.Vc
set_option maxRecDepth 100000
def Xd.h:Hn:=.q .o2 (.q (.q .o3 (.c (.q .o2 .l) .l)) (.q (.o 12) (.q (.q .o2 (.c (.q .o2 .l) .l)) (.q .o4 .l))))
def Xd.v (a:R2)(b:Int)(c:Hp)(d:Int->Int->Hp->Prop):Prop:=WM.c a c λe f=>If (!e) (d 0 5 f) (NilP a λg=>LdM (g.add 9) f λh=>Lk .i64 (.ag 4) h b f λi=>Nw (.cells #[.I 0,.I 0,.I 0,.I 0] 65 (0,0)) f λj k=>St1 (j.add 0) (.I ((i.getD (0,0,0,0)).1)) k λl=>St1 (j.add 1) (.I ((i.getD (0,0,0,0)).2.1)) l λm=>St1 (j.add 2) (.I ((i.getD (0,0,0,0)).2.2.1)) m λn=>St1 (j.add 3) (.I ((i.getD (0,0,0,0)).2.2.2)) n λo=>If (!i.isSome) (d 0 8 o) (LdI .i64 (j.add 1) o λp=>d p 0 o))
theorem Xd.o {a b c d}(e:Xd.v a b c d):Xd.c a b c d:=Wa Tryz.func23 (x:=Xd.h) (R0 e)
def Xr.h:Hn:=.q .o2 (.q .o10 .l)
def Xr.v (a:R2)(b c d:Int)(e:Hp)(f:Int->Int->Hp->Prop):Prop:=XT.c a b 0 c d 0 e λg h i=>f g h i
theorem Xr.o {a b c d e f}(g:Xr.v a b c d e f):Xr.c a b c d e f:=Wa Tryz.func25 (x:=Xr.h) (R0 g)
def Xn.h:Hn:=.q .o2 (.q .o8 .l)
def Xn.v (a:R2)(b:Int)(c:Hp)(d:Int->Int->Hp->Prop):Prop:=YL.c a c λe f=>YT.c e b f λg h i=>d g h i
theorem Xn.o {a b c d}(e:Xn.v a b c d):Xn.c a b c d:=Wa Tryz.func35 (x:=Xn.h) (R0 e)
def YH.h:Hn:=.q .o1 (.q (.q .o3 (.c (.q .o1 .l) .l)) (.q .o6 .l))
def YH.v (a:R2)(b:Hp)(c:Sl->Hp->Prop):Prop:=WM.c a b λd e=>If (!d) (c ⟨none,0,0⟩ e) (NilP a λf=>LdS (f.add 0) e λg=>Wc.c g e λh i=>c h i)
theorem YH.o {a b c}(d:YH.v a b c):YH.c a b c:=Wa Tryz.func37 (x:=YH.h) (R0 d)
def YQ.h:Hn:=.q .o1 (.q .o10 (.q .o2 .l))
def YQ.v (a:R2)(b c:Int)(d:Hp)(e:Int->Hp->Prop):Prop:=XT.c a b 1 0 0 c d λf g h=>e g h
theorem YQ.o {a b c d e}(f:YQ.v a b c d e):YQ.c a b c d e:=Wa Tryz.func39 (x:=YQ.h) (R0 f)
def XM.h:Hn:=.q .o1 (.q .o6 .l)
def XM.v (a:R2)(b c:Int)(d:Hp)(e:Int->Hp->Prop):Prop:=YL.c a d λf g=>Yw.c f b c g λh i=>e h i
theorem XM.o {a b c d e}(f:XM.v a b c d e):XM.c a b c d e:=Wa Tryz.func42 (x:=XM.h) (R0 f)
def XH.h:Hn:=.q .o1 (.q (.q .o3 (.c (.q .o2 .l) .l)) (.q .o5 .l))
def XH.v (a:R2)(b:Hp)(c:Int->Int->Int->Int->Int->Hp->Prop):Prop:=Nw (.cells #[.I 0,.I 0,.I 0,.I 0,.I 0] 26 (0,0)) b λd e=>WM.c a e λf g=>If (!f) (St1 (d.add 0) (.I 0) g λh=>St1 (d.add 1) (.I 0) h λi=>St1 (d.add 2) (.I 0) i λj=>St1 (d.add 3) (.I 0) j λk=>St1 (d.add 4) (.I 0) k λl=>LdI .i64 (d.add 0) l λm=>LdI .i64 (d.add 1) l λn=>LdI .i64 (d.add 2) l λo=>LdI .i64 (d.add 3) l λp=>LdI .i64 (d.add 4) l λq=>c m n o p q l) (NilP a λr=>LdI .i64 ((r.add 1).add 0) g λs=>LdI .i64 ((r.add 1).add 1) g λt=>LdI .i64 ((r.add 1).add 2) g λu=>LdI .i64 ((r.add 1).add 3) g λv=>LdI .i64 ((r.add 1).add 4) g λw=>St1 (d.add 0) (.I s) g λx=>St1 (d.add 1) (.I t) x λy=>St1 (d.add 2) (.I u) y λz=>St1 (d.add 3) (.I v) z λaa=>St1 (d.add 4) (.I w) aa λab=>LdI .i64 (d.add 0) ab λac=>LdI .i64 (d.add 1) ab λad=>LdI .i64 (d.add 2) ab λae=>LdI .i64 (d.add 3) ab λaf=>LdI .i64 (d.add 4) ab λag=>c ac ad ae af ag ab)
theorem XH.o {a b c}(d:XH.v a b c):XH.c a b c:=Wa Tryz.func48 (x:=XH.h) (R0 d)
def YO.h:Hn:=.q .o1 (.q (.q (.reg (.seq [.op,.op,.op,.op,.grd false 4 (RI.ops 4),.op,.grd false 9 (RI.ops 9)])) (.c (.q .o1 .l) .l)) (.q .o10 .l))
def YO.v (a:R2)(b:Int)(c:Hp)(d:ByteArray->Hp->Prop):Prop:=WM.c a c λe f=>JnB (λg h=>JnB (λi j=>If i (d (ByteArray.mk #[]) j) (NilP a λk=>LdS (k.add 8) j λl=>Ix l.a l.len b 3 λm=>LdR (m.add 2) j λn=>InvK Tryz.prog n "freehold/heap.name" [] [.one .str] j fun t33 v3 =>d t33 v3)) λo=>If g (o true h) (NilP a λp=>LdS (p.add 8) h λq=>Ix q.a q.len b 3 λr=>LdR (r.add 2) h λs=>And (IsIf s) <| o (nilI s) h)) λt=>If (!e) (t true f) (Yd.c a b f λu v=>t (!u) v)
theorem YO.o {a b c d}(e:YO.v a b c d):YO.c a b c d:=Wa Tryz.func49 (x:=YO.h) (R0 e)
def WM.h:Hn:=.q .o1 (.q (.reg (.seq [.op,.op,.op,.grd true 6 (RI.ops 6),.op])) .l)
def WM.v (a:R2)(b:Hp)(c:Bool->Hp->Prop):Prop:=JnB (λd e=>c d e) λf=>If (!a.isNone) (NilP a λg=>LdS (g.add 8) b λh=>f (decide (((h.len:Nat):Int)>0)) b) (f false b)
theorem WM.o {a b c}(d:WM.v a b c):WM.c a b c:=Wa Tryz.func50 (x:=WM.h) (R0 d)
def Zc.h:Hn:=.q .o1 (.q .o9 (.q .o2 .l))
def Zc.v (a:R2)(b:Int)(c:Hp)(d:Int->Hp->Prop):Prop:=XT.c a b 2 0 0 0 c λe f g=>d f g
theorem Zc.o {a b c d}(e:Zc.v a b c d):Zc.c a b c d:=Wa Tryz.func51 (x:=Zc.h) (R0 e)
def Yh.h:Hn:=.q .o2 (.q (.k (.q .o4 (.c (.q .o1 .l) (.q .o5 (.c (.q .o1 .l) (.q .o10 (.c (.q .o1 .l) .l))))))) (.q .o4 (.q (.q .o2 (.c (.q .o1 .l) .l)) (.q .o9 (.q .o1 .l)))))
def Yh.v (a:R2)(b c d e f:Int)(g:Hp)(h:Int->Hp->Prop):Prop:=Nw (.cells #[.I c,.I d,.I e,.I f] 95 (0,0)) g λi j=>WM.c a j λk l=>If (!k) (h 5 l) (Yd.c a b l λm n=>If (!m) (h 1 n) (NilP a λo=>LdS (o.add 8) n λp=>Ix p.a p.len b 3 λq=>LdR (q.add 2) n λr=>And (IsIf r) <| If (!(nilI r)) (h 5 n) (LdI .i64 (i.add 0) n λs=>LdI .i64 (i.add 1) n λt=>LdI .i64 (i.add 2) n λu=>LdI .i64 (i.add 3) n λv=>Yv.c a s t u v n λw x=>And (IsIf w) <| If (nilI w) (h 1 x) (NilP a λy=>LdS (y.add 8) x λz=>Ix z.a z.len b 3 λaa=>And (IsIf w) <| St1 (aa.add 2) (w) x λab=>h 0 ab))))
theorem Yh.o {a b c d e f g h}(i:Yh.v a b c d e f g h):Yh.c a b c d e f g h:=Wa Tryz.func52 (x:=Yh.h) (R0 i)
def Xy.h:Hn:=.q .o3 (.q (.k (.q .o4 (.c (.q .o4 .l) (.q .o5 (.c (.q .o4 .l) (.q .o10 (.c (.q .o4 .l) .l))))))) (.q (.o 17) (.q .o9 (.q (.reg (.tail 4 (RI.ops 4) [.op,.op])) .l))))
def Xy.v (a:R2)(b:Int)(c:Hp)(d:Bool->Int->Int->Int->Hp->Prop):Prop:=Nw (.cells #[.I 0,.I 0] 97 (0,0)) c λe f=>WM.c a f λg h=>If (!g) (St1 (e.add 0) (.I 0) h λi=>St1 (e.add 1) (.I 0) i λj=>LdI .i64 (e.add 0) j λk=>LdI .i64 (e.add 1) j λl=>d false k l 5 j) (Yd.c a b h λm n=>If (!m) (St1 (e.add 0) (.I 0) n λo=>St1 (e.add 1) (.I 0) o λp=>LdI .i64 (e.add 0) p λq=>LdI .i64 (e.add 1) p λr=>d false q r 1 p) (NilP a λs=>LdS (s.add 8) n λt=>Ix t.a t.len b 3 λu=>LdR (u.add 2) n λv=>And (IsIf v) <| If (nilI v) (St1 (e.add 0) (.I 0) n λw=>St1 (e.add 1) (.I 0) w λx=>LdI .i64 (e.add 0) x λy=>LdI .i64 (e.add 1) x λz=>d false y z 5 x) (NilP a λaa=>LdS (aa.add 8) n λab=>Ix ab.a ab.len b 3 λac=>LdR (ac.add 2) n λad=>Zn.c a b (ad) n λae af ag ah=>Nw (.cells #[.I 0,.I 0] 97 (0,0)) ah λai aj=>St1 (ai.add 0) (.I af) aj λak=>St1 (ai.add 1) (.I ag) ak λal=>NilP a λam=>LdS (am.add 8) al λan=>Ix an.a an.len b 3 λao=>And (IsIf ae) <| St1 (ao.add 2) (ae) al λap=>And (IsIf ae) <| LdI .i64 (ai.add 0) ap λaq=>LdI .i64 (ai.add 1) ap λar=>St1 (e.add 0) (.I aq) ap λau=>St1 (e.add 1) (.I ar) au λav=>LdI .i64 (e.add 0) av λaw=>LdI .i64 (e.add 1) av λax=>d (nilI ae) aw ax 0 av)))
theorem Xy.o {a b c d}(e:Xy.v a b c d):Xy.c a b c d:=Wa Tryz.func53 (x:=Xy.h) (R0 e)
def Yp.h:Hn:=.q .o2 (.q (.k (.q .o4 (.c (.q .o2 .l) (.q .o3 (.c (.q .o2 .l) .l))))) (.q .o1 (.q (.q .o6 (.k (.loop [(6,.I),(23,.I)] (.q .o1 (.q (.c .l .l) (.q (.k (.q .o3 (.q (.q .o3 (.c .l .l)) (.q .o10 .o4)))) .o2)))))) (.q .o3 .l))))
def Yp.v (a:R2)(b:Int)(c:Hp)(d:Int->Int->Hp->Prop):Prop:=WM.c a c λe f=>If (!e) (d 0 5 f) (If (b<0) (d 0 1 f) (NilP a λg=>LdS (g.add 7) f λh=>Xo [(.i .i64),(.i .i64)] (λi=>i 0 0 f) λj (k:Int) (l:Int) m=>If (l<((h.len:Nat):Int)) (Ix h.a h.len l 1 λn=>LdP n m λo=>If (k≥b) (d k 0 m) (Ar .i64 (b-k) λp=>Xl.c o p m λq r s=>Ar .i64 (k+q) λt=>Ar .i64 (l+1) λu=>j t u s)) (d k 0 m)))
theorem Yp.o {a b c d}(e:Yp.v a b c d):Yp.c a b c d:=Wa Tryz.func54 (x:=Yp.h) (R0 e)
def Zm.h:Hn:=.q .o1 (.q (.q .o3 (.c (.q .o1 .l) .l)) (.q .o1 (.q (.q .o6 (.k (.loop [(3,.I),(14,.I)] (.q .o1 (.q (.c .l .l) (.q (.k (.q .o3 .o5)) .o2)))))) (.q .o2 .l))))
def Zm.v (a:R2)(b:Hp)(c:Int->Hp->Prop):Prop:=WM.c a b λd e=>If (!d) (c 0 e) (NilP a λf=>LdS (f.add 7) e λg=>Xo [(.i .i64),(.i .i64)] (λh=>h 0 0 e) λi (j:Int) (k:Int) l=>If (k<((g.len:Nat):Int)) (Ix g.a g.len k 1 λm=>LdP m l λn=>Ye.c n l λo p=>Ar .i64 (j+o) λq=>Ar .i64 (k+1) λr=>i q r p) (c j l))
theorem Zm.o {a b c}(d:Zm.v a b c):Zm.c a b c:=Wa Tryz.func55 (x:=Zm.h) (R0 d)
def Zk.h:Hn:=.q (.q .o3 (.c .l .l)) (.q .o6 (.k (.loop [(12,.I)] (.q .o1 (.q (.c .l .l) (.q (.k (.q .o3 .o2)) .o2))))))
def Zk.v (a:R2)(b:Hp)(c:Hp->Prop):Prop:=WM.c a b λd e=>If (!d) (c e) (NilP a λf=>LdS (f.add 7) e λg=>Xo [(.i .i64)] (λh=>h 0 e) λi (j:Int) k=>If (j<((g.len:Nat):Int)) (Ix g.a g.len j 1 λl=>LdP l k λm=>YX.c m k λn=>Ar .i64 (j+1) λo=>i o n) (c k))
theorem Zk.o {a b c}(d:Zk.v a b c):Zk.c a b c:=Wa Tryz.func56 (x:=Zk.h) (R0 d)
def XT.h:Hn:=.q .o3 (.q (.q .o5 (.q .o2 (.c (.q .o3 .l) .l))) (.k (.loop [] (.k (.q (.o 11) (.q .o1 (.c (.q (.oq 6) .l) .l)))))))
def XT.v (a:R2)(b c d e f:Int)(g:Hp)(h:Int->Int->Hp->Prop):Prop:=Nw (.cells #[.I c,.I d,.I e,.I f] 95 (0,0)) g λi j=>LdI .i64 (i.add 0) j λk=>LdI .i64 (i.add 1) j λl=>LdI .i64 (i.add 2) j λm=>LdI .i64 (i.add 3) j λn=>Yh.c a b k l m n j λo p=>If (o != 0) (h 0 o p) (Xo [] (λq=>q p) λr s=>Xy.c a b s λt u v w x=>Nw (.cells #[.I 0,.I 0] 97 (0,0)) x λy z=>St1 (y.add 0) (.I u) z λaa=>St1 (y.add 1) (.I v) aa λab=>If t (LdI .i64 (y.add 0) ab λac=>LdI .i64 (y.add 1) ab λad=>h ac ad ab) (r ab))
theorem XT.o {a b c d e f g h}(i:XT.v a b c d e f g h):XT.c a b c d e f g h:=Wa Tryz.func57 (x:=XT.h) (R0 i)
def YL.h:Hn:=.q .o1 (.q (.q .o3 (.c (.q .o1 .l) .l)) (.q .o5 .l))
def YL.v (a:R2)(b:Hp)(c:Option Addr->Hp->Prop):Prop:=WM.c a b λd e=>If (!d) (c none e) (NilP a λf=>LdP (f.add 6) e λg=>c g e)
theorem YL.o {a b c}(d:YL.v a b c):YL.c a b c:=Wa Tryz.func66 (x:=YL.h) (R0 d)
def Kx.h:Hn:=.q .o3 (.q (.k (.q .o4 (.c (.q .o2 .l) (.q .o4 (.c (.q .o2 .l) .l))))) (.q (.reg (.heldJ true [] [(6,.one .p)] (.take 0 (.take 2 (.all [(1,.all [(3,.take 4 (.all [(5,.take 6 (.done))]))]),(3,.all [(1,.take 4 (.all [(5,.take 6 (.done))]))])]))))) (.q .o10 (.q (.q .o3 (.k (.loop [(36,.I)] (.q .o1 (.q (.c .l .l) (.q (.k (.q (.reg (.held true [7] (.take 0 (.take 1 (.take 2 (.take 3 (.take 4 (.take 5 (.take 6 (.all [(7,.take 8 (.take 9 (.take 10 (.take 11 (.take 12 (.done))))))])))))))))) (.o 11))) .o2)))))) (.q (.q .o3 (.k (.loop [(62,.I)] (.q .o1 (.q (.c .l .l) (.q (.k (.q .o9 (.o 12))) .o2)))))) (.q .o3 .l))))))
def Kx.v (a:Sl)(b c d e f:Int)(g:Hp)(h:Option Addr->Int->Hp->Prop):Prop:=Nw (.cells #[.I b,.I c,.I d,.I e,.I f] 26 (0,0)) g λi j=>Zz.c a j λk l=>If (!k) (h none 2 l) (LdI .i64 (i.add 0) l λm=>LdI .i64 (i.add 1) l λn=>LdI .i64 (i.add 2) l λo=>LdI .i64 (i.add 3) l λp=>LdI .i64 (i.add 4) l λq=>Qw.c m n o p q l λr s=>If (!r) (h none 1 s) (Jn [.p] (λ(t:R2) u=>LdI .i64 (i.add 0) u λv=>QZ.c v u λw x y=>NilP t λz=>St1 (z.add 6) (.pointer w) y λaa=>LdI .i64 (i.add 1) aa λab=>Xo [(.i .i64)] (λac=>ac 0 aa) λad (ae:Int) af=>If (ae<ab) (Held af λag=>NilP t λah=>LdH ag .p (ah.add 6) λ(ai:R2)=>LdH ag (.i .i64) (i.add 4) λ(aj:Int)=>QX.c a ai aj af λak al am=>NilP t λan=>LdS (an.add 7) am λao=>Nw (.cells #[.pointer ak] 109 (0,0)) am λap aq=>App ao 1 8 109 [.pointer none] ⟨some ap,1,1⟩ aq λar au=>NilP t λav=>St1 (av.add 7) (.slice ar.a ar.len ar.cap) au λaw=>Ar .i64 (ae+1) λax=>ad ax aw) (LdI .i64 (i.add 2) af λay=>Xo [(.i .i64)] (λaz=>az 0 af) λa0 (a1:Int) a2=>If (a1<ay) (LdI .i64 (i.add 3) a2 λa3=>QW.c a a3 a2 λa4 a5 a6=>NilP t λa7=>LdS (a7.add 8) a6 λa8=>Nw (.cells #[.pointer a4,.slice none 0 0,.nilIface] 116 (0,0)) a6 λa9 ba=>App a8 3 48 116 [.pointer none,.slice none 0 0,.nilIface] ⟨some a9,1,1⟩ ba λbb bc=>NilP t λbd=>St1 (bd.add 8) (.slice bb.a bb.len bb.cap) bc λbe=>Ar .i64 (a1+1) λbf=>a0 bf be) (h t 0 a2))) λbg=>Held s λbh=>LdH bh (.i .i64) (i.add 0) λ(bi:Int)=>LdH bh (.i .i64) (i.add 1) λ(bj:Int)=>
 LdH bh (.i .i64) (i.add 2) λ(bk:Int)=>LdH bh (.i .i64) (i.add 3) λ(bl:Int)=>LdH bh (.i .i64) (i.add 4) λ(bm:Int)=>(Wc.c a s λbn bo=>And (bh bo) <| Nw (.map #[] 0) bo λbp bq=>And (bh bq) <| Nw (.cells #[.slice bn.a bn.len bn.cap,.I bi,.I bj,.I bk,.I bl,.I bm,.pointer none,.slice none 0 0,.slice none 0 0,.map (some bp.block)] 32 (0,0)) bq λbr bs=>And (bh bs) <| bg (some br) bs) ∧ (Nw (.map #[] 0) s λbt bu=>And (bh bu) <| Wc.c a bu λbv bw=>And (bh bw) <| Nw (.cells #[.slice bv.a bv.len bv.cap,.I bi,.I bj,.I bk,.I bl,.I bm,.pointer none,.slice none 0 0,.slice none 0 0,.map (some bt.block)] 32 (0,0)) bw λbx bz=>And (bh bz) <| bg (some bx) bz)))
theorem Kx.o {a b c d e f g h}(i:Kx.v a b c d e f g h):Kx.c a b c d e f g h:=Wa Tryz.func76 (x:=Kx.h) (R0 i)
def Yd.h:Hn:=.q .o1 (.q (.reg (.seq [.op,.op,.op,.grd true 7 (RI.ops 7),.op])) .l)
def Yd.v (a:R2)(b:Int)(c:Hp)(d:Bool->Hp->Prop):Prop:=JnB (λe f=>d e f) λg=>If (b≥0) (NilP a λh=>LdS (h.add 8) c λi=>g (decide (b<((i.len:Nat):Int))) c) (g false c)
theorem Yd.o {a b c d}(e:Yd.v a b c d):Yd.c a b c d:=Wa Tryz.func77 (x:=Yd.h) (R0 e)
def Yv.h:Hn:=.q .o2 (.q (.q .o2 (.k (.q .o2 (.c (.q (.q (.reg (.seq [.op,.op,.op,.op,.grd false 3 (RI.ops 3)])) (.c (.q .o1 .l) .l)) (.q (.reg (.held true [8] (.take 0 (.take 1 (.take 2 (.take 3 (.take 4 (.take 5 (.take 6 (.take 7 (.all [(8,.take 9 (.take 10 (.take 11 (.take 12 (.take 13 (.done))))))]))))))))))) (.q .o1 (.k (.q .o2 (.c (.q .o4 .l) (.q .o2 (.c (.q .o8 .l) .l)))))))) (.q .o2 (.c (.q .o5 .l) (.q .o2 (.c (.q .o3 .l) .l)))))))) (.q .o1 .l))
def Yv.v (a:R2)(b c d e:Int)(f:Hp)(g:Value->Hp->Prop):Prop:=Nw (.cells #[.I b,.I c,.I d,.I e] 95 (0,0)) f λh i=>LdI .i64 (h.add 0) i λj=>If (j==0) (LdI .i64 (h.add 1) i λk=>JnB (λl m=>If l (g (.nilIface) m) (Held m λn=>NilP a λo=>LdH n .s (o.add 0) λ(p:Sl)=>LdH n (.i .i64) (h.add 1) λ(q:Int)=>LdH n (.i .i64) (h.add 2) λ(r:Int)=>ZN.c p q r m λs t u=>If (t==0) (g (.iface 176 (.agg #[.I s])) u) (If (t==4) (LdI .i64 (h.add 1) u λv=>Ar .i64 (v+256) λw=>Ar .i64 (w-1) λx=>Nz 256<|Ar .i64 (x.tdiv 256) λy=>g (.iface 178 (.agg #[.I y])) u) (g (.nilIface) u)))) λz=>If (k<1) (z true i) (LdI .i64 (h.add 1) i λaa=>z (decide (aa>16384)) i)) (If (j==1) (LdI .i64 (h.add 3) i λab=>g (.iface 180 (.agg #[.I ab])) i) (If (j==2) (g (.iface 182 (.agg #[])) i) (g (.nilIface) i)))
theorem Yv.o {a b c d e f g}(h:Yv.v a b c d e f g):Yv.c a b c d e f g:=Wa Tryz.func78 (x:=Yv.h) (R0 h)
def Zn.h:Hn:=.q .o2 (.q .o7 (.q (.reg (.held true [] (.take 0 (.take 1 (.take 2 (.take 3 (.take 4 (.take 5 (.all [(6,.take 7 (.all [(8,.take 9 (.done))]))]))))))))) (.sjn [] (.q .o1 (.k (.q .o3 (.c (.q .o2 (.q (.q (.reg (.held true [6] (.take 0 (.take 1 (.take 2 (.take 3 (.take 4 (.take 5 (.all [(6,.take 7 (.take 8 (.take 9 (.take 10 (.take 11 (.done))))))]))))))))) (.q .o2 (.c (.q (.reg (.held true [17] (.take 0 (.take 1 (.take 2 (.take 3 (.take 4 (.take 5 (.take 6 (.take 7 (.take 8 (.take 9 (.take 10 (.take 11 (.take 12 (.all [(13,.take 14 (.take 15 (.take 16 (.all [(17,.done)]))))])))))))))))))))) .l) .l))) (.q (.reg (.held true [6] (.take 0 (.take 1 (.take 2 (.take 3 (.take 4 (.take 5 (.all [(6,.take 7 (.take 8 (.take 9 (.take 10 (.take 11 (.done))))))]))))))))) (.q .o8 .l)))) (.q .o3 (.c (.q .o2 (.sjn [] (.q (.oq 12) (.c (.q .o9 (.q .o2 (.c (.q .o6 (.q .o5 .l)) .l))) .l)) (.q .o5 .l))) (.q .o3 (.c (.q .o2 (.q (.q (.o 11) (.q .o3 (.c (.q .o6 (.q .o5 .l)) .l))) (.q .o5 .l))) (.q .o3 (.c (.q .o2 (.q (.q .o5 (.q .o2 (.c (.q .o4 .l) .l))) (.q .o5 .l))) (.q .o3 (.c (.q .o2 (.q .o8 (.q .o4 (.q (.reg (.tail 9 (RI.ops 9) [.op])) (.q (.reg (.held true [20] (.take 0 (.take 1 (.take 2 (.take 3 (.take 4 (.take 5 (.take 6 (.take 7 (.take 8 (.take 9 (.take 10 (.take 11 (.take 12 (.take 13 (.take 14 (.take 15 (.all [(16,.take 17 (.take 18 (.take 19 (.all [(20,.done)]))))]))))))))))))))))))) .l))))) (.q .o3 (.c (.q .o2 (.q .o9 (.q (.q .o2 (.c (.q .o4 .l) .l)) (.q (.o 11) .l)))) (.q .o3 (.c (.q .o2 (.q .o9 .l)) (.q .o3 (.c (.q .o2 (.sjn [] (.q (.reg (.held true [8] (.take 0 (.take 1 (.take 2 (.take 3 (.take 4 (.take 5 (.take 6 (.take 7 (.all [(8,.take 9 (.take 10 (.take 11 (.take 12 (.take 13 (.done))))))]))))))))))) (.q .o3 (.c .o6 .l))) (.q .o9 (.sjn [] (.q .o5 (.c (.reg (.held true [13] (.take 0 (.take 1 (.take 2 (.take 3 (.take 4 (.take 5 (.take 6 (.take 7 (.take 8 (.all [(9,.all [(10,.take 11 (.take 12 (.all [(13,.done)])))])])))))))))))) .l)) (.q .o6 .l))))) (.q .o3 (.c (.q .o2 (.q .o8 (.q .o10 (.q (.reg (.held true [5] (.take 0 (.take 1 (.take 2 (.take 4 (.all [(3,.all [(5,.done)])]))))))) (.q .o6 .l))))) (.q .o3 (.c (.q .o2 (.reg (.tail 10 (RI.ops 10) [.op]))) (.q .o3 (.c (.q .o2 (.q .o9 (.q .o6 .l))) .l)))))))))))))))))))))))) (.q .o3 .l))))
def Zn.v (a:R2)(b:Int)(c:Value)(d:Hp)(e:Value->Int->Int->Hp->Prop):Prop:=Nw (.cells #[.I 0,.I 0] 97 (0,0)) d λf g=>NilP a λh=>LdS (h.add 8) g λi=>Ix i.a i.len b 3 λj=>Held g λk=>NilP a λl=>LdH k .s (l.add 7) λ(m:Sl)=>Zs.c a b g λn o=>And (k o) <| Ix m.a m.len n 1 λp=>LdP p o λq=>And (k o) <| Jn [] (λr=>St1 (f.add 0) (.I 0) r λs=>St1 (f.add 1) (.I 0) s λt=>LdI .i64 (f.add 0) t λu=>LdI .i64 (f.add 1) t λv=>e (.nilIface) u v t) λw=>∃t52:Int,∃is:Bool,AsB c 176 [.I t52] [.I 0] is ∧ (If is (Nw (.cells #[.I 0] 176 (0,0)) o λx y=>St1 x (.I t52) y λz=>Held z λaa=>NilP (some j) λab=>LdH aa .p (ab.add 0) λ(ac:R2)=>LdH aa (.i .i64) (x.add 0) λ(ad:Int)=>X1.c ac ad z λae af ag=>If (af==0) (Held ag λah=>NilP a λai=>LdH ah .s (ai.add 0) λ(aj:Sl)=>LdH ah (.i .i64) (x.add 0) λ(ak:Int)=>Ix aj.a aj.len ak 3 λal=>LdH ah (.i .i64) (al.add 0) λ(am:Int)=>LdH ah (.i .i64) (x.add 0) λ(an:Int)=>YS.c a ae am an ag λao ap aq ar=>And (ah ar) <| St1 (f.add 0) (.I ap) ar λau=>St1 (f.add 1) (.I aq) au λav=>LdI .i64 (f.add 0) av λaw=>LdI .i64 (f.add 1) av λax=>e (ao) aw ax av) (Held ag λay=>NilP (some j) λaz=>LdH ay .p (az.add 0) λ(a0:R2)=>LdH ay (.i .i64) (x.add 0) λ(a1:Int)=>Yj.c a0 a1 ag λa2 a3 a4=>LdI .i64 (x.add 0) a4 λa5=>St1 (f.add 0) (.I 0) a4 λa6=>St1 (f.add 1) (.I 0) a6 λa7=>LdI .i64 (f.add 0) a7 λa8=>LdI .i64 (f.add 1) a7 λa9=>e (.iface 186 (.agg #[.I a5,.I a2])) a8 a9 a7)) (∃t99:Int,∃t991:Int,∃is1:Bool,AsB c 186 [.I t99,.I t991] [.I 0,.I 0] is1 ∧
 (If is1 (Nw (.cells #[.I 0,.I 0] 186 (0,0)) o λba bb=>St1 (ba.add 0) (.I t99) bb λbc=>St1 (ba.add 1) (.I t991) bc λbd=>Jn [] (λbe=>LdI .i64 (ba.add 0) be λbf=>LdI .i64 (ba.add 1) be λbg=>St1 (f.add 0) (.I 0) be λbh=>St1 (f.add 1) (.I 0) bh λbi=>LdI .i64 (f.add 0) bi λbj=>LdI .i64 (f.add 1) bi λbk=>e (.iface 190 (.agg #[.I bf,.I bg])) bj bk bi) λbl=>LdI .i64 (ba.add 1) bd λbm=>NilP a λbn=>LdS (bn.add 0) bd λbo=>LdI .i64 (ba.add 0) bd λbp=>Ix bo.a bo.len bp 3 λbq=>LdI .i64 (bq.add 2) bd λbr=>If (bm==br) (LdI .i64 (ba.add 0) bd λbs=>Wz.c q bs bd λbt bu bv=>If (bu==0) (LdI .i64 (ba.add 0) bv λbw=>Yt.c a b bw bt bv λbx=>St1 (f.add 0) (.I 0) bx λbz=>St1 (f.add 1) (.I 0) bz λb0=>LdI .i64 (f.add 0) b0 λb1=>LdI .i64 (f.add 1) b0 λb2=>e (.iface 189 (.agg #[])) b1 b2 b0) (bl bv)) (bl bd)) (∃t135:Int,∃t1351:Int,∃is2:Bool,AsB c 190 [.I t135,.I t1351] [.I 0,.I 0] is2 ∧ (If is2 (Nw (.cells #[.I 0,.I 0] 190 (0,0)) o λb3 b4=>St1 (b3.add 0) (.I t135) b4 λb5=>St1 (b3.add 1) (.I t1351) b5 λb6=>LdI .i64 (b3.add 0) b6 λb7=>LdI .i64 (b3.add 1) b6 λb8=>WC.c q b7 b8 b6 λb9 ca cb=>If (((b9.len:Nat):Int)>0) (LdI .i64 (b3.add 0) cb λcc=>Yt.c a b cc b9 cb λcd=>St1 (f.add 0) (.I 0) cd λce=>St1 (f.add 1) (.I 0) ce λcf=>LdI .i64 (f.add 0) cf λcg=>LdI .i64 (f.add 1) cf λch=>e (.iface 189 (.agg #[])) cg ch cf) (LdI .i64 (b3.add 0) cb λci=>LdI .i64 (b3.add 1) cb λcj=>St1 (f.add 0) (.I 0) cb λck=>St1 (f.add 1) (.I 0) ck λcl=>LdI .i64 (f.add 0) cl λcm=>LdI .i64 (f.add 1) cl λcn=>
 e (.iface 192 (.agg #[.I ci,.I cj])) cm cn cl)) (∃t162:Int,∃t1621:Int,∃is3:Bool,AsB c 192 [.I t162,.I t1621] [.I 0,.I 0] is3 ∧ (If is3 (Nw (.cells #[.I 0,.I 0] 192 (0,0)) o λco cp=>St1 (co.add 0) (.I t162) cp λcq=>St1 (co.add 1) (.I t1621) cq λcr=>LdI .i64 (co.add 0) cr λcs=>Ya.c q cs cr λct cu=>If (ct != 0) (St1 (f.add 0) (.I 0) cu λcv=>St1 (f.add 1) (.I ct) cv λcw=>LdI .i64 (f.add 0) cw λcx=>LdI .i64 (f.add 1) cw λcy=>e (.nilIface) cx cy cw) (LdI .i64 (co.add 0) cu λcz=>LdI .i64 (co.add 1) cu λc0=>St1 (f.add 0) (.I 0) cu λc1=>St1 (f.add 1) (.I 0) c1 λc2=>LdI .i64 (f.add 0) c2 λc3=>LdI .i64 (f.add 1) c2 λc4=>e (.iface 190 (.agg #[.I cz,.I c0])) c3 c4 c2)) (∃is4:Bool,AsB c 189 [] [] is4 ∧ (If is4 (Nw (.cells #[] 189 (0,0)) o λc5 c6=>NilP (some j) λc7=>LdS (c7.add 1) c6 λc8=>Ix c8.a c8.len 0 2 λc9=>LdI .i64 (c9.add 0) c6 λda=>LdS (c9.add 1) c6 λdb=>Nw (.cells #[.I 0,.slice none 0 0] 119 (0,0)) c6 λdc dd=>St1 (dc.add 0) (.I da) dd λde=>St1 (dc.add 1) (.slice db.a db.len db.cap) de λdf=>NilP (some j) λdg=>St1 (dg.add 1) (.slice none 0 0) df λdh=>NilP (some j) λdi=>LdP (di.add 0) dh λdj=>LdI .i64 (dc.add 0) dh λdk=>LdS (dc.add 1) dh λdl=>SlcL dl 1 1 (dl.len:Nat) (dl.cap:Nat) λdm=>Yg.c dj dk dm dh λdn dp=>Held dp λdq=>LdH dq .s (dc.add 1) λ(dr:Sl)=>Ix dr.a dr.len 0 1 λds=>LdH dq (.i .i64) ds λ(dt:Int)=>NilP a λdu=>LdH dq .s (du.add 0) λ(dv:Sl)=>LdH dq (.i .i64) (dc.add 0) λ(dw:Int)=>Ix dv.a dv.len dw 3 λdx=>LdH dq (.i .i64) (dx.add 0) λ(dy:Int)=>
 LdH dq (.i .i64) (dc.add 0) λ(dz:Int)=>YS.c a dt dy dz dp λd0 d1 d2 d3=>And (dq d3) <| St1 (f.add 0) (.I d1) d3 λd4=>St1 (f.add 1) (.I d2) d4 λd5=>LdI .i64 (f.add 0) d5 λd6=>LdI .i64 (f.add 1) d5 λd7=>e (d0) d6 d7 d5) (∃t217:Int,∃is5:Bool,AsB c 178 [.I t217] [.I 0] is5 ∧ (If is5 (Nw (.cells #[.I 0] 178 (0,0)) o λd8 d9=>St1 d8 (.I t217) d9 λea=>LdI .i64 (d8.add 0) ea λeb=>WS.c q eb 1 ea λec ed ee=>If (ed != 0) (St1 (f.add 0) (.I 0) ee λef=>St1 (f.add 1) (.I ed) ef λeg=>LdI .i64 (f.add 0) eg λeh=>LdI .i64 (f.add 1) eg λei=>e (.nilIface) eh ei eg) (Ar .i64 (ec*256) λej=>LdI .i64 (d8.add 0) ee λek=>Ar .i64 (ek*256) λel=>YS.c a ej el (-1) ee λem en eo ep=>St1 (f.add 0) (.I en) ep λeq=>St1 (f.add 1) (.I eo) eq λer=>LdI .i64 (f.add 0) er λes=>LdI .i64 (f.add 1) er λet=>e (em) es et er)) (∃t240:Int,∃is6:Bool,AsB c 180 [.I t240] [.I 0] is6 ∧ (If is6 (Nw (.cells #[.I 0] 180 (0,0)) o λeu ev=>St1 eu (.I t240) ev λew=>LdI .i64 (eu.add 0) ew λex=>Zj.c a b ex ew λey ez e0 e1=>St1 (f.add 0) (.I ez) e1 λe2=>St1 (f.add 1) (.I e0) e2 λe3=>LdI .i64 (f.add 0) e3 λe4=>LdI .i64 (f.add 1) e3 λe5=>e (ey) e4 e5 e3) (∃t250:Int,∃t2501:Int,∃is7:Bool,AsB c 197 [.I t250,.I t2501] [.I 0,.I 0] is7 ∧ (If is7 (Nw (.cells #[.I 0,.I 0] 197 (0,0)) o λe6 e7=>St1 (e6.add 0) (.I t250) e7 λe8=>St1 (e6.add 1) (.I t2501) e8 λe9=>Jn [] (λfa=>NilP (some j) λfb=>LdS (fb.add 1) fa λfc=>SlcL fc 2 1 (fc.len:Nat) (fc.cap:Nat) λfd=>NilP (some j) λfe=>St1 (fe.add 1) (.slice fd.a fd.len fd.cap) fa λff=>Jn [] (λfg=>
 W4.c a b fg λfh fi=>St1 (f.add 0) (.I 0) fi λfj=>St1 (f.add 1) (.I 0) fj λfk=>LdI .i64 (f.add 0) fk λfl=>LdI .i64 (f.add 1) fk λfm=>e (fh) fl fm fk) λfn=>NilP (some j) λfo=>LdP (fo.add 0) ff λfp=>X2.c fp ff λfq fr=>If fq (Held fr λfs=>NilP (some j) λft=>LdH fs .s (ft.add 1) λ(fu:Sl)=>NilP (some j) λfv=>LdH fs .p (fv.add 0) λ(fw:Option Addr)=>W7.c fw fr λfx fy=>And (fs fy) <| App fu 2 32 119 [.I 0,.slice none 0 0] fx fy λfz f0=>And (fs f0) <| NilP (some j) λf1=>St1 (f1.add 1) (.slice fz.a fz.len fz.cap) f0 λf2=>fn f2) (fn fr)) λf3=>Held e9 λf4=>NilP (some j) λf5=>LdH f4 .p (f5.add 0) λ(f6:Option Addr)=>LdH f4 (.i .i64) (e6.add 0) λ(f7:Int)=>LdH f4 (.i .i64) (e6.add 1) λ(f8:Int)=>YI.c f6 f7 f8 e9 λf9 ga gb=>If (((f9.len:Nat):Int)>0) (LdI .i64 (e6.add 0) gb λgc=>Yt.c a b gc f9 gb λgd=>f3 gd) (f3 gb)) (∃is8:Bool,AsB c 200 [] [] is8 ∧ (If is8 (Nw (.cells #[] 200 (0,0)) o λge gf=>NilP (some j) λgg=>LdS (gg.add 1) gf λgh=>Ix gh.a gh.len 0 2 λgi=>LdI .i64 (gi.add 0) gf λgj=>LdS (gi.add 1) gf λgk=>Nw (.cells #[.I 0,.slice none 0 0] 119 (0,0)) gf λgl gm=>St1 (gl.add 0) (.I gj) gm λgn=>St1 (gl.add 1) (.slice gk.a gk.len gk.cap) gn λgo=>NilP (some j) λgp=>LdS (gp.add 1) go λgq=>SlcL gq 2 1 (gq.len:Nat) (gq.cap:Nat) λgr=>Wp.c gr go λgs gt=>NilP (some j) λgu=>St1 (gu.add 1) (.slice gs.a gs.len gs.cap) gt λgv=>Held gv λgw=>LdH gw (.i .i64) (gl.add 0) λ(gx:Int)=>LdH gw .s (gl.add 1) λ(gy:Sl)=>Zs.c a b gv λgz g0=>And (gw g0) <| Zo.c a gz gx gy g0 λg1=>
 W4.c a b g1 λg2 g3=>St1 (f.add 0) (.I 0) g3 λg4=>St1 (f.add 1) (.I 0) g4 λg5=>LdI .i64 (f.add 0) g5 λg6=>LdI .i64 (f.add 1) g5 λg7=>e (g2) g6 g7 g5) (∃t332:Int,∃t3321:Int,∃is9:Bool,AsB c 204 [.I t332,.I t3321] [.I 0,.I 0] is9 ∧ (If is9 (Nw (.cells #[.I 0,.I 0] 204 (0,0)) o λg8 g9=>St1 (g8.add 0) (.I t332) g9 λha=>St1 (g8.add 1) (.I t3321) ha λhb=>NilP a λhc=>LdS (hc.add 7) hb λhd=>LdI .i64 (g8.add 1) hb λhe=>Ix hd.a hd.len he 1 λhf=>LdP hf hb λhg=>LdI .i64 (g8.add 0) hb λhh=>WQ.c hg hh hb λhi hj=>w hj) (∃is10:Bool,AsB c 182 [] [] is10 ∧ (If is10 (Nw (.cells #[] 182 (0,0)) o λhk hl=>NilP (some j) λhm=>LdP (hm.add 0) hl λhn=>XS.c hn hl λho hp=>NilP (some j) λhq=>St1 (hq.add 1) (.slice ho.a ho.len ho.cap) hp λhr=>W4.c a b hr λhs ht=>St1 (f.add 0) (.I 0) ht λhu=>St1 (f.add 1) (.I 0) hu λhv=>LdI .i64 (f.add 0) hv λhw=>LdI .i64 (f.add 1) hv λhx=>e (hs) hw hx hv) (w o))))))))))))))))))))))
theorem Zn.o {a b c d e}(f:Zn.v a b c d e):Zn.c a b c d e:=Wa Tryz.func79 (x:=Zn.h) (R0 f)
def X9.h:Hn:=.q .o2 (.q (.q .o2 (.c (.q .o1 .l) .l)) (.q .o7 .l))
def X9.v (a:R2)(b:Int)(c:Hp)(d:Int->Hp->Prop):Prop:=Nw (.cells #[.I b] 3 (0,0)) c λe f=>LdI .i64 e f λg=>If (g<0) (d (-1) f) (NilP a λh=>LdS (h.add 7) f λi=>Wk.c i ⟨154,#[],#[.pointer (some e)]⟩ f λj k=>d j k)
theorem X9.o {a b c d}(e:X9.v a b c d):X9.c a b c d:=Wa Tryz.func100 (x:=X9.h) (R0 e)
def Qw.h:Hn:=.q .o2 (.q (.reg (.seq [.op,.op,.op,.op,.grd true 3 (RI.ops 3),.op,.grd true 4 (RI.ops 4),.op,.grd true 3 (RI.ops 3),.op,.grd true 3 (RI.ops 3),.op,.grd true 3 (RI.ops 3),.op,.grd true 3 (RI.ops 3),.op,.grd true 3 (RI.ops 3),.op,.grd true 3 (RI.ops 3),.op,.grd true 3 (RI.ops 3),.op,.grd true 3 (RI.ops 3),.op])) .l)
def Qw.v (a b c d e:Int)(f:Hp)(g:Bool->Hp->Prop):Prop:=Nw (.cells #[.I a,.I b,.I c,.I d,.I e] 26 (0,0)) f λh i=>LdI .i64 (h.add 0) i λj=>JnB (λk l=>JnB (λm n=>JnB (λo p=>JnB (λq r=>JnB (λs t=>JnB (λu v=>JnB (λw x=>JnB (λy z=>JnB (λaa ab=>JnB (λac ad=>g ac ad) λae=>If aa (LdI .i64 (h.add 4) ab λaf=>ae (decide (af<=8)) ab) (ae false ab)) λag=>If y (LdI .i64 (h.add 4) z λah=>ag (decide (ah≥0)) z) (ag false z)) λai=>If w (LdI .i64 (h.add 3) x λaj=>ai (decide (aj<=65536)) x) (ai false x)) λak=>If u (LdI .i64 (h.add 3) v λal=>ak (decide (al≥0)) v) (ak false v)) λam=>If s (LdI .i64 (h.add 2) t λan=>am (decide (an<=4)) t) (am false t)) λao=>If q (LdI .i64 (h.add 2) r λap=>ao (decide (ap≥1)) r) (ao false r)) λaq=>If o (LdI .i64 (h.add 1) p λar=>aq (decide (ar<=4)) p) (aq false p)) λau=>If m (LdI .i64 (h.add 1) n λav=>au (decide (av≥1)) n) (au false n)) λaw=>If k (LdI .i64 (h.add 0) l λax=>Nz 16 <| aw ((ax.tmod 16)==0) l) (aw false l)) λay=>If (j≥32) (LdI .i64 (h.add 0) i λaz=>ay (decide (az<=1024)) i) (ay false i)
theorem Qw.o {a b c d e f g}(h:Qw.v a b c d e f g):Qw.c a b c d e f g:=Wa Tryz.func105 (x:=Qw.h) (R0 h)
def Zs.h:Hn:=.q .o1 (.q .o8 .l)
def Zs.v (a:R2)(b:Int)(c:Hp)(d:Int->Hp->Prop):Prop:=NilP a λe=>LdS (e.add 7) c λf=>Nz ((f.len:Nat):Int) <| d (b.tmod ((f.len:Nat):Int)) c
theorem Zs.o {a b c d}(e:Zs.v a b c d):Zs.c a b c d:=Wa Tryz.func109 (x:=Zs.h) (R0 e)
def YS.h:Hn:=.q .o2 (.q (.reg (.held true [12] (.take 0 (.take 1 (.take 2 (.take 3 (.take 4 (.take 5 (.take 6 (.take 7 (.take 8 (.take 9 (.all [(10,.take 11 (.all [(12,.done)]))]))))))))))))) (.q .o4 .l))
def YS.v (a:R2)(b c d:Int)(e:Hp)(f:Value->Int->Int->Hp->Prop):Prop:=Nw (.cells #[.I 0,.I 0] 97 (0,0)) e λg h=>Held h λi=>NilP a λj=>LdH i .m (j.add 9) λ(k:Option Nat)=>X9.c a b h λl m=>And (i m) <| MSet .i64 (.ag 4) k b (b,c,d,l) m λn=>St1 (g.add 0) (.I b) n λo=>St1 (g.add 1) (.I 0) o λp=>LdI .i64 (g.add 0) p λq=>LdI .i64 (g.add 1) p λr=>f (.nilIface) q r p
theorem YS.o {a b c d e f}(g:YS.v a b c d e f):YS.c a b c d e f:=Wa Tryz.func111 (x:=YS.h) (R0 g)
def Yt.h:Hn:=.reg (.held true [20] (.take 0 (.take 1 (.take 2 (.take 3 (.take 4 (.take 5 (.take 6 (.take 7 (.take 8 (.take 9 (.take 10 (.take 11 (.take 12 (.take 13 (.take 14 (.take 15 (.all [(16,.all [(17,.take 18 (.take 19 (.all [(20,.done)])))])]))))))))))))))))))
def Yt.v (a:R2)(b c:Int)(d:Sl)(e:Hp)(f:Hp->Prop):Prop:=Held e λg=>NilP a λh=>LdH g .s (h.add 8) λ(i:Sl)=>NilP a λj=>LdH g .s (j.add 8) λ(k:Sl)=>Ix k.a k.len b 3 λl=>LdH g .s (l.add 1) λ(m:Sl)=>Nw (.cells #[.I c,.slice d.a d.len d.cap] 119 (0,0)) e λn o=>And (g o) <| App m 2 32 119 [.I 0,.slice none 0 0] ⟨some n,1,1⟩ o λp q=>And (g q) <| Ix i.a i.len b 3 λr=>St1 (r.add 1) (.slice p.a p.len p.cap) q λs=>f s
theorem Yt.o {a b c d e f}(g:Yt.v a b c d e f):Yt.c a b c d e f:=Wa Tryz.func114 (x:=Yt.h) (R0 g)
def Zj.h:Hn:=.q .o2 (.q (.o 12) (.q (.q .o2 (.c (.sjn [] (.q .o4 (.q .o2 (.c (.q (.o 16) (.q (.reg (.seq [.op,.op,.op,.grd true 2 [.op,.op],.op,.grd true 3 (RI.ops 3)])) (.c (.q .o3 .l) .l))) .l))) (.q .o3 .l)) .l)) (.q .o6 (.q (.q .o3 (.c (.q .o9 .l) .l)) (.q .o7 (.q .o8 .l))))))
def Zj.v (a:R2)(b c:Int)(d:Hp)(e:Value->Int->Int->Hp->Prop):Prop:=Nw (.cells #[.I 0,.I 0] 97 (0,0)) d λf g=>NilP a λh=>LdM (h.add 9) g λi=>Lk .i64 (.ag 4) i c g λj=>Nw (.cells #[.I 0,.I 0,.I 0,.I 0] 65 (0,0)) g λk l=>St1 (k.add 0) (.I ((j.getD (0,0,0,0)).1)) l λm=>St1 (k.add 1) (.I ((j.getD (0,0,0,0)).2.1)) m λn=>St1 (k.add 2) (.I ((j.getD (0,0,0,0)).2.2.1)) n λo=>St1 (k.add 3) (.I ((j.getD (0,0,0,0)).2.2.2)) o λp=>If (!j.isSome) (Jn [] (λq=>St1 (f.add 0) (.I 0) q λr=>St1 (f.add 1) (.I 8) r λs=>LdI .i64 (f.add 0) s λt=>LdI .i64 (f.add 1) s λu=>e (.nilIface) t u s) λv=>X9.c a c p λw x=>If (w≥0) (NilP a λy=>LdS (y.add 7) x λz=>Ix z.a z.len w 1 λaa=>LdP aa x λab=>YU.c ab c x λac ad ae af=>JnB (λag ah=>JnB (λai aj=>If ai (St1 (f.add 0) (.I 0) aj λak=>St1 (f.add 1) (.I 9) ak λal=>LdI .i64 (f.add 0) al λam=>LdI .i64 (f.add 1) al λan=>e (.nilIface) am an al) (v aj)) λao=>If ag (ao (ad==c) ah) (ao false ah)) λap=>If (ae==0) (ap (decide (ac≥0)) af) (ap false af)) (v x)) (NilP a λaq=>LdM (aq.add 9) p λar=>MDel .i64 (.ag 4) ar c p λau=>LdI .i64 (k.add 2) au λav=>If (av<0) (Nz 256<|Ar .i64 (c.tdiv 256) λaw=>LdI .i64 (k.add 3) au λax=>St1 (f.add 0) (.I 0) au λay=>St1 (f.add 1) (.I 0) ay λaz=>LdI .i64 (f.add 0) az λa0=>LdI .i64 (f.add 1) az λa1=>e (.iface 204 (.agg #[.I aw,.I ax])) a0 a1 az) (LdI .i64 (k.add 2) au λa2=>Nw (.cells #[.I c] 3 (0,0)) au λa3 a4=>Yt.c a b a2 ⟨some a3,1,1⟩ a4 λa5=>LdI .i64 (k.add 2) a5 λa6=>St1 (f.add 0) (.I 0) a5 λa7=>
 St1 (f.add 1) (.I 0) a7 λa8=>LdI .i64 (f.add 0) a8 λa9=>LdI .i64 (f.add 1) a8 λba=>e (.iface 197 (.agg #[.I a6,.I c])) a9 ba a8))
theorem Zj.o {a b c d e}(f:Zj.v a b c d e):Zj.c a b c d e:=Wa Tryz.func119 (x:=Zj.h) (R0 f)
def W4.h:Hn:=.q .o1 (.q (.q .o10 (.c (.q .o1 .l) .l)) (.q .o3 .l))
def W4.v (a:R2)(b:Int)(c:Hp)(d:Value->Hp->Prop):Prop:=NilP a λe=>LdS (e.add 8) c λf=>Ix f.a f.len b 3 λg=>LdS (g.add 1) c λh=>If (((h.len:Nat):Int)==0) (d (.nilIface) c) (d (.iface 200 (.agg #[])) c)
theorem W4.o {a b c d}(e:W4.v a b c d):W4.c a b c d:=Wa Tryz.func123 (x:=W4.h) (R0 e)
def Zo.h:Hn:=.q .o1 (.q .o7 (.q (.q .o4 (.k (.loop [(23,.I)] (.q .o1 (.q (.c .l .l) (.q (.k (.q .o3 (.q .o4 (.o 11)))) .o2)))))) (.sjn [] (.q (.oq 9) (.c (.q (.reg (.held true [] (.take 0 (.take 1 (.take 2 (.take 3 (.take 4 (.take 5 (.take 6 (.take 7 (.take 8 (.take 9 (.take 10 (.all [(11,.take 12 (.take 13 (.take 14 (.take 15 (.take 16 (.done))))))])))))))))))))) (.q (.reg (.seq [.op,.op,.grd true 2 [.op,.op]])) (.c .l .l))) .l)) (.q .o3 (.k (.loop [(72,.I)] (.q .o1 (.q (.c .l .l) (.q (.k (.q .o5 (.q .o3 (.c (.reg (.tail 10 (RI.ops 10) [.op])) .l)))) .o2)))))))))
def Zo.v (a:R2)(b c:Int)(d:Sl)(e:Hp)(f:Hp->Prop):Prop:=Nw (.cells #[.I c,.slice d.a d.len d.cap] 119 (0,0)) e λg h=>NilP a λi=>LdS (i.add 7) h λj=>Mk ((j.len:Nat):Int) ((j.len:Nat):Int) 24 22 [.slice none 0 0] h λk l=>LdS (g.add 1) l λm=>Xo [(.i .i64)] (λn=>n 0 l) λo (p:Int) q=>If (p<((m.len:Nat):Int)) (Ix m.a m.len p 1 λr=>LdI .i64 r q λs=>X9.c a s q λt u=>Ix k.a k.len t 1 λv=>LdS v u λw=>Nw (.cells #[.I s] 3 (0,0)) u λx y=>App w 1 8 3 [.I 0] ⟨some x,1,1⟩ y λz aa=>Ix k.a k.len t 1 λab=>St1 ab (.slice z.a z.len z.cap) aa λac=>Ar .i64 (p+1) λad=>o ad ac) (Jn [] (λae=>Xo [(.i .i64)] (λaf=>af 0 ae) λag (ah:Int) ai=>If (ah<((k.len:Nat):Int)) (Ix k.a k.len ah 1 λaj=>LdS aj ai λak=>If (((ak.len:Nat):Int)>0) (NilP a λal=>LdS (al.add 7) ai λam=>Ix am.a am.len ah 1 λan=>LdP an ai λao=>LdI .i64 (g.add 0) ai λap=>WA.c ao ap ak ai λaq ar=>Ar .i64 (ah+1) λau=>ag au ar) (Ar .i64 (ah+1) λav=>ag av ai)) (f ai)) λaw=>Ix k.a k.len b 1 λax=>LdS ax q λay=>LdS (g.add 1) q λaz=>If (((ay.len:Nat):Int)==((az.len:Nat):Int)) (Held q λa0=>NilP a λa1=>LdH a0 .s (a1.add 7) λ(a2:Sl)=>Ix a2.a a2.len b 1 λa3=>LdH a0 .p a3 λ(a4:R2)=>LdH a0 (.i .i64) (g.add 0) λ(a5:Int)=>LdH a0 .s (g.add 1) λ(a6:Sl)=>WH.c a4 a5 a6 q λa7 a8 a9=>And (a0 a9) <| JnB (λba bb=>If ba (f bb) (aw bb)) λbc=>If a7 (bc (a8==0) a9) (bc false a9)) (aw q))
theorem Zo.o {a b c d e f}(g:Zo.v a b c d e f):Zo.c a b c d e f:=Wa Tryz.func125 (x:=Zo.h) (R0 g)
def Y4.h:Hn:=.q .o1 (.q .o5 .l)
def Y4.v (a:R2)(b:Addr)(c:Hp)(d:Bool->Hp->Prop):Prop:=LdI .i64 b c λe=>Nz 256<|Ar .i64 (e.tdiv 256) λf=>YW.c a f c λg h=>d g h
theorem Y4.o {a b c d}(e:Y4.v a b c d):Y4.c a b c d:=Wa Tryz.func154 (x:=Y4.h) (R0 e)
def ZP.h:Hn:=.q .o2 (.q .o1 .l)
def ZP.v (a:Int)(b:Hp)(c:ByteArray->Hp->Prop):Prop:=Nw (.cells #[.I a] 176 (0,0)) b λd e=>c (ByteArray.mk #[116,97,107,101]) e
theorem ZP.o {a b c}(d:ZP.v a b c):ZP.c a b c:=Wa Tryz.func320 (x:=ZP.h) (R0 d)
def ZH.h:Hn:=.q .o2 (.q .o1 .l)
def ZH.v (a:Int)(b:Hp)(c:ByteArray->Hp->Prop):Prop:=Nw (.cells #[.I a] 178 (0,0)) b λd e=>c (ByteArray.mk #[108,97,114,103,101]) e
theorem ZH.o {a b c}(d:ZH.v a b c):ZH.c a b c:=Wa Tryz.func321 (x:=ZH.h) (R0 d)
def ZU.h:Hn:=.q .o2 (.q .o1 .l)
def ZU.v (a:Int)(b:Hp)(c:ByteArray->Hp->Prop):Prop:=Nw (.cells #[.I a] 180 (0,0)) b λd e=>c (ByteArray.mk #[102,105,110,100]) e
theorem ZU.o {a b c}(d:ZU.v a b c):ZU.c a b c:=Wa Tryz.func322 (x:=ZU.h) (R0 d)
def ZI.h:Hn:=.q .o2 (.q .o1 .l)
def ZI.v (a:Hp)(b:ByteArray->Hp->Prop):Prop:=Nw (.cells #[] 182 (0,0)) a λc d=>b (ByteArray.mk #[100,114,97,105,110]) d
theorem ZI.o {a b}(c:ZI.v a b):ZI.c a b:=Wa Tryz.func323 (x:=ZI.h) (R0 c)
def Y5.h:Hn:=.q .o2 (.q .o1 .l)
def Y5.v (a b:Int)(c:Hp)(d:ByteArray->Hp->Prop):Prop:=Nw (.cells #[.I a,.I b] 186 (0,0)) c λe f=>d (ByteArray.mk #[116,114,97,110,115,102,101,114]) f
theorem Y5.o {a b c d}(e:Y5.v a b c d):Y5.c a b c d:=Wa Tryz.func324 (x:=Y5.h) (R0 e)
def ZT.h:Hn:=.q .o2 (.q .o1 .l)
def ZT.v (a:Hp)(b:ByteArray->Hp->Prop):Prop:=Nw (.cells #[] 189 (0,0)) a λc d=>b (ByteArray.mk #[102,105,108,108]) d
theorem ZT.o {a b}(c:ZT.v a b):ZT.c a b:=Wa Tryz.func325 (x:=ZT.h) (R0 c)
def Zh.h:Hn:=.q .o2 (.q .o1 .l)
def Zh.v (a b:Int)(c:Hp)(d:ByteArray->Hp->Prop):Prop:=Nw (.cells #[.I a,.I b] 190 (0,0)) c λe f=>d (ByteArray.mk #[99,101,110,116,114,97,108]) f
theorem Zh.o {a b c d}(e:Zh.v a b c d):Zh.c a b c d:=Wa Tryz.func326 (x:=Zh.h) (R0 e)
def ZQ.h:Hn:=.q .o2 (.q .o1 .l)
def ZQ.v (a b:Int)(c:Hp)(d:ByteArray->Hp->Prop):Prop:=Nw (.cells #[.I a,.I b] 192 (0,0)) c λe f=>d (ByteArray.mk #[103,114,111,119]) f
theorem ZQ.o {a b c d}(e:ZQ.v a b c d):ZQ.c a b c d:=Wa Tryz.func327 (x:=ZQ.h) (R0 e)
def Z8.h:Hn:=.q .o2 (.q .o1 .l)
def Z8.v (a b:Int)(c:Hp)(d:ByteArray->Hp->Prop):Prop:=Nw (.cells #[.I a,.I b] 197 (0,0)) c λe f=>d (ByteArray.mk #[112,117,116]) f
theorem Z8.o {a b c d}(e:Z8.v a b c d):Z8.c a b c d:=Wa Tryz.func328 (x:=Z8.h) (R0 e)
def ZR.h:Hn:=.q .o2 (.q .o1 .l)
def ZR.v (a:Hp)(b:ByteArray->Hp->Prop):Prop:=Nw (.cells #[] 200 (0,0)) a λc d=>b (ByteArray.mk #[98,97,99,107]) d
theorem ZR.o {a b}(c:ZR.v a b):ZR.c a b:=Wa Tryz.func329 (x:=ZR.h) (R0 c)
def ZS.h:Hn:=.q .o2 (.q .o1 .l)
def ZS.v (a b:Int)(c:Hp)(d:ByteArray->Hp->Prop):Prop:=Nw (.cells #[.I a,.I b] 204 (0,0)) c λe f=>d (ByteArray.mk #[103,105,118,101]) f
theorem ZS.o {a b c d}(e:ZS.v a b c d):ZS.c a b c d:=Wa Tryz.func330 (x:=ZS.h) (R0 e)
end Go.Proofs
namespace Go.Ar
open Go Go.Vc Go.Proofs
def phV:Option Ph->Value
 | none=>.nilIface
 | some (.take k)=>.iface 176 (.agg #[.int .i64 (k:Int)])
 | some (.transfer k w)=>.iface 186 (.agg #[.int .i64 (k:Int),.int .i64 (w:Int)])
 | some (.central k w)=>.iface 190 (.agg #[.int .i64 (k:Int),.int .i64 (w:Int)])
 | some (.grow k w)=>.iface 192 (.agg #[.int .i64 (k:Int),.int .i64 (w:Int)])
 | some .fill=>.iface 189 (.agg #[])
 | some (.large m)=>.iface 178 (.agg #[.int .i64 (m:Int)])
 | some (.find x)=>.iface 180 (.agg #[.int .i64 x])
 | some (.put k x)=>.iface 197 (.agg #[.int .i64 (k:Int),.int .i64 x])
 | some .back=>.iface 200 (.agg #[])
 | some (.give s a)=>.iface 204 (.agg #[.int .i64 s,.int .i64 a])
 | some .drain=>.iface 182 (.agg #[])
theorem G5 (p:Option Ph):IsIf (phV p):=by
 cases p with
 | none=>exact .inl rfl
 | some p=>cases p<;>exact .inr ⟨_,_,rfl⟩
theorem WaR (p:Option Ph):nilI (phV p)=p.isNone:=by
 cases p with
 | none=>rfl
 | some p=>cases p<;>rfl
inductive LbH where
 | hd|tab|sp|arow|trow|live
 | ar (k:Nat)
 | ca (k:Nat)
 | hn (k:Nat)
 deriving DecidableEq
structure LayT where
 c:LayC
 h:Sl
structure LayH where
 p:Nat
 hs:Nat
 lm:Nat
 tab:Sl
 arow:Sl
 trow:Sl
 ys:List Lay
 ts:List LayT
def hdH (L:LayH)(c:Cf):List Value:=[.slice L.tab.a L.tab.len L.tab.cap,.int .i64 (c.pages:Int),.int .i64 (c.arenas:Int),.int .i64 (c.threads:Int),.int .i64 (c.budget:Int),.int .i64 (c.room:Int),
 .pointer (some ⟨L.hs,0,none⟩),.slice L.arow.a L.arow.len L.arow.cap,.slice L.trow.a L.trow.len L.trow.cap,.map (some L.lm)]
def thV (x:LayT×Th):List Value:=[.pointer (some ⟨x.1.c.p,0,none⟩),.slice x.1.h.a x.1.h.len x.1.h.cap,phV x.2.ph]
def trV (ts:List LayT)(ths:List Th):List Value:=(ts.zip ths).flatMap thV
theorem HV:∀{ts:List LayT} {ths:List Th},ts.length=ths.length->(trV ts ths).length=ths.length*3
 | [],[],_=>rfl
 | x::ts,h::ths,e=>by
  have e1:trV (x::ts) (h::ths)=thV (x,h)++trV ts ths:=rfl;have e3:(thV (x,h)).length=3:=rfl;rw[e1,zQ,HV (by simpa using e),e3,zV];omega
 | [],_::_,e=>by simp at e
 | _::_,[],e=>by simp at e
theorem WdO:∀{ts:List LayT} {ths:List Th} {i:Nat} {x:LayT} {h:Th},ts[i]?=some x->ths[i]?=some h->∀{d:Nat},d<3->(trV ts ths)[3*i+d]?=(thV (x,h))[d]?
 | [],_,_,_,_,h1,_,_,_=>by simp at h1
 | _::_,[],_,_,_,_,h2,_,_=>by simp at h2
 | y::ts,g::ths,0,x,h,h1,h2,d,hd=>by
  have e1:trV (y::ts) (g::ths)=thV (y,g)++trV ts ths:=rfl;have e3:(thV (y,g)).length=3:=rfl;simp at h1 h2;subst h1;subst h2;rw[e1,zf (by omega)];congr 1;omega
 | y::ts,g::ths,i+1,x,h,h1,h2,d,hd=>by
  have e1:trV (y::ts) (g::ths)=thV (y,g)++trV ts ths:=rfl;have e3:(thV (y,g)).length=3:=rfl;rw[e1,zn (by omega),e3,show 3*(i+1)+d-3=3*i+d by omega];exact WdO (by simpa using h1) (by simpa using h2) hd
theorem WbE:∀{ts:List LayT} {ths:List Th} {i:Nat} {x:LayT} {h:Th},ts[i]?=some x->ths[i]?=some h->∀{d:Nat} {v:Value} {x':LayT} {h':Th},d<3->thV (x',h')=(thV (x,h)).set d v →
 (trV ts ths).set (3*i+d) v=trV (ts.set i x') (ths.set i h')
 | [],_,_,_,_,h1,_,_,_,_,_,_,_=>by simp at h1
 | _::_,[],_,_,_,_,h2,_,_,_,_,_,_=>by simp at h2
 | y::ts,g::ths,0,x,h,h1,h2,d,v,x',h',hd,e=>by
  have e1:trV (y::ts) (g::ths)=thV (y,g)++trV ts ths:=rfl;have e2:trV ((y::ts).set 0 x') ((g::ths).set 0 h')=thV (x',h')++trV ts ths:=rfl;have e3:(thV (y,g)).length=3:=rfl;simp at h1 h2;subst h1;subst h2;rw[e1,e2,List.set_append_left _ _ (by omega),e,show 3*0+d=d by omega]
 | y::ts,g::ths,i+1,x,h,h1,h2,d,v,x',h',hd,e=>by
  have e1:trV (y::ts) (g::ths)=thV (y,g)++trV ts ths:=rfl;have e2:trV ((y::ts).set (i+1) x') ((g::ths).set (i+1) h')=thV (y,g)++trV (ts.set i x') (ths.set i h'):=rfl;have e3:(thV (y,g)).length=3:=rfl;rw[e1,e2,zEZ _ _ (by omega),e3,show 3*(i+1)+d-3=3*i+d by omega];rw[WbE (by simpa using h1) (by simpa using h2) hd e]
def ArH (y:Option Lay)(a:Option AR):Hp->Rg->Prop:=λU F=>match y,a with
 | some Y,some A=>AHY U F Y A (traT A Y)
 | _,_=>True
def CaH (x:Option LayT)(h:Option Th)(tb:List Cls)(bud:Nat):Hp->Rg->Prop:=λU F=>match x,h with
 | some x,some h=>CaY U F x.c tb bud h.ls
 | _,_=>True
def HnH (x:Option LayT)(h:Option Th):Hp->Rg->Prop:=λU F=>match x,h with
 | some x,some h=>BtR x.h h.hands U F
 | _,_=>True
def CH (H:Hw)(L:LayH):LbH->Hp->Rg->Prop
 | .hd=>BlkR L.p (hdH L H.cf)
 | .tab=>SlR L.tab 3 (tabV H.tb)
 | .sp=>λU F=>SpH3 U F L.hs H.sp
 | .arow=>SlR L.arow 1 (ptrV (L.ys.map (·.p)))
 | .trow=>RowR L.trow 3 (trV L.ts H.ths)
 | .live=>MapR L.lm .i64 (.ag 4) H.live
 | .ar k=>ArH L.ys[k]? H.ars[k]?
 | .ca t=>CaH L.ts[t]? H.ths[t]? H.tb H.cf.budget
 | .hn t=>HnH L.ts[t]? H.ths[t]?
theorem ArH.loc (y:Option Lay)(a:Option AR):Lcl (ArH y a):=by
 intro U σ' F G h hz hs;unfold ArH at *;split at h
 ·exact AHY.loc _ _ _ _ h hz hs
 ·trivial
theorem CaH.loc (x:Option LayT)(h:Option Th)(tb:List Cls)(bud:Nat):Lcl (CaH x h tb bud):=by
 intro U σ' F G h hz hs;unfold CaH at *;split at h
 ·exact CaY.loc _ _ _ _ h hz hs
 ·trivial
theorem HnH.loc (x:Option LayT)(h:Option Th):Lcl (HnH x h):=by
 intro U σ' F G h hz hs;unfold HnH at *;split at h
 ·exact BtR.loc _ _ _ _ _ _ h hz hs
 ·trivial
theorem CH.loc {H:Hw}{L:LayH}:∀i,Lcl (CH H L i)
 | .hd=>BlkR.loc _ _
 | .tab=>SlR.loc _ _ _
 | .sp=>SpH3.loc
 | .arow=>SlR.loc _ _ _
 | .trow=>RowR.loc _ _ _
 | .live=>MapR.loc _ _ _ _
 | .ar k=>ArH.loc _ _
 | .ca t=>CaH.loc _ _ _ _
 | .hn t=>HnH.loc _ _
structure HS (L:LayH) (H:Hw):Prop where
 ys:L.ys.length=H.ars.length
 hs:∀Y∈L.ys,Y.hs=L.hs
 ts:L.ts.length=H.ths.length
 a1:1<=H.ars.length
 a2:H.ars.length<=4
 t1:1<=H.ths.length
 t2:H.ths.length<=4
 tb:∀A∈H.ars,A.tb=H.tb
structure HH (U:Hp) (F:Rg) (L:LayH) (H:Hw):Prop where
 s:HS L H
 sep:Sep (CH H L) U F
 g:Gl U
 gd:Gd U
 o:Off F
 o2:¬F 1
variable {U:Hp}{F:Rg}{L:LayH}{H:Hw}{t k:Nat}
theorem HH.keep0 (h:HH U F L H){σ':Hp}(e:Ext0 U σ'):HH σ' F L H:=⟨h.s,(Sep.loc CH.loc).keep0 h.sep e,h.g.keep0 e,h.gd.keep0 e,h.o,h.o2⟩
theorem HH.keep (h:HH U F L H){σ':Hp}{T:Rg}(e:Ext T U σ')(hT:∀b,b<U.size->F b->¬T b)(hg:Off T)(hg2:¬T 1):HH σ' F L H:=⟨h.s,(Sep.loc CH.loc).keep h.sep e hT,h.g.keep e hg,h.gd.keep e hg2,h.o,h.o2⟩
theorem Wh9 {U:Hp}(g:Gd U):1<U.size:=Kg g.d0
theorem HH.mono (h:HH U F L H){G:Rg}(hs:∀b,b<U.size->F b->G b)(o:Off G)(o2:¬G 1):HH U G L H:=⟨h.s,(Sep.loc CH.loc).mono h.sep hs,h.g,h.gd,o,o2⟩
theorem HH.oG (h:HH U F L H):Off (Grow F U):=h.o.grow h.g
theorem HH.oG2 (h:HH U F L H):¬Grow F U 1:=λhb=>by
 rcases hb with hb|hb
 ·exact h.o2 hb
 ·have:=Wh9 h.gd;omega
theorem HH.sub (h:HH U F L H){G:Rg}(hs:∀b,b<U.size->F b->G b)(hg:∀b,G b->F b\/U.size<=b):HH U G L H:=
 h.mono hs (h.oG.sub hg) λhb=>h.oG2 (hg _ hb)
theorem HH.keepN {v v':Hp}{G T:Rg}{L0:LayH}{H0:Hw}(h0:HH U F L0 H0)(h:HH v G L H)(e:Ext T v v')(hT:∀b,T b->U.size<=b)(hG:∀b,b<v.size->G b->¬T b):HH v' G L H:=
 h.keep e hG (h0.oG.sub λb hb=>.inr (hT b hb)) λhb=>h0.oG2 (.inr (hT _ hb))
theorem HH.grown {σ':Hp}{R:Rg}{L':LayH}{H':Hw}(h:HH U F L H)(h':HH σ' R L' H')(hr:∀b,b<σ'.size->R b->Grow F U b):HH σ' (Grow F U) L' H':=h'.mono hr h.oG h.oG2
theorem HH.cut (h:HH U F L H):HH U (Cut F U) L H:=h.sub (λb hb hf=>⟨hf,hb⟩) λb hb=>.inl hb.1
theorem HH.step1 (h:HH U F L H)(i:LbH):∃G:Rg,(∀b,G b->F b)/\CH H L i U G/\(∀j,j≠i->∃D:Rg,(∀b,D b->F b)/\(∀b,D b->¬G b)/\CH H L j U D) ∧
 ∀(σ':Hp) (H':Hw) (L':LayH) (G':Rg),HS L' H'->(∀j,j≠i->CH H' L' j=CH H L j)->Ext G U σ'->(∀b,G' b->Grow G U b)->CH H' L' i σ' G' →
  Ext F U σ'/\HH σ' (λb=>F b/\b<U.size/\¬G b\/G' b) L' H':=by
 obtain⟨G,hG,hi,hd,hput⟩:=h.sep.stepD CH.loc i;refine⟨G,hG,hi,hd,λσ' H' L' G' hs hj e hg hC=>?_⟩;have eF:=e.sub hG;have hin:∀b,(F b/\b<U.size/\¬G b\/G' b)->Grow F U b:=λb hb=>by
  rcases hb with hb|hb
  ·exact .inl hb.1
  ·exact(hg b hb).imp (hG b) id
 refine⟨eF,hs,hput σ' (CH H' L') G' hj e hg hC (CH.loc _),h.g.keep eF h.o,h.gd.keep eF h.o2,λb hb=>(h.o.grow h.g) b (hin b hb),λhb=>?_⟩;rcases hin _ hb with h1|h1
 ·exact h.o2 h1
 ·have:=Wh9 h.gd;omega
theorem _root_.Go.Vc.Sep.step2D {L:Type}{C:L->Hp->Rg->Prop}{U:Hp}{F:Rg}(hC:∀i,Lcl (C i))(h:Sep C U F)(i j:L)(hij:i≠j)(N:Rg)(hN:∀b,b<U.size->F b->¬N b):∃G D:Rg,(∀b,G b->F b)/\(∀b,D b->F b)/\(∀b,G b->¬D b)/\C i U G/\C j U D/\(∀m,m≠i->m≠j->∃E:Rg,(∀b,E b->F b)/\(∀b,E b->¬(G b\/D b))/\C m U E) ∧
 ∀(σ':Hp) (C':L->Hp->Rg->Prop) (G' D':Rg),(∀k,k≠i->k≠j->C' k=C k)->Ext (λb=>G b\/D b) U σ'->(∀b,G' b->(G b\/D b)\/N b)->(∀b,D' b->(G b\/D b)\/N b)->(∀b,G' b->¬D' b)->C' i σ' G'->C' j σ' D'->(∀k,Lcl (C' k)) →
 Sep C' σ' λb=>F b/\b<U.size/\¬(G b\/D b)\/G' b\/D' b:=by
 obtain⟨ρ,h⟩:=h
 let G:Rg:=λb=>F b/\ρ b=i
 let D:Rg:=λb=>F b/\ρ b=j
 refine⟨G,D,λb hb=>hb.1,λb hb=>hb.1,λb h1 h2=>hij (h1.2.symm.trans h2.2),h i,h j,λm h1 h2=>⟨λb=>F b/\ρ b=m,λb hb=>hb.1,λb hb hx=>hx.elim (λhy=>h1 (hb.2.symm.trans hy.2)) λhy=>h2 (hb.2.symm.trans hy.2),h m⟩,λσ' C' G' D' hk e hg hh hd hi hj hL=>?_⟩
 open Classical in
 refine⟨λb=>if G' b then i else if D' b then j else ρ b,λk=>?_⟩
 by_cases hki:k=i
 ·subst hki;exact(hL _).mono hi λb _ hb=>⟨.inr (.inl hb),zB hb⟩
 by_cases hkj:k=j
 ·subst hkj;exact(hL _).mono hj λb _ hb=>⟨.inr (.inr hb),by show(if G' b then i else if D' b then k else ρ b)=k;rw[zA λhx=>hd b hx hb,zB hb]⟩
 ·rw[hk k hki hkj];refine hC k _ _ _ _ (h k) e.1 λb hb hf=>?_;have hn:¬(G b\/D b):=by
   rintro(hx|hx)
   ·exact hki (hf.2.symm.trans hx.2)
   ·exact hkj (hf.2.symm.trans hx.2)
  have hnG':¬G' b:=λhx=>(hg b hx).elim hn (hN b hb hf.1);have hnH':¬D' b:=λhx=>(hh b hx).elim hn (hN b hb hf.1);exact⟨⟨.inl ⟨hf.1,hb,hn⟩,by show(if G' b then i else if D' b then j else ρ b)=k;rw[zA hnG',zA hnH'];exact hf.2⟩,e.2 b hb hn⟩
theorem HH.step2N (h:HH U F L H)(i j:LbH)(hij:i≠j)(N:Rg)(hN:∀b,b<U.size->F b->¬N b)(oN:Off N)(oN2:¬N 1):∃G D:Rg,(∀b,G b->F b)/\(∀b,D b->F b)/\(∀b,G b->¬D b)/\CH H L i U G/\CH H L j U D/\(∀m,m≠i->m≠j->∃E:Rg,(∀b,E b->F b)/\(∀b,E b->¬(G b\/D b))/\CH H L m U E) ∧
 ∀(σ':Hp) (H':Hw) (L':LayH) (G' D':Rg),HS L' H'->(∀m,m≠i->m≠j->CH H' L' m=CH H L m)->Ext (λb=>G b\/D b) U σ'->(∀b,G' b->(G b\/D b)\/N b)->(∀b,D' b->(G b\/D b)\/N b)->(∀b,G' b->¬D' b)->CH H' L' i σ' G'->CH H' L' j σ' D' →
  Ext F U σ'/\HH σ' (λb=>F b/\b<U.size/\¬(G b\/D b)\/G' b\/D' b) L' H':=by
 obtain⟨G,D,hG,hD,hd,hi,hj,hoth,hput⟩:=h.sep.step2D CH.loc i j hij N hN;refine⟨G,D,hG,hD,hd,hi,hj,hoth,λσ' H' L' G' D' hs hm e hg hh hdd h1 h2=>?_⟩;have eF:Ext F U σ':=e.sub λb hb=>hb.elim (hG b) (hD b);have hin:∀b,(F b/\b<U.size/\¬(G b\/D b)\/G' b\/D' b)->F b\/N b:=λb hb=>by
  rcases hb with hb|hb|hb
  ·exact .inl hb.1
  ·exact(hg b hb).imp (λhx=>hx.elim (hG b) (hD b)) id
  ·exact(hh b hb).imp (λhx=>hx.elim (hG b) (hD b)) id
 refine⟨eF,hs,hput σ' (CH H' L') G' D' hm e hg hh hdd h1 h2 CH.loc,h.g.keep eF h.o,h.gd.keep eF h.o2,λb hb=>(hin b hb).elim (h.o b) (oN b),λhb=>?_⟩;exact(hin _ hb).elim h.o2 oN2
theorem HH.newN (h:HH U F L H):Off (λb=>U.size<=b)/\¬(U.size<=1):=⟨h.oG.sub λb hb=>.inr hb,λhb=>h.oG2 (.inr hb)⟩
theorem HH.step2 (h:HH U F L H)(i j:LbH)(hij:i≠j):∃G D:Rg,(∀b,G b->F b)/\(∀b,D b->F b)/\(∀b,G b->¬D b)/\CH H L i U G/\CH H L j U D/\(∀m,m≠i->m≠j->∃E:Rg,(∀b,E b->F b)/\(∀b,E b->¬(G b\/D b))/\CH H L m U E) ∧
 ∀(σ':Hp) (H':Hw) (L':LayH) (G' D':Rg),HS L' H'->(∀m,m≠i->m≠j->CH H' L' m=CH H L m)->Ext (λb=>G b\/D b) U σ'->(∀b,G' b->(G b\/D b)\/U.size<=b)->(∀b,D' b->(G b\/D b)\/U.size<=b)->(∀b,G' b->¬D' b)->CH H' L' i σ' G'->CH H' L' j σ' D' →
  Ext F U σ'/\HH σ' (λb=>F b/\b<U.size/\¬(G b\/D b)\/G' b\/D' b) L' H':=
 h.step2N i j hij _ (λb hb _=>by omega) h.newN.1 h.newN.2
theorem HH.hd (h:HH U F L H):Blk U L.p (hdH L H.cf):=by obtain⟨G,hG,hb⟩:=h.sep.get .hd;exact hb.2
theorem HH.tabS (h:HH U F L H):SlR L.tab 3 (tabV H.tb) U F:=by
 obtain⟨G,hG,hb⟩:=h.sep.get .tab;exact(SlR.loc _ _ _).mono hb λb _ hb=>hG b hb
theorem HH.tabL (h:HH U F L H):L.tab.len=H.tb.length:=by
 have:=h.tabS.1;rw[Vr]at this;omega
theorem HH.arowS (h:HH U F L H):SlR L.arow 1 (ptrV (L.ys.map (·.p))) U F:=by
 obtain⟨G,hG,hb⟩:=h.sep.get .arow;exact(SlR.loc _ _ _).mono hb λb _ hb=>hG b hb
theorem HH.arowL (h:HH U F L H):L.arow.len=H.ars.length:=by
 have:=h.arowS.1;have:=h.s.ys;simp[ptrV]at *;omega
theorem HH.trowS (h:HH U F L H):SlR L.trow 3 (trV L.ts H.ths) U F:=by
 obtain⟨G,hG,hb⟩:=h.sep.get .trow;exact(SlR.loc _ _ _).mono (RowR.slR hb) λb _ hb=>hG b hb
theorem HH.trowL (h:HH U F L H):L.trow.len=H.ths.length:=by
 have:=h.trowS.1;rw[HV h.s.ts]at this;omega
theorem HH.liveM (h:HH U F L H):MapL U L.lm .i64 (.ag 4) H.live:=by obtain⟨G,hG,hb⟩:=h.sep.get .live;exact hb.2
theorem HH.spS (h:HH U F L H):SpH3 U F L.hs H.sp:=by
 obtain⟨G,hG,hb⟩:=h.sep.get .sp;exact Lcl.mono SpH3.loc hb λb _ hb=>hG b hb
theorem HH.ar (h:HH U F L H){A:AR}(hk:H.ars[k]?=some A):∃Y,L.ys[k]?=some Y/\Y.hs=L.hs/\AHY U F Y A (traT A Y):=by
 have hl:=(gSi.1 hk).1;have hy:L.ys[k]?=some (L.ys[k]'(by rw[h.s.ys];exact hl)):=gGe _;obtain⟨G,hG,hb⟩:=h.sep.get (.ar k);simp only[CH,hk,hy,ArH]at hb;exact⟨_,hy,h.s.hs _ (zD hy),hb.mono λb _ hb=>hG b hb⟩
theorem HH.rA (h:HH U F L H){Y:Lay}(hy:L.ys[k]?=some Y){K:Option Addr->Prop}(hK:K (some ⟨Y.p,0,none⟩)):Ix L.arow.a L.arow.len (k:Int) 1 λa=>LdP a U K:=
 WhA h.arowS (by simp[hy]) hK
theorem HH.th (h:HH U F L H)(ht:t<H.ths.length):∃x g,L.ts[t]?=some x/\H.ths[t]?=some g:=⟨L.ts[t]'(by rw[h.s.ts];exact ht),H.ths[t],gGe _,gGe _⟩
theorem WaP {s:Sl}{ts:List LayT}{ths:List Th}(h:SlR s 3 (trV ts ths) U F){x:LayT}{g:Th}(hx:ts[t]?=some x)(hg:ths[t]?=some g){d:Nat}(hd:d<3){v:Value}(hv:(thV (x,g))[d]?=some v):∃b o,s.a=some ⟨b,o,none⟩/\cell U ⟨b,o+(3*t+d),none⟩=some v:=
 h.cell ((WdO hx hg hd).trans hv)
theorem WmU {s:Sl}{ts:List LayT}{ths:List Th}(hs:SlR s 3 (trV ts ths) U F)(hl:ts.length=ths.length){x:LayT}{g:Th}(hx:ts[t]?=some x)(hg:ths[t]?=some g){d:Nat}(hd:d<3){v:Value}(hv:(thV (x,g))[d]?=some v){K:Addr->Prop}
 (hK:∀b o,s.a=some ⟨b,o,none⟩->cell U (Addr.add ⟨b,o+3*t,none⟩ d)=some v->K ⟨b,o+3*t,none⟩):Ix s.a s.len (t:Int) 3 K:=by
 have ht:=(gSi.1 hg).1;have hl':=hs.1;rw[HV hl]at hl';obtain⟨b,o,ha,hc⟩:=WaP hs hx hg hd hv;rw[ha];refine ix (by omega) (by omega) ?_;rw[add_lit,show o+(t:Int).toNat*3=o+3*t by omega];exact hK b o ha (by rw[add_lit,show o+3*t+d=o+(3*t+d) by omega];exact hc)
theorem HH.tIx (h:HH U F L H){x:LayT}{g:Th}(hx:L.ts[t]?=some x)(hg:H.ths[t]?=some g){d:Nat}(hd:d<3){v:Value}(hv:(thV (x,g))[d]?=some v){K:Addr->Prop}
 (hK:∀b o,cell U (Addr.add ⟨b,o+3*t,none⟩ d)=some v->K ⟨b,o+3*t,none⟩):Ix L.trow.a L.trow.len (t:Int) 3 K:=
 WmU h.trowS h.s.ts hx hg hd hv λb o _ hc=>hK b o hc
theorem HH.tS (h:HH U F L H){x:LayT}{g:Th}(hx:L.ts[t]?=some x)(hg:H.ths[t]?=some g){K:Sl->Prop}(hK:K x.h):Ix L.trow.a L.trow.len (t:Int) 3 λa=>LdS (a.add 1) U K:=
 h.tIx hx hg (d:=1) (by omega) rfl λb o hc=>ldS hc hK
theorem HH.tR (h:HH U F L H){x:LayT}{g:Th}(hx:L.ts[t]?=some x)(hg:H.ths[t]?=some g){K:Value->Prop}(hK:K (phV g.ph)):Ix L.trow.a L.trow.len (t:Int) 3 λa=>LdR (a.add 2) U K:=
 h.tIx hx hg (d:=2) (by omega) rfl λb o hc=>⟨_,hc,hK⟩
theorem HS.setT (h:HS L H){ths:List Th}{ts:List LayT}(e:ts.length=ths.length)(e2:ths.length=H.ths.length):HS {L with ts:=ts} {H with ths:=ths}:=⟨h.ys,h.hs,e,h.a1,h.a2,by rw[e2];exact h.t1,by rw[e2];exact h.t2,h.tb⟩
theorem HS.setA (h:HS L H){A:AR}{sp:Sp}(e:A.tb=H.tb):HS L {H.setA k A with sp:=sp}:=⟨by simp[Hw.setA,h.ys],h.hs,h.ts,by simp[Hw.setA,h.a1],by simp[Hw.setA,h.a2],h.t1,h.t2,λB hB=>by
 rcases zEL hB with h1|h1
 ·exact h.tb B h1
 ·subst h1;exact e⟩
theorem Wnh {A:AR}:∀j,j≠LbH.ar k->CH (H.setA k A) L j=CH H L j:=by
 intro j hj;cases j<;>try rfl
 rename_i m;have hm:m≠k:=λe=>hj (by rw[e]);simp only[CH,Hw.setA,zd (Ne.symm hm)]
theorem Wm8 {sp:Sp}:∀j,j≠LbH.sp->CH {H with sp:=sp} L j=CH H L j:=by
 intro j hj;cases j<;>first|rfl|exact absurd rfl hj
theorem WmA {l:List (Int×Bk)}:∀j,j≠LbH.live->CH {H with live:=l} L j=CH H L j:=by
 intro j hj;cases j<;>first|rfl|exact absurd rfl hj
theorem HH.stepA (h:HH U F L H){A:AR}(hk:H.ars[k]?=some A):∃(Y:Lay) (G:Rg),L.ys[k]?=some Y/\Y.hs=L.hs/\(∀b,G b->F b)/\AHY U G Y A (traT A Y)/\∀(σ':Hp) (A':AR) (G':Rg),A'.tb=A.tb->Ext G U σ'->(∀b,G' b->Grow G U b)->AHY σ' G' Y A' (traT A' Y) →
 Ext F U σ'/\HH σ' (λb=>F b/\b<U.size/\¬G b\/G' b) L (H.setA k A'):=by
 have hl:=(gSi.1 hk).1;have hy:L.ys[k]?=some (L.ys[k]'(by rw[h.s.ys];exact hl)):=gGe _;generalize (L.ys[k]'(by rw[h.s.ys];exact hl))=Y at hy;obtain⟨G,hG,hi,_,hput⟩:=h.step1 (.ar k);simp only[CH,hk,hy,ArH]at hi;refine⟨Y,G,hy,h.s.hs _ (zD hy),hG,hi,λσ' A' G' htb e hg hA=>?_⟩;refine hput σ' (H.setA k A') L G' (h.s.setA (sp:=H.sp) (htb.trans (h.s.tb A (zD hk)))) Wnh e hg ?_;simp only[CH,Hw.setA,hy,zK hl,ArH];exact hA
theorem HH.stepAS (h:HH U F L H){A:AR}(hk:H.ars[k]?=some A):∃(Y:Lay) (G D:Rg),L.ys[k]?=some Y/\Y.hs=L.hs/\W2 U G D Y A (traT A Y) H.sp/\∀(σ':Hp) (A':AR) (sp':Sp) (G' D':Rg),A'.tb=A.tb->Ext (Both G D) U σ'->Fits U G D G' D'->W2 σ' G' D' Y A' (traT A' Y) sp' →
 Ext F U σ'/\HH σ' (Grow F U) L {H.setA k A' with sp:=sp'}:=by
 have hl:=(gSi.1 hk).1;have hy:L.ys[k]?=some (L.ys[k]'(by rw[h.s.ys];exact hl)):=gGe _;generalize (L.ys[k]'(by rw[h.s.ys];exact hl))=Y at hy;obtain⟨G,D,hG,hD,hd,hi,hj,_,hput⟩:=h.step2 (.ar k) .sp (by intro e;cases e);simp only[CH,hk,hy,ArH]at hi;have hj:SpH3 U D L.hs H.sp:=hj;have hhs:=h.s.hs _ (zD hy);refine⟨Y,G,D,hy,hhs,⟨hi,by rw[hhs];exact hj,hd,h.g,h.o.sub hG,h.o.sub hD⟩,λσ' A' sp' G' D' htb e hf hW=>?_⟩;have hF':∀b,G' b->(G b\/D b)\/U.size<=b:=λb hb=>(hf.1 b hb).imp .inl id;have hH':∀b,D' b->(G b\/D b)\/U.size<=b:=λb hb=>.inl (.inr (hf.2 b hb));have c1:∀m,m≠LbH.ar k->m≠LbH.sp->CH {H.setA k A' with sp:=sp'} L m=CH H L m:=λm h1 h2=>
  (Wnh (H:={H with sp:=sp'}) (L:=L) (A:=A') m h1).trans (Wm8 m h2)
 have c2:CH {H.setA k A' with sp:=sp'} L (.ar k) σ' G':=by
  simp only[CH,Hw.setA,hy,zK hl,ArH];exact hW.a
 have c3:CH {H.setA k A' with sp:=sp'} L .sp σ' D':=by
  show SpH3 σ' D' L.hs sp';rw[←hhs];exact hW.s
 obtain⟨e1,h1⟩:=hput σ' {H.setA k A' with sp:=sp'} L G' D' (h.s.setA (htb.trans (h.s.tb A (zD hk)))) c1 e hF' hH' hW.d c2 c3;refine⟨e1,h.grown h1 λb hb hx=>?_⟩;rcases hx with hx|hx|hx
 ·exact .inl hx.1
 ·exact(hF' b hx).imp (λhy=>hy.elim (hG b) (hD b)) id
 ·exact(hH' b hx).imp (λhy=>hy.elim (hG b) (hD b)) id
theorem HH.stepS (h:HH U F L H):∃G:Rg,(∀b,G b->F b)/\SpH3 U G L.hs H.sp/\Off G/\∀(σ':Hp) (sp':Sp),Ext G U σ'->SpH3 σ' (Grow G U) L.hs sp'->Ext F U σ'/\HH σ' (Grow F U) L {H with sp:=sp'}:=by
 obtain⟨G,hG,hi,_,hput⟩:=h.step1 .sp;refine⟨G,hG,hi,h.o.sub hG,λσ' sp' e hs=>?_⟩;obtain⟨e1,h1⟩:=hput σ' {H with sp:=sp'} L (Grow G U) ⟨h.s.ys,h.s.hs,h.s.ts,h.s.a1,h.s.a2,h.s.t1,h.s.t2,h.s.tb⟩ Wm8 e (λb hb=>hb) hs;exact⟨e1,h.grown h1 λb hb hx=>by
  rcases hx with hx|hx
  ·exact .inl hx.1
  ·exact hx.imp (hG b) id⟩
theorem HH.stepL (h:HH U F L H):F L.lm/\∀(σ':Hp) (l:List (Int×Bk)),QK U σ' L.lm->MapL σ' L.lm .i64 (.ag 4) l->Ext F U σ'/\HH σ' F L {H with live:=l}:=by
 obtain⟨G,hG,hi,_,hput⟩:=h.step1 .live;have hi:MapR L.lm .i64 (.ag 4) H.live U G:=hi;refine⟨hG _ hi.1,λσ' l ho hm=>?_⟩;obtain⟨e1,h1⟩:=hput σ' {H with live:=l} L G ⟨h.s.ys,h.s.hs,h.s.ts,h.s.a1,h.s.a2,h.s.t1,h.s.t2,h.s.tb⟩ WmA (ho.ext.sub λb hb=>by rw[hb];exact hi.1) (λb hb=>.inl hb) ⟨hi.1,hm⟩;exact⟨e1,h1.mono (λb _ hx=>by
  rcases hx with hx|hx
  ·exact hx.1
  ·exact hG b hx) h.o h.o2⟩
theorem HH.stepC (h:HH U F L H){x:LayT}{g:Th}(hx:L.ts[t]?=some x)(hg:H.ths[t]?=some g):∃G:Rg,(∀b,G b->F b)/\CaY U G x.c H.tb H.cf.budget g.ls/\∀(σ':Hp) (ls:List Li) (Y':LayC) (G':Rg),Y'.p=x.c.p->Ext G U σ'->(∀b,G' b->Grow G U b)->CaY σ' G' Y' H.tb H.cf.budget ls →
 Ext F U σ'/\HH σ' (λb=>F b/\b<U.size/\¬G b\/G' b) {L with ts:=L.ts.set t {x with c:=Y'}} {H with ths:=H.ths.set t {g with ls:=ls}}:=by
 have hl1:=(gSi.1 hx).1;have hl2:=(gSi.1 hg).1;obtain⟨G,hG,hi,_,hput⟩:=h.step1 (.ca t);simp only[CH,hx,hg,CaH]at hi;refine⟨G,hG,hi,λσ' ls Y' G' hp e hgr hC=>?_⟩;have htr:trV (L.ts.set t {x with c:=Y'}) (H.ths.set t {g with ls:=ls})=trV L.ts H.ths:=by
  have e0:(trV L.ts H.ths).set (3*t+0) (.pointer (some ⟨x.c.p,0,none⟩))=trV L.ts H.ths:=Qh (WdO hx hg (by omega));rw[←e0];exact(WbE hx hg (d:=0) (by omega) (by simp[thV,hp])).symm
 refine hput σ' {H with ths:=H.ths.set t {g with ls:=ls}} {L with ts:=L.ts.set t {x with c:=Y'}} G' (h.s.setT (by simp[h.s.ts]) (by simp)) (λj hj=>?_) e hgr ?_
 ·cases j<;>try rfl
  ·simp only[CH,htr]
  ·rename_i m;have hm:m≠t:=λe=>hj (by rw[e]);simp only[CH,zd (Ne.symm hm)]
  ·rename_i m;by_cases hm:m=t
   ·subst hm;simp only[CH,zK hl1,zK hl2,hx,hg];rfl
   ·simp only[CH,zd (Ne.symm hm)]
 ·simp only[CH,zK hl1,zK hl2,CaH];exact hC
theorem HH.stepN (h:HH U F L H){x:LayT}{g:Th}(hx:L.ts[t]?=some x)(hg:H.ths[t]?=some g)(N:Rg)(hN:∀b,b<U.size->F b->¬N b)(oN:Off N)(oN2:¬N 1):∃G D:Rg,(∀b,G b->F b)/\(∀b,D b->F b)/\(∀b,G b->¬D b)/\BtR x.h g.hands U G/\RowR L.trow 3 (trV L.ts H.ths) U D/\(∃E:Rg,(∀b,E b->¬G b)/\(∀b,E b->¬D b)/\BlkR L.p (hdH L H.cf) U E) ∧
 ∀(σ':Hp) (s:Sl) (bs:List Bt) (G' D':Rg),Ext (λb=>G b\/D b) U σ'->(∀b,G' b->(G b\/D b)\/N b)->(∀b,D' b->(G b\/D b)\/N b)->(∀b,G' b->¬D' b)->BtR s bs σ' G'->RowR L.trow 3 ((trV L.ts H.ths).set (3*t+1) (.slice s.a s.len s.cap)) σ' D' →
  Ext F U σ'/\HH σ' (λb=>F b/\b<U.size/\¬(G b\/D b)\/G' b\/D' b) {L with ts:=L.ts.set t {x with h:=s}} {H with ths:=H.ths.set t {g with hands:=bs}}:=by
 have hl1:=(gSi.1 hx).1;have hl2:=(gSi.1 hg).1;obtain⟨G,D,hG,hD,hd,hi,hj,hoth,hput⟩:=h.step2N (.hn t) .trow (by intro e;cases e) N hN oN oN2;simp only[CH,hx,hg,HnH]at hi;have hj:RowR L.trow 3 (trV L.ts H.ths) U D:=hj;obtain⟨E,_,hE,hhd⟩:=hoth .hd (by intro e;cases e) (by intro e;cases e);refine⟨G,D,hG,hD,hd,hi,hj,⟨E,λb hb hx=>hE b hb (.inl hx),λb hb hx=>hE b hb (.inr hx),hhd⟩,λσ' s bs G' D' e hg1 hd1 hdd hB hr=>?_⟩;have htr:trV (L.ts.set t {x with h:=s}) (H.ths.set t {g with hands:=bs})=(trV L.ts H.ths).set (3*t+1) (.slice s.a s.len s.cap):=(WbE hx hg (d:=1) (by omega) (by simp[thV])).symm;refine hput σ' {H with ths:=H.ths.set t {g with hands:=bs}} {L with ts:=L.ts.set t {x with h:=s}} G' D' (h.s.setT (by simp[h.s.ts]) (by simp)) (λm h1 h2=>?_) e hg1 hd1 hdd ?_ ?_
 ·cases m<;>first|rfl|exact absurd rfl h2|skip
  ·rename_i m;by_cases hm:m=t
   ·subst hm;simp only[CH,zK hl1,zK hl2,hx,hg];rfl
   ·simp only[CH,zd (Ne.symm hm)]
  ·rename_i m;have hm:m≠t:=λe=>h1 (by rw[e]);simp only[CH,zd (Ne.symm hm)]
 ·simp only[CH,zK hl1,zK hl2,HnH];exact hB
 ·simp only[CH,htr];exact hr
theorem HH.stepP (h:HH U F L H){x:LayT}{g:Th}(hx:L.ts[t]?=some x)(hg:H.ths[t]?=some g)(p:Option Ph){K:Hp->Prop}(hK:∀σ',Ext F U σ'->HH σ' F L {H with ths:=H.ths.set t {g with ph:=p}}->K σ') :
 Ix L.trow.a L.trow.len (t:Int) 3 λa=>And (IsIf (phV p)) (St1 (a.add 2) (phV p) U K):=by
 have hl1:=(gSi.1 hx).1;have hl2:=(gSi.1 hg).1;have hlen:=h.trowL;obtain⟨G,hG,hi,_,hput⟩:=h.step1 .trow;have hi:RowR L.trow 3 (trV L.ts H.ths) U G:=hi;have htl:=HV h.s.ts;obtain⟨b,hb⟩:∃b,L.trow.a=some ⟨b,0,none⟩:=by
  rcases hi.2 with⟨h0,_⟩|⟨b,_,_,ha,_⟩
  ·omega
  ·exact⟨b,ha⟩
 rw[hb];refine ix (by omega) (by omega) ⟨G5 p,?_⟩;refine hi.st (j:=3*t+2) (by omega) (λb' hb'=>by rw[hb]at hb';cases hb';rw[add_lit,add_lit];congr 1;omega) λσ' e hr=>?_;have htr:trV L.ts (H.ths.set t {g with ph:=p})=(trV L.ts H.ths).set (3*t+2) (phV p):=by
  have:=WbE hx hg (d:=2) (v:=phV p) (x':=x) (h':={g with ph:=p}) (by omega) (by simp[thV]);rw[this,Qh hx]
 obtain⟨e1,h1⟩:=hput σ' {H with ths:=H.ths.set t {g with ph:=p}} L G (h.s.setT (ts:=L.ts) (by simp[h.s.ts]) (by simp)) (λj hj=>by
  cases j<;>first|rfl|exact absurd rfl hj|skip
  ·rename_i m;by_cases hm:t=m
   ·subst hm;simp only[CH,zK hl2,hx,hg];rfl
   ·simp only[CH,zd hm]
  ·rename_i m;by_cases hm:t=m
   ·subst hm;simp only[CH,zK hl2,hx,hg];rfl
   ·simp only[CH,zd hm]) e (λb hb=>.inl hb) (by simp only[CH,htr];exact hr)
 exact hK σ' e1 (h1.mono (λb _ hx=>by
  rcases hx with hx|hx
  ·exact hx.1
  ·exact hG b hx) h.o h.o2)
end Go.Ar
namespace Go.Ar
open Go Go.Vc Go.Proofs
open Go.Bu (Y3 QL Zf)
variable {U:Hp}{F H:Rg}{p hs:Nat}{A:AR}{sp:Sp}{Y:Lay}{T:Nat->Hp->Rg->Prop}
theorem Whp {s:Sl}{tb:List Cls}(h:SlR s 3 (tabV tb) U F)(hl:tb.length<=40){R:Sl->Hp->Prop}(hR:∀s' σ',Ext0 U σ'->SlR s' 3 (tabV tb) σ' (λb=>U.size<=b)->R s' σ'):Wc.c s U R:=by
 refine Wc.o ?_;unfold Wc.v;have hlen:=h.1;rw[Vr]at hlen;exact GT h (by decide) rfl WeM (by decide) (by omega) λs' σ' _ e hr=>hR s' σ' e hr.slR
end Go.Ar
namespace Go.Ar
open Go Go.Vc Go.Proofs
variable {U:Hp}{F:Rg}{L:LayH}{H:Hw}{t k:Nat}
theorem Kh (h:HH U F L H){R:Bool->Hp->Prop}(hR:R true U):WM.c (some ⟨L.p,0,none⟩) U R:=by
 refine WM.o ?_;unfold WM.v;have hl:=h.trowL;have h1:=h.s.t1;refine JnB.intro (ifT rfl (nilP (h.hd.rS rfl ?_)));rw[zI (by simp only;omega)];exact hR
theorem U2 (h:HH U F L H)(x:Int){R:Bool->Hp->Prop}(hR:R (decide (0<=x/\x<(H.ths.length:Int))) U):Yd.c (some ⟨L.p,0,none⟩) x U R:=by
 refine Yd.o ?_;unfold Yd.v;have hl:=h.trowL;refine JnB.intro (ifD (λc1=>nilP (h.hd.rS rfl ?_)) λc1=>?_)
 ·have:decide (x<((L.trow.len:Nat):Int))=decide (0<=x/\x<(H.ths.length:Int)):=by rw[decide_eq_decide,hl];omega
  simp only[this];exact hR
 ·rw[zH (by omega)]at hR;exact hR
theorem Wgy (h:HH U F L H)(t:Nat){R:Int->Hp->Prop}(hR:R ((H.own t:Nat):Int) U):Zs.c (some ⟨L.p,0,none⟩) (t:Int) U R:=by
 refine Zs.o ?_;unfold Zs.v;have hl:=h.arowL;have h1:=h.s.a1;refine nilP (h.hd.rS rfl (nz (by simp only;omega) ?_));have:((t:Int).tmod ((L.arow.len:Nat):Int))=((H.own t:Nat):Int):=by rw[QF (by omega),hl];unfold Hw.own;omega
 simp only[this];exact hR
theorem WaN (h:HH U F L H)(x:Int)(hx9:x<=9223372036854775807){R:Int->Hp->Prop}(hR:∀σ',Ext0 U σ'->R (Yk H.ars x) σ'):X9.c (some ⟨L.p,0,none⟩) x U R:=by
 refine X9.o ?_;unfold X9.v;refine nw (cs:=[.int .i64 x]) λv hz e hb=>hb.rI0 rfl ?_;have h':=h.keep0 e;by_cases hx:x<0
 ·have:=hR v e;unfold Yk at this;rw[zB hx]at this;exact ifDT hx this
 refine ifDF hx (nilP (h'.hd.rS rfl ?_));have hl:=h.arowL;have ha2:=h.s.a2;refine Wk.o ?_;unfold Wk.v;refine Zx (a:=.i .i64) (λ(z:Int) w=>∃i:Nat,z=(i:Int)/\i<=H.ars.length/\Ext0 U w/\HH w F L H/\Blk w U.size [.int .i64 x]/\∀j A,j<i->H.ars[j]?=some A->War A (x/256)=false) (λz _=>H.ars.length-z.toNat) ⟨0,rfl,by omega,e,h',hb,λj A hj=>by omega⟩ ?_;rintro z w ⟨i,rfl,hi,ew,hw,hbw,hno⟩;refine ifD (λhlt=>?_) λhge=>?_
 ·simp only at hlt;have hi':i<H.ars.length:=by omega
  have hA:H.ars[i]?=some H.ars[i]:=gGe hi';generalize H.ars[i]=A at hA;obtain⟨Y,hy,hhs,hAY⟩:=hw.ar hA;refine hw.rA hy (Gq (all := #[.pointer (some ⟨Y.p,0,none⟩),.pointer (some ⟨U.size,0,none⟩)]) (by kernel_rfl) (by simp) ?_);refine Y4.o ?_;unfold Y4.v;refine hbw.rI0 rfl (nz (by decide) (ar (by rw[Xm (by omega)];omega) (by rw[Xm (by omega)];omega) ?_));rw[Xm (by omega)];refine WlL hAY (x/256) (iff_ (λht=>?_) λhf=>?_)
  ·have:Yk H.ars x=(i:Int):=by
    unfold Yk;rw[zA hx];have:H.ars.findIdx? (λA=>War A (x/256))=some i:=by
     obtain⟨hi1,rfl⟩:=gSi.1 hA;exact zBC.2 ⟨hi1,ht,λj hj=>by rw[hno j _ hj (gGe (by omega))];simp⟩
    rw[this]
   have h2:=hR w ew;rw[this]at h2;exact h2
  ·exact arN (m:=i+1) (by omega) (by omega) ⟨⟨i+1,rfl,by omega,ew,hw,hbw,λj B hj hB=>by
    by_cases e:j=i
    ·subst e;rw[hA]at hB;cases hB;exact hf
    ·exact hno j B (by omega) hB⟩,by omega⟩
 ·have hii:i=H.ars.length:=by simp only at hge;omega
  subst hii;have:Yk H.ars x = -1:=by
   unfold Yk;rw[zA hx];have:H.ars.findIdx? (λA=>War A (x/256))=none:=by
    rw[zDH];intro A hA;obtain⟨j,hj⟩:=zM hA;exact hno j A (gSi.1 hj).1 hj
   rw[this]
  have h2:=hR w ew;rw[this]at h2;exact h2
theorem Uw (h:HH U F L H){R:Int->Int->Int->Int->Int->Hp->Prop}(hR:∀σ',Ext0 U σ'->R (H.cf.pages:Int) (H.cf.arenas:Int) (H.cf.threads:Int) (H.cf.budget:Int) (H.cf.room:Int) σ'):XH.c (some ⟨L.p,0,none⟩) U R:=by
 refine XH.o ?_;unfold XH.v;refine nw (cs:=[.int .i64 0,.int .i64 0,.int .i64 0,.int .i64 0,.int .i64 0]) λv hz e hb=>Kh (h.keep0 e) (ifF rfl ?_);have hd:=(h.keep0 e).hd;refine nilP (hd.rI2 rfl (hd.rI2 rfl (hd.rI2 rfl (hd.rI2 rfl (hd.rI2 rfl ?_)))));refine hb.s1 (by simp) λv1 o1 b1=>b1.s1 (by simp) λv2 o2 b2=>b2.s1 (by simp) λv3 o3 b3=>b3.s1 (by simp) λv4 o4 b4=>b4.s1 (by simp) λv5 o5 b5=>?_;refine b5.rI rfl (b5.rI rfl (b5.rI rfl (b5.rI rfl (b5.rI rfl (hR v5 ?_)))));exact((((e.only o1 (.inr (zC _))).only o2 (.inr (zC _))).only o3 (.inr (zC _))).only o4 (.inr (zC _))).only o5 (.inr (zC _))
theorem Whr (h:HH U F L H)(hl:H.tb.length<=40){R:Sl->Hp->Prop}(hR:∀s σ',Ext0 U σ'->SlR s 3 (tabV H.tb) σ' (λb=>U.size<=b)->R s σ'):YH.c (some ⟨L.p,0,none⟩) U R:=by
 refine YH.o ?_;unfold YH.v;exact Kh h (ifF rfl (nilP (h.hd.rS rfl (Whp h.tabS hl hR))))
theorem Wc8 (h:HH U F L H){R:Option Addr->Hp->Prop}(hR:R (some ⟨L.hs,0,none⟩) U):YL.c (some ⟨L.p,0,none⟩) U R:=by
 refine YL.o ?_;unfold YL.v;exact Kh h (ifF rfl (nilP (h.hd.rP rfl hR)))
theorem WkE (h:HH U F L H)(x:Int)(hx:x<=9223372036854775807){R:Int->Int->Hp->Prop}(hR:∀σ',Ext0 U σ'->R (if accE H.sp x=0 then H.sp.wd (x.toNat/8)else 0) (accE H.sp x) σ'):Xn.c (some ⟨L.p,0,none⟩) x U R:=by
 refine Xn.o ?_;unfold Xn.v;exact Wc8 h (WmY h.spS h.g x hx hR)
theorem Hg (h:HH U F L H)(x v:Int)(hx:x<=9223372036854775807){R:Int->Hp->Prop}(hR:∀σ',Ext F U σ'->HH σ' (Grow F U) L {H with sp:=QT H.sp x v}->R (accE H.sp x) σ'):XM.c (some ⟨L.p,0,none⟩) x v U R:=by
 refine XM.o ?_;unfold XM.v;obtain⟨G,hG,hs,hoff,hput⟩:=h.stepS;refine Wc8 h (WjA hs h.g h.gd x hx v λσ' e hs'=>?_);obtain⟨e1,h1⟩:=hput σ' _ e hs';exact hR σ' e1 h1
theorem WfD (h:HH U F L H)(x:Int){R:Int->Int->Hp->Prop}(hR:∀σ',Ext0 U σ'->R ((mget H.live x).elim 0 λb=>b.2.1) (if(mget H.live x).isSome then 0 else 8) σ'):Xd.c (some ⟨L.p,0,none⟩) x U R:=by
 refine Xd.o ?_;unfold Xd.v;refine Kh h (ifF rfl (nilP (h.hd.rM rfl ⟨_,h.liveM,?_⟩)));refine nw (cs:=[.int .i64 0,.int .i64 0,.int .i64 0,.int .i64 0]) λv hz e hb=>?_;refine hb.s1 (by simp) λv1 o1 b1=>b1.s1 (by simp) λv2 o2 b2=>b2.s1 (by simp) λv3 o3 b3=>b3.s1 (by simp) λv4 o4 b4=>?_;have e4:Ext0 U v4:=(((e.only o1 (.inr (zC _))).only o2 (.inr (zC _))).only o3 (.inr (zC _))).only o4 (.inr (zC _));have h2:=hR v4 e4;cases hm:mget H.live x with
 | none=>
  rw[hm]at h2;exact ifT rfl h2
 | some b=>
  rw[hm]at h2;refine ifF rfl (b4.rI rfl ?_);have e5:((mget H.live x).getD ((0,0,0,0):Bk)).2.1=b.2.1:=by rw[hm];rfl
  rw[e5];exact h2
theorem V4 (h:HH U F L H)(ht:t<H.ths.length){R:Value->Hp->Prop}(hR:R (phV (retH H t)) U):W4.c (some ⟨L.p,0,none⟩) (t:Int) U R:=by
 refine W4.o ?_;unfold W4.v;obtain⟨x,g,hx,hg⟩:=h.th ht;refine nilP (h.hd.rS rfl (h.tS hx hg ?_));obtain⟨G,hG,hi⟩:=h.sep.get (.hn t);simp only[CH,hx,hg,HnH]at hi;have hl:=hi.len;unfold retH at hR;rw[hg]at hR;simp only at hR;by_cases h0:g.hands=[]
 ·rw[zB h0]at hR;exact ifT (by rw[hl,h0];rfl) hR
 ·rw[zA h0]at hR;have:=zBZ.2 h0;exact ifF (by simp only[zAA];omega) hR
theorem WbD (h:HH U F L H)(x size cls:Int)(hx9:x<=9223372036854775807){R:Value->Int->Int->Hp->Prop}(hR:∀σ',Ext F U σ'->HH σ' F L (VC H x size cls)->R .nilIface x 0 σ'):YS.c (some ⟨L.p,0,none⟩) x size cls U R:=by
 refine YS.o ?_;unfold YS.v;refine nw (cs:=[.int .i64 0,.int .i64 0]) λv hz e hb=>?_;have hv:=h.cut.keep0 e;refine⟨λu=>Ext0 v u,Ext.refl _ _,nilP ⟨some L.lm,λu hu=>by rw[add_lit,((hv.keep0 hu).hd).cell];rfl,?_⟩⟩;refine WaN hv x hx9 λv1 e1=>⟨e1,?_⟩;have h1:=hv.keep0 e1;obtain⟨hF,hput⟩:=h1.stepL;refine⟨L.lm,_,rfl,h1.liveM,λv2 o2 hm2=>?_⟩;obtain⟨e2,h2⟩:=hput v2 _ o2 hm2;have hb2:Blk v2 U.size [.int .i64 0,.int .i64 0]:=Ws o2 (e1.blk hb id) (by have:=hF.2;omega);refine hb2.s1 (by simp) λv3 o3 b3=>b3.s1 (by simp) λv4 o4 b4=>b4.rI rfl (b4.rI rfl (hR v4 ?_ ?_))
 ·exact(((Ext0.to (e.trans e1)).trans (e2.sub λb hb=>hb.1)).only o3 (.inr (zC _))).only o4 (.inr (zC _))
 ·have e34:Ext (· = U.size) v2 v4:=o3.ext.trans o4.ext;have h4:=h.keepN h2 e34 (λb hb=>by omega) (λb _ hb he=>by have:=hb.2;omega);exact h4.mono (λb _ hb=>hb.1) h.o h.o2
theorem GG (h:HH U F L H)(ht:t<H.ths.length)(k:Nat){s:Sl}{xs:List Int}{X:Rg}(hs:SlR s 1 (WB xs) U X)(hc:s.len<=s.cap)(hxs:xs≠[])(hX:∀b,b<U.size->X b->¬F b)(oX:Off X)(oX2:¬X 1)(hlen:∀g,H.ths[t]?=some g->g.hands.length<=1000){R:Hp->Prop}
 (hR:∀σ' ts',Ext F U σ'->HH σ' (λb=>Grow F U b\/X b) {L with ts:=ts'} (QM H t k xs)->R σ'):Yt.c (some ⟨L.p,0,none⟩) (t:Int) (k:Int) s U R:=by
 refine Yt.o ?_;unfold Yt.v;obtain⟨x,g,hx,hg⟩:=h.th ht;have htl:=HV h.s.ts;have hrl:=h.trowL;have hlen:=hlen g hg;obtain⟨G,D,hG,hD,hd,hB,hr,⟨E,hE1,hE2,hhd⟩,hput⟩:=h.cut.stepN hx hg (λb=>U.size<=b\/b<U.size/\X b) (λb hb hf hn=>by
  rcases hn with hn|hn
  ·omega
  ·exact hX b hb hn.2 hf.1) (λb hb=>hb.elim (h.newN.1 b) λhb=>oX b hb.2) (λhb=>hb.elim h.newN.2 λhb=>oX2 hb.2)
 obtain⟨ps,Dn,hrow,hBo,hDs,hj,hne⟩:=hB;have hhd':∀u,Ext G U u->Blk u L.p (hdH L H.cf):=λu hu=>((BlkR.loc _ _).keep hhd hu λb _ hb hx=>hE1 b hb hx).2;have hr':∀u,Ext G U u->RowR L.trow 3 (trV L.ts H.ths) u D:=λu hu=>(RowR.loc _ _ _).keep hr hu λb _ hb hx=>hd b hx hb;refine⟨λu=>Ext G U u,Ext.refl _ _,nilP ⟨L.trow,λu hu=>by rw[add_lit,(hhd' u hu).cell];rfl,nilP ⟨L.trow,λu hu=>by rw[add_lit,(hhd' u hu).cell];rfl,?_⟩⟩⟩;refine WmU (RowR.slR hr) h.s.ts hx hg (d:=1) (by omega) rfl λb o ha _=>⟨x.h,λu hu=>?_,?_⟩
 ·obtain⟨b',o',ha',hc'⟩:=WaP (RowR.slR (hr' u hu)) hx hg (d:=1) (by omega) rfl;rw[ha]at ha';cases ha';rw[add_lit,show o+3*t+1=o+(3*t+1) by omega];exact hc'
 refine nw (cs:=[.int .i64 (k:Int),.slice s.a s.len s.cap]) λv hz e hb=>⟨Ext0.to e,?_⟩;have hrow1:=(RowO.loc _ _ _).keep0 ((RowO.loc _ _ _).cut hrow) e;have hBo1:=(BtO.loc _ _).keep0 ((BtO.loc _ _).cut hBo) e;have hs1:=(SlR.loc _ _ _).keep0 ((SlR.loc _ _ _).cut hs) e;have hpl:x.h.len=ps.length:=by have:=hrow.1;rw[KD]at this;omega
 have hpg:ps.length=g.hands.length:=hBo.1;refine hrow1.app (ys:=btV (k,s)) rfl rfl ?_ (λv hv=>Hb (l:=[(k,s)]) v (by simpa[btsV]using hv)) ?_ ?_ zBI λs' v2 hl2 e2 hr2=>?_
 ·intro j u hu;rw[add_lit,zJ,hb.cell];exact hu
 ·simp only;have:(x.h.len+1)*32<=1001*32:=zAJ (by omega) (by omega);omega
 ·simp only;omega
 have hs2:=e2.1;have eG:Ext G U v2:=(Ext0.to e).trans (e2.sub λb hb=>hb.1.1);refine⟨eG,?_⟩;obtain⟨b0,hb0⟩:∃b,L.trow.a=some ⟨b,0,none⟩:=by
  rcases hr.2 with⟨h0,_⟩|⟨b,_,_,ha,_⟩
  ·omega
  ·exact⟨b,ha⟩
 rw[hb0];refine ix (by omega) (by omega) ?_;refine(hr' v2 eG).st (j:=3*t+1) (by omega) (λb' hb'=>by rw[hb0]at hb';cases hb';rw[add_lit,add_lit];congr 1;omega) λσ' e3 hr3=>?_;have hs3:=e3.1;have e03:Ext (λb=>G b\/D b) U σ':=(eG.sub λb hb=>.inl hb).trans (e3.sub λb hb=>.inr hb);have hr4:=(RowO.loc _ _ _).keep ((RowO.loc _ _ _).cut hr2) e3 λb _ hb hx=>by
  rcases hb.1 with h1|h1
  ·exact hd b h1.1.1 hx
  ·have:=(hD b hx).2;omega
 have hB4:=(BtO.loc _ _).keep ((BtO.loc _ _).keep hBo1 e2 λb _ hb hx=>hx.1.2 hb.1) e3 λb _ hb hx=>hd b (hDs b hb.1) hx;have hs4:=(SlR.loc _ _ _).keep ((SlR.loc _ _ _).keep hs1 e2 λb hb hx hy=>hX b hx.2 hx.1 (hG b hy.1.1).1) e3 λb _ hx hy=>hX b hx.2 hx.1 (hD b hy).1;have hBt:BtR s' (g.hands++[(k,xs)]) σ' (λb=>G b/\b<U.size\/b<U.size/\X b\/v.size<=b/\b<v2.size):=by
  refine⟨ps++[(k,s)],λb=>Dn b/\b<U.size\/b<U.size/\X b,?_,⟨by simp[hpg],λi p y hp hy=>?_⟩,λb hb=>?_,hj.snoc hBo hne hs hxs (λb hb hx hy=>hX b hb hy (hG b (hDs b hx)).1) k,λy hy=>?_⟩
  ·rw[UV];have:btsV [(k,s)]=btV (k,s):=by simp[btsV]
   rw[this];refine(RowO.loc _ _ _).mono hr4 λq _ hq=>?_;rcases hq.1 with h1|h1
   ·exact⟨.inl ⟨h1.1.1,h1.2⟩,λhx=>by
     rcases hx with hx|hx
     ·exact h1.1.2 hx.1
     ·exact hX q hx.1 hx.2 (hG q h1.1.1).1⟩
   ·exact⟨.inr (.inr ⟨h1,hq.2⟩),λhx=>by
     rcases hx with hx|hx<;>omega⟩
  ·rcases zAH i ps.length with hi|hi
   ·rw[zf hi]at hp;rw[zf (by omega)]at hy;obtain⟨a1,a2,a3⟩:=hB4.2 i p y hp hy;exact⟨a1,(SlR.loc _ _ _).mono a2 λq _ hq=>.inl hq,a3⟩
   ·rw[zn hi]at hp;rw[zn (by omega)]at hy;have hi0:i-ps.length=0:=by
     have:=(gSi.1 hp).1;simp at this;omega
    rw[hi0]at hp;rw[show i-g.hands.length=0 by omega]at hy;simp at hp hy;subst hp;subst hy;exact⟨rfl,(SlR.loc _ _ _).mono hs4 λq _ hq=>.inr ⟨hq.2,hq.1⟩,hc⟩
  ·rcases hb with hb|hb
   ·exact .inl ⟨hDs b hb.1,hb.2⟩
   ·exact .inr (.inl hb)
  ·rcases zS.1 hy with h1|h1
   ·exact hne y h1
   ·rw[zZ]at h1;subst h1;exact hxs
 obtain⟨eF,h4⟩:=hput σ' s' (g.hands++[(k,xs)]) (λb=>G b/\b<U.size\/b<U.size/\X b\/v.size<=b/\b<v2.size) D e03 (λb hb=>by
  rcases hb with hb|hb|hb
  ·exact .inl (.inl hb.1)
  ·exact .inr (.inr hb)
  ·exact .inr (.inl (by omega))) (λb hb=>.inl (.inr hb)) (λb hb hx=>by
  have:=(hD b hx).2;rcases hb with hb|hb|hb
  ·exact hd b hb.1 hx
  ·exact hX b hb.1 hb.2 (hD b hx).1
  ·omega) hBt hr3
 refine hR σ' (L.ts.set t {x with h:=s'}) (eF.sub λb hb=>hb.1) ?_;have e5:QM H t k xs = {H with ths:=H.ths.set t {g with hands:=g.hands++[(k,xs)]}}:=by
  unfold QM Hw.setT
  congr 1
  exact KP hg
 rw[e5];refine h4.mono (λb _ hb=>?_) (λb (hb:Grow F U b\/X b)=>hb.elim (h.oG b) (oX b)) λ(hb:Grow F U _\/X _)=>hb.elim h.oG2 oX2;rcases hb with hb | (hb|hb|hb)|hb
 ·exact .inl (.inl hb.1.1)
 ·exact .inl (.inl (hG b hb.1).1)
 ·exact .inr hb.2
 ·exact .inl (.inr (by omega))
 ·exact .inl (.inl (hD b hb).1)
end Go.Ar
namespace Go.Ar
open Go Go.Vc Go.Proofs
variable {U u u':Hp}{F B P:Rg}{L:LayH}{H H':Hw}{t k n:Nat}{A:AR}{Y:Lay}{x:LayT}{g:Th}{c:Cls}{l:Li}{cs:List Value}
structure HK (F:Rg) (U:Hp) (B:Rg) (u:Hp) (P:Rg) (L:LayH) (H:Hw):Prop where
 h:HH u P L H
 e:Ext F U u
 p:∀b,P b->(F b/\b<U.size\/U.size<=b)/\¬B b/\b<u.size
 b:∀b,B b->U.size<=b/\b<u.size
 o:Off (λb=>U.size<=b)/\¬U.size<=1
theorem HK.start (h:HH U F L H):HK F U (λ_=>False) U (Cut F U) L H:=⟨h.cut,Ext.refl _ _,λb hb=>⟨.inl ⟨hb.1,hb.2⟩,id,hb.2⟩,λb hb=>hb.elim,h.newN⟩
theorem HK.box (K:HK F U B u P L H)(e:Ext0 u u')(hz:u'.size=u.size+1):HK F U (λb=>B b\/b=u.size) u' P L H:=
 ⟨K.h.keep0 e,K.e.trans (Ext0.to e),λb hb=>⟨(K.p b hb).1,λhx=>hx.elim (K.p b hb).2.1 λhy=>by have:=(K.p b hb).2.2;omega,by have:=(K.p b hb).2.2;omega⟩,λb hb=>by
  have:=K.e.1;rcases hb with hb|hb
  ·have:=K.b b hb;omega
  ·omega,K.o⟩
theorem HK.fr (K:HK F U B u P L H)(e:Ext0 u u'):HK F U B u' P L H:=
 ⟨K.h.keep0 e,K.e.trans (Ext0.to e),λb hb=>⟨(K.p b hb).1,(K.p b hb).2.1,by have:=(K.p b hb).2.2;have:=e.1;omega⟩,λb hb=>by have:=K.b b hb;have:=e.1;omega,K.o⟩
theorem HK.own (K:HK F U B u P L H)(o:QK u u' n)(hn:B n):HK F U B u' P L H:=by
 have hb:=K.b n hn;have hz:=o.1;have e:Ext (· = n) u u':=o.ext;have hP:∀b,b<u.size->P b->¬(b=n):=λb _ h1 h2=>(K.p b h1).2.1 (h2▸hn);have oN:Off (λb=>b=n)/\¬(1=n):=⟨K.o.1.sub λb hx=>by omega,λhx=>K.o.2 (by omega)⟩;exact⟨K.h.keep e hP oN.1 oN.2,K.e.newT e λb (hb':b=n)=>.inr (by omega),λb h1=>⟨(K.p b h1).1,(K.p b h1).2.1,by have:=(K.p b h1).2.2;omega⟩,λb h1=>by have:=K.b b h1;omega,K.o⟩
theorem HK.keepB (K:HK F U B u P L H)(e:Ext P u u')(hb:Blk u n cs)(hn:B n):Blk u' n cs:=e.blk hb λhp=>(K.p n hp).2.1 hn
theorem HK.toX (K:HK F U B u P L H){Q:Rg}{L':LayH}(e:Ext P u u')(h:HH u' Q L' H')(hq:∀b,b<u'.size->Q b->P b\/u.size<=b\/(F b/\b<U.size\/U.size<=b)/\¬B b):HK F U B u' (Cut Q u') L' H':=by
 have hz:=e.1;have hs:=K.e.1;refine⟨h.cut,K.e.newT e λb hb=>(K.p b hb).1.imp (λh=>h.1) id,λb hb=>⟨?_,λhx=>?_,hb.2⟩,λb hb=>by have:=K.b b hb;omega,K.o⟩
 ·rcases hq b hb.2 hb.1 with h1|h1|h1
  ·exact(K.p b h1).1
  ·exact .inr (by omega)
  ·exact h1.1
 ·rcases hq b hb.2 hb.1 with h1|h1|h1
  ·exact(K.p b h1).2.1 hx
  ·have:=K.b b hx;omega
  ·exact h1.2 hx
theorem HK.to (K:HK F U B u P L H){Q:Rg}{L':LayH}(e:Ext P u u')(h:HH u' Q L' H')(hq:∀b,b<u'.size->Q b->P b\/u.size<=b):HK F U B u' (Cut Q u') L' H':=K.toX e h λb hb h1=>(hq b hb h1).imp id .inl
theorem HK.fin (K:HK F U B u P L H){L0:LayH}{H0:Hw}(h0:HH U F L0 H0):HH u (Grow F U) L H:=h0.grown K.h λb _ hb=>(K.p b hb).1.imp (λh=>h.1) id
def Fr (A' A:AR):Prop:=A'.tb=A.tb/\A'.room=A.room/\A'.tra=A.tra
theorem Fr.traT {A' A:AR}(h:Fr A' A)(Y:Lay):Go.Ar.traT A' Y=Go.Ar.traT A Y:=by
 funext k;unfold Go.Ar.traT;rw[h.1,h.2.1,h.2.2]
theorem Wbj (A:AR)(k m:Int):Fr (YE A k m) A:=by
 unfold YE;split<;>exact⟨rfl,rfl,rfl⟩
theorem Wfe (A:AR)(k:Int)(xs:List Int):Fr (Y1 A k xs) A:=⟨(Vq A k xs).1,(Vq A k xs).2.1,(Vq A k xs).2.2.1⟩
theorem Wlc (A:AR)(sp:Sp)(m a no:Nat):Fr (getA A sp m a no).2.1 A:=⟨(HJ A sp m a no).1,(HJ A sp m a no).2.2.2.1,(HJ A sp m a no).2.2.1⟩
theorem Whh (A:AR)(x:Int):Fr (Qz A x) A:=by
 unfold Qz;split<;>exact⟨rfl,rfl,rfl⟩
theorem Wh5 (A:AR)(sp:Sp)(k:Int):Fr (growS A sp k).1 A:=by
 unfold growS;split
 ·split
  ·rename_i c ss h1 h2;have h:=Wlc A sp c.pages 1 (k.toNat+1);generalize getA A sp c.pages 1 (k.toNat+1)=r at h;obtain⟨o,A',sp'⟩:=r;cases o with
   | none=>exact h
   | some x=>
    simp only;split<;>exact h
  ·exact⟨rfl,rfl,rfl⟩
 ·exact⟨rfl,rfl,rfl⟩
theorem WeC (A:AR)(sp:Sp)(m a:Int):Fr (takeAS A sp m a).1 A:=by
 unfold takeAS;split
 ·have h:=Wlc A sp m.toNat a.toNat 41;generalize getA A sp m.toNat a.toNat 41=r at h;obtain⟨o,A',sp'⟩:=r;cases o<;>exact h
 ·exact⟨rfl,rfl,rfl⟩
theorem WgK (A:AR)(k:Int):(ZB A k).tb=A.tb:=by unfold ZB;split<;>rfl
theorem WmD (A:AR)(k:Int)(xs:List Int):(Q6 A k xs).tb=A.tb:=by unfold Q6;split<;>rfl
theorem HH.stepA' (h:HH U F L H)(hk:H.ars[k]?=some A)(hy:L.ys[k]?=some Y):∃G:Rg,(∀b,G b->F b)/\AHY U G Y A (traT A Y)/\∀(σ':Hp) (A':AR) (Q:Rg),A'.tb=A.tb->Ext G U σ'->(∀b,Q b->G b\/U.size<=b)->AHY σ' (λb=>Grow G U b/\¬Q b) Y A' (traT A' Y) →
 Ext F U σ'/\HH σ' (λb=>Grow F U b/\¬Q b) L (H.setA k A'):=by
 obtain⟨Y',G,hy',_,hG,ha,hput⟩:=h.stepA hk;rw[hy]at hy';cases hy';refine⟨G,hG,ha,λσ' A' Q htb e hQ h'=>?_⟩;obtain⟨e1,h1⟩:=hput σ' A' _ htb e (λb hb=>hb.1) h';refine⟨e1,h1.mono (λb _ hb=>?_) (h.oG.sub λb hb=>hb.1) λhb=>h.oG2 hb.1⟩;rcases hb with hb|hb
 ·exact⟨.inl hb.1,λhq=>by
   rcases hQ b hq with h2|h2
   ·exact hb.2.2 h2
   ·have:=hb.2.1;omega⟩
 ·exact⟨hb.1.imp (hG b) id,hb.2⟩
theorem AHY.mono0 {T:Nat->Hp->Rg->Prop}{G Q:Rg}(h:AHY U G Y A T)(hq:∀b,¬Q b):AHY U (λb=>G b/\¬Q b) Y A T:=h.mono λb _ hb=>⟨hb,hq b⟩
theorem HH.stepA0 (h:HH U F L H)(hk:H.ars[k]?=some A)(hy:L.ys[k]?=some Y):∃G:Rg,(∀b,G b->F b)/\AHY U G Y A (traT A Y)/\∀(σ':Hp) (A':AR),A'.tb=A.tb->Ext G U σ'->AHY σ' (Grow G U) Y A' (traT A' Y) →
 Ext F U σ'/\HH σ' (Grow F U) L (H.setA k A'):=by
 obtain⟨G,hG,ha,hput⟩:=h.stepA' hk hy;refine⟨G,hG,ha,λσ' A' htb e h'=>?_⟩;obtain⟨e1,h1⟩:=hput σ' A' (λ_=>False) htb e (λb hb=>hb.elim) (h'.mono0 λ_=>id);exact⟨e1,h1.mono (λb _ hb=>hb.1) h.oG h.oG2⟩
theorem Gu (h:HH U F L H)(hk:H.ars[k]?=some A)(hy:L.ys[k]?=some Y)(c:Int){R:Sl->Int->Hp->Prop}
 (hR:∀s σ' (Q:Rg),Ext F U σ'->(∀b,Q b->F b)->SlR s 1 (WB (YC A c)) σ' Q->s.len<=s.cap->HH σ' (λb=>Grow F U b/\¬Q b) L (H.setA k (ZB A c))->R s (Z5 A c) σ') :
 Wz.c (some ⟨Y.p,0,none⟩) c U R:=by
 obtain⟨G,hG,ha,hput⟩:=h.stepA' hk hy;refine Gp ha c λs σ' e hQ hs hcap h'=>?_;obtain⟨e1,h1⟩:=hput σ' (ZB A c) (InB s) (WgK A c) e (λb hb=>.inl (hQ b hb)) (h'.mono λb _ hb=>⟨.inl hb.1,hb.2⟩);exact hR s σ' (InB s) e1 (λb hb=>hG b (hQ b hb)) hs hcap h1
theorem Wam (h:HH U F L H)(hk:H.ars[k]?=some A)(hy:L.ys[k]?=some Y)(c m:Int){R:Sl->Int->Hp->Prop}
 (hR:∀s σ' (Q:Rg),Ext F U σ'->(∀b,Q b->U.size<=b)->RowR s 1 (ints (Yl A c m)) σ' Q->HH σ' (λb=>Grow F U b/\¬Q b) L (H.setA k (YE A c m))->R s (QA A c m) σ') :
 WC.c (some ⟨Y.p,0,none⟩) c m U R:=by
 obtain⟨G,hG,ha,hput⟩:=h.stepA' hk hy;refine WaZ ha c m λs σ' e hs h'=>?_;have htr:traT (YE A c m) Y=traT A Y:=(Wbj A c m).traT Y;obtain⟨e1,h1⟩:=hput σ' (YE A c m) (λb=>U.size<=b) (Wbj A c m).1 e (λb hb=>.inr hb) (by rw[htr];exact h'.mono λb _ hb=>⟨.inl hb.1,by have:=hb.2;omega⟩);exact hR s σ' _ e1 (λb hb=>hb) hs h1
theorem WaW (h:HH U F L H)(hk:H.ars[k]?=some A)(hy:L.ys[k]?=some Y)(c:Int){sl:Sl}{xs:List Int}{X:Rg}(hs:SlR sl 1 (WB xs) U X)(hi:∀x∈xs,I63 x){R:Bool->Int->Hp->Prop}
 (hR:∀σ',Ext F U σ'->HH σ' (Grow F U) L (H.setA k (Q6 A c xs))->R (Vh A c xs) (Hs A c xs) σ'):WH.c (some ⟨Y.p,0,none⟩) c sl U R:=by
 obtain⟨G,hG,ha,hput⟩:=h.stepA0 hk hy;refine WbL ha c hs hi λσ' e h'=>?_;obtain⟨e1,h1⟩:=hput σ' _ (WmD A c xs) e h';exact hR σ' e1 h1
theorem WbW (h:HH U F L H)(hk:H.ars[k]?=some A)(hy:L.ys[k]?=some Y)(c:Int){sl:Sl}{xs:List Int}{X:Rg}(hs:SlR sl 1 (WB xs) U X)(hX:∀b,b<U.size->X b->¬F b)(hi:∀x∈xs,I63 x)(hl:xs.length<=1000000)(hcap:sl.len<=sl.cap){R:Int->Hp->Prop}
 (hR:∀σ',Ext F U σ'->HH σ' (Grow F U) L (H.setA k (Y1 A c xs))->R (QU A c xs) σ'):WA.c (some ⟨Y.p,0,none⟩) c sl U R:=by
 obtain⟨G,hG,ha,hput⟩:=h.stepA0 hk hy;refine Gk ha c hi hl hcap (.inl ⟨X,hs,λb hb hx hg=>hX b hb hx (hG b hg)⟩) λσ' e h'=>?_;have htr:traT (Y1 A c xs) Y=traT A Y:=(Wfe A c xs).traT Y;obtain⟨e1,h1⟩:=hput σ' _ (Wfe A c xs).1 e (by rw[htr];exact h');exact hR σ' e1 h1
theorem WbY (h:HH U F L H)(hk:H.ars[k]?=some A)(hy:L.ys[k]?=some Y)(x:Int)(hf:∀r∈A.runs,r.1<=1000000){R:Int->Hp->Prop}
 (hR:∀σ',Ext F U σ'->HH σ' (Grow F U) L (H.setA k (Qz A x))->R (KN A x) σ'):WQ.c (some ⟨Y.p,0,none⟩) x U R:=by
 obtain⟨G,hG,ha,hput⟩:=h.stepA0 hk hy;refine Wdm ha x hf λσ' e h'=>?_;have htr:traT (Qz A x) Y=traT A Y:=(Whh A x).traT Y;obtain⟨e1,h1⟩:=hput σ' _ (Whh A x).1 e (by rw[htr];exact h');exact hR σ' e1 h1
theorem WiL (h:HH U F L H)(hk:H.ars[k]?=some A)(hy:L.ys[k]?=some Y)(c:Int){R:Int->Hp->Prop}
 (hR:∀σ',Ext F U σ'->HH σ' (Grow F U) L {H.setA k (growS A H.sp c).1 with sp:=(growS A H.sp c).2}->R (KH A H.sp c) σ'):Ya.c (some ⟨Y.p,0,none⟩) c U R:=by
 obtain⟨Y',G,D,hy',_,hW,hput⟩:=h.stepAS hk;rw[hy]at hy';cases hy';refine WkH hW c λσ' G' D' hf e h'=>?_;have htr:traT (growS A H.sp c).1 Y=traT A Y:=(Wh5 A H.sp c).traT Y;obtain⟨e1,h1⟩:=hput σ' _ _ G' D' (Wh5 A H.sp c).1 e hf (by rw[htr];exact h');exact hR σ' e1 h1
theorem Wa2 (h:HH U F L H)(hk:H.ars[k]?=some A)(hy:L.ys[k]?=some Y)(m a:Int){R:Int->Int->Hp->Prop}
 (hR:∀σ',Ext F U σ'->HH σ' (Grow F U) L {H.setA k (takeAS A H.sp m a).1 with sp:=(takeAS A H.sp m a).2}->R ((Z4 A H.sp m a:Nat):Int) (Qv A H.sp m a) σ'):WS.c (some ⟨Y.p,0,none⟩) m a U R:=by
 obtain⟨Y',G,D,hy',_,hW,hput⟩:=h.stepAS hk;rw[hy]at hy';cases hy';refine Wce hW m a λσ' G' D' hf e h'=>?_;have htr:traT (takeAS A H.sp m a).1 Y=traT A Y:=(WeC A H.sp m a).traT Y;obtain⟨e1,h1⟩:=hput σ' _ _ G' D' (WeC A H.sp m a).1 e hf (by rw[htr];exact h');exact hR σ' e1 h1
def Hw.setLs (H:Hw)(t:Nat)(g:Th)(ls:List Li):Hw:={H with ths:=H.ths.set t {g with ls:=ls}}
theorem HH.stepC' (h:HH U F L H)(hx:L.ts[t]?=some x)(hg:H.ths[t]?=some g):∃G:Rg,(∀b,G b->F b)/\CaY U G x.c H.tb H.cf.budget g.ls/\∀(σ':Hp) (ls:List Li) (Y':LayC) (Q:Rg),Y'.p=x.c.p->Ext G U σ'->(∀b,Q b->U.size<=b)->CaY σ' (λb=>Grow G U b/\¬Q b) Y' H.tb H.cf.budget ls →
 Ext F U σ'/\HH σ' (λb=>Grow F U b/\¬Q b) {L with ts:=L.ts.set t {x with c:=Y'}} (H.setLs t g ls):=by
 obtain⟨G,hG,hc,hput⟩:=h.stepC hx hg;refine⟨G,hG,hc,λσ' ls Y' Q hp e hQ h'=>?_⟩;obtain⟨e1,h1⟩:=hput σ' ls Y' _ hp e (λb hb=>hb.1) h';refine⟨e1,h1.mono (λb _ hb=>?_) (h.oG.sub λb hb=>hb.1) λhb=>h.oG2 hb.1⟩;rcases hb with hb|hb
 ·exact⟨.inl hb.1,λhq=>by have:=hb.2.1;have:=hQ b hq;omega⟩
 ·exact⟨hb.1.imp (hG b) id,hb.2⟩
theorem HH.stepC0 (h:HH U F L H)(hx:L.ts[t]?=some x)(hg:H.ths[t]?=some g):∃G:Rg,(∀b,G b->F b)/\CaY U G x.c H.tb H.cf.budget g.ls/\∀(σ':Hp) (ls:List Li) (Y':LayC),Y'.p=x.c.p->Ext G U σ'->CaY σ' (Grow G U) Y' H.tb H.cf.budget ls →
 Ext F U σ'/\HH σ' (Grow F U) {L with ts:=L.ts.set t {x with c:=Y'}} (H.setLs t g ls):=by
 obtain⟨G,hG,hc,hput⟩:=h.stepC' hx hg;refine⟨G,hG,hc,λσ' ls Y' hp e h'=>?_⟩;obtain⟨e1,h1⟩:=hput σ' ls Y' (λ_=>False) hp e (λb hb=>hb.elim) (h'.mono λb _ hb=>⟨hb,id⟩);exact⟨e1,h1.mono (λb _ hb=>hb.1) h.oG h.oG2⟩
theorem Wjz (h:HH U F L H)(hx:L.ts[t]?=some x)(hg:H.ths[t]?=some g)(hc:H.tb[k]?=some c)(hl:g.ls[k]?=some l){R:Int->Int->Hp->Prop}
 (hR:∀σ' ts',Ext F U σ'->HH σ' (Grow F U) {L with ts:=ts'} (H.setLs t g (g.ls.set k (Ka c l).2))->R ((Ka c l).1.getD 0) (if(Ka c l).1.isSome then 0 else 4) σ'):X1.c (some ⟨x.c.p,0,none⟩) (k:Int) U R:=by
 obtain⟨G,hG,hC,hput⟩:=h.stepC0 hx hg;refine Take_ok hC hc hl λσ' Y' e hp h'=>?_;obtain⟨e1,h1⟩:=hput σ' _ Y' hp e h';exact hR σ' _ e1 h1
theorem Wi4 (h:HH U F L H)(hx:L.ts[t]?=some x)(hg:H.ths[t]?=some g)(hc:H.tb[k]?=some c)(hl:g.ls[k]?=some l){R:Int->Int->Hp->Prop}
 (hR:∀σ' ts',Ext F U σ'->HH σ' (Grow F U) {L with ts:=ts'} H->R ((Waf c l:Nat):Int) 0 σ'):Yj.c (some ⟨x.c.p,0,none⟩) (k:Int) U R:=by
 obtain⟨G,hG,hC,hput⟩:=h.stepC0 hx hg;refine Wm2 hC hc hl λσ' Y' e hp h'=>?_;obtain⟨e1,h1⟩:=hput σ' _ Y' hp e h';have e2:H.setLs t g g.ls=H:=by
  unfold Hw.setLs;rw[Qh hg]
 rw[e2]at h1;exact hR σ' _ e1 h1
theorem Wkl (h:HH U F L H)(hx:L.ts[t]?=some x)(hg:H.ths[t]?=some g)(hc:H.tb[k]?=some c)(hl:g.ls[k]?=some l){sl:Sl}{xs:List Int}{X:Rg}(hs:SlR sl 1 (WB xs) U X)(hX:∀q,X q->¬F q)(hfit:l.os.length+xs.length<=256){R:Int->Hp->Prop}
 (hR:∀σ' ts',Ext F U σ'->HH σ' (Grow F U) {L with ts:=ts'} (H.setLs t g (g.ls.set k (addL xs.reverse l)))->R 0 σ'):Yg.c (some ⟨x.c.p,0,none⟩) (k:Int) sl U R:=by
 obtain⟨G,hG,hC,hput⟩:=h.stepC0 hx hg;refine WmN hC hc hl hs (λq hq hg=>hX q hq (hG q hg)) hfit λσ' Y' e hp h'=>?_;obtain⟨e1,h1⟩:=hput σ' _ Y' hp e h';exact hR σ' _ e1 h1
theorem Wm5 (h:HH U F L H)(hx:L.ts[t]?=some x)(hg:H.ths[t]?=some g)(hc:H.tb[k]?=some c)(hl:g.ls[k]?=some l)(y:Int){R:Sl->Int->Hp->Prop}
 (hR:∀σ' ts' s e (Q:Rg),Ext F U σ'->(∀q,Q q->U.size<=q)->RowR s 1 (WB (putL c y l).1) σ' Q->HH σ' (λb=>Grow F U b/\¬Q b) {L with ts:=ts'} (H.setLs t g (g.ls.set k (putL c y l).2))->R s e σ'):YI.c (some ⟨x.c.p,0,none⟩) (k:Int) y U R:=by
 obtain⟨G,hG,hC,hput⟩:=h.stepC' hx hg;refine WnS hC hc hl y λσ' Y' s e' Q e hp _ hQ hs h'=>?_;obtain⟨e1,h1⟩:=hput σ' _ Y' Q hp e hQ h';exact hR σ' _ s e' Q e1 hQ hs h1
theorem WjB (h:HH U F L H)(hx:L.ts[t]?=some x)(hg:H.ths[t]?=some g){R:Bool->Hp->Prop}(hR:∀σ',Ext0 U σ'->R (decide (H.cf.budget<Q4 H.tb g.ls)) σ'):X2.c (some ⟨x.c.p,0,none⟩) U R:=by
 obtain⟨G,hG,hC,hput⟩:=h.stepC0 hx hg;exact WmK hC hR
theorem Wiv (hso:UW)(h:HH U F L H)(hx:L.ts[t]?=some x)(hg:H.ths[t]?=some g){R:Sl->Hp->Prop}
 (hR:∀σ' s (Q:Rg),Ext F U σ'->(∀q,Q q->U.size<=q)->BtR s (Kb ZM H.tb g.ls) σ' Q->HH σ' (λb=>Grow F U b/\¬Q b) L (H.setLs t g (Q8 ZM H.tb g.ls))->R s σ'):XS.c (some ⟨x.c.p,0,none⟩) U R:=by
 obtain⟨G,hG,hC,hput⟩:=h.stepC' hx hg;refine WjH hso hC λσ' s Q e hQ h' hs=>?_;obtain⟨e1,h1⟩:=hput σ' _ x.c Q rfl e hQ h';rw[show L.ts.set t {x with c:=x.c}=L.ts from Qh hx]at h1;exact hR σ' s Q e1 hQ hs h1
theorem WcR (hso:UW)(h:HH U F L H)(hx:L.ts[t]?=some x)(hg:H.ths[t]?=some g){R:Sl->Hp->Prop}
 (hR:∀σ' s (Q:Rg),Ext F U σ'->(∀q,Q q->U.size<=q)->BtR s (Kb KF H.tb g.ls) σ' Q->HH σ' (λb=>Grow F U b/\¬Q b) L (H.setLs t g (Q8 KF H.tb g.ls))->R s σ'):W7.c (some ⟨x.c.p,0,none⟩) U R:=by
 obtain⟨G,hG,hC,hput⟩:=h.stepC' hx hg;refine Wd2 hso hC λσ' s Q e hQ h' hs=>?_;obtain⟨e1,h1⟩:=hput σ' _ x.c Q rfl e hQ h';rw[show L.ts.set t {x with c:=x.c}=L.ts from Qh hx]at h1;exact hR σ' s Q e1 hQ hs h1
def AtH (S:Hp->Prop)(L:LayH)(tb:List Cls):Prop:=∀m,S m->∃(P:Rg) (ts:List LayT) (H:Hw),HH m P {L with ts:=ts} H/\H.tb=tb
theorem AtH.tab {S:Hp->Prop}{tb:List Cls}(hS:AtH S L tb){K:Sl->Prop}(hK:K L.tab):LdH S .s (Addr.add ⟨L.p,0,none⟩ 0) K:=⟨L.tab,λm hm=>by obtain⟨_,_,_,h,_⟩:=hS m hm;rw[add_lit,h.hd.cell];rfl,hK⟩
theorem AtH.arow {S:Hp->Prop}{tb:List Cls}(hS:AtH S L tb){K:Sl->Prop}(hK:K L.arow):LdH S .s (Addr.add ⟨L.p,0,none⟩ 7) K:=⟨L.arow,λm hm=>by obtain⟨_,_,_,h,_⟩:=hS m hm;rw[add_lit,h.hd.cell];rfl,hK⟩
theorem AtH.rA {S:Hp->Prop}{tb:List Cls}(hS:AtH S L tb)(h:HH U F L H)(hy:L.ys[k]?=some Y){K:Option Addr->Prop}(hK:K (some ⟨Y.p,0,none⟩)):Ix L.arow.a L.arow.len (k:Int) 1 λa=>LdH S .p a K:=by
 have hv:(ptrV (L.ys.map (·.p)))[k]?=some (.pointer (some ⟨Y.p,0,none⟩)):=by simp[ptrV,hy]
 obtain⟨b,o,ha,_⟩:=h.arowS.cell hv;have hk:=(gSi.1 hy).1;have hal:=h.arowL;have:=h.s.ys;rw[ha];refine ix (by omega) (by omega) ⟨_,λm hm=>?_,hK⟩;obtain⟨_,_,_,hm',_⟩:=hS m hm;obtain⟨b',o',ha',hc'⟩:=hm'.arowS.cell hv;rw[ha]at ha';cases ha';rw[add_lit,show o+(k:Int).toNat*1=o+k by omega];exact hc'
theorem AtH.rC {S:Hp->Prop}(hS:AtH S L H.tb)(h:HH U F L H)(hc:H.tb[k]?=some c){K:Int->Prop}(hK:K (c.size:Int)):Ix L.tab.a L.tab.len (k:Int) 3 λa=>LdH S (.i .i64) (a.add 0) K:=by
 have hv:(tabV H.tb)[3*k+0]?=some (.int .i64 (c.size:Int)):=(GI hc).1;obtain⟨b,o,ha,_⟩:=h.tabS.cell hv;have hk:=(gSi.1 hc).1;have hal:=h.tabL;rw[ha];refine ix (by omega) (by omega) ⟨_,λm hm=>?_,hK⟩;obtain⟨_,_,_,hm',htb⟩:=hS m hm;rw[←htb]at hv;obtain⟨b',o',ha',hc'⟩:=hm'.tabS.cell hv;have ha':L.tab.a=_:=ha';rw[ha]at ha';cases ha';rw[add_lit,add_lit,show o+(k:Int).toNat*3+0=o+(3*k+0) by omega];exact hc'
end Go.Ar
namespace Go.Ar
open Go Go.Vc Go.Proofs
variable {U u u':Hp}{F B P Q:Rg}{L:LayH}{H H':Hw}{t k n pb:Nat}{A:AR}{Y:Lay}{x:LayT}{g:Th}{c:Cls}{l:Li}{cs:List Value}{parts:List (List Int)}{xs:List Int}
theorem HK.ownE (K:HK F U B u P L H)(e:Ext B u u'){B':Rg}(hB:∀b,B' b->B b\/u.size<=b/\b<u'.size):HK F U B' u' P L H:=by
 have hz:=e.1;have hz0:=K.e.1;have oN:Off B/\¬B 1:=⟨K.o.1.sub λb hx=>(K.b b hx).1,λhx=>K.o.2 (K.b _ hx).1⟩;refine⟨K.h.keep e (λb _ h1 h2=>(K.p b h1).2.1 h2) oN.1 oN.2,K.e.newT e λb hb=>.inr (K.b b hb).1,λb h1=>⟨(K.p b h1).1,λhx=>?_,by have:=(K.p b h1).2.2;omega⟩,λb h1=>?_,K.o⟩
 ·rcases hB b hx with h2|h2
  ·exact(K.p b h1).2.1 h2
  ·have:=(K.p b h1).2.2;omega
 ·rcases hB b h1 with h2|h2
  ·have:=K.b b h2;omega
  ·omega
def sV (s:Sl):Value:=.slice s.a s.len s.cap
def PtR (pb:Nat)(parts:List (List Int)):Hp->Rg->Prop:=λu Q=>∃(ps:List Sl) (Qs:Nat->Rg),ps.length=parts.length/\Q pb/\Blk u pb (ps.map sV)/\(∀j b,Qs j b->Q b/\b≠pb)/\(∀j j' b,Qs j b->Qs j' b->j=j') ∧
 ∀j s xs,ps[j]?=some s->parts[j]?=some xs->RowO s 1 (WB xs) u (Qs j)
theorem PtR.loc (pb:Nat)(parts:List (List Int)):Lcl (PtR pb parts):=by
 rintro U σ' F G ⟨ps,Qs,h1,h2,h3,h4,h5,h6⟩ hz hs;have hp:=hs pb h3.lt h2;obtain⟨e,he⟩:=h3;refine⟨ps,λj b=>Qs j b/\b<U.size,h1,hp.1,⟨e,hp.2.trans he⟩,λj b hb=>⟨(hs b hb.2 (h4 j b hb.1).1).1,(h4 j b hb.1).2⟩,λj j' b a b'=>h5 j j' b a.1 b'.1,λj s xs a b=>(RowO.loc _ _ _) _ _ _ _ (h6 j s xs a b) hz λb hb hq=>⟨⟨hq,hb⟩,(hs b hb (h4 j b hq).1).2⟩⟩
theorem PtR.add (h:PtR pb parts u Q){a m e1 e2:Nat}(hm:m=parts.length)(ha:parts[a]?=some xs)(y:Int)(hl:xs.length<=1000000){K:Hp->Prop}(hK:∀u',Ext Q u u'->PtR pb (parts.set a (xs++[y])) u' (Grow Q u)->K u') :
 Ix (some ⟨pb,0,none⟩) m (a:Int) 1 λa1=>LdS a1 u λt35=>Nw (.cells #[.int .i64 y] e1 (0,0)) u λn37 v4=>App t35 1 8 e2 [.int .i64 0] ⟨some n37,1,1⟩ v4 λt38 v5=>Ix (some ⟨pb,0,none⟩) m (a:Int) 1 λa39=>St1 a39 (.slice t38.a t38.len t38.cap) v5 λv6=>K v6:=by
 obtain⟨ps,Qs,h1,h2,h3,h4,h5,h6⟩:=h;have hlt:=(gSi.1 ha).1;have hps:ps[a]?=some (ps[a]'(by omega)):=gGe _;generalize (ps[a]'(by omega))=s at hps;have hrow:=h6 a s xs hps ha;have hsl:s.len=xs.length:=by have:=hrow.1;simp[WB]at this;omega
 refine ix (by omega) (by omega) ?_;rw[add_lit,show 0+(a:Int).toNat*1=a by omega];refine h3.rS0 (a:=s.a) (n:=s.len) (c:=s.cap) (by simp[hps,sV]) ?_;refine nw (cs:=[.int .i64 y]) λv4 hz e hb=>?_;have hrow4:=(RowO.loc _ _ _).keep0 ((RowO.loc _ _ _).cut hrow) e;have h34:=e.blk h3 id;refine hrow4.app (x:=⟨some ⟨u.size,0,none⟩,1,1⟩) (ys:=[.int .i64 y]) rfl rfl ?_ (by simp[one1]) ?_ ?_ zBI λs' v5 hl5 e5 hr5=>?_
 ·intro j w hw;rw[add_lit,zJ,hb.cell];exact hw
 ·simp only;omega
 ·simp only;omega
 have hz5:=e5.1;have h35:Blk v5 pb (ps.map sV):=e5.blk h34 λhx=>(h4 a pb hx.1).2 rfl;refine ix (by omega) (by omega) ?_;rw[add_lit,show 0+(a:Int).toNat*1=a by omega];refine h35.s0 (by simp;omega) λu' ho hb'=>?_;have hz6:=ho.1;have e6:Ext (· = pb) v5 u':=ho.ext;have eQ:Ext Q u u':=((Ext0.to e).trans (e5.sub λb hb=>(h4 a b hb.1).1)).trans (e6.sub λb hb=>by rw[hb];exact h2);have hpb:=h3.lt;refine hK u' eQ ⟨ps.set a s',λj b=>Qs j b/\b<u.size\/j=a/\v4.size<=b/\b<v5.size,by simp[h1],.inl h2,?_,λj b hb=>?_,λj j' b hb hb'=>?_,λj s2 ys hj hy=>?_⟩
 ·rw[zDP];exact hb'
 ·rcases hb with hb|hb
  ·exact⟨.inl (h4 j b hb.1).1,(h4 j b hb.1).2⟩
  ·exact⟨.inr (by omega),by omega⟩
 ·rcases hb with hb|hb<;>rcases hb' with hb'|hb'
  ·exact h5 j j' b hb.1 hb'.1
  ·omega
  ·omega
  ·omega
 ·by_cases hja:j=a
  ·subst hja;rw[zK (by omega)]at hj;rw[zK hlt]at hy;cases hj;cases hy;have:=(RowO.loc _ _ _).keep ((RowO.loc _ _ _).cut hr5) e6 λb _ hb hx=>by
    rcases hb.1 with h7|h7
    ·exact(h4 j b h7.1).2 hx
    ·omega
   have e7:WB (xs++[y])=WB xs++[.int .i64 y]:=by simp[WB]
   rw[e7];refine(RowO.loc _ _ _).mono this λb _ hb=>?_;rcases hb.1 with h7|h7
   ·exact .inl h7
   ·exact .inr ⟨rfl,h7,hb.2⟩
  ·rw[zd (Ne.symm hja)]at hj hy;have:=(RowO.loc _ _ _).cut (h6 j s2 ys hj hy);have:=(RowO.loc _ _ _).keep ((RowO.loc _ _ _).keep ((RowO.loc _ _ _).keep0 this e) e5 λb _ hb hx=>hja (h5 j a b hb.1 hx.1)) e6 λb _ hb hx=>(h4 j b hb.1).2 hx;exact(RowO.loc _ _ _).mono this λb _ hb=>.inl hb
theorem PtR.get (h:PtR pb parts u Q){a m:Nat}(hm:m=parts.length)(ha:parts[a]?=some xs){K:Sl->Prop}(hK:∀s,RowO s 1 (WB xs) u Q->s.len=xs.length->K s):Ix (some ⟨pb,0,none⟩) m (a:Int) 1 λa1=>LdS a1 u K:=by
 obtain⟨ps,Qs,h1,h2,h3,h4,h5,h6⟩:=h;have hlt:=(gSi.1 ha).1;have hps:ps[a]?=some (ps[a]'(by omega)):=gGe _;generalize (ps[a]'(by omega))=s at hps;have hrow:=h6 a s xs hps ha;refine ix (by omega) (by omega) ?_;rw[add_lit,show 0+(a:Int).toNat*1=a by omega];refine h3.rS0 (a:=s.a) (n:=s.len) (c:=s.cap) (by simp[hps,sV]) (hK s ((RowO.loc _ _ _).mono hrow λb _ hb=>(h4 a b hb).1) ?_);have:=hrow.1;simp[WB]at this;omega
theorem Wal {ars:List AR}{x:Int}(h:0<=Yk ars x):(Yk ars x).toNat<ars.length/\Yk ars x=((Yk ars x).toNat:Int):=by
 refine⟨?_,by omega⟩;unfold Yk at *;split at h
 ·omega
 ·rename_i hx;rw[zA hx];split at h
  ·rename_i i hi;have:=(zGO.1 hi).1;simp only[iTn];exact this
  ·omega
theorem WhN {ars:List AR}{x:Int}{xs:List Int}(h:0<=Yk ars x):((List.range ars.length).map (ZK ars xs)).set (Yk ars x).toNat (ZK ars xs (Yk ars x).toNat++[x])=(List.range ars.length).map (ZK ars (xs++[x])):=by
 have hl:=Wal h;apply zm;intro j;by_cases hj:j<ars.length
 ·by_cases e:(Yk ars x).toNat=j
  ·subst e;rw[zK (by simpa using hj)];simp only[zg,zBJ hj,zc,ZK,zFA]
   congr 2
   rw[zGM (by rw[←hl.2];simp)];rfl
  ·rw[zd e];simp only[zg,zBJ hj,zc,ZK,zFA];have:List.filter (λy=>Yk ars y==(j:Int)) [x]=[]:=by
    rw[zGL (by simp only[zY];omega)];rfl
   rw[this,zAC]
 ·rw[zU (by simp;omega),zU (by simp;omega)]
theorem QD {K:Bool->Hp->Prop}{body:(Bool->Hp->Prop)->Prop}(P:Bool->Hp->Prop)(h1:∀r w,P r w->K r w)(h2:∀J:Bool->Hp->Prop,(∀r w,P r w->J r w)->body J):JnB K body:=JnB.intro (h2 K h1)
theorem WnC {K:Fam [.b]}{body:Fam [.b]->Prop}(P:Bool->Hp->Prop)(h1:∀r w,P r w->K r w)(h2:∀J:Fam [.b],(∀r w,P r w->J r w)->body J):Jn [.b] K body:=Jn.intro (h2 K h1)
theorem Wgq {K:Fam []}{body:Fam []->Prop}(P:Hp->Prop)(h1:∀w,P w->K w)(h2:∀J:Fam [],(∀w,P w->J w)->body J):Jn [] K body:=Jn.intro (h2 K h1)
theorem KZ {H:Hw}{k:Nat}{part:Nat->List Int}(j:Nat):Vd H k part (List.range (j+1))=(match (Vd H k part (List.range j)).ars[j]? with
 | some A=>if part j=[]then Vd H k part (List.range j)else(Vd H k part (List.range j)).setA j (Y1 A (k:Int) (part j))
 | none=>Vd H k part (List.range j)):=by
 unfold Vd;rw[zr,zv];rfl
theorem WcZ {H:Hw}{k:Nat}{part:Nat->List Int}(j:Nat):(Vd H k part (List.range j)).ars.length=H.ars.length:=by
 induction j with
 | zero=>rfl
 | succ j ih=>
  rw[KZ];split
  ·split
   ·exact ih
   ·simp[Hw.setA,ih]
  ·exact ih
theorem WfI {H:Hw}{k:Nat}{part:Nat->List Int}(j:Nat):(Vd H k part (List.range j)).ths=H.ths:=by
 induction j with
 | zero=>rfl
 | succ j ih=>
  rw[KZ];split
  ·split<;>exact ih
  ·exact ih
theorem G6 (H:Hw)(own k:Nat)(xs:List Int):(HN H own k xs).ths=H.ths:=by
 unfold HN;split
 ·split
  ·rfl
  ·rw[WfI];split<;>rfl
 ·rfl
def BkI (F:Rg)(U:Hp)(L:LayH)(H:Hw)(pb:Nat)(parts:List (List Int))(cs:List Value)(w:Hp):Prop:=∃Q P:Rg,HK F U (λb=>b=U.size\/Q b) w P L H/\PtR pb parts w Q/\Blk w U.size cs/\∀b,Q b->b≠U.size
theorem WjF (h:HH U F L H){own:Nat}(ho:own<H.ars.length)(k:Nat){sl:Sl}{xs:List Int}{X:Rg}(hs:SlR sl 1 (WB xs) U X)(hX:∀b,b<U.size->X b->¬F b)(hcap:sl.len<=sl.cap)(hx:∀x∈xs,I63 x/\0<=Yk H.ars x)(hl:xs.length<=1000000){R:Hp->Prop}
 (hR:∀σ',Ext F U σ'->HH σ' (Grow F U) L (HN H own k xs)->R σ'):Zo.c (some ⟨L.p,0,none⟩) (own:Int) (k:Int) sl U R:=by
 refine Zo.o ?_;unfold Zo.v;have hsl:sl.len=xs.length:=by have:=hs.1;simp[WB]at this;omega
 have ha2:=h.s.a2;have hal:=h.arowL;have hs1:∀u,Ext F U u->SlR sl 1 (WB xs) u (λb=>X b/\b<U.size):=λu eu=>(SlR.loc _ _ _).keep ((SlR.loc _ _ _).cut hs) eu λb _ hx hf=>hX b hx.2 hx.1 hf;refine nw (cs:=[.int .i64 (k:Int),.slice sl.a sl.len sl.cap]) λv hz e hb=>?_;have K1:=(HK.start h).box e hz;refine nilP (K1.h.hd.rS rfl ?_);simp only;refine mk (n:=L.arow.len) (by omega) (by omega) λv1 hz1 e1 hb1=>?_;have K2:=K1.box e1 hz1;have hb2:=e1.blk hb id;have hP:PtR v.size ((List.range H.ars.length).map (ZK H.ars [])) v1 (λb=>b=v.size):=by
  refine⟨List.replicate H.ars.length ⟨none,0,0⟩,λ_ _=>False,by simp,rfl,?_,λj b hb=>hb.elim,λj j' b hb=>hb.elim,λj s ys h1 h2=>?_⟩
  ·have:(List.replicate L.arow.len [Value.slice none 0 0]).flatten=(List.replicate H.ars.length (⟨none,0,0⟩:Sl)).map sV:=by
    rw[hal];simp[sV]
   rw[←this];exact hb1
  ·simp only[zg,zBV]at h2;obtain⟨a,_,rfl⟩:=h2;simp only[zAM]at h1;split at h1
   ·cases h1;exact RowO.nil _ _ _ _
   ·cases h1
 have hpl:∀ys:List Int,L.arow.len=((List.range H.ars.length).map (ZK H.ars ys)).length:=λys=>by simp[hal]
 refine hb2.rS rfl ?_;refine Zx (a:=.i .i64) (λ(z:Int) w=>∃i:Nat,z=(i:Int)/\i<=xs.length/\BkI F U L H v.size ((List.range H.ars.length).map (ZK H.ars (xs.take i))) [.int .i64 (k:Int),.slice sl.a sl.len sl.cap] w) (λz _=>xs.length-z.toNat)
  ⟨0,rfl,by omega,λb=>b=v.size,_,⟨K2.h,K2.e,λb hb=>⟨(K2.p b hb).1,λhx=>(K2.p b hb).2.1 (hx.imp .inr id),(K2.p b hb).2.2⟩,λb hb=>K2.b b (hb.imp .inr id),K2.o⟩,hP,hb2,λb hb=>by omega⟩ ?_
 rintro z w ⟨i,rfl,hi,Q,P,K,hP,hbw,hQ⟩;refine ifD (λhlt=>?_) λhge=>?_
 ·simp only at hlt;have hi':i<xs.length:=by omega
  have hxi:xs[i]?=some xs[i]:=gGe hi';generalize xs[i]=y at hxi;have hy:=hx y (zD hxi);refine(hs1 w K.e).ixI hxi (WaN K.h y hy.1 λw1 e1=>?_);have hlt:=Wal hy.2;rw[hlt.2];have hP1:PtR v.size _ w1 (λb=>Q b/\b<w.size):=(PtR.loc _ _).keep0 ((PtR.loc _ _).cut hP) e1;have hpart:((List.range H.ars.length).map (ZK H.ars (xs.take i)))[(Yk H.ars y).toNat]?=some (ZK H.ars (xs.take i) (Yk H.ars y).toNat):=by
   simp only[zg,zBJ hlt.1,zc]
  have hpl1:(ZK H.ars (xs.take i) (Yk H.ars y).toNat).length<=1000000:=by
   have:=zAZ (λx=>Yk H.ars x==(((Yk H.ars y).toNat:Nat):Int)) (xs.take i);simp only[ZK];rw[zT]at this;omega
  refine hP1.add (hpl _) hpart y hpl1 λw2 e2 hP2=>?_;rw[WhN hy.2]at hP2;have ht:xs.take i++[y]=xs.take (i+1):=by rw[zAG,hxi];rfl
  rw[ht]at hP2;have hz1:=e1.1;have hz2:=e2.1;refine arN (m:=i+1) (by omega) (by omega) ⟨⟨i+1,rfl,by omega,λb=>(Q b/\b<w.size)\/w1.size<=b/\b<w2.size,P,(K.fr e1).ownE (e2.sub λb hb=>.inr hb.1) λb hb=>?_,(PtR.loc _ _).mono hP2 λb hb hq=>?_,?_,λb hb=>?_⟩,by omega⟩
  ·rcases hb with hb|hb|hb
   ·exact .inl (.inl hb)
   ·exact .inl (.inr hb.1)
   ·exact .inr hb
  ·rcases hq with hq|hq
   ·exact .inl hq
   ·exact .inr ⟨hq,hb⟩
  ·exact e2.blk (e1.blk hbw id) λhx=>hQ _ hx.1 rfl
  ·have:=(K.b U.size (.inl rfl)).2;rcases hb with hb|hb
   ·exact hQ b hb.1
   ·omega
 ·have hii:i=xs.length:=by simp only at hge;omega
  subst hii;rw[zAT]at hP;obtain⟨A,hA⟩:∃A,H.ars[own]?=some A:=⟨_,gGe ho⟩;obtain⟨Y,hY,_,_⟩:=h.ar hA;have hbk:HN H own k xs=(if(ZK H.ars xs own).length=xs.length/\Vh A (k:Int) xs=true then H.setA own (Q6 A (k:Int) xs)
   else Vd (if(ZK H.ars xs own).length=xs.length then H.setA own (Q6 A (k:Int) xs)else H) k (ZK H.ars xs) (List.range H.ars.length)):=by
   unfold HN;rw[hA]
  have hown:((List.range H.ars.length).map (ZK H.ars xs))[own]?=some (ZK H.ars xs own):=by
   simp only[zg,zBJ ho,zc]
  refine Wgq (λw=>¬((ZK H.ars xs own).length=xs.length/\Vh A (k:Int) xs=true)/\BkI F U L (if(ZK H.ars xs own).length=xs.length then H.setA own (Q6 A (k:Int) xs)else H) v.size ((List.range H.ars.length).map (ZK H.ars xs)) [.int .i64 (k:Int),.slice sl.a sl.len sl.cap] w) (λw hw=>?_) λJ hJ=>?_
  ·obtain⟨hno,hw⟩:=hw;rw[zA hno]at hbk;generalize hH1:(if(ZK H.ars xs own).length=xs.length then H.setA own (Q6 A (k:Int) xs)else H)=H1 at hw hbk
   have hH1l:H1.ars.length=H.ars.length:=by
    rw[←hH1];split
    ·simp[Hw.setA]
    ·rfl
   refine Zx (a:=.i .i64) (λ(z:Int) w=>∃j:Nat,z=(j:Int)/\j<=H.ars.length/\BkI F U L (Vd H1 k (ZK H.ars xs) (List.range j)) v.size ((List.range H.ars.length).map (ZK H.ars xs)) [.int .i64 (k:Int),.slice sl.a sl.len sl.cap] w) (λz _=>H.ars.length-z.toNat) ⟨0,rfl,by omega,hw⟩ ?_;rintro z w ⟨j,rfl,hj,Q,P,K,hP,hbw,hQ⟩;refine ifD (λhlt=>?_) λhge=>?_
   ·simp only at hlt;have hj':j<H.ars.length:=by omega
    have hpj:((List.range H.ars.length).map (ZK H.ars xs))[j]?=some (ZK H.ars xs j):=by
     simp only[zg,zBJ hj',zc]
    refine hP.get (hpl _) hpj λs hrow hsl'=>?_;have hfl:=WcZ (H:=H1) (k:=k) (part:=ZK H.ars xs) j;obtain⟨B,hB⟩:∃B,(Vd H1 k (ZK H.ars xs) (List.range j)).ars[j]?=some B:=⟨_,gGe (by omega)⟩;have hsn:=KZ (H:=H1) (k:=k) (part:=ZK H.ars xs) j;rw[hB]at hsn;simp only at hsn;refine ifD (λhpos=>?_) λhz0=>?_
    ·have hne:ZK H.ars xs j≠[]:=λe=>by rw[e]at hsl';simp at hsl';omega
     rw[zA hne]at hsn;obtain⟨Y,hY,_,_⟩:=K.h.ar hB;refine nilP (K.h.hd.rS rfl (K.h.rA hY (hbw.rI rfl ?_)));refine WbW K.h hB hY (k:Int) (RowO.slR hrow) (λb _ hq hp=>(K.p b hp).2.1 (.inr hq)) (λx hx'=>(hx x (zG.1 hx').1).1) ?_ (RowO.cap hrow) λw1 e1 h1=>?_
     ·have:=zAZ (λx=>Yk H.ars x==(j:Int)) xs;simp only[ZK];omega
     ·have hz1:=e1.1;rw[←hsn]at h1;refine arN (m:=j+1) (by omega) (by omega) ⟨⟨j+1,rfl,by omega,Q,_,K.to e1 h1 λb _ hb=>hb,(PtR.loc _ _).keep hP e1 λb _ hq hp=>(K.p b hp).2.1 (.inr hq),K.keepB e1 hbw (.inl rfl),hQ⟩,by omega⟩
    ·have hne:ZK H.ars xs j=[]:=zFZ (by omega);rw[zB hne]at hsn;refine arN (m:=j+1) (by omega) (by omega) ⟨⟨j+1,rfl,by omega,Q,P,by rw[hsn];exact K,hP,hbw,hQ⟩,by omega⟩
   ·have hjj:j=H.ars.length:=by simp only at hge;omega
    subst hjj;rw[hbk]at hR;exact hR w K.e (K.fin h)
  ·refine hP.get (hpl _) hown λs hrow hsl'=>hbw.rS rfl ?_;refine iff_ (λheq=>?_) λhne=>?_
   ·have heq':(ZK H.ars xs own).length=xs.length:=by simp only[zY]at heq;omega
    rw[zB heq']at hbk hJ;have hS:AtH (λu=>(∃P' H',HH u P' L H'/\H'.tb=H.tb)/\Blk u U.size [.int .i64 (k:Int),.slice sl.a sl.len sl.cap]) L H.tb:=λm hm=>by
     obtain⟨⟨P',H',h1,h2⟩,_⟩:=hm;exact⟨P',L.ts,H',h1,h2⟩
    refine⟨λu=>(∃P' H',HH u P' L H'/\H'.tb=H.tb)/\Blk u U.size [.int .i64 (k:Int),.slice sl.a sl.len sl.cap],⟨⟨_,_,K.h,rfl⟩,hbw⟩,nilP (hS.arow (hS.rA K.h hY ?_))⟩;refine⟨(k:Int),λm hm=>by rw[add_lit,hm.2.cell];rfl,⟨sl,λm hm=>by rw[add_lit,hm.2.cell];rfl,?_⟩⟩;refine WaW K.h hA hY (k:Int) (hs1 w K.e) (λx hx'=>(hx x hx').1) λw1 e1 h1=>?_;have K1:=K.to e1 h1 λb _ hb=>hb;refine⟨⟨⟨_,_,h1,rfl⟩,K.keepB e1 hbw (.inl rfl)⟩,?_⟩;have fin:∀r,r=Vh A (k:Int) xs->((r=true->R w1)/\(r=false->J w1)):=λr hr=>by
     refine⟨λhr1=>?_,λhr1=>hJ w1 ⟨λhx=>Bool.noConfusion ((hr1.symm.trans hr).trans hx.2),Q,_,K1,(PtR.loc _ _).keep hP e1 λb _ hq hp=>(K.p b hp).2.1 (.inr hq),K.keepB e1 hbw (.inl rfl),hQ⟩⟩;rw[zB ⟨heq',by rw[←hr,hr1]⟩]at hbk;rw[hbk]at hR;exact hR w1 K1.e (K1.fin h)
    refine QD (λr w=>w=w1/\r=Vh A (k:Int) xs) (λr w' ⟨hw,hr⟩=>?_) λJ3 hJ3=>?_
    ·subst hw;exact iff_ (λh1=>(fin r hr).1 h1) λh1=>(fin r hr).2 h1
    ·refine iff_ (λh1=>hJ3 _ _ ⟨rfl,?_⟩) λh1=>hJ3 _ _ ⟨rfl,h1.symm⟩;have:Hs A (k:Int) xs=0:=by
      unfold Vh at h1;simp only[zF,zP]at h1;exact h1.1
     rw[this,h1];rfl
   ·have hne':¬(ZK H.ars xs own).length=xs.length:=by
     simp only[zAA]at hne;omega
    rw[zA hne']at hJ;exact hJ w ⟨λhx=>hne' hx.1,Q,P,K,hP,hbw,hQ⟩
theorem ret2 {w:Hp}(K:HK F U B w P L H)(hB:B n){p q:Int}(hb:Blk w n [.int .i64 p,.int .i64 q]){x y:Int}{K':Int->Int->Hp->Prop}(hK:∀w',HK F U B w' P L H->K' x y w') :
 St1 (Addr.add ⟨n,0,none⟩ 0) (.int .i64 x) w λv3=>St1 (Addr.add ⟨n,0,none⟩ 1) (.int .i64 y) v3 λv4=>LdI .i64 (Addr.add ⟨n,0,none⟩ 0) v4 λres=>LdI .i64 (Addr.add ⟨n,0,none⟩ 1) v4 λres1=>K' res res1 v4:=
 hb.s1 (by simp) λv3 o3 b3=>b3.s1 (by simp) λv4 o4 b4=>b4.rI rfl (b4.rI rfl (hK v4 ((K.own o3 hB).own o4 hB)))
theorem WkR (h:HH U F L H)(ht:t<H.ths.length)(x:Int)(hx:I63 x)(hr:mget H.live x=none->∀A∈H.ars,RunsOk A)(hlen:∀g,H.ths[t]?=some g->g.hands.length<=1000)(h0:∀b,mget H.live x=some b->0<=x){R:Value->Int->Int->Hp->Prop}
 (hR:∀σ' ts',Ext F U σ'->HH σ' (Grow F U) {L with ts:=ts'} (U0 H t x).1->R (phV (U0 H t x).2.1) (U0 H t x).2.2.1 (U0 H t x).2.2.2 σ'):Zj.c (some ⟨L.p,0,none⟩) (t:Int) x U R:=by
 refine Zj.o ?_;unfold Zj.v;refine nw (cs:=[.int .i64 0,.int .i64 0]) λv hz e hb=>?_;have K1:=(HK.start h).box e hz;refine nilP (K1.h.hd.rM rfl ⟨_,K1.h.liveM,?_⟩);refine nw (cs:=[.int .i64 0,.int .i64 0,.int .i64 0,.int .i64 0]) λv1 hz1 e1 hb1=>?_;have K2:=K1.box e1 hz1;have hbv:=e1.blk hb id;have hne:U.size≠v.size:=by omega
 refine hb1.s1 (by simp) λv2 o2 b2=>b2.s1 (by simp) λv3 o3 b3=>b3.s1 (by simp) λv4 o4 b4=>b4.s1 (by simp) λv5 o5 b5=>?_;have K5:=(((K2.own o2 (.inr rfl)).own o3 (.inr rfl)).own o4 (.inr rfl)).own o5 (.inr rfl);have hb5:=Ws o5 (Ws o4 (Ws o3 (Ws o2 hbv hne) hne) hne) hne;have hL:L = {L with ts:=L.ts}:=rfl;cases hm:mget H.live x with
 | none=>
  have hno:U0 H t x=(H,none,0,whyH H x):=by unfold U0;rw[hm]
  rw[hno]at hR;simp only at hR;refine ifT rfl ?_;refine Wgq (λw=>whyH H x=8/\Ext0 v5 w) (λw ⟨h8,ew⟩=>?_) λJ hJ=>?_
  ·rw[h8]at hR;exact ret2 (n:=U.size) (K5.fr ew) (.inl (.inr rfl)) (ew.blk hb5 id) λw' K'=>hR w' L.ts K'.e (K'.fin h)
  ·refine WaN K5.h x hx λv9 e9=>?_;have K9:=K5.fr e9;have hb9:=e9.blk hb5 id;refine ifD (λhge=>?_) λhlt=>hJ v9 ⟨zA (by omega),e9⟩;have hol:=Wal hge;obtain⟨A,hA⟩:∃A,H.ars[(Yk H.ars x).toNat]?=some A:=⟨_,gGe hol.1⟩;obtain⟨Y,hY,_,hAY⟩:=K9.h.ar hA;have hw0:whyH H x=(match UN A x with
    | some (k,y)=>if 0<=k/\(y:Int)=x then(9:Int)else 8
    | none=>8):=by unfold whyH;rw[zB hge,hA];rfl
   rw[hol.2];refine nilP (K9.h.hd.rS rfl (K9.h.rA hY ?_));refine WlD hAY (hr hm A (zD hA)) x hx (λv10 k y e10 hf=>?_) λv10 e10 hf=>?_
   ·rw[hf]at hw0;simp only at hw0;rw[hw0]at hR hJ;have K10:=K9.fr e10;have hb10:=e10.blk hb9 id;refine QD (λr w=>w=v10/\r=decide (0<=k)) (λr w ⟨hw,hrk⟩=>?_) λJ1 hJ1=>?_
    ·subst hw;subst hrk;refine QD (λr w2=>w2=w/\r=decide (0<=k/\(y:Int)=x)) (λr w2 ⟨hw,hrk⟩=>?_) λJ2 hJ2=>?_
     ·subst hrk;rw[hw];refine ifD (λhc=>?_) λhc=>?_
      ·rw[zB hc]at hR;exact ret2 (n:=U.size) K10 (.inl (.inr rfl)) hb10 λw' K'=>hR w' L.ts K'.e (K'.fin h)
      ·exact hJ w ⟨zA hc,e9.trans e10⟩
     ·refine ifD (λhc=>hJ2 _ _ ⟨rfl,?_⟩) λhc=>hJ2 _ _ ⟨rfl,?_⟩
      ·by_cases hyx:(y:Int)=x
       ·rw[zI (⟨hc,hyx⟩:0<=k/\(y:Int)=x),zY.2 hyx]
       ·rw[zH (λhx=>hyx hx.2),zAA.2 hyx]
      ·rw[zH (λhx=>hc hx.1)]
    ·exact ifT rfl (hJ1 _ _ ⟨rfl,rfl⟩)
   ·rw[hf]at hw0;simp only at hw0;rw[hw0]at hJ;refine QD (λr w=>w=v10/\r=false) (λr w ⟨hw,hrk⟩=>?_) λJ1 hJ1=>ifF rfl (hJ1 _ _ ⟨rfl,rfl⟩);subst hw;subst hrk;exact JnB.intro (ifF rfl (ifF rfl (hJ w ⟨rfl,e9.trans e10⟩)))
 | some b=>
  have hb0:=h0 b hm;have hfd:U0 H t x=(if b.2.2.1<0 then({H with live:=mdel H.live x},some (.give (x/256) b.2.2.2),0,0)
   else(QM {H with live:=mdel H.live x} t b.2.2.1.toNat [x],some (.put b.2.2.1.toNat x),0,0)):=by unfold U0;rw[hm]
  rw[hfd]at hR;have hgb:(mget H.live x).getD ((0,0,0,0):Bk)=b:=by rw[hm];rfl
  rw[hgb]at b5;refine ifF rfl ?_;refine nilP (K5.h.hd.rM rfl ?_);obtain⟨hF,hput⟩:=K5.h.stepL;refine⟨_,K5.h.liveM,λv6 o6 _ hm6=>?_⟩;obtain⟨e6,h6⟩:=hput v6 _ (o6 _ rfl) hm6;have K6:=K5.to e6 h6 λb _ hb=>.inl hb;have hb6:=K5.keepB e6 hb5 (.inl (.inr rfl));have hc6:=K5.keepB e6 b5 (.inr rfl);refine hc6.rI rfl (ifD (λhneg=>?_) λhnn=>?_)
  ·have hneg':b.2.2.1<0:=hneg;rw[zB hneg']at hR;refine nz (by decide) (ar (by rw[Xm (by omega)];omega) (by rw[Xm (by omega)];unfold I63 at hx;omega) (hc6.rI rfl ?_));rw[Xm (by omega)];exact ret2 (n:=U.size) K6 (.inl (.inr rfl)) hb6 λw' K'=>hR w' L.ts K'.e (K'.fin h)
  ·have hnn':¬b.2.2.1<0:=hnn;rw[zA hnn']at hR;refine hc6.rI rfl (nw (cs:=[.int .i64 x]) λv7 hz7 e7 hb7=>?_);have K7:=K6.box e7 hz7;have hb7':=e7.blk hb6 id;have hc7:=e7.blk hc6 id;have hkk:b.2.2.1=((b.2.2.1.toNat:Nat):Int):=by omega
   have hs7:SlR ⟨some ⟨v6.size,0,none⟩,1,1⟩ 1 (WB [x]) v7 (· = v6.size):=hb7.slR (o:=0) rfl rfl λj hj=>by rw[zJ];rfl
   have hz6:=K6.e.1;rw[hkk];refine GG K7.h (t:=t) ht b.2.2.1.toNat hs7 (zC _) (by simp) (λq _ hq hp=>(K7.p q hp).2.1 (.inr hq)) (K7.o.1.sub λq hq=>by omega) (λhq=>K7.o.2 (by omega)) hlen λv8 ts8 e8 h8=>?_;have K8:=(K6.fr e7).toX e8 h8 λq hql hq=>by
    rcases hq with hq|hq
    ·exact hq.imp id .inl
    ·refine .inr (.inr ⟨.inr (by omega),λhB=>?_⟩);have:=(K6.b q hB).2;omega
   have hb8:=K7.keepB e8 hb7' (.inl (.inl (.inr rfl)));have hc8:=K7.keepB e8 hc7 (.inl (.inr rfl));refine hc8.rI (x:=((b.2.2.1.toNat:Nat):Int)) (by rw[←hkk];rfl) ?_;exact ret2 (n:=U.size) K8 (.inl (.inr rfl)) hb8 λw' K'=>hR w' ts8 K'.e (K'.fin h)
end Go.Ar
namespace Go.Ar
open Go Go.Vc Go.Proofs
variable {U u u':Hp}{F B P Q:Rg}{L:LayH}{H H':Hw}{t k n pb:Nat}{A:AR}{Y:Lay}{x:LayT}{g:Th}{c:Cls}{l:Li}{cs:List Value}
theorem nx0 {t' t:TypeId}{w:Value}{A B:Prop}(hne:t'≠t)(h:B):∃is:Bool,AsB (.iface t' w) t [] [] is/\If is A B:=⟨false,⟨rfl,.inr ⟨_,_,rfl,hne⟩⟩,ifF rfl h⟩
theorem nx1 {t' t:TypeId}{w:Value}{A B:Int->Prop}(hne:t'≠t)(h:B 0):∃x:Int,∃is:Bool,AsB (.iface t' w) t [.int .i64 x] [.int .i64 0] is/\If is (A x) (B x):=⟨0,false,⟨rfl,.inr ⟨_,_,rfl,hne⟩⟩,ifF rfl h⟩
theorem nx2 {t' t:TypeId}{w:Value}{A B:Int->Int->Prop}(hne:t'≠t)(h:B 0 0):∃x:Int,∃y:Int,∃is:Bool,AsB (.iface t' w) t [.int .i64 x,.int .i64 y] [.int .i64 0,.int .i64 0] is/\If is (A x y) (B x y):=⟨0,0,false,⟨rfl,.inr ⟨_,_,rfl,hne⟩⟩,ifF rfl h⟩
theorem ye0 {t:TypeId}{A B:Prop}(h:A):∃is:Bool,AsB (.iface t (.agg #[])) t [] [] is/\If is A B:=⟨true,rfl,ifT rfl h⟩
theorem ye1 {t:TypeId}{a:Int}{A B:Int->Prop}(h:A a):∃x:Int,∃is:Bool,AsB (.iface t (.agg #[.int .i64 a])) t [.int .i64 x] [.int .i64 0] is/\If is (A x) (B x):=⟨a,true,rfl,ifT rfl h⟩
theorem ye2 {t:TypeId}{a b:Int}{A B:Int->Int->Prop}(h:A a b):∃x:Int,∃y:Int,∃is:Bool,AsB (.iface t (.agg #[.int .i64 a,.int .i64 b])) t [.int .i64 x,.int .i64 y] [.int .i64 0,.int .i64 0] is/\If is (A x y) (B x y):=⟨a,b,true,rfl,ifT rfl h⟩
theorem HH.tc (h:HH u P L H)(hx:L.ts[t]?=some x)(hg:H.ths[t]?=some g){b o:Nat}(ha:L.trow.a=some ⟨b,o,none⟩){d:Nat}(hd:d<3){v:Value}(hv:(thV (x,g))[d]?=some v):cell u (Addr.add ⟨b,o+3*t,none⟩ d)=some v:=by
 obtain⟨b',o',ha',hc⟩:=WaP h.trowS hx hg hd hv;rw[ha]at ha';cases ha';rw[add_lit,show o+3*t+d=o+(3*t+d) by omega];exact hc
theorem HH.stN (h:HH u P L H)(hP:∀b,P b->b<u.size)(hx:L.ts[t]?=some x)(hg:H.ths[t]?=some g)(N:Rg)(hN:∀b,b<u.size->P b->¬N b)(oN:Off N)(oN2:¬N 1) :
 ∃G D:Rg,(∀b,G b->P b)/\(∀b,D b->P b)/\(∀b,G b->¬D b)/\BtR x.h g.hands u G/\(∀u1,Ext G u u1->SlR L.trow 3 (trV L.ts H.ths) u1 D) ∧
 ∀(u1:Hp) (s:Sl) (bs:List Bt) (G':Rg),Ext G u u1->(∀b,G' b->G b\/N b)->BtR s bs u1 G'->∀{b o:Nat} (ha:L.trow.a=some ⟨b,o,none⟩) {K:Hp->Prop},
  (∀u2,Ext D u1 u2->HH u2 (λb=>P b/\¬G b\/G' b/\b<u1.size) {L with ts:=L.ts.set t {x with h:=s}} {H with ths:=H.ths.set t {g with hands:=bs}}->K u2) →
  St1 (Addr.add ⟨b,o+3*t,none⟩ 1) (.slice s.a s.len s.cap) u1 K:=by
 have hl:=h.trowL;have htl:=HV h.s.ts;have hlt:=(gSi.1 hg).1;obtain⟨G,D,hG,hD,hd,hB,hr,_,hput⟩:=h.stepN hx hg N hN oN oN2;have hr':∀u1,Ext G u u1->RowR L.trow 3 (trV L.ts H.ths) u1 D:=λu1 e=>(RowR.loc _ _ _).keep hr e λb _ hb hx=>hd b hx hb;refine⟨G,D,hG,hD,hd,hB,λu1 e=>RowR.slR (hr' u1 e),λu1 s bs G' e hG' hBs b o ha K hK=>?_⟩;have ho:o=0:=by
  rcases hr.2 with⟨h0,_⟩|⟨b',_,_,ha',_⟩
  ·omega
  ·rw[ha]at ha';cases ha';rfl
 subst ho;have hdis:∀b,G' b->¬D b:=λb hb hx=>by
  rcases hG' b hb with h1|h1
  ·exact hd b h1 hx
  ·exact hN b (hP b (hD b hx)) (hD b hx) h1
 refine(hr' u1 e).st (j:=3*t+1) (by omega) (λb' hb'=>by rw[ha]at hb';cases hb';rw[add_lit];congr 1;omega) λu2 e2 hr2=>?_;have hB2:=(BtR.loc _ _).keep ((BtR.loc _ _).cut hBs) e2 λb _ hb hx=>hdis b hb.1 hx;obtain⟨eF,h4⟩:=hput u2 s bs (Cut G' u1) D ((e.sub λb hb=>.inl hb).trans (e2.sub λb hb=>.inr hb)) (λb hb=>(hG' b hb.1).imp .inl id) (λb hb=>.inl (.inr hb)) (λb hb=>hdis b hb.1) hB2 hr2;refine hK u2 e2 (h4.mono (λb _ hb=>?_) (λb (hb:P b/\¬G b\/G' b/\b<u1.size)=>?_) λ(hb:P _/\¬G _\/G' _/\_<u1.size)=>?_)
 ·rcases hb with hb|hb|hb
  ·exact .inl ⟨hb.1,λhx=>hb.2.2 (.inl hx)⟩
  ·exact .inr hb
  ·exact .inl ⟨hD b hb,λhx=>hd b hx hb⟩
 ·rcases hb with hb|hb
  ·exact h.o b hb.1
  ·exact(hG' b hb.1).elim (λhx=>h.o b (hG b hx)) (oN b)
 ·rcases hb with hb|hb
  ·exact h.o2 hb.1
  ·exact(hG' _ hb.1).elim (λhx=>h.o2 (hG _ hx)) oN2
theorem BtR.uncons {s:Sl}{G:Rg}{xs:List Int}{r:List Bt}(h:BtR s ((k,xs)::r) u G):∃(so:Sl) (ps:List (Nat×Sl)) (D:Rg),RowO s 2 (btsV ((k,so)::ps)) u (λb=>G b/\¬D b)/\SlR so 1 (WB xs) u (λb=>D b/\InB so b)/\so.len<=so.cap/\BtO ps r u (λb=>D b/\¬InB so b)/\(∀b,D b->G b)/\Djp ps/\(∀x∈r,x.2≠[])/\xs≠[]:=by
 obtain⟨ps,D,hrow,hB,hD,hj,hne⟩:=h;cases ps with
 | nil=>have:=hB.1;simp at this
 | cons p ps=>
  obtain⟨k',so⟩:=p;obtain⟨e1,hs,hc⟩:=hB.2 0 (k',so) (k,xs) rfl rfl;simp only at e1 hs hc;subst e1;have hj':=zAY.1 hj;refine⟨so,ps,D,hrow,hs.inB,hc,⟨by have:=hB.1;simpa using this,λi p x hp hx=>?_⟩,hD,hj'.2,λx hx=>hne x (zAS _ hx),hne _ zBA⟩;obtain⟨a1,a2,a3⟩:=hB.2 (i+1) p x (by simpa using hp) (by simpa using hx);refine⟨a1,(SlR.loc _ _ _).mono a2.inB λb _ hb=>⟨hb.1,?_⟩,a3⟩;rintro⟨a,h1,h2⟩;obtain⟨a',h3,h4⟩:=hb.2;exact hj'.1 p (zD hp) a a' h1 h3 (h2.trans h4.symm)
theorem BtR.drop1 {s:Sl}{G:Rg}{b:Bt}{r:List Bt}(h:BtR s (b::r) u G):BtR ⟨if s.cap=1 then s.a else s.a.map (·.add (1*2)),s.len-1,s.cap-1⟩ r u G:=by
 have hl:=h.len;obtain⟨k,xs⟩:=b;obtain⟨so,ps,D,hrow,hs,hc,hB,hD,hj,hne,hx⟩:=h.uncons;exact⟨ps,D,hrow.from (lo:=1) (by simp at hl;omega),(BtO.loc _ _).mono hB λb _ hb=>hb.1,hD,hj,hne⟩
theorem Wn4 {s so:Sl}{ps:List (Nat×Sl)}{G:Rg}(h:SlR s 2 (btsV ((k,so)::ps)) u G){K:Addr->Prop}(hK:∀a,cell u (Addr.add a 0)=some (.int .i64 (k:Int))->cell u (Addr.add a 1)=some (.slice so.a so.len so.cap)->K a):Ix s.a s.len 0 2 K:=by
 obtain⟨b,o,ha,hc⟩:=h.cell (j:=0) (v:=.int .i64 (k:Int)) rfl;obtain⟨b',o',ha',hc'⟩:=h.cell (j:=1) (v:=.slice so.a so.len so.cap) rfl;have hl:=h.1;rw[KD]at hl;simp only[zV]at hl;rw[ha]at ha';cases ha';rw[ha];refine ix (by omega) (by omega) ?_;rw[add_lit];exact hK _ (by rw[add_lit];exact hc) (by rw[add_lit];exact hc')
theorem BtR.app {s s2:Sl}{G Q:Rg}{bs bs2:List Bt}{e:Nat}(h:BtR s bs u G)(h2:BtR s2 bs2 u Q)(hd:∀b,G b->¬Q b)(hl:bs.length+bs2.length<=1000){K:Sl->Hp->Prop}
 (hK:∀s' u',Ext G u u'->BtR s' (bs++bs2) u' (λb=>G b\/Q b\/u.size<=b)->K s' u'):App s 2 32 e [.int .i64 0,.slice none 0 0] s2 u K:=by
 have l1:=h.len;have l2:=h2.len;obtain⟨ps,D,hrow,hB,hD,hj,hne⟩:=h;obtain⟨ps2,D2,hrow2,hB2,hD2,hj2,hne2⟩:=h2;by_cases h0:s2.len=0
 ·have hb0:bs2=[]:=zFZ (by omega);subst hb0;refine hrow.app0 h0 (by
   have:s.len*32<=1000*32:=zAJ (by simp at hl;omega) (by omega);omega) (by simp at hl;omega) λhr=>hK _ u (Ext.refl _ _) ?_
  rw[zAC];exact⟨ps,D,(RowO.loc _ _ _).mono hr λb _ hb=>⟨.inl hb.1,hb.2⟩,hB,λb hb=>.inl (hD b hb),hj,hne⟩
 ·have e1:(s.len+s2.len)*32<=1000*32:=zAJ (by omega) (by omega);refine((RowO.loc _ _ _).cut hrow).app (ys:=btsV ps2) rfl (by rw[KD];have:=hB2.1;omega) hrow2.slR.rd Hb (by omega) (by omega) (by omega) λs' u' _ e' hr=>hK s' u' (e'.sub λb hb=>hb.1.1) ?_;have hz:=e'.1;have hp1:=hB.1;refine⟨ps++ps2,λb=>D b/\b<u.size\/D2 b/\b<u.size,?_,⟨by simp[hB.1,hB2.1],λi p x hp hx=>?_⟩,λb hb=>?_,zBO.2 ⟨hj,hj2,λp hp q hq a a' ha1 ha2 e3=>?_⟩,λx hx=>(zS.1 hx).elim (hne x) (hne2 x)⟩
  ·rw[UV];refine(RowO.loc _ _ _).mono hr λb _ hb=>?_;rcases hb with hb|hb
   ·exact⟨.inl hb.1.1,λhx=>hx.elim (λhx=>hb.1.2 hx.1) λhx=>hd b hb.1.1 (hD2 b hx.1)⟩
   ·exact⟨.inr (.inr hb),λhx=>by rcases hx with hx|hx<;>omega⟩
  ·rcases zAH i ps.length with hi|hi
   ·rw[zf hi]at hp;rw[zf (by omega)]at hx;obtain⟨a1,a2,a3⟩:=hB.2 i p x hp hx;exact⟨a1,(SlR.loc _ _ _).mono ((SlR.loc _ _ _).keep ((SlR.loc _ _ _).cut a2) e' λb _ hb hx=>hx.1.2 hb.1) λb _ hb=>.inl hb,a3⟩
   ·rw[zn hi]at hp;rw[zn (by omega),←hp1]at hx;obtain⟨a1,a2,a3⟩:=hB2.2 _ p x hp hx;exact⟨a1,(SlR.loc _ _ _).mono ((SlR.loc _ _ _).keep ((SlR.loc _ _ _).cut a2) e' λb _ hb hx=>hd b hx.1.1 (hD2 b hb.1)) λb _ hb=>.inr hb,a3⟩
  ·rcases hb with hb|hb
   ·exact .inl (hD b hb.1)
   ·exact .inr (.inl (hD2 b hb.1))
  ·obtain⟨i,hi⟩:=zM hp;obtain⟨j,hj⟩:=zM hq;have hil:=(gSi.1 hi).1;have hjl:=(gSi.1 hj).1;have hy:bs[i]?=some (bs[i]'(by omega)):=gGe _;have hy2:bs2[j]?=some (bs2[j]'(by have:=hB2.1;omega)):=gGe _;have b1:=(hB.2 i p _ hi hy).2.1.blk (by simpa[WB]using hne _ (zD hy)) ⟨a,ha1,rfl⟩;have b2:=(hB2.2 j q _ hj hy2).2.1.blk (by simpa[WB]using hne2 _ (zD hy2)) ⟨a',ha2,rfl⟩;rw[e3]at b1;exact hd _ (hD _ b1.1) (hD2 _ b2.1)
theorem HK.addB (K:HK F U B u P L H){B':Rg}(h1:∀b,B' b->U.size<=b/\b<u.size/\¬P b):HK F U (λb=>B b\/B' b) u P L H:=
 ⟨K.h,K.e,λb hb=>⟨(K.p b hb).1,λhx=>hx.elim (K.p b hb).2.1 λhy=>(h1 b hy).2.2 hb,(K.p b hb).2.2⟩,λb hb=>hb.elim (K.b b) λhy=>⟨(h1 b hy).1,(h1 b hy).2.1⟩,K.o⟩
theorem Zv (hg:H.ths[t]?=some g)(f:Th->Th):H.setT t f = {H with ths:=H.ths.set t (f g)}:=by
 unfold Hw.setT;rw[KP hg]
theorem Ga (hg:H.ths[t]?=some g):H.thr t=g:=by unfold Hw.thr;rw[zL,hg];rfl
theorem V9 (hc:H.tb[k]?=some c):H.cls k=c:=by unfold Hw.cls;rw[zL,hc];rfl
theorem Wjj (hl:g.ls[k]?=some l):g.li k=l:=by unfold Th.li;rw[zL,hl];rfl
theorem Wht (ha:H.ars[H.own t]?=some A):H.arn t=A:=by unfold Hw.arn;rw[zL,ha];rfl
theorem own_lt (h:HS L H)(t:Nat):H.own t<H.ars.length:=zDE _ (by have:=h.a1;omega)
theorem HH.lsL (h:HH u P L H)(hx:L.ts[t]?=some x)(hg:H.ths[t]?=some g):g.ls.length=H.tb.length:=by
 obtain⟨G,_,hC,_⟩:=h.stepC hx hg;exact hC.len
theorem Wcr (ha:H.ars[k]?=some A):H.setA k A=H:=by unfold Hw.setA;rw[Qh ha]
theorem Wnd (l:List Nat):ints l=WB (l.map λ(x:Nat)=>(x:Int)):=by simp[ints,WB]
theorem Way (f:Cls->Li->List Int×Li)(tb:List Cls)(ls:List Li):(Kb f tb ls).length<=tb.length:=by
 unfold Kb;exact zN (List.length_filterMap_le _ _) (by simp)
theorem HH.tb40 (h:HH u P L H):H.tb.length<=40:=by
 obtain⟨x,g,hx,hg⟩:=h.th (t:=0) h.s.t1;obtain⟨G,_,hC,_⟩:=h.stepC hx hg;exact hC.tb1
theorem ix0 {s:Sl}{b o:Nat}(ha:s.a=some ⟨b,o,none⟩)(hl:0<s.len){K:Addr->Prop}(hK:K ⟨b,o+0,none⟩):Ix s.a s.len 0 1 K:=by
 rw[ha];exact ix (zDS _) (by omega) (by rw[add_lit];exact hK)
theorem Wnk {s:Sl}{ps:List (Nat×Sl)}{G:Rg}(h:SlR s 2 (btsV ps) U G)(hl:s.len<=1000000){R:Sl->Hp->Prop}(hR:∀s' σ',s'.len=s.len->Ext0 U σ'->RowR s' 2 (btsV ps) σ' (λb=>U.size<=b)->R s' σ'):Wp.c s U R:=by
 refine Wp.o ?_;unfold Wp.v;exact GT h (by omega) rfl Hb (by omega) hl hR
def Wf3 (H:Hw)(t:Nat):Ph->Prop
 | .take k=>k<H.tb.length/\∀y l,Ka (H.cls k) ((H.thr t).li k)=(some y,l)->I63 y
 | .transfer k _=>k<H.tb.length/\(Z5 (H.arn t) (k:Int)=0->YC (H.arn t) (k:Int)≠[])
 | .central _ _=>True
 | .grow _ _=>True
 | .fill=>∃k x xs r,(H.thr t).hands=(k,x::xs)::r/\k<H.tb.length/\I63 x/\((H.thr t).li k).os.length+xs.length<=256
 | .large m=>Z4 (H.arn t) H.sp (m:Int) 1<=1000000
 | .find x=>I63 x/\(mget H.live x=none->∀A∈H.ars,RunsOk A)/\∀b,mget H.live x=some b->0<=x
 | .put k _=>k<H.tb.length/\(H.thr t).hands≠[]
 | .back=>∃k xs r,(H.thr t).hands=(k,xs)::r/\(∀x∈xs,I63 x/\0<=Yk H.ars x)/\xs.length<=1000000
 | .give _ a=>0<=a/\a.toNat<H.ars.length/\∀A∈H.ars,∀r∈A.runs,r.1<=1000000
 | .drain=>True
def Wod (U:Hp)(F:Rg)(L:LayH)(o:OutH)(R:Value->Int->Int->Hp->Prop):Prop:=∀σ' ts',Ext F U σ'->HH σ' (Grow F U) {L with ts:=ts'} o.1->R (phV o.2.1) o.2.2.1 o.2.2.2 σ'
set_option maxRecDepth 8000 in
theorem Wj4 (hso:UW)(h:HH U F L H)(ht:t<H.ths.length)(p:Ph)(hp:Wf3 H t p)(hlen:∀g,H.ths[t]?=some g->g.hands.length<=900){R:Value->Int->Int->Hp->Prop}(hR:Wod U F L (Wt H t p) R) :
 Zn.c (some ⟨L.p,0,none⟩) (t:Int) (phV (some p)) U R:=by
 refine Zn.o ?_;unfold Zn.v;have hlen':∀g,H.ths[t]?=some g->g.hands.length<=1000:=λg hg=>by have:=hlen g hg;omega
 refine nw (cs:=[.int .i64 0,.int .i64 0]) λv hz e hb=>?_;have K1:=(HK.start h).box e hz;obtain⟨x,g,hx,hg⟩:=h.th ht;have hlen:=hlen g hg;have htg:=Ga hg;have hol:=own_lt h.s t;obtain⟨A,hA⟩:∃A,H.ars[H.own t]?=some A:=⟨_,gGe hol⟩;have hAe:=Wht hA;obtain⟨Y,hY,_,_⟩:=h.ar hA;refine nilP (K1.h.hd.rS rfl ?_);refine WmU K1.h.trowS K1.h.s.ts hx hg (d:=0) (by omega) rfl λtb0 to0 ha _=>?_;have hS1:AtH (λu=>u=v) L H.tb:=λm hm=>by cases hm;exact⟨_,L.ts,H,K1.h,rfl⟩
 refine⟨λu=>u=v,rfl,nilP (hS1.arow (Wgy K1.h t ⟨rfl,K1.h.rA hY ⟨rfl,?_⟩⟩))⟩;refine Wgq (λw=>∃P ts',HK F U (λb=>False\/b=U.size) w P {L with ts:=ts'} (Wt H t p).1/\Blk w U.size [.int .i64 0,.int .i64 0]/\(Wt H t p).2=(none,0,0)) (λw ⟨P,ts',K,hbw,hs⟩=>?_) λJ hJ=>?_
 ·refine ret2 (n:=U.size) K (.inr rfl) hbw λw' K'=>?_;have:=hR w' ts' K'.e (K'.fin h);rw[hs]at this;exact this
 cases p with
 | take k=>
  obtain⟨hk,hy9⟩:k<H.tb.length/\∀y l,Ka (H.cls k) ((H.thr t).li k)=(some y,l)->I63 y:=hp;obtain⟨c,hc⟩:∃c,H.tb[k]?=some c:=⟨_,gGe hk⟩;have hll:=h.lsL hx hg;obtain⟨l,hl⟩:∃l,g.ls[k]?=some l:=⟨_,gGe (by rw[hll];exact hk)⟩;have hce:=V9 hc;have hle:=Wjj hl;rw[hce,htg,hle]at hy9;refine ye1 (nw (cs:=[.int .i64 0]) λv5 hz5 e5 hb5=>?_);have K5:=K1.box e5 hz5;refine hb5.s0 (by simp) λv6 o6 hb6=>?_;have K6:=K5.own o6 (.inr rfl);have hbv6:=Ws o6 (e5.blk hb id) (by omega);refine⟨λu=>u=v6,rfl,nilP ⟨some ⟨x.c.p,0,none⟩,λu hu=>by cases hu;exact K6.h.tc hx hg ha (by omega) rfl,⟨(k:Int),λu hu=>by cases hu;rw[add_lit,hb6.cell];rfl,?_⟩⟩⟩;refine Wjz K6.h hx hg hc hl λv7 ts7 e7 h7=>?_;have K7:=K6.to e7 h7 λb _ hb=>hb;have hb7:=K6.keepB e7 hb6 (.inr rfl);have hbv7:=K6.keepB e7 hbv6 (.inl (.inr rfl));cases htk:Ka c l with
  | mk o l'=>
  rw[htk]at h7 K7;cases o with
  | some y=>
   have hs:Wt H t (.take k)=(VC (H.setLs t g (g.ls.set k l')) y (c.size:Int) (k:Int),none,y,0):=by
    simp only[Wt,hce,htg,hle,htk,Zv hg];rfl
   rw[hs]at hR;have hS2:AtH (λu=>(∃P ts H',HH u P {L with ts:=ts} H'/\H'.tb=H.tb)/\Blk u v.size [.int .i64 (k:Int)]) L H.tb:=λm hm=>hm.1;refine ifT rfl ⟨λu=>(∃P ts H',HH u P {L with ts:=ts} H'/\H'.tb=H.tb)/\Blk u v.size [.int .i64 (k:Int)],⟨⟨_,_,_,K7.h,rfl⟩,hb7⟩,nilP (hS2.tab ⟨(k:Int),λu hu=>by rw[add_lit,hu.2.cell];rfl,?_⟩)⟩;refine AtH.rC (L:={L with ts:=ts7}) (H:=H.setLs t g (g.ls.set k l')) hS2 K7.h hc ⟨(k:Int),λu hu=>by rw[add_lit,hu.2.cell];rfl,?_⟩;refine WbD K7.h y (c.size:Int) (k:Int) (hy9 y l' htk) λv8 e8 h8=>?_;have K8:=K7.to e8 h8 λb _ hb=>.inl hb;refine⟨⟨⟨_,_,_,h8,rfl⟩,K7.keepB e8 hb7 (.inr rfl)⟩,?_⟩;exact ret2 (n:=U.size) K8 (.inl (.inr rfl)) (K7.keepB e8 hbv7 (.inl (.inr rfl))) λw' K'=>hR w' ts7 K'.e (K'.fin h)
  | none=>
   have hs:Wt H t (.take k)=(H.setLs t g (g.ls.set k l'),some (.transfer k (Waf c l')),0,0):=by
    simp only[Wt,hce,htg,hle,htk,Zv hg];rfl
   rw[hs]at hR;have htlt:=(gSi.1 hg).1;have hklt:=(gSi.1 hl).1;have hg7:(H.setLs t g (g.ls.set k l')).ths[t]?=some {g with ls:=g.ls.set k l'}:=by simp[Hw.setLs,htlt]
   obtain⟨x7,g7,hx7,_⟩:=K7.h.th (t:=t) (by simp[Hw.setLs,htlt]);have hl7:({g with ls:=g.ls.set k l'}:Th).ls[k]?=some l':=by simp[hklt]
   refine ifF rfl ⟨λu=>u=v7,rfl,nilP ⟨some ⟨x7.c.p,0,none⟩,λu hu=>by cases hu;exact K7.h.tc hx7 hg7 ha (by omega) rfl,⟨(k:Int),λu hu=>by cases hu;rw[add_lit,hb7.cell];rfl,?_⟩⟩⟩;refine Wi4 K7.h hx7 hg7 hc hl7 λv8 ts8 e8 h8=>?_;have K8:=K7.to e8 h8 λb _ hb=>hb;refine(K7.keepB e8 hb7 (.inr rfl)).rI rfl ?_;exact ret2 (n:=U.size) K8 (.inl (.inr rfl)) (K7.keepB e8 hbv7 (.inl (.inr rfl))) λw' K'=>hR w' ts8 K'.e (K'.fin h)
 | transfer k w=>
  obtain⟨hk,hne0⟩:k<H.tb.length/\(Z5 (H.arn t) (k:Int)=0->YC (H.arn t) (k:Int)≠[]):=hp;rw[hAe]at hne0;obtain⟨c,hc⟩:∃c,H.tb[k]?=some c:=⟨_,gGe hk⟩;have hce:=V9 hc;refine nx1 (by decide) (ye2 (nw (cs:=[.int .i64 0,.int .i64 0]) λv5 hz5 e5 hb5=>?_));have K5:=K1.box e5 hz5;refine hb5.s1 (by simp) λv5b o5 b5=>b5.s1 (by simp) λv6 o6 b6=>?_;have K6:=(K5.own o5 (.inr rfl)).own o6 (.inr rfl);have hne:U.size≠v.size:=by omega
  have hbv6:=Ws o6 (Ws o5 (e5.blk hb id) hne) hne;refine Wgq (λu=>(∃P',HK F U (λb=>(False\/b=U.size)\/b=v.size) u P' L H)/\Blk u U.size [.int .i64 0,.int .i64 0]/\Blk u v.size [.int .i64 (k:Int),.int .i64 (w:Int)]/\Wt H t (.transfer k w)=(H,some (.central k w),0,0)) (λu ⟨⟨P',K⟩,hbw,hbx,hs⟩=>?_) λJ1 hJ1=>?_
  ·rw[hs]at hR;exact hbx.rI rfl (hbx.rI rfl (ret2 (n:=U.size) K (.inl (.inr rfl)) hbw λw' K'=>hR w' L.ts K'.e (K'.fin h)))
  ·refine b6.rI rfl (nilP (K6.h.hd.rS rfl (b6.rI rfl (Gf K6.h.tabS hc (d:=2) (by omega) ?_))));simp only[zA (show ¬(2=0) by omega),zA (show ¬(2=1) by omega)];refine iff_ (λheq=>b6.rI rfl ?_) λhne'=>hJ1 v6 ⟨⟨_,K6⟩,hbv6,b6,?_⟩
   ·have heq':w=c.batch:=by simp only[zY]at heq;omega
    refine Gu K6.h hA hY (k:Int) λs v7 Q e7 hQ hs7 hcap h7=>?_;have K7:=K6.to e7 h7 λb _ hb=>hb.1;have b7:=K6.keepB e7 b6 (.inr rfl);have hbv7:=K6.keepB e7 hbv6 (.inl (.inr rfl));refine iff_ (λh0=>b7.rI rfl ?_) λhn0=>?_
    ·have h0':Z5 A (k:Int)=0:=by simpa using h0
     have hs:Wt H t (.transfer k w)=(QM (H.setA (H.own t) (ZB A (k:Int))) t k (YC A (k:Int)),some .fill,0,0):=by
      simp only[Wt,hce,hAe,heq',h0',zO]
     rw[hs]at hR;refine GG K7.h (t:=t) ht k hs7 hcap (hne0 h0') (λb _ hq hx=>hx.1.2 hq) (K6.h.o.sub hQ) (λhq=>K6.h.o2 (hQ _ hq)) hlen' λv8 ts8 e8 h8=>?_;have K8:=K7.toX e8 h8 λb hb hq=>by
      rcases hq with hq|hq
      ·exact hq.imp id .inl
      ·exact .inr (.inr ⟨(K6.p b (hQ b hq)).1,(K6.p b (hQ b hq)).2.1⟩)
     exact ret2 (n:=U.size) K8 (.inl (.inr rfl)) (K7.keepB e8 hbv7 (.inl (.inr rfl))) λw' K'=>hR w' ts8 K'.e (K'.fin h)
    ·have hn0':Z5 A (k:Int)≠0:=by simpa using hn0
     have hsame:ZB A (k:Int)=A:=by unfold ZB;rw[zA hn0']
     rw[hsame,Wcr hA]at K7;refine hJ1 v7 ⟨⟨_,K7⟩,hbv7,b7,?_⟩;simp only[Wt,hce,hAe,heq',zA hn0',zO]
   ·have hne2:w≠c.batch:=λe=>by rw[e]at hne';simp at hne'
    simp only[Wt,hce,zA hne2]
 | central k w=>
  refine nx1 (by decide) (nx2 (by decide) (ye2 (nw (cs:=[.int .i64 0,.int .i64 0]) λv5 hz5 e5 hb5=>?_)));have K5:=K1.box e5 hz5;refine hb5.s1 (by simp) λv5b o5 b5=>b5.s1 (by simp) λv6 o6 b6=>?_;have K6:=(K5.own o5 (.inr rfl)).own o6 (.inr rfl);have hne:U.size≠v.size:=by omega
  have hbv6:=Ws o6 (Ws o5 (e5.blk hb id) hne) hne;refine b6.rI rfl (b6.rI rfl (Wam K6.h hA hY (k:Int) (w:Int) λs v7 Q e7 hQ hs7 h7=>?_));have K7:=K6.to e7 h7 λb _ hb=>hb.1;have b7:=K6.keepB e7 b6 (.inr rfl);have hbv7:=K6.keepB e7 hbv6 (.inl (.inr rfl));have hsl:s.len=(Yl A (k:Int) (w:Int)).length:=by have:=hs7.1;simp[ints]at this;omega
  by_cases hemp:Yl A (k:Int) (w:Int)=[]
  ·have hs:Wt H t (.central k w)=(H.setA (H.own t) (YE A (k:Int) (w:Int)),some (.grow k w),0,0):=by
    simp only[Wt,hAe,zB hemp]
   rw[hs]at hR;refine ifDF (by rw[hsl,hemp];simp) (b7.rI rfl (b7.rI rfl ?_));exact ret2 (n:=U.size) K7 (.inl (.inr rfl)) hbv7 λw' K'=>hR w' L.ts K'.e (K'.fin h)
  ·have hs:Wt H t (.central k w)=(QM (H.setA (H.own t) (YE A (k:Int) (w:Int))) t k ((Yl A (k:Int) (w:Int)).map λ(x:Nat)=>(x:Int)),some .fill,0,0):=by
    simp only[Wt,hAe,zA hemp]
   rw[hs]at hR;have hpos:=zBZ.2 hemp;refine ifDT (by rw[hsl];omega) (b7.rI rfl ?_);have hs7':=RowR.slR hs7;rw[Wnd]at hs7';have hz6:=K6.e.1;refine GG K7.h (t:=t) ht k hs7' (RowR.capO hs7) (by simpa using hemp) (λb _ hq hx=>hx.1.2 hq) (K6.o.1.sub λb hb=>by have:=hQ b hb;omega) (λhq=>K6.o.2 (by have:=hQ _ hq;omega)) hlen' λv8 ts8 e8 h8=>?_;have K8:=K7.toX e8 h8 λb hb hq=>by
    rcases hq with hq|hq
    ·exact hq.imp id .inl
    ·have:=hQ b hq;exact .inr (.inr ⟨.inr (by omega),λhB=>by have:=(K6.b b hB).2;omega⟩)
   exact ret2 (n:=U.size) K8 (.inl (.inr rfl)) (K7.keepB e8 hbv7 (.inl (.inr rfl))) λw' K'=>hR w' ts8 K'.e (K'.fin h)
 | grow k w=>
  refine nx1 (by decide) (nx2 (by decide) (nx2 (by decide) (ye2 (nw (cs:=[.int .i64 0,.int .i64 0]) λv5 hz5 e5 hb5=>?_))));have K5:=K1.box e5 hz5;refine hb5.s1 (by simp) λv5b o5 b5=>b5.s1 (by simp) λv6 o6 b6=>?_;have K6:=(K5.own o5 (.inr rfl)).own o6 (.inr rfl);have hne:U.size≠v.size:=by omega
  have hbv6:=Ws o6 (Ws o5 (e5.blk hb id) hne) hne;refine b6.rI rfl (WiL K6.h hA hY (k:Int) λv7 e7 h7=>?_);have K7:=K6.to e7 h7 λb _ hb=>hb;have b7:=K6.keepB e7 b6 (.inr rfl);have hbv7:=K6.keepB e7 hbv6 (.inl (.inr rfl));refine iff_ (λhn0=>?_) λh0=>?_
  ·have hn0':KH A H.sp (k:Int)≠0:=by simpa using hn0
   have hs:Wt H t (.grow k w)=({H.setA (H.own t) (growS A H.sp (k:Int)).1 with sp:=(growS A H.sp (k:Int)).2},none,0,KH A H.sp (k:Int)):=by
    simp only[Wt,hAe,zA hn0']
   rw[hs]at hR;exact ret2 (n:=U.size) K7 (.inl (.inr rfl)) hbv7 λw' K'=>hR w' L.ts K'.e (K'.fin h)
  ·have h0':KH A H.sp (k:Int)=0:=by simpa using h0
   have hs:Wt H t (.grow k w)=({H.setA (H.own t) (growS A H.sp (k:Int)).1 with sp:=(growS A H.sp (k:Int)).2},some (.central k w),0,0):=by
    simp only[Wt,hAe,zB h0']
   rw[hs]at hR;refine b7.rI rfl (b7.rI rfl ?_);exact ret2 (n:=U.size) K7 (.inl (.inr rfl)) hbv7 λw' K'=>hR w' L.ts K'.e (K'.fin h)
 | fill=>
  obtain⟨k,y,ys,r,hh,hk,hy9,hfit⟩:∃k x xs r,(H.thr t).hands=(k,x::xs)::r/\k<H.tb.length/\I63 x/\((H.thr t).li k).os.length+xs.length<=256:=hp;rw[htg]at hh hfit;obtain⟨c,hc⟩:∃c,H.tb[k]?=some c:=⟨_,gGe hk⟩;have hll:=h.lsL hx hg;obtain⟨l,hl⟩:∃l,g.ls[k]?=some l:=⟨_,gGe (by rw[hll];exact hk)⟩;have hce:=V9 hc;have hle:=Wjj hl;rw[hle]at hfit;refine nx1 (by decide) (nx2 (by decide) (nx2 (by decide) (nx2 (by decide) (ye0 (nw (cs:=[]) λv5 hz5 e5 hb5=>?_)))));have K5:=K1.box e5 hz5;have hbv5:=e5.blk hb id;obtain⟨G,D,hG,hD,hd,hBt,hr,hput⟩:=K5.h.stN (λb hb=>(K5.p b hb).2.2) hx hg (λ_=>False) (λb _ _ hq=>hq) (K5.o.1.sub λb hb=>hb.elim) (λhq=>hq);rw[hh]at hBt;obtain⟨so,ps,Dn,hrow,hso1,hcap,hBr,hDn,hj,hne,hxne⟩:=hBt.uncons;have hz5':=K5.e.1;have hsol:so.len=ys.length+1:=by have:=hso1.1;simp[WB]at this;omega
  refine nilP (ldS (K5.h.tc hx hg ha (d:=1) (by omega) rfl) (Wn4 (RowO.slR hrow) λa ha0 ha1=>ldI ha0 (ldS ha1 ?_)));refine nw (cs:=[.int .i64 0,.slice none 0 0]) λv43 hz43 e43 hb43=>hb43.s1 (by simp) λv44 o44 b44=>b44.s1 (by simp) λv45 o45 b45=>?_;have e45:Ext0 v5 v45:=(e43.only o44 (.inr (zC _))).only o45 (.inr (zC _));have hz45:v5.size<v45.size:=b45.lt;refine nilP (hput v45 ⟨none,0,0⟩ [] (λ_=>False) (Ext0.to e45) (λb hb=>hb.elim) (BtR.nil _ _ _) ha λv46 e46 h46=>?_);have hz46:=e46.1;have e546:Ext _ v5 v46:=(Ext0.to e45).trans (e46.sub hD);have K46:=K5.to e546 h46 λb _ hq=>by
   rcases hq with hq|hq
   ·exact .inl hq.1
   ·exact hq.1.elim
  have hbv46:=K5.keepB e546 hbv5 (.inl (.inr rfl));have b46:Blk v46 v5.size _:=e46.blk b45 λhx=>by have:=(K5.p _ (hD _ hx)).2.2;omega
  have K46b:=K46.addB (B':=λb=>b=v5.size) λb hb=>⟨by omega,by omega,λhx=>by
   subst hb;rcases hx.1 with h1|h1
   ·have:=(K5.p _ h1.1).2.2;omega
   ·exact h1.1⟩
  have hso46:=(SlR.loc _ _ _).keep ((SlR.loc _ _ _).keep0 ((SlR.loc _ _ _).cut hso1) e45) e46 λb _ hb hx=>hd b (hDn b hb.1.1) hx;have hXn:∀b,(Dn b/\InB so b)/\b<v5.size->¬Cut (λb=>(Cut F U b/\¬G b)\/False/\b<v45.size) v46 b:=λb hb hx=>by
   rcases hx.1 with h1|h1
   ·exact h1.2 (hDn b hb.1.1)
   ·exact h1.1
  have hg46:({H with ths:=H.ths.set t {g with hands:=[]}}:Hw).ths[t]?=some {g with hands:=[]}:=by simp[ht]
  have hx46:(L.ts.set t {x with h:=⟨none,0,0⟩})[t]?=some {x with h:=⟨none,0,0⟩}:=zK (gSi.1 hx).1;refine nilP (ldP (K46b.h.tc hx46 hg46 ha (d:=0) (by omega) rfl) (b46.rI rfl (b46.rS (a:=so.a) (n:=so.len) (c:=so.cap) rfl (slc (lo:=1) (by show 1<=so.len;omega) hcap (zC _) ?_))));have hsub:=SlR.sub hso46 (lo:=1) (hi:=so.len) (mx:=so.cap) (by omega) (zC _) hcap;have hsx:((WB (y::ys)).drop (1*1)).take ((so.len-1)*1)=WB ys:=by
   rw[zAX (by simp[WB];omega)];rfl
  rw[hsx]at hsub;have hl46:({g with hands:=[]}:Th).ls[k]?=some l:=hl;refine Wkl K46b.h hx46 hg46 hc hl46 hsub hXn hfit λv47 ts47 e47 h47=>?_;have K47:=K46b.to e47 h47 λb _ hb=>hb;have hso47:=(SlR.loc _ _ _).keep hso46 e47 λb _ hb hx=>hXn b hb hx;have b47:=K46b.keepB e47 b46 (.inr rfl);have hbv47:=K46b.keepB e47 hbv46 (.inl (.inl (.inr rfl)));have hs:Wt H t .fill=(VC {H with ths:=H.ths.set t {g with ls:=g.ls.set k (addL ys.reverse l),hands:=[]}} y (c.size:Int) (k:Int),none,y,0):=by
   simp only[Wt,htg,hh,Zv hg,hle,hce]
  rw[hs]at hR;obtain⟨b0,o0,ha0',hc0⟩:=hso47.cell (j:=0) (v:=.int .i64 y) rfl;have hS4:AtH (λu=>((∃P ts H',HH u P {L with ts:=ts} H'/\H'.tb=H.tb)/\Blk u v5.size [.int .i64 (k:Int),.slice so.a so.len so.cap])/\cell u ⟨b0,o0+0,none⟩=some (.int .i64 y)) L H.tb:=λm hm=>hm.1.1;refine⟨λu=>((∃P ts H',HH u P {L with ts:=ts} H'/\H'.tb=H.tb)/\Blk u v5.size [.int .i64 (k:Int),.slice so.a so.len so.cap])/\cell u ⟨b0,o0+0,none⟩=some (.int .i64 y),⟨⟨⟨_,_,_,K47.h,rfl⟩,b47⟩,hc0⟩,⟨so,λu hu=>by rw[add_lit,hu.1.2.cell];rfl,?_⟩⟩;refine ix0 ha0' (by omega) ⟨y,λu hu=>hu.2,nilP (hS4.tab ⟨(k:Int),λu hu=>by rw[add_lit,hu.1.2.cell];rfl,?_⟩)⟩;refine AtH.rC (L:={L with ts:=ts47}) (H:=Hw.setLs {H with ths:=H.ths.set t {g with hands:=[]}} t {g with hands:=[]} (g.ls.set k (addL ys.reverse l))) hS4 K47.h hc ⟨(k:Int),λu hu=>by rw[add_lit,hu.1.2.cell];rfl,?_⟩;refine WbD K47.h y (c.size:Int) (k:Int) hy9 λv48 e48 h48=>?_;have K48:=K47.to e48 h48 λb _ hb=>.inl hb;have hz4747:=e47.1;have hso48:=(SlR.loc _ _ _).keep hso47 e48 λb _ hb hx=>by
   rcases hx.1 with h1|h1
   ·exact hXn b hb h1
   ·have:=hb.2;omega
  refine⟨⟨⟨⟨_,_,_,h48,rfl⟩,K47.keepB e48 b47 (.inr rfl)⟩,?_⟩,?_⟩
  ·obtain⟨b1,o1,ha1',hc1⟩:=hso48.cell (j:=0) (v:=.int .i64 y) rfl;rw[ha0']at ha1';cases ha1';exact hc1
  ·have K49:=K48;simp only[Hw.setLs,zBK]at K49;exact ret2 (n:=U.size) K49 (.inl (.inl (.inr rfl))) (K47.keepB e48 hbv47 (.inl (.inl (.inr rfl)))) λw' K'=>hR w' ts47 K'.e (K'.fin h)
 | large m=>
  have hp:Z4 (H.arn t) H.sp (m:Int) 1<=1000000:=hp;rw[hAe]at hp;refine nx1 (by decide) (nx2 (by decide) (nx2 (by decide) (nx2 (by decide) (nx0 (by decide) (ye1 (nw (cs:=[.int .i64 0]) λv5 hz5 e5 hb5=>?_))))));have K5:=K1.box e5 hz5;refine hb5.s0 (by simp) λv6 o6 b6=>?_;have K6:=K5.own o6 (.inr rfl);have hbv6:=Ws o6 (e5.blk hb id) (by omega);refine b6.rI rfl (Wa2 K6.h hA hY (m:Int) 1 λv7 e7 h7=>?_);have K7:=K6.to e7 h7 λb _ hb=>hb;have b7:=K6.keepB e7 b6 (.inr rfl);have hbv7:=K6.keepB e7 hbv6 (.inl (.inr rfl));refine iff_ (λhn0=>?_) λh0=>?_
  ·have hn0':Qv A H.sp (m:Int) 1≠0:=by simpa using hn0
   have hs:Wt H t (.large m)=({H.setA (H.own t) (takeAS A H.sp (m:Int) 1).1 with sp:=(takeAS A H.sp (m:Int) 1).2},none,0,Qv A H.sp (m:Int) 1):=by
    simp only[Wt,hAe,zA hn0']
   rw[hs]at hR;exact ret2 (n:=U.size) K7 (.inl (.inr rfl)) hbv7 λw' K'=>hR w' L.ts K'.e (K'.fin h)
  ·have h0':Qv A H.sp (m:Int) 1=0:=by simpa using h0
   have hm:m<=64:=by
    unfold Qv at h0';split at h0'
    ·rename_i hpo;simp only[Kd,zF,zP]at hpo;omega
    ·omega
   have hs:Wt H t (.large m)=(VC {H.setA (H.own t) (takeAS A H.sp (m:Int) 1).1 with sp:=(takeAS A H.sp (m:Int) 1).2} ((Z4 A H.sp (m:Int) 1*256:Nat):Int) ((m*256:Nat):Int) (-1),none,((Z4 A H.sp (m:Int) 1*256:Nat):Int),0):=by
    simp only[Wt,hAe,zB h0']
   rw[hs]at hR;refine arN (m:=Z4 A H.sp (m:Int) 1*256) (by omega) (by omega) (b7.rI rfl (arN (m:=m*256) (by omega) (by omega) ?_));refine WbD K7.h _ _ _ (by omega) λv8 e8 h8=>?_;have K8:=K7.to e8 h8 λb _ hb=>.inl hb;exact ret2 (n:=U.size) K8 (.inl (.inr rfl)) (K7.keepB e8 hbv7 (.inl (.inr rfl))) λw' K'=>hR w' L.ts K'.e (K'.fin h)
 | find x=>
  obtain⟨hx9,hro,hlv⟩:I63 x/\(mget H.live x=none->∀A∈H.ars,RunsOk A)/\∀b,mget H.live x=some b->0<=x:=hp;refine nx1 (by decide) (nx2 (by decide) (nx2 (by decide) (nx2 (by decide) (nx0 (by decide) (nx1 (by decide) (ye1 (nw (cs:=[.int .i64 0]) λv5 hz5 e5 hb5=>?_)))))));have K5:=K1.box e5 hz5;refine hb5.s0 (by simp) λv6 o6 b6=>?_;have K6:=K5.own o6 (.inr rfl);have hbv6:=Ws o6 (e5.blk hb id) (by omega);refine b6.rI rfl (WkR K6.h ht x hx9 hro hlen' hlv λv7 ts7 e7 h7=>?_);have K7:=K6.to e7 h7 λb _ hb=>hb;have hbv7:=K6.keepB e7 hbv6 (.inl (.inr rfl));exact ret2 (n:=U.size) K7 (.inl (.inr rfl)) hbv7 λw' K'=>hR w' ts7 K'.e (K'.fin h)
 | put k y=>
  obtain⟨hk,hne0⟩:k<H.tb.length/\(H.thr t).hands≠[]:=hp;rw[htg]at hne0;obtain⟨c,hc⟩:∃c,H.tb[k]?=some c:=⟨_,gGe hk⟩;have hll:=h.lsL hx hg;obtain⟨l,hl⟩:∃l,g.ls[k]?=some l:=⟨_,gGe (by rw[hll];exact hk)⟩;have hce:=V9 hc;have hle:=Wjj hl;refine nx1 (by decide) (nx2 (by decide) (nx2 (by decide) (nx2 (by decide) (nx0 (by decide) (nx1 (by decide) (nx1 (by decide) (ye2 (nw (cs:=[.int .i64 0,.int .i64 0]) λv5 hz5 e5 hb5=>?_))))))));have K5:=K1.box e5 hz5;refine hb5.s1 (by simp) λv5b o5 b5=>b5.s1 (by simp) λv6 o6 b6=>?_;have K6:=(K5.own o5 (.inr rfl)).own o6 (.inr rfl);have hne:U.size≠v.size:=by omega
  have hbv6:=Ws o6 (Ws o5 (e5.blk hb id) hne) hne;generalize hgg:(if(putL c y l).1=[]then({g with ls:=g.ls.set k (putL c y l).2}:Th)else{g with ls:=g.ls.set k (putL c y l).2,hands:=g.hands++[(k,(putL c y l).1)]})=g2
  have hg2n:g2.hands≠[]/\g2.hands.length<=901:=by
   rw[←hgg];split
   ·exact⟨hne0,by simp;omega⟩
   ·exact⟨by simp,by simp;omega⟩
  refine Wgq (λw=>∃P ts',HK F U (λb=>(False\/b=U.size)\/b=v.size) w P {L with ts:=ts'} {H with ths:=H.ths.set t g2}/\Blk w U.size [.int .i64 0,.int .i64 0]) (λw ⟨P,ts2,K,hbw⟩=>?_) λJ2 hJ2=>?_
  ·have hg3:({H with ths:=H.ths.set t g2}:Hw).ths[t]?=some g2:=by simp[ht]
   obtain⟨x2,_,hx2,_⟩:=K.h.th (t:=t) (by simpa using ht);obtain⟨G,D,hG,hD,hd,hBt,hr,hput⟩:=K.h.stN (λb hb=>(K.p b hb).2.2) hx2 hg3 (λ_=>False) (λb _ _ hq=>hq) (K.o.1.sub λb hb=>hb.elim) (λhq=>hq);have hbl:=hBt.len;have hbc:=hBt.cap;obtain⟨b0,r0,hbr⟩:∃b r,g2.hands=b::r:=by
    cases hh:g2.hands with
    | nil=>exact absurd hh hg2n.1
    | cons b r=>exact⟨b,r,rfl⟩
   have hdr:g2.hands.drop 1=r0:=by rw[hbr];rfl
   rw[hbr]at hBt;have hpos:1<=x2.h.len:=by rw[hbl,hbr];simp
   refine nilP (ldS (K.h.tc hx2 hg3 ha (d:=1) (by omega) rfl) ?_);refine slc (lo:=1) hpos hbc (zC _) ?_;refine nilP (hput w _ _ G (Ext.refl _ _) (λb hb=>.inl hb) hBt.drop1 ha λw1 e1 h1=>?_);have e1':=e1.sub hD;have K1b:=K.to e1' h1 λb _ hq=>by
    rcases hq with hq|hq
    ·exact .inl hq.1
    ·exact .inl (hG b hq.1)
   have hbw1:=K.keepB e1' hbw (.inl (.inr rfl));have K3:=K1b;simp only[zBK]at K3;generalize hg3':({g2 with hands:=r0}:Th)=g3 at K3;have hl3:g3.hands=r0/\g3.ls=g2.ls:=by rw[←hg3'];exact⟨rfl,rfl⟩
   have hr0:r0.length<=900:=by have:=hg2n.2;rw[hbr]at this;simp at this;omega
   have hg3e:({H with ths:=H.ths.set t g3}:Hw).ths[t]?=some g3:=by simp[ht]
   have hpe:putH H t k y=(if H.cf.budget<Q4 H.tb g3.ls then{H with ths:=H.ths.set t {g3 with ls:=Q8 KF H.tb g3.ls,hands:=g3.hands++Kb KF H.tb g3.ls}}else{H with ths:=H.ths.set t g3}):=by
    have e2:(if(putL c y l).1=[]then H.setT t λh=>h.setL k (putL c y l).2 else QM (H.setT t λh=>h.setL k (putL c y l).2) t k (putL c y l).1) = {H with ths:=H.ths.set t g2}:=by
     rw[←hgg];split
     ·rw[Zv hg];rfl
     ·rw[Zv hg];unfold QM Hw.setT;simp only;rw[KP (t:=g.setL k (putL c y l).2) (by simp[ht]),zBK];rfl
    have e3:({H with ths:=H.ths.set t g2}:Hw).setT t (λh=>{h with hands:=h.hands.drop 1}) = {H with ths:=H.ths.set t g3}:=by
     rw[Zv hg3];simp only[zBK,hdr,hg3']
    unfold putH;simp only[hce,htg,hle,e2,e3,Ga hg3e,Zv hg3e,zBK]
   have hx3:(ts2.set t {x2 with h:=⟨if x2.h.cap=1 then x2.h.a else x2.h.a.map (·.add (1*2)),x2.h.len-1,x2.h.cap-1⟩})[t]?=some {x2 with h:=⟨if x2.h.cap=1 then x2.h.a else x2.h.a.map (·.add (1*2)),x2.h.len-1,x2.h.cap-1⟩}:=zK (gSi.1 hx2).1
   generalize hx3':({x2 with h:=⟨if x2.h.cap=1 then x2.h.a else x2.h.a.map (·.add (1*2)),x2.h.len-1,x2.h.cap-1⟩}:LayT)=x3 at hx3 K3
   generalize ts2.set t x3=ts3 at hx3 K3;refine Wgq (λw=>∃P ts',HK F U (λb=>(False\/b=U.size)\/b=v.size) w P {L with ts:=ts'} (putH H t k y)/\Blk w U.size [.int .i64 0,.int .i64 0]) (λw ⟨P,ts',K,hbw⟩=>?_) λJ3 hJ3=>?_
   ·have hs:Wt H t (.put k y)=(putH H t k y,retH (putH H t k y) t,0,0):=rfl;rw[hs]at hR;refine V4 K.h (t:=t) ?_ ?_
    ·rw[hpe];split<;>simpa using ht
    ·exact ret2 (n:=U.size) K (.inl (.inr rfl)) hbw λw' K'=>hR w' ts' K'.e (K'.fin h)
   ·refine nilP (ldP (K3.h.tc hx3 hg3e ha (d:=0) (by omega) rfl) ?_);refine WjB K3.h hx3 hg3e λv10 e10=>?_;have K10:=K3.fr e10;have hbw10:=e10.blk hbw1 id;refine ifD (λhov=>?_) λhno=>hJ3 v10 ⟨_,ts3,by rw[hpe,zA hno];exact K10,hbw10⟩;refine⟨λu=>cell u (Addr.add ⟨tb0,to0+3*t,none⟩ 1)=some (.slice x3.h.a x3.h.len x3.h.cap)/\cell u (Addr.add ⟨tb0,to0+3*t,none⟩ 0)=some (.pointer (some ⟨x3.c.p,0,none⟩)),⟨K10.h.tc hx3 hg3e ha (d:=1) (by omega) rfl,K10.h.tc hx3 hg3e ha (d:=0) (by omega) rfl⟩,nilP ⟨x3.h,λu hu=>hu.1,nilP ⟨some ⟨x3.c.p,0,none⟩,λu hu=>hu.2,?_⟩⟩⟩;refine WcR hso K10.h hx3 hg3e λv11 s Q e11 hQ hB h11=>?_;have K11:=K10.to e11 h11 λb _ hb=>hb.1;have hbw11:=K10.keepB e11 hbw10 (.inl (.inr rfl));have hg11:(Hw.setLs {H with ths:=H.ths.set t g3} t g3 (Q8 KF H.tb g3.ls)).ths[t]?=some {g3 with ls:=Q8 KF H.tb g3.ls}:=by simp[Hw.setLs,ht]
    refine⟨⟨K11.h.tc hx3 hg11 ha (d:=1) (by omega) rfl,K11.h.tc hx3 hg11 ha (d:=0) (by omega) rfl⟩,?_⟩;have hz0:=K10.e.1;obtain⟨G,D,hG,hD,hd,hBt,hr,hput⟩:=K11.h.stN (λb hb=>hb.2) hx3 hg11 (λb=>Q b\/v11.size<=b) (λb hb hP hq=>hq.elim (λhq=>hP.1.2 hq) λhq=>by omega) (K10.o.1.sub λb hb=>hb.elim (λhb=>by have:=hQ b hb;omega) λhb=>by have:=K11.e.1;omega) (λhq=>K10.o.2 (hq.elim (λhb=>by have:=hQ _ hb;omega) λhb=>by have:=K11.e.1;omega));refine BtR.app hBt hB (λb hg hq=>(hG b hg).1.2 hq) ?_ λs' v12 e12 hB12=>?_
    ·have:=Way KF H.tb g3.ls;have:H.tb.length<=40:=K3.h.tb40;simp only[hl3.1];omega
    have hcell:∀{d:Nat} {w:Value},d<3->(thV (x3,({g3 with ls:=Q8 KF H.tb g3.ls}:Th)))[d]?=some w->cell v12 (Addr.add ⟨tb0,to0+3*t,none⟩ d)=some w:=λhd3 hv=>by
     obtain⟨b',o',ha',hc'⟩:=WaP (hr v12 e12) hx3 hg11 hd3 hv;rw[ha]at ha';cases ha';rw[add_lit,zEG];exact hc'
    refine⟨⟨hcell (d:=1) (by omega) rfl,hcell (d:=0) (by omega) rfl⟩,nilP (hput v12 s' _ _ e12 (λb hb=>hb.imp id id) hB12 ha λv13 e13 h13=>?_)⟩;have e13':=(e12.sub hG).trans (e13.sub hD);have K13:=K11.toX e13' h13 λb hb hq=>by
     rcases hq with hq|hq
     ·exact .inl hq.1
     ·rcases hq.1 with h1|h1|h1
      ·exact .inl (hG b h1)
      ·have:=hQ b h1;exact .inr (.inr ⟨.inr (by omega),λhB=>by have:=(K10.b b hB).2;omega⟩)
      ·exact .inr (.inl h1)
    have hbw13:=K11.keepB e13' hbw11 (.inl (.inr rfl));have K14:=K13;simp only[Hw.setLs,zBK]at K14;have hpe':=hpe;rw[zB hov]at hpe';rw[hpe']at hJ3;exact hJ3 v13 ⟨_,_,K14,hbw13⟩
  ·refine⟨λu=>u=v6,rfl,nilP ⟨some ⟨x.c.p,0,none⟩,λu hu=>by cases hu;exact K6.h.tc hx hg ha (d:=0) (by omega) rfl,⟨(k:Int),λu hu=>by cases hu;rw[add_lit,b6.cell];rfl,⟨y,λu hu=>by cases hu;rw[add_lit,b6.cell];rfl,?_⟩⟩⟩⟩;refine Wm5 K6.h hx hg hc hl y λv7 ts7 s ee Q e7 hQ hs7 h7=>?_;have K7:=K6.to e7 h7 λb _ hb=>hb.1;have b7:=K6.keepB e7 b6 (.inr rfl);have hbv7:=K6.keepB e7 hbv6 (.inl (.inr rfl));have hsl:s.len=(putL c y l).1.length:=by have:=hs7.1;simp[WB]at this;omega
   by_cases hemp:(putL c y l).1=[]
   ·rw[zB hemp]at hgg;rw[←hgg]at hJ2;exact ifDF (by rw[hsl,hemp];simp) (hJ2 v7 ⟨_,ts7,K7,hbv7⟩)
   ·rw[zA hemp]at hgg;have hpos:=zBZ.2 hemp;have hz6:=K6.e.1;refine ifDT (by rw[hsl];omega) (b7.rI rfl ?_);refine GG K7.h (t:=t) (by simpa[Hw.setLs]using ht) k (RowR.slR hs7) (RowR.capO hs7) hemp (λb _ hq hx=>hx.1.2 hq) (K6.o.1.sub λb hb=>by have:=hQ b hb;omega) (λhq=>K6.o.2 (by have:=hQ _ hq;omega)) (λg' hg'=>?_) λv8 ts8 e8 h8=>?_
    ·have:(H.setLs t g (g.ls.set k (putL c y l).2)).ths[t]?=some {g with ls:=g.ls.set k (putL c y l).2}:=by simp[Hw.setLs,ht]
     rw[this]at hg';cases hg';simp only;omega
    ·have K8:=K7.toX e8 h8 λb hb hq=>by
      rcases hq with hq|hq
      ·exact hq.imp id .inl
      ·have:=hQ b hq;exact .inr (.inr ⟨.inr (by omega),λhB=>by have:=(K6.b b hB).2;omega⟩)
     have e9:QM (H.setLs t g (g.ls.set k (putL c y l).2)) t k (putL c y l).1 = {H with ths:=H.ths.set t g2}:=by
      rw[←hgg];unfold QM Hw.setT Hw.setLs;simp only;rw[KP (t:={g with ls:=g.ls.set k (putL c y l).2}) (by simp[ht]),zBK]
     rw[e9]at K8;exact hJ2 v8 ⟨_,ts8,K8,K7.keepB e8 hbv7 (.inl (.inr rfl))⟩
 | back=>
  obtain⟨k,xs,r,hh,hxs,hxl⟩:∃k xs r,(H.thr t).hands=(k,xs)::r/\(∀x∈xs,I63 x/\0<=Yk H.ars x)/\xs.length<=1000000:=hp;rw[htg]at hh;refine nx1 (by decide) (nx2 (by decide) (nx2 (by decide) (nx2 (by decide) (nx0 (by decide) (nx1 (by decide) (nx1 (by decide) (nx2 (by decide) (ye0 (nw (cs:=[]) λv5 hz5 e5 hb5=>?_)))))))));have K5:=K1.box e5 hz5;have hbv5:=e5.blk hb id;obtain⟨G,D,hG,hD,hd,hBt,hr,hput⟩:=K5.h.stN (λb hb=>(K5.p b hb).2.2) hx hg (λb=>v5.size<=b) (λb hb _ hq=>by omega) K5.h.newN.1 K5.h.newN.2;have hbl:=hBt.len;have hbc:=hBt.cap;rw[hh]at hBt;obtain⟨so,ps,Dn,hrow,hso1,hcap,hBr,hDn,hj,hne,hxne⟩:=hBt.uncons;have hz5':=K5.e.1;refine nilP (ldS (K5.h.tc hx hg ha (d:=1) (by omega) rfl) (Wn4 (RowO.slR hrow) λa ha0 ha1=>ldI ha0 (ldS ha1 ?_)));refine nw (cs:=[.int .i64 0,.slice none 0 0]) λv81 hz81 e81 hb81=>hb81.s1 (by simp) λv82 o82 b82=>b82.s1 (by simp) λv83 o83 b83=>?_;have e83:Ext0 v5 v83:=(e81.only o82 (.inr (zC _))).only o83 (.inr (zC _));have hz83:v5.size<v83.size:=b83.lt;have hcell:∀{u1:Hp},Ext G v5 u1->∀{d:Nat} {w:Value},d<3->(thV (x,g))[d]?=some w->cell u1 (Addr.add ⟨tb0,to0+3*t,none⟩ d)=some w:=λhe _ _ hd3 hv=>by
   obtain⟨b',o',ha',hc'⟩:=WaP (hr _ he) hx hg hd3 hv;rw[ha]at ha';cases ha';rw[add_lit,zEG];exact hc'
  refine nilP (ldS (hcell (Ext0.to e83) (d:=1) (w:=.slice x.h.a x.h.len x.h.cap) (by omega) rfl) ?_);have hpos:1<=x.h.len:=by rw[hbl,hh];simp
  refine slc (lo:=1) hpos hbc (zC _) ?_;have hrow':=(SlR.loc _ _ _).keep0 ((SlR.loc _ _ _).cut (RowO.slR (hrow.from (lo:=1) hpos))) e83;have hdr:(btsV ((k,so)::ps)).drop (1*2)=btsV ps:=rfl;rw[hdr]at hrow';refine Wnk hrow' (by simp only;omega) λs' v84 hs'l e84 hs'=>?_;have hBt':BtR s' r v84 (λb=>Dn b/\¬InB so b/\b<v5.size\/v83.size<=b):=by
   refine⟨ps,λb=>Dn b/\¬InB so b/\b<v5.size,(RowO.loc _ _ _).mono hs'.o λb _ hb=>⟨.inr hb,λhx=>by omega⟩,(BtO.loc _ _).keep0 ((BtO.loc _ _).keep0 ((BtO.loc _ _).mono ((BtO.loc _ _).cut hBr) λb _ hb=>⟨hb.1.1,hb.1.2,hb.2⟩) e83) e84,λb hb=>.inl hb,hj,hne⟩
  have e584:Ext0 v5 v84:=e83.trans e84;refine nilP (hput v84 s' r _ (Ext0.to e584) (λb hb=>hb.elim (λhb=>.inl (hDn b hb.1)) λhb=>.inr (by omega)) hBt' ha λv85 e85 h85=>?_);have hz84:=e84.1;have hz85:=e85.1;have e585:Ext _ v5 v85:=(Ext0.to e584).trans (e85.sub hD);have K85:=K5.to e585 h85 λb _ hq=>by
   rcases hq with hq|hq
   ·exact .inl hq.1
   ·rcases hq.1 with h1|h1
    ·exact .inl (hG b (hDn b h1.1))
    ·exact .inr (by omega)
  have hbv85:=K5.keepB e585 hbv5 (.inl (.inr rfl));have b85:Blk v85 v5.size _:=e85.blk (e84.blk b83 id) λhx=>by have:=(K5.p _ (hD _ hx)).2.2;omega
  have K85b:=K85.addB (B':=λb=>b=v5.size) λb hb=>⟨by omega,by omega,λhx=>by
   subst hb;rcases hx.1 with h1|h1
   ·have:=(K5.p _ h1.1).2.2;omega
   ·rcases h1.1 with h2|h2<;>omega⟩
  have hso5:=(SlR.loc _ _ _).keep ((SlR.loc _ _ _).keep0 ((SlR.loc _ _ _).cut hso1) e584) e85 λb _ hb hx=>hd b (hDn b hb.1.1) hx;have hs:Wt H t .back=(HN {H with ths:=H.ths.set t {g with hands:=r}} (H.own t) k xs,retH (HN {H with ths:=H.ths.set t {g with hands:=r}} (H.own t) k xs) t,0,0):=by
   simp only[Wt,htg,hh,Zv hg]
  rw[hs]at hR;refine⟨λu=>u=v85,rfl,⟨(k:Int),λu hu=>by cases hu;rw[add_lit,b85.cell];rfl,⟨so,λu hu=>by cases hu;rw[add_lit,b85.cell];rfl,?_⟩⟩⟩;refine Wgy K85b.h t ⟨rfl,WjF K85b.h hol k hso5 (λb _ hb hx=>?_) hcap hxs hxl λv87 e87 h87=>?_⟩
  ·rcases hx.1 with h1|h1
   ·exact h1.2 (hDn b hb.1.1)
   ·rcases h1.1 with h2|h2
    ·exact h2.2.1 hb.1.2
    ·have:=hb.2;omega
  have K87:=K85b.to e87 h87 λb _ hb=>hb;have hbl7:(HN {H with ths:=H.ths.set t {g with hands:=r}} (H.own t) k xs).ths.length=H.ths.length:=by
   rw[G6];simp
  refine V4 K87.h (t:=t) (by rw[hbl7];exact ht) ?_;exact ret2 (n:=U.size) K87 (.inl (.inl (.inr rfl))) (K85b.keepB e87 hbv85 (.inl (.inl (.inr rfl)))) λw' K'=>hR w' _ K'.e (K'.fin h)
 | give s a=>
  obtain⟨ha0,hal,hru⟩:0<=a/\a.toNat<H.ars.length/\∀A∈H.ars,∀r∈A.runs,r.1<=1000000:=hp;obtain⟨A2,hA2⟩:∃A,H.ars[a.toNat]?=some A:=⟨_,gGe hal⟩;have hae:a=((a.toNat:Nat):Int):=by omega
  refine nx1 (by decide) (nx2 (by decide) (nx2 (by decide) (nx2 (by decide) (nx0 (by decide) (nx1 (by decide) (nx1 (by decide) (nx2 (by decide) (nx0 (by decide) (ye2 (nw (cs:=[.int .i64 0,.int .i64 0]) λv5 hz5 e5 hb5=>?_))))))))));have K5:=K1.box e5 hz5;refine hb5.s1 (by simp) λv5b o5 b5=>b5.s1 (by simp) λv6 o6 b6=>?_;have K6:=(K5.own o5 (.inr rfl)).own o6 (.inr rfl);have hne:U.size≠v.size:=by omega
  have hbv6:=Ws o6 (Ws o5 (e5.blk hb id) hne) hne;obtain⟨Y2,hY2,_,_⟩:=K6.h.ar hA2;refine nilP (K6.h.hd.rS rfl (b6.rI (x:=((a.toNat:Nat):Int)) (by rw[←hae];rfl) (K6.h.rA hY2 (b6.rI rfl ?_))));refine WbY K6.h hA2 hY2 s (hru A2 (zD hA2)) λv7 e7 h7=>?_;have K7:=K6.to e7 h7 λb _ hb=>hb;have hbv7:=K6.keepB e7 hbv6 (.inl (.inr rfl));have hs:Wt H t (.give s a)=(H.setA a.toNat (Qz A2 s),none,0,0):=by
   simp only[Wt,hA2]
  refine hJ v7 ⟨_,L.ts,⟨?_,K7.e,λb hb=>⟨(K7.p b hb).1,λhx=>(K7.p b hb).2.1 (.inl hx),(K7.p b hb).2.2⟩,λb hb=>K7.b b (.inl hb),K7.o⟩,hbv7,by rw[hs]⟩;rw[hs];exact K7.h
 | drain=>
  refine nx1 (by decide) (nx2 (by decide) (nx2 (by decide) (nx2 (by decide) (nx0 (by decide) (nx1 (by decide) (nx1 (by decide) (nx2 (by decide) (nx0 (by decide) (nx2 (by decide) (ye0 (nw (cs:=[]) λv5 hz5 e5 hb5=>?_)))))))))));have K5:=K1.box e5 hz5;have hbv5:=e5.blk hb id;refine nilP (ldP (K5.h.tc hx hg ha (d:=0) (by omega) rfl) ?_);refine Wiv hso K5.h hx hg λv7 s Q e7 hQ hB h7=>?_;have K7:=K5.to e7 h7 λb _ hb=>hb.1;have hbv7:=K5.keepB e7 hbv5 (.inl (.inr rfl));have hz0:=K5.e.1;have hg7:(H.setLs t g (Q8 ZM H.tb g.ls)).ths[t]?=some {g with ls:=Q8 ZM H.tb g.ls}:=by simp[Hw.setLs,ht]
  obtain⟨G,D,hG,hD,hd,hBt,hr,hput⟩:=K7.h.stN (λb hb=>hb.2) hx hg7 Q (λb _ hb hq=>hb.1.2 hq) (K5.o.1.sub λb hb=>by have:=hQ b hb;omega) (λhq=>K5.o.2 (by have:=hQ _ hq;omega));refine nilP (hput v7 s _ Q (Ext.refl _ _) (λb hb=>.inr hb) hB ha λv8 e8 h8=>?_);have e8':=e8.sub hD;have K8:=K7.toX e8' h8 λb _ hq=>by
   rcases hq with hq|hq
   ·exact .inl hq.1
   ·have:=hQ b hq.1;exact .inr (.inr ⟨.inr (by omega),λhB=>by have:=(K5.b b hB).2;omega⟩)
  have hbv8:=K7.keepB e8' hbv7 (.inl (.inr rfl));have hs:Wt H t .drain=({H with ths:=H.ths.set t {g with ls:=Q8 ZM H.tb g.ls,hands:=Kb ZM H.tb g.ls}},retH {H with ths:=H.ths.set t {g with ls:=Q8 ZM H.tb g.ls,hands:=Kb ZM H.tb g.ls}} t,0,0):=by
   simp only[Wt,Zv hg]
  have K9:=K8;simp only[Hw.setLs,zBK]at K9;rw[hs]at hR;refine V4 K9.h (t:=t) (by simpa using ht) ?_;exact ret2 (n:=U.size) K9 (.inl (.inr rfl)) hbv8 λw' K'=>hR w' _ K'.e (K'.fin h)
def setPh (H:Hw)(t:Nat)(p:Option Ph):Hw:=H.setT t λh=>{h with ph:=p}
theorem Vn (H:Hw)(t:Nat)(f:Th->Th):(H.setT t f).ths.length=H.ths.length:=by simp[Hw.setT]
theorem Wkk (H:Hw)(t k:Nat)(x:Int):(putH H t k x).ths.length=H.ths.length:=by
 unfold putH;simp only;split<;>split<;>simp[Vn,QM]
theorem WcX (H:Hw)(t:Nat)(p:Ph):(Wt H t p).1.ths.length=H.ths.length:=by
 cases p with
 | take k=>simp only[Wt];split<;>simp[VC,Vn]
 | transfer k w=>
  simp only[Wt];split
  ·split<;>simp[QM,Vn,Hw.setA]
  ·rfl
 | central k w=>simp only[Wt];split<;>simp[QM,Vn,Hw.setA]
 | grow k w=>simp only[Wt];split<;>simp[Hw.setA]
 | fill=>simp only[Wt];split<;>simp[VC,Vn]
 | large m=>simp only[Wt];split<;>simp[VC,Hw.setA]
 | find x=>
  simp only[Wt,U0];split
  ·rfl
  ·split<;>simp[QM,Vn]
 | put k x=>exact Wkk H t k x
 | back=>simp only[Wt];split<;>simp[G6,Vn]
 | give s a=>simp only[Wt];split<;>simp[Hw.setA]
 | drain=>simp[Wt,Vn]
def Wbi (H:Hw)(t:Nat)(p:Ph):Prop:=Wf3 H t p/\∀g,H.ths[t]?=some g->g.hands.length<=900
def QC (H:Hw)(t:Nat)(p:Ph):Hw:=setPh (Wt H t p).1 t (Wt H t p).2.1
theorem Wfk (hso:UW)(h:HH U F L H)(hg:H.ths[t]?=some g){p:Ph}(hp:g.ph=some p)(hok:Wbi H t p){R:Bool->Int->Int->Int->Hp->Prop}
 (hR:∀σ' ts',Ext F U σ'->HH σ' (Grow F U) {L with ts:=ts'} (QC H t p)->R (Wt H t p).2.1.isNone (Wt H t p).2.2.1 (Wt H t p).2.2.2 0 σ'):Xy.c (some ⟨L.p,0,none⟩) (t:Int) U R:=by
 refine Xy.o ?_;unfold Xy.v;have ht:=(gSi.1 hg).1;refine nw (cs:=[.int .i64 0,.int .i64 0]) λv hz e hb=>?_;have K1:=(HK.start h).box e hz;obtain⟨x,g',hx,hg'⟩:=h.th ht;rw[hg]at hg';cases hg';refine Kh K1.h (ifF rfl (U2 K1.h (t:Int) (ifF (by rw[zI (by omega)];rfl) ?_)));refine nilP (K1.h.hd.rS rfl (K1.h.tR hx hg ?_));rw[hp];refine⟨G5 _,ifF (by rw[WaR];rfl) (nilP (K1.h.hd.rS rfl (K1.h.tR hx hg ?_)))⟩;rw[hp];refine Wj4 hso K1.h ht p hok.1 hok.2 λv9 ts9 e9 h9=>?_;have K9:=K1.to e9 h9 λb _ hb=>hb;have hbv9:=K1.keepB e9 hb (.inr rfl);refine nw (cs:=[.int .i64 0,.int .i64 0]) λv10 hz10 e10 hb10=>?_;have K10:=K9.box e10 hz10;refine hb10.s1 (by simp) λv11 o11 b11=>b11.s1 (by simp) λv12 o12 b12=>?_;have K12:=(K10.own o11 (.inr rfl)).own o12 (.inr rfl);have hne:U.size≠v9.size:=by have:=(K9.b U.size (.inr rfl)).2;omega
 have hbv12:=Ws o12 (Ws o11 (e10.blk hbv9 id) hne) hne;have ht9:t<(Wt H t p).1.ths.length:=by rw[WcX];exact ht
 obtain⟨x9,g9,hx9,hg9⟩:=K12.h.th ht9;have hpe:QC H t p = {(Wt H t p).1 with ths:=(Wt H t p).1.ths.set t {g9 with ph:=(Wt H t p).2.1}}:=Zv hg9 _;refine nilP (K12.h.hd.rS rfl (K12.h.stepP hx9 hg9 (Wt H t p).2.1 λv13 e13 h13=>?_));have K13:=K12.to e13 h13 λb _ hb=>.inl hb;have hb13:=K12.keepB e13 b12 (.inr rfl);rw[←hpe]at K13;refine⟨G5 _,hb13.rI rfl (hb13.rI rfl ?_)⟩;refine ret2 (n:=U.size) K13 (.inl (.inr rfl)) (K12.keepB e13 hbv12 (.inl (.inr rfl))) λw' K'=>?_;rw[WaR];exact hR w' ts9 K'.e (K'.fin h)
theorem Wmo {p:Nat->Prop}(h:∃n,p n):∃n,p n/\∀m,p m->n<=m:=by
 obtain⟨n,hn⟩:=h
 induction n using Nat.strongRecOn with
 | _ n ih=>
  by_cases hm:∃m,m<n/\p m
  ·obtain⟨m,h1,h2⟩:=hm;exact ih m h1 h2
  ·exact⟨n,hn,λm h2=>Nat.le_of_not_lt λh1=>hm ⟨m,h1,h2⟩⟩
theorem Wn0 {start:Fam []->Prop}{round:Fam []->Fam []}(Inv:Nat->Hp->Prop)(h0:start λh=>∃n,Inv n h)(hr:∀n h,Inv n h->∀J:Hp->Prop,(∀m h',m<n->Inv m h'->J h')->round J h):Xo [] start round:=by
 classical
 refine Wnn (λh=>∃n,Inv n h) (λh=>if hx:∃n,Inv n h then(Wmo hx).choose else 0) h0 λh hI=>?_
 have hs:=(Wmo hI).choose_spec;refine hr _ h hs.1 _ λm h' hm hi=>⟨⟨m,hi⟩,?_⟩;have hI':∃n,Inv n h':=⟨m,hi⟩;rw[dif_pos hI',dif_pos hI];exact Nat.lt_of_le_of_lt ((Wmo hI').choose_spec.2 m hi) hm
inductive RunN:Nat->Hw->Nat->Ph->Hw->Int->Int->Prop
 | done {H:Hw} {t:Nat} {p:Ph}:Wbi H t p->(Wt H t p).2.1=none->RunN 1 H t p (QC H t p) (Wt H t p).2.2.1 (Wt H t p).2.2.2
 | next {n:Nat} {H:Hw} {t:Nat} {p p':Ph} {H':Hw} {a e:Int}:Wbi H t p->(Wt H t p).2.1=some p'->RunN n (QC H t p) t p' H' a e->RunN (n+1) H t p H' a e
theorem WeK {p:Ph}(ht:t<H.ths.length):∃g,(QC H t p).ths[t]?=some g/\g.ph=(Wt H t p).2.1:=by
 have ht9:t<(Wt H t p).1.ths.length:=by rw[WcX];exact ht
 exact⟨{(Wt H t p).1.ths[t]with ph:=(Wt H t p).2.1},by simp[QC,setPh,Hw.setT,zCU,gGe ht9],rfl⟩
end Go.Ar
namespace Go.Ar
open Go Go.Vc Go.Proofs
open Go.Bu (isPow)
variable {U:Hp}{F:Rg}
def KI (size align:Int):Bool:=decide (1<=size)&&(decide (1<=align)&&(decide (align<=256)&&isPow align))
def clsV (tb:List Cls)(size align:Int):Option Nat:=tb.findIdx? λc=>decide (size<=(c.size:Int))&&((c.size:Int)%align==0)
theorem Wjx (n:Int)(h1:1<=n)(h2:n<=256){R:Int->Hp->Prop}(hR:∀p:Int,(p != n) = !isPow n->R p U):Qf.c n U R:=by
 refine Qf.o ?_;unfold Qf.v;refine VO (a:=.i .i64) (bb:=.i .i64) (λ(p q:Int) w=>w=U/\(p=0/\q=1\/∃k:Nat,k<=8/\p=((2^k:Nat):Int)/\q=((2^(k+1):Nat):Int)/\p<=n)) (λp q _=>1000-q.toNat) ⟨rfl,.inl ⟨rfl,rfl⟩⟩ ?_;rintro(p:Int) (q:Int) w ⟨rfl,hpq⟩;refine ifD (λhle=>?_) λhgt=>?_
 ·rcases hpq with⟨rfl,rfl⟩|⟨k,hk,rfl,rfl,hp⟩
  ·exact arN (m:=2) (by omega) (by omega) ⟨⟨rfl,.inr ⟨0,by omega,by simp,by simp,by omega⟩⟩,by simp⟩
  ·have hk7:k<=7:=by
    apply Classical.byContradiction;intro hc;have:2^9<=2^(k+1):=zBL (by decide) (by omega);omega
   have hpk:=zw (k+1);exact arN (m:=2^(k+1+1)) (by rw[zAN 2 (k+1)];omega) (by rw[zAN 2 (k+1)];omega) ⟨⟨rfl,.inr ⟨k+1,by omega,rfl,rfl,hle⟩⟩,by rw[zAN 2 (k+1)];omega⟩
 ·rcases hpq with⟨rfl,rfl⟩|⟨k,hk,rfl,rfl,hp⟩
  ·omega
  ·refine hR _ ?_;by_cases e:((2^k:Nat):Int)=n
   ·have:isPow n=true:=by
     unfold isPow;rw[zz];exact⟨k,zb.2 (by omega),by simp[←e]⟩
    rw[this,e];simp
   ·have:isPow n=false:=by
     unfold isPow;rw[zAO];intro j hj he;have he':n=((2^j:Nat):Int):=by simpa using he
     rcases zBT j k with h3|h3|h3
     ·have:2^(j+1)<=2^k:=zBL (by decide) h3;rw[zAN]at this;have:=zw j;omega
     ·subst h3;exact e he'.symm
     ·have:2^(k+1)<=2^j:=zBL (by decide) h3;omega
    rw[this];simpa using e
theorem Wfn {s:Sl}{xs:List (Int×Int×Int)}(ha:Acts U s xs)(hv:Qo xs=true)(size align:Int){R:Int->Int->Hp->Prop}
 (hR:∀σ',Ext0 U σ'->R (if KI size align then((clsV (xs.map Z9) size align).getD 0:Nat)else 0) (if KI size align then(if(clsV (xs.map Z9) size align).isSome then 0 else 4)else 1) σ'):ZN.c s size align U R:=by
 refine ZN.o ?_;unfold ZN.v;refine nw (cs:=[.int .i64 size]) λv hz e hb=>nw (cs:=[.int .i64 align]) λv1 hz1 e1 hb1=>?_;have hb':=e1.blk hb id;refine GF (ZX ha (e.trans e1)) λv2 e2=>?_;rw[hv];have hb2:=e2.blk hb' id;have hb12:=e2.blk hb1 id;have e02:=(e.trans e1).trans e2;refine ifF rfl ?_;have key:∀r,r = !KI size align->(If r (R 0 1 v2) (Wl.c s ⟨71,#[],#[.pointer (some ⟨U.size,0,none⟩),.pointer (some ⟨v.size,0,none⟩)]⟩ v2 λk v4=>If (decide (k<0)) (R 0 4 v4) (R k 0 v4))):=by
  intro r hr;cases hok:KI size align with
  | false=>
   rw[hok]at hr;have:=hR v2 e02;rw[hok]at this;exact ifT (by rw[hr];rfl) this
  | true=>
   rw[hok]at hr;refine ifF (by rw[hr];rfl) ?_;have hok':=hok;simp only[KI,zF,zP]at hok';refine Wl.o ?_;unfold Wl.v;have hlen:=ha.1;have hxl:=((Z7 xs).1 hv).2.1;refine Zx (a:=.i .i64) (λ(z:Int) w=>∃i:Nat,z=(i:Int)/\i<=xs.length/\Ext0 v2 w/\∀j c,j<i->(xs.map Z9)[j]?=some c->(decide (size<=(c.size:Int))&&((c.size:Int)%align==0))=false) (λz _=>xs.length-z.toNat) ⟨0,rfl,by omega,Ext.refl _ _,λj c h=>by omega⟩ ?_;rintro(z:Int) w ⟨i,rfl,hi,ew,hno⟩;refine ifD (λhlt=>?_) λhge=>?_
   ·have hi':i<xs.length:=by omega
    have hc:(xs.map Z9)[i]?=some (Z9 xs[i]):=by simp[hi']
    generalize Z9 xs[i]=c at hc;have haw:=ZX ha (e02.trans ew);obtain⟨hx,hcok⟩:=Hm haw hv hc;refine WbJ haw hx ?_;refine Gq (all := #[.agg #[.int .i64 (c.size:Int),.int .i64 (c.pages:Int),.int .i64 (c.batch:Int)],.pointer (some ⟨U.size,0,none⟩),.pointer (some ⟨v.size,0,none⟩)]) (by kernel_rfl) (by simp) ?_;refine ZO.o ?_;unfold ZO.v;refine nw (cs:=[.int .i64 (c.size:Int),.int .i64 (c.pages:Int),.int .i64 (c.batch:Int)]) λw1 hz1 e1 hbw=>?_;have hs1:=e1.blk (ew.blk hb2 id) id;have hs2:=e1.blk (ew.blk hb12 id) id;have ew1:=ew.trans e1;have go:∀r,r=(decide (size<=(c.size:Int))&&((c.size:Int)%align==0))->If r (If (decide ((i:Int)<0)) (R 0 4 w1) (R (i:Int) 0 w1)) (Ar .i64 ((i:Int)+1) λt18=>(∃i:Nat,t18=(i:Int)/\i<=xs.length/\Ext0 v2 w1/\∀j c,j<i->(xs.map Z9)[j]?=some c->(decide (size<=(c.size:Int))&&((c.size:Int)%align==0))=false)/\xs.length-t18.toNat<xs.length-(i:Int).toNat):=by
     intro r hr;refine iff_ (λh1=>ifDF (by omega) ?_) λh0=>?_
     ·have hf:clsV (xs.map Z9) size align=some i:=by
       obtain⟨hi1,rfl⟩:=gSi.1 hc;exact zBC.2 ⟨hi1,by rw[←hr];exact h1,λj hj=>by rw[hno j _ hj (gGe (by omega))];simp⟩
      have:=hR w1 (e02.trans ew1);rw[hok,hf]at this;exact this
     ·exact arN (m:=i+1) (by omega) (by omega) ⟨⟨i+1,rfl,by omega,ew1,λj d hj hd=>by
       by_cases e:j=i
       ·subst e;rw[hc]at hd;cases hd;rw[←hr];exact h0
       ·exact hno j d (by omega) hd⟩,by omega⟩
    refine hbw.rI rfl (hs1.rI0 rfl ?_);refine QD (λr w=>w=w1/\r=(decide (size<=(c.size:Int))&&((c.size:Int)%align==0))) (λr w ⟨hw,hr⟩=>by subst hw;exact go r hr) λJ hJ=>?_;refine ifD (λhge=>hbw.rI rfl (hs2.rI0 rfl (nz (by omega) (hJ _ _ ⟨rfl,?_⟩)))) λhlt2=>hJ _ _ ⟨rfl,?_⟩
    ·rw[QF (by omega),zI (by omega:size<=(c.size:Int)),zEI]
    ·rw[zH (by omega),zDA]
   ·have hf:clsV (xs.map Z9) size align=none:=by
     unfold clsV;rw[zDH];intro c hc;obtain⟨j,hj⟩:=zM hc;have:=(gSi.1 hj).1;simp at this;exact hno j c (by omega) hj
    have:=hR w (e02.trans ew);rw[hok,hf]at this;exact ifDT (by decide) this
 refine WnC (λr w=>w=v2/\r = !KI size align) (λr w ⟨hw,hr⟩=>by subst hw;exact key r hr) λJ hJ=>?_;have rd1:∀m,m=v2->cell m ⟨U.size,0,none⟩=some (.int .i64 size):=λm hm=>by rw[hm,hb2.cell];rfl
 have rd2:∀m,m=v2->cell m ⟨v.size,0,none⟩=some (.int .i64 align):=λm hm=>by rw[hm,hb12.cell];rfl
 refine⟨λm=>m=v2,rfl,⟨size,rd1,?_⟩⟩;refine ifD (λh1=>hJ _ _ ⟨rfl,?_⟩) λh1=>⟨align,rd2,ifD (λh2=>hJ _ _ ⟨rfl,?_⟩) λh2=>⟨align,rd2,ifD (λh3=>hJ _ _ ⟨rfl,?_⟩) λh3=>⟨align,rd2,⟨align,rd2,?_⟩⟩⟩⟩
 ·simp only[KI,zH (by omega:¬1<=size),zDA,zEV]
 ·simp only[KI,zH (by omega:¬1<=align),zDA,zCO,zEV]
 ·simp only[KI,zH (by omega:¬align<=256),zDA,zCO,zEV]
 ·refine Wjx align (by omega) (by omega) λp hp=>⟨rfl,hJ _ _ ⟨rfl,?_⟩⟩;rw[hp];simp only[KI,zI (by omega:1<=size),zI (by omega:1<=align),zI (by omega:align<=256),zEI]
end Go.Ar
namespace Go.Ar
open Go Go.Vc Go.Proofs
variable {U u u':Hp}{F B P Q:Rg}{L:LayH}{H H':Hw}{t k n pb:Nat}{A:AR}{Y:Lay}{x:LayT}{g:Th}{c:Cls}{l:Li}{cs:List Value}
def clsT (c:Cls):Int×Int×Int:=((c.size:Int),(c.pages:Int),(c.batch:Int))
theorem Wfg (tb:List Cls):(tb.map clsT).map Z9=tb:=by
 rw[zAP]
 conv=>rhs;rw[←zDV tb]
 apply zy;intro c _;rfl
theorem We5 {s:Sl}{tb:List Cls}(h:SlR s 3 (tabV tb) U F):Acts U s (tb.map clsT):=by
 have hl:=h.1;rw[Vr]at hl;refine⟨by simp;omega,λi x y z hx=>?_⟩;rw[zg,zBV]at hx;obtain⟨c,hc,he⟩:=hx;obtain⟨g1,g2,g3⟩:=GI hc;simp only[clsT,Prod.mk.injEq]at he;obtain⟨rfl,rfl,rfl⟩:=he;obtain⟨b,o,ha,h0⟩:=h.cell g1;obtain⟨b',o',ha',h1⟩:=h.cell g2;rw[ha]at ha';cases ha';obtain⟨b',o',ha',h2⟩:=h.cell g3;rw[ha]at ha';cases ha';exact⟨b,o,ha,Kg h0,by rw[show o+i*3=o+3*i by omega];exact h0,by rw[show o+i*3+1=o+(3*i+1) by omega];exact h1,by rw[show o+i*3+2=o+(3*i+2) by omega];exact h2⟩
def TbOk (tb:List Cls):Prop:=Qo (tb.map clsT)=true
def reqH (tb:List Cls)(kind size align addr:Int):Option Ph:=
 if kind=0 then(if 1<=size/\size<=16384 then(if KI size align then(match clsV tb size align with
  | some k=>some (.take k)
  | none=>some (.large ((size+255).toNat/256)))else none)else none)
 else if kind=1 then some (.find addr)else if kind=2 then some .drain else none
theorem WdB (h:HH U F L H)(hv:TbOk H.tb)(kind size align addr:Int){R:Value->Hp->Prop}(hR:∀σ',Ext0 U σ'->R (phV (reqH H.tb kind size align addr)) σ'):Yv.c (some ⟨L.p,0,none⟩) kind size align addr U R:=by
 refine Yv.o ?_;unfold Yv.v;refine nw (cs:=[.int .i64 kind,.int .i64 size,.int .i64 align,.int .i64 addr]) λv hz e hb=>hb.rI rfl ?_;have h':=h.keep0 e;have hR0:=hR v e;refine iff_ (λhk=>?_) λhk=>?_
 ·have hk':kind=0:=by simpa using hk
  have hq:reqH H.tb kind size align addr=(if 1<=size/\size<=16384 then(if KI size align then(match clsV H.tb size align with
   | some k=>some (.take k)
   | none=>some (.large ((size+255).toNat/256)))else none)else none):=by unfold reqH;rw[zB hk']
  rw[hq]at hR hR0;refine hb.rI rfl (QD (λr w=>w=v/\r = !decide (1<=size/\size<=16384)) (λr w ⟨hw,hr⟩=>?_) λJ hJ=>?_)
  ·subst hw;by_cases hs:1<=size/\size<=16384
   ·rw[zB hs]at hR;rw[zI hs]at hr;refine ifF (by rw[hr];rfl) ⟨λm=>m=w,rfl,nilP ⟨L.tab,λm hm=>by rw[hm,add_lit,h'.hd.cell];rfl,⟨size,λm hm=>by rw[hm,add_lit,hb.cell];rfl,⟨align,λm hm=>by rw[hm,add_lit,hb.cell];rfl,?_⟩⟩⟩⟩;refine Wfn (We5 h'.tabS) hv size align λv2 e2=>?_;rw[Wfg];have hb2:=e2.blk hb id;have hR2:=hR v2 (e.trans e2);cases hok:KI size align with
    | false=>
     rw[hok]at hR2;exact ifF rfl (ifF rfl hR2)
    | true=>
     rw[hok]at hR2;simp only[zO]at hR2 ⊢;cases hcl:clsV H.tb size align with
     | some k=>rw[hcl]at hR2;exact ifT rfl hR2
     | none=>
      rw[hcl]at hR2;refine ifF rfl (ifT rfl (hb2.rI rfl (ar (by omega) (by omega) (ar (by omega) (by omega) (nz (by decide) (ar (by rw[Xm (by omega)];omega) (by rw[Xm (by omega)];omega) ?_))))));rw[Xm (by omega)];have:(size+256-1)/256=(((size+255).toNat/256:Nat):Int):=by omega
      rw[this];exact hR2
   ·rw[zA hs]at hR0;rw[zH hs]at hr;exact ifT (by rw[hr];rfl) hR0
  ·refine ifD (λh1=>hJ _ _ ⟨rfl,?_⟩) λh1=>hb.rI rfl (hJ _ _ ⟨rfl,?_⟩)
   ·rw[zH (by omega)];rfl
   ·by_cases h2:size>16384
    ·rw[zI h2,zH (by omega)];rfl
    ·rw[zH h2,zI (by omega)];rfl
 ·have hk':kind≠0:=by simpa using hk
  refine iff_ (λhk1=>hb.rI rfl ?_) λhk1=>?_
  ·have hk1':kind=1:=by simpa using hk1
   unfold reqH at hR0;rw[zA hk',zB hk1']at hR0;exact hR0
  ·have hk1':kind≠1:=by simpa using hk1
   refine iff_ (λhk2=>?_) λhk2=>?_
   ·have hk2':kind=2:=by simpa using hk2
    unfold reqH at hR0;rw[zA hk',zA hk1',zB hk2']at hR0;exact hR0
   ·have hk2':kind≠2:=by simpa using hk2
    unfold reqH at hR0;rw[zA hk',zA hk1',zA hk2']at hR0;exact hR0
def Kr (H:Hw)(thread kind size align addr:Int):Int ⊕ (Nat×Ph):=
 if 0<=thread/\thread<(H.ths.length:Int)then(match H.ths[thread.toNat]? with
  | some g=>(if g.ph=none then(match reqH H.tb kind size align addr with
   | some p=>.inr (thread.toNat,p)
   | none=>.inl 1)else .inl 5)
  | none=>.inl 1)else .inl 1
theorem Wat (h:HH U F L H)(hv:TbOk H.tb)(thread kind size align addr:Int){R:Int->Hp->Prop}(h0:∀e,Kr H thread kind size align addr=.inl e->e≠0->∀σ',Ext F U σ'->HH σ' (Grow F U) L H->R e σ')
 (h1:∀t p,Kr H thread kind size align addr=.inr (t,p)->thread=(t:Int)->t<H.ths.length->∀σ',Ext F U σ'->HH σ' (Grow F U) L (setPh H t (some p))->R 0 σ'):Yh.c (some ⟨L.p,0,none⟩) thread kind size align addr U R:=by
 refine Yh.o ?_;unfold Yh.v;refine nw (cs:=[.int .i64 kind,.int .i64 size,.int .i64 align,.int .i64 addr]) λv hz e hb=>?_;have K1:=(HK.start h).box e hz;refine Kh K1.h (ifF rfl (U2 K1.h thread ?_));by_cases hth:0<=thread/\thread<(H.ths.length:Int)
 ·obtain⟨t,rfl⟩:∃t:Nat,thread=(t:Int):=⟨thread.toNat,by omega⟩;have ht:t<H.ths.length:=by omega
  obtain⟨x,g,hx,hg⟩:=h.th ht;have hst:Kr H (t:Int) kind size align addr=(if g.ph=none then(match reqH H.tb kind size align addr with
   | some p=>.inr (t,p)
   | none=>.inl 1)else .inl 5):=by
   unfold Kr;rw[zB hth,iTn,hg]
  refine ifF (by rw[zI hth];rfl) (nilP (K1.h.hd.rS rfl (K1.h.tR hx hg ⟨G5 _,?_⟩)));cases hp:g.ph with
  | some p=>
   rw[hp,zA (by simp)]at hst;exact ifT (by rw[WaR];rfl) (h0 5 hst (by decide) v K1.e (K1.fin h))
  | none=>
   rw[hp,zB rfl]at hst;refine ifF rfl (hb.rI rfl (hb.rI rfl (hb.rI rfl (hb.rI rfl (WdB K1.h hv kind size align addr λv3 e3=>⟨G5 _,?_⟩)))));have K3:=K1.fr e3;rw[WaR];cases hq:reqH H.tb kind size align addr with
   | none=>
    rw[hq]at hst;exact ifT rfl (h0 1 hst (by decide) v3 K3.e (K3.fin h))
   | some p=>
    rw[hq]at hst;refine ifF rfl (nilP (K3.h.hd.rS rfl (K3.h.stepP hx hg (some p) λv4 e4 h4=>?_)));have K4:=K3.to e4 h4 λb _ hb=>.inl hb;have e5:setPh H t (some p) = {H with ths:=H.ths.set t {g with ph:=some p}}:=Zv hg _;rw[←e5]at K4;exact h1 t p hst rfl ht v4 K4.e (K4.fin h)
 ·have hst:Kr H thread kind size align addr=.inl 1:=by unfold Kr;rw[zA hth]
  exact ifT (by rw[zH hth];rfl) (h0 1 hst (by decide) v K1.e (K1.fin h))
theorem WeS {p:Option Ph}(ht:t<H.ths.length):∃g,(setPh H t p).ths[t]?=some g/\g.ph=p:=
 ⟨{H.ths[t]with ph:=p},by simp[setPh,Hw.setT,zCU,gGe ht],rfl⟩
theorem WcD (hso:UW)(h:HH U F L H)(hv:TbOk H.tb)(thread kind size align addr:Int){R:Int->Int->Hp->Prop}(h0:∀e,Kr H thread kind size align addr=.inl e->e≠0->∀σ',Ext F U σ'->HH σ' (Grow F U) L H->R 0 e σ')
 (h1:∀t p,Kr H thread kind size align addr=.inr (t,p)->∃n H' a e,RunN n (setPh H t (some p)) t p H' a e/\∀σ' ts',Ext F U σ'->HH σ' (Grow F U) {L with ts:=ts'} H'->R a e σ'):XT.c (some ⟨L.p,0,none⟩) thread kind size align addr U R:=by
 refine XT.o ?_;unfold XT.v;refine nw (cs:=[.int .i64 kind,.int .i64 size,.int .i64 align,.int .i64 addr]) λv hz e hb=>hb.rI rfl (hb.rI rfl (hb.rI rfl (hb.rI rfl ?_)));have K1:=(HK.start h).box e hz;refine Wat K1.h hv thread kind size align addr (λer he hne v1 e1 hh1=>?_) λt p hst hth ht v1 e1 hh1=>?_
 ·have K2:=K1.to e1 hh1 λb _ hb=>hb;exact ifT (by simpa using hne) (h0 er he hne v1 K2.e (K2.fin h))
 ·subst hth;have K2:=K1.to e1 hh1 λb _ hb=>hb;obtain⟨n,Hf,a,er,hrun,hfin⟩:=h1 t p hst;refine ifF rfl (Wn0 (λn w=>∃(B P:Rg) (ts:List LayT) (H:Hw) (p:Ph),HK F U B w P {L with ts:=ts} H/\(∃g,H.ths[t]?=some g/\g.ph=some p)/\RunN n H t p Hf a er) ⟨n,_,_,L.ts,_,p,K2,WeS ht,hrun⟩ ?_);rintro n w ⟨B,P,ts,H2,p2,K,⟨g,hg,hgp⟩,hrun⟩ J hJ;have go:Wbi H2 t p2->((Wt H2 t p2).2.1.isNone=true->(Wt H2 t p2).2.2.1=a/\(Wt H2 t p2).2.2.2=er/\QC H2 t p2=Hf)->((Wt H2 t p2).2.1.isNone=false->∃m p',m<n/\(Wt H2 t p2).2.1=some p'/\RunN m (QC H2 t p2) t p' Hf a er)->Xy.c (some ⟨L.p,0,none⟩) (t:Int) w λt22 t221 t222 t223 v3=>Nw (.cells #[.int .i64 0,.int .i64 0] 97 (0,0)) v3 λn10 v4=>St1 (n10.add 0) (.int .i64 t221) v4 λv5=>St1 (n10.add 1) (.int .i64 t222) v5 λv6=>If t22 (LdI .i64 (n10.add 0) v6 λt28=>LdI .i64 (n10.add 1) v6 λt30=>R t28 t30 v6) (J v6):=by
   intro hok hd hn;refine Wfk hso K.h hg hgp hok λv3 ts3 e3 hh3=>?_;have K3:=K.to e3 hh3 λb _ hb=>hb;refine nw (cs:=[.int .i64 0,.int .i64 0]) λv4 hz4 e4 hb4=>?_;have K4:=K3.box e4 hz4;refine hb4.s1 (by simp) λv5 o5 b5=>b5.s1 (by simp) λv6 o6 b6=>?_;have K6:=(K4.own o5 (.inr rfl)).own o6 (.inr rfl);refine iff_ (λht1=>?_) λhf1=>?_
   ·obtain⟨q1,q2,q3⟩:=hd ht1;rw[q3]at K6;refine b6.rI rfl (b6.rI rfl ?_);rw[q1,q2];exact hfin v6 ts3 K6.e (K6.fin h)
   ·obtain⟨m,p',hm,hp',hr'⟩:=hn hf1;have htl:t<H2.ths.length:=(gSi.1 hg).1;obtain⟨g',hg',hgp'⟩:=WeK (p:=p2) htl;exact hJ m v6 hm ⟨_,_,ts3,_,p',K6,⟨g',hg',by rw[hgp',hp']⟩,hr'⟩
  cases hrun with
  | done hok hnone=>exact go hok (λ_=>⟨rfl,rfl,rfl⟩) λhf=>by rw[hnone]at hf;cases hf
  | next hok hsome hrun'=>exact go hok (λhf=>by rw[hsome]at hf;cases hf) λ_=>⟨_,_,Nat.lt_succ_self _,hsome,hrun'⟩
end Go.Ar