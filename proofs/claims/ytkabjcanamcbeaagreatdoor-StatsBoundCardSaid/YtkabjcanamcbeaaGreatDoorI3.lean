/- Texts joined. -/
import Derived.Lib.Overlaps
import Derived.Laws.Externs
import Derived.Test.YtkabjcanamcbeaaGreatDoorI2
set_option linter.unusedVariables false
set_option linter.unusedSimpArgs false
namespace Go.Ar
open Go Go.Vc Go.Proofs
variable {σ:Hp}{F:Rg}{p q:Nat}{c:Cls}{s:SpA}
def tkN (tk:List Bool):List Nat:=tk.map λb=>if b then 1 else 0
theorem HO (tk:List Bool):(tkN tk).length=tk.length:=by simp[tkN]
theorem Uc {tk:List Bool}{i:Nat}{b:Bool}(h:tk[i]?=some b):(tkN tk)[i]?=some (if b then 1 else 0):=by simp[tkN,h]
theorem WiZ (tk:List Bool)(i:Nat)(b:Bool):tkN (tk.set i b)=(tkN tk).set i (if b then 1 else 0):=by simp[tkN,zDQ]
structure SpH (σ:Hp) (p q:Nat) (c:Cls) (s:SpA):Prop where
 hd:∃cap,c.n<=cap/\Blk σ p [.int .i64 (s.st:Int),.int .i64 (c.size:Int),.int .i64 (c.pages:Int),.int .i64 (c.batch:Int),.slice (some ⟨q,0,none⟩) c.n cap,.int .i64 (s.many:Int)]
 row:∃rest,Blk σ q (ints (tkN s.tk)++rest)
 ne:p≠q
 len:s.tk.length=c.n
 ok:c.ok
 fit:s.st+c.pages<=1024
theorem SpH.keep {σ':Hp}(h:SpH σ p q c s)(e:Ext F σ σ')(hp:¬F p)(hq:¬F q):SpH σ' p q c s:=
 ⟨by obtain⟨c,h1,h2⟩:=h.hd;exact⟨c,h1,e.blk h2 hp⟩,by obtain⟨r,h1⟩:=h.row;exact⟨r,e.blk h1 hq⟩,h.ne,h.len,h.ok,h.fit⟩
theorem SpH.keep0 {σ':Hp}(h:SpH σ p q c s)(e:Ext0 σ σ'):SpH σ' p q c s:=h.keep e id id
theorem SpH.lt (h:SpH σ p q c s):p<σ.size/\q<σ.size:=by
 obtain⟨_,_,h1⟩:=h.hd;obtain⟨_,h2⟩:=h.row;exact⟨h1.lt,h2.lt⟩
theorem SpH.rS (h:SpH σ p q c s){K:Sl->Prop}(hK:∀cap,c.n<=cap->K ⟨some ⟨q,0,none⟩,c.n,cap⟩):LdS (Addr.add ⟨p,0,none⟩ 4) σ K:=by
 obtain⟨cp,h1,h2⟩:=h.hd;exact h2.rS rfl (hK cp h1)
theorem SpH.rI (h:SpH σ p q c s){i:Nat}{x:Int}(hx:∀a b:Value,([.int .i64 (s.st:Int),.int .i64 (c.size:Int),.int .i64 (c.pages:Int),.int .i64 (c.batch:Int),a,.int .i64 (s.many:Int)]:List Value)[0+i]?=some (.int .i64 x)){K:Int->Prop}(hK:K x):LdI .i64 (Addr.add ⟨p,0,none⟩ i) σ K:=by
 obtain⟨cp,h1,h2⟩:=h.hd;exact h2.rI (hx _ .nilFunc) hK
theorem SpH.rI2 (h:SpH σ p q c s){i j:Nat}{x:Int}(hx:∀a b:Value,([.int .i64 (s.st:Int),.int .i64 (c.size:Int),.int .i64 (c.pages:Int),.int .i64 (c.batch:Int),a,.int .i64 (s.many:Int)]:List Value)[0+i+j]?=some (.int .i64 x)){K:Int->Prop}(hK:K x):LdI .i64 (Addr.add (Addr.add ⟨p,0,none⟩ i) j) σ K:=by
 obtain⟨cp,h1,h2⟩:=h.hd;exact h2.rI2 (hx _ .nilFunc) hK
theorem SpH.states (h:SpH σ p q c s)(cap:Nat):SlR ⟨some ⟨q,0,none⟩,c.n,cap⟩ 1 (ints (tkN s.tk)) σ (· = q):=by
 obtain⟨r,h2⟩:=h.row;refine h2.slR (o:=0) rfl (by rw[Z0,HO,h.len];simp) λj hj=>?_;rw[zG,zd hj]
theorem U8 (h:SpH σ p q c s){R:Bool->Hp->Prop}(hR:R true σ):X2.c (some ⟨p,0,none⟩) σ R:=by
 refine X2.o ?_;unfold X2.v;refine JnB.intro (ifT rfl (nilP (h.rS λcap _=>?_)));have:=h.ok.n_pos;rw[zQ (by simp only;omega)];exact hR
theorem H5 (h:SpH σ p q c s){R:Int->Hp->Prop}(hR:R (c.n:Int) σ):Xx.c (some ⟨p,0,none⟩) σ R:=by
 refine Xx.o ?_;unfold Xx.v;exact U8 h (ifF rfl (nilP (h.rS λcap _=>hR)))
theorem Wae (h:SpH σ p q c s)(i:Nat)(hi:i<=1000){R:Int->Hp->Prop}(hR:R ((at_ c s i:Nat):Int) σ):Ya.c (some ⟨p,0,none⟩) (i:Int) σ R:=by
 refine Ya.o ?_;unfold Ya.v;have hc:=h.ok;unfold Cls.ok at hc;have:=h.fit;have h2:i*c.size<=1000*512:=zo hi (by omega);refine nilP (h.rI (λ_ _=>rfl) (arN (m:=s.st*256) (by simp) (by omega) (nilP (h.rI2 (λ_ _=>rfl) ?_))));exact arN (m:=i*c.size) (by simp) (by omega) (arN (m:=at_ c s i) (by simp[at_]) (by unfold at_;omega) hR)
theorem Waq (h:SpH σ p q c s)(x:Int)(hx2:x<=9223372036854775807){R:Int->Int->Hp->Prop}(h1:∀i,idx c s x=some i->R (i:Int) 0 σ)(h0:idx c s x=none->R 0 8 σ):XY.c (some ⟨p,0,none⟩) x σ R:=by
 refine XY.o ?_;unfold XY.v;have hc:=h.ok;unfold Cls.ok at hc;have hn:=h.ok.n_le;have hfit:=h.fit;have hlen:=h.len;have hm:c.n*c.size<=128*512:=zo hn (by omega);refine U8 h (ifF rfl (Wae h 0 (by omega) ?_));have e0:at_ c s 0=s.st*256:=by simp[at_]
 rw[e0];refine arW ?_;refine Jn.intro (Wae h 0 (by omega) ?_);rw[e0];refine ifD (λhlt=>ifT rfl (h0 ?_)) λhge=>?_
 ·unfold idx;rw[zB (by omega)]
 ·rw[Vu (by omega) (by omega)];obtain⟨y,hy⟩:=zi (show 0<=x by omega);have key:If (decide (x-((s.st*256:Nat):Int)≥((c.n*c.size:Nat):Int))) (R 0 8 σ)
   (NilP (some ⟨p,0,none⟩) λa35=>LdI .i64 ((a35.add 1).add 0) σ λt38=>Nz t38<|Ar .i64 ((x-((s.st*256:Nat):Int)).tdiv t38) λt39=>R t39 0 σ):=by
   refine ifD (λhge2=>h0 ?_) λhlt2=>nilP (h.rI2 (λ_ _=>rfl) (nz (by omega) ?_))
   ·unfold idx;rw[hlen,zB (by omega)]
   ·have:idx c s x=some ((x-((s.st*256:Nat):Int)).toNat/c.size):=by unfold idx;rw[hlen,zA (by omega)]
    refine arN (m:=(x-((s.st*256:Nat):Int)).toNat/c.size) ?_ ?_ (h1 _ this)
    ·rw[YQ (by omega)];have:x-((s.st*256:Nat):Int)=(((x-((s.st*256:Nat):Int)).toNat:Nat):Int):=by omega
     rw[this];simp
    ·have:=Nat.div_le_self (x-((s.st*256:Nat):Int)).toNat c.size;omega
  refine nilP (nilP ⟨h.rS λcap hcap=>h.rI2 (λ_ _=>rfl) (arN (m:=c.n*c.size) (by simp) (by omega) key),h.rI2 (λ_ _=>rfl) (h.rS λcap hcap=>arN (m:=c.n*c.size) (by simp) (by omega) key)⟩)
theorem WbK (h:SpH σ p q c s)(x:Int)(hx2:x<=9223372036854775807){R:Int->Int->Hp->Prop}(h1:∀i,obj c s x=some i->i<c.n->R (i:Int) 0 σ)(h0:obj c s x=none->R 0 8 σ):XW.c (some ⟨p,0,none⟩) x σ R:=by
 refine XW.o ?_;unfold XW.v;have hc:=h.ok;unfold Cls.ok at hc;have hn:=h.ok.n_le;refine Waq h x hx2 (λi hi=>JnB.intro (ifT rfl ?_)) λhi=>JnB.intro (ifF rfl (ifF rfl (h0 (by unfold obj;rw[hi]))));have hin:=((KJ (by omega)).1 hi).2.2;rw[h.len]at hin;refine Wae h i (by omega) (iff_ (λhe=>h0 ?_) λhe=>h1 i ?_ hin)
 ·have:¬x=((at_ c s i:Nat):Int):=λe=>by rw[e]at he;simp at he
  unfold obj;rw[hi];simp[this]
 ·have:x=((at_ c s i:Nat):Int):=by
   have:((at_ c s i:Nat):Int)=x:=by simpa using he
   exact this.symm
  unfold obj;rw[hi];simp[this]
def SpA.is (s:SpA)(i:Nat):Bool:=s.tk.getD i false
theorem SpA.is_get {s:SpA}{i:Nat}(hi:i<s.tk.length):s.tk[i]?=some (s.is i):=by
 simp[SpA.is,zO,gGe hi]
theorem WcP (h:SpH σ p q c s)(x:Int)(hx2:x<=9223372036854775807){R:Bool->Int->Hp->Prop}(h1:∀i,obj c s x=some i->R (s.is i) 0 σ)(h0:obj c s x=none->R false 8 σ):X6.c (some ⟨p,0,none⟩) x σ R:=by
 refine X6.o ?_;unfold X6.v;refine WbK h x hx2 (λi hi hin=>ifF rfl (nilP (h.rS λcap hcap=>?_))) λhi=>ifT rfl (h0 hi);rw[←h.len]at hin;refine(h.states cap).ixN (Uc (SpA.is_get hin)) ?_;have:=h1 i hi;cases hb:s.is i<;>rw[hb]at this<;>simpa using this
theorem UZ {s:SpA}{i:Nat}(hi:i<s.tk.length)(v:Bool):((s.put i v).many:Int)=s.many+((if v then 1 else 0)-(if s.is i then 1 else 0)):=by
 have key:∀(l:List Bool) (i:Nat) (b:Bool),l[i]?=some b->(((l.set i v).count true:Nat):Int)=(l.count true:Nat)+((if v then 1 else 0)-(if b then 1 else 0)):=by
  intro l
  induction l with
  | nil=>intro i b h;simp at h
  | cons x l ih=>
   intro i b h;cases i with
   | zero=>
    simp at h;subst h;cases v<;>cases x<;>simp[List.count_cons]<;>omega
   | succ i=>
    have:=ih i b (by simpa using h);simp only[zCL,List.count_cons]
    push_cast
    omega
 exact key s.tk i _ (SpA.is_get hi)
theorem U2 (s:SpA):s.many<=s.tk.length:=zGA
theorem WeH (h:SpH σ p q c s){i:Nat}(hi:i<c.n)(v:Bool){sl:Sl}{G:Rg}(hs:SlR sl 1 (ints [i]) σ G){R:Hp->Prop}(hR:∀σ',Ext (λb=>b=p\/b=q) σ σ'->SpH σ' p q c (s.put i v)->R σ') :
 YL.c (some ⟨p,0,none⟩) (if v then 1 else 0) sl σ R:=by
 refine YL.o ?_;unfold YL.v;have hl1:sl.len=1:=hs.lenN;have hn:=h.ok.n_le;have hlen:=h.len;have hm:=U2 s;have hit:i<s.tk.length:=by omega
 have hmany:=UZ hit v;refine Zw (a:=.i .i64) (λ(t:Int) h'=>t=0/\h'=σ\/t=1/\Ext (λb=>b=p\/b=q) σ h'/\SpH h' p q c (s.put i v)) (λt _=>1-t.toNat) (.inl ⟨rfl,rfl⟩) ?_;rintro t h' (⟨rfl,rfl⟩|⟨rfl,e,hS⟩)
 ·refine ifDT (by omega) ?_;refine hs.ixN (i:=0) (x:=i) rfl (nilP (h.rI (λ_ _=>rfl) (nilP (h.rS λcap hcap=>?_))));refine(h.states cap).ixN (Uc (SpA.is_get hit)) ?_;have hb1:(0:Int)<=(if v then 1 else 0)/\(if v then(1:Int)else 0)<=1:=by cases v<;>simp
  have hb2:(0:Int)<=((if s.is i then 1 else 0:Nat):Int)/\((if s.is i then 1 else 0:Nat):Int)<=1:=by cases s.is i<;>simp
  have hcast:((if s.is i then 1 else 0:Nat):Int)=(if s.is i then 1 else 0):=by cases s.is i<;>rfl
  refine ar (by omega) (by omega) (ar (by omega) (by omega) (nilP ?_));obtain⟨cp,hcp,hd⟩:=h.hd;obtain⟨r,hrow⟩:=h.row;refine hd.s1 (by simp) λh2 ho2 hd2=>?_;have hrow2:=Wr ho2 hrow (Ne.symm h.ne);refine nilP (hd2.rS rfl (ix (by omega) (by simp only;omega) ?_));rw[add_lit];refine hrow2.s0 (by simp[Z0,HO];omega) λh3 ho3 hr3=>?_;refine arN (m:=1) (by omega) (by omega) ⟨.inr ⟨rfl,?_,?_⟩,by decide⟩
  ·exact(Ext.of_only (F:=λb=>b=p\/b=q) ho2 (.inl rfl)).trans (Ext.of_only ho3 (.inr rfl))
  ·refine⟨⟨cp,hcp,?_⟩,⟨r,?_⟩,h.ne,by simp[SpA.put,h.len],h.ok,h.fit⟩
   ·have:=Wr ho3 hd2 h.ne;rw[hmany,←hcast];exact this
   ·have e:(ints (tkN s.tk)++r).set (0+(i:Int).toNat*1) (.int .i64 (if v then 1 else 0))=ints (tkN (s.put i v).tk)++r:=by
     rw[List.set_append_left _ _ (by simp[Z0,HO];omega)]
     congr 1
     simp only[SpA.put,WiZ,ints,zDQ];have:(0+(i:Int).toNat*1)=i:=by omega
     rw[this]
     congr 1
     cases v<;>rfl
    rw[e]at hr3;exact hr3
 ·exact ifDF (by omega) (hR _ e hS)
theorem Wjl (h:SpH σ p q c s){x:Int}{i:Nat}(hx2:x<=9223372036854775807)(ho:obj c s x=some i)(ht:s.is i=true){R:Int->Hp->Prop}(hR:∀σ',Ext (λb=>b=p\/b=q) σ σ'->SpH σ' p q c (s.put i false)->R 0 σ') :
 Y4.c (some ⟨p,0,none⟩) x σ R:=by
 refine Y4.o ?_;unfold Y4.v;refine WbK h x hx2 (λj hj hin=>ifF rfl (nilP (h.rS λcap hcap=>?_))) λhn=>by rw[ho]at hn;cases hn
 rw[ho]at hj;cases hj;have hin':i<s.tk.length:=by rw[h.len];exact hin
 refine(h.states cap).ixN (Uc (SpA.is_get hin')) ?_;rw[ht];refine ifF rfl (nw (cs:=ints [i]) λv hz e hb=>?_);have hq:=h.lt;exact WeH (h.keep0 e) hin false (WaE hb rfl) λσ' e' h'=>hR σ' (e.to.trans e') h'
theorem Wib (h:SpH σ p q c s){i:Nat}(hlow:low s=some i){R:Int->Int->Hp->Prop}(hR:∀σ',Ext (λb=>b=p\/b=q) σ σ'->SpH σ' p q c (s.put i true)->R ((at_ c s i:Nat):Int) 0 σ') :
 Y1.c (some ⟨p,0,none⟩) σ R:=by
 refine Y1.o ?_;unfold Y1.v;have hn:=h.ok.n_le;have hlow':=zAU.1 hlow;obtain⟨hi,hf,hb⟩:=hlow';have hfi:s.tk[i]=false:=by simpa using hf
 refine U8 h (ifF rfl (nilP (h.rS λcap hcap=>?_)));refine WdE (h.states cap) (by simp[HO,h.len];omega) 0 (λj hj hno=>?_) λhno=>?_
 ·have hjl:j<s.tk.length:=by
   have:=(gSi.1 hj).1
   rwa [HO]at this
  have hji:j=i:=by
   rcases zBO j i with h1|h1|h1
   ·have:=hb j h1;rw[Uc (gGe hjl)]at hj;have:s.tk[j]=true:=by simpa using this
    simp[this]at hj
   ·exact h1
   ·exact absurd (by rw[Uc (gGe hi),hfi];rfl) (hno i h1)
  subst hji;rw[h.len]at hi;refine ifDF (by omega) (nw (cs:=ints [j]) λv hz e hb'=>?_);refine WeH (h.keep0 e) hi true (WaE hb' rfl) λσ' e' h'=>Wae h' j (by omega) (hR σ' (e.to.trans e') h')
 ·exfalso;apply hno;exact zE (i:=i) (by rw[Uc (gGe hi),hfi];rfl)
theorem WiJ (h:SpH σ p q c s){R:Int->Int->Hp->Prop}(hR:∀σ',Ext0 σ σ'->R (s.st:Int) (c.pages:Int) σ'):Y6.c (some ⟨p,0,none⟩) σ R:=by
 refine Y6.o ?_;unfold Y6.v;refine nw (cs:=[.int .i64 0,.int .i64 0]) λv hz e hb=>?_;have h1:=h.keep0 e;refine U8 h1 (ifF rfl (nilP (h1.rI (λ_ _=>rfl) (nilP (h1.rI2 (λ_ _=>rfl) ?_)))));refine hb.s1 (by simp) λv2 ho2 hb2=>hb2.s1 (by simp) λv3 ho3 hb3=>?_;refine hb3.rI rfl (hb3.rI rfl (hR _ ?_));exact Ext.fresh (Ext.fresh e (Ext.of_only (F:=(· = σ.size)) ho2 rfl) λi hi=>by omega) (Ext.of_only (F:=(· = σ.size)) ho3 rfl) λi hi=>by omega
theorem WeA (n:Nat):(List.replicate n [Value.int .i64 0]).flatten=ints (List.replicate n 0):=by
 induction n with
 | zero=>rfl
 | succ n ih=>simp only[zEI,zDC,ih];rfl
theorem Wj5 (hc:c.ok){st:Nat}(hf:st+c.pages<=1024){R:Option Addr->Int->Hp->Prop}(hR:∀σ' p q,Ext0 σ σ'->σ.size<=p->σ.size<=q->SpH σ' p q c ⟨st,List.replicate c.n false⟩->R (some ⟨p,0,none⟩) 0 σ') :
 Qz.c (st:Int) c.size c.pages c.batch σ R:=by
 refine Qz.o ?_;unfold Qz.v;have hk:=hc;unfold Cls.ok at hk;have hn:=hc.n_le;refine nw (cs:=[.int .i64 c.size,.int .i64 c.pages,.int .i64 c.batch]) λv hz e hb=>?_;refine hb.rI rfl (hb.rI rfl (hb.rI rfl (Vv _ _ _ (λc' hc' e1 e2 e3 v1 ex=>?_) λhno=>?_)))
 case refine_2=>rw[(Vg c).2 hc]at hno;cases hno
 have:c'=c:=by
  obtain⟨a,b,d⟩:=c;obtain⟨a',b',d'⟩:=c';simp only at e1 e2 e3
  congr 1<;>omega
 subst this;have hb1:=ex.blk hb id;refine JnB.intro (ifF rfl (JnB.intro (ifDF (by omega) (hb1.rI rfl (arN (m:=1024-c'.pages) (by omega) (by omega) (ifDF (by omega) ?_))))));refine⟨λh'=>Blk h' σ.size [.int .i64 c'.size,.int .i64 c'.pages,.int .i64 c'.batch],hb1,⟨_,λh' hS=>by rw[add_lit,hS.cell];rfl,⟨_,λh' hS=>by rw[add_lit,hS.cell];rfl,⟨_,λh' hS=>by rw[add_lit,hS.cell];rfl,?_⟩⟩⟩⟩;refine mk (by omega) (by omega) λv2 hz2 ex2 hb2=>⟨ex2.blk hb1 id,nw (cs:=[.int .i64 (st:Int),.int .i64 c'.size,.int .i64 c'.pages,.int .i64 c'.batch,.slice (some ⟨v1.size,0,none⟩) c'.n c'.n,.int .i64 0]) λv3 hz3 ex3 hb3=>⟨(ex2.trans ex3).blk hb1 id,?_⟩⟩;rw[WeA]at hb2;have hsz:=ex.1;refine hR _ _ _ (((e.trans ex).trans ex2).trans ex3) (by omega) (show σ.size<=v1.size by omega) ⟨⟨c'.n,zD _,?_⟩,⟨[],?_⟩,by omega,by simp,hc,hf⟩
 ·have:SpA.many ⟨st,List.replicate c'.n false⟩=0:=by simp[SpA.many,zFA]
  rw[this];exact hb3
 ·have:tkN (List.replicate c'.n false)=List.replicate c'.n 0:=by simp[tkN]
  rw[this,zAL];exact ex3.blk hb2 id
end Go.Ar
namespace Go.Proofs
open Go.Vc
set_option maxRecDepth 100000
def XH.h:Hn:=.q .o1 (.q (.q .o3 (.c (.q .o1 .l) .l)) (.q .o1 (.q (.q .o6 (.k (.loop [(3,.one .s),(14,.I)] (.q .o1 (.q (.c .l .l) (.q (.k (.q .o4 .o7)) .o2)))))) (.q .o2 .l))))
def XH.v (a:R2)(b:Hp)(c:Sl->Hp->Prop):Prop:=Ww.c a b λd e=>If (!d) (c ⟨none,0,0⟩ e) (NilP a λf=>LdS (f.add 3) e λg=>XL [.s,(.i .i64)] (λh=>h ⟨none,0,0⟩ 0 e) λi (j:Sl) (k:Int) l=>If (k<((g.len:Nat):Int)) (Ix g.a g.len k 3 λm=>LdI .i64 (m.add 0) l λn=>LdI .i64 (m.add 1) l λo=>LdP (m.add 2) l λp=>Nw (.cells #[.I 0,.I 0,.pointer none] 210 (0,0)) l λq r=>St1 (q.add 0) (.I n) r λs=>St1 (q.add 1) (.I o) s λt=>St1 (q.add 2) (.pointer p) t λu=>LdP (q.add 2) u λv=>Y6.c v u λw x y=>Nw (.cells #[.I w,.I x] 92 (0,0)) y λz aa=>App j 2 16 92 [.I 0,.I 0] ⟨some z,1,1⟩ aa λab ac=>Ar .i64 (k+1) λad=>i ab ad ac) (c j l))
theorem XH.o {a b c}(d:XH.v a b c):XH.c a b c:=Wa Tryz.func107 (x:=XH.h) (R0 d)
def X1.h:Hn:=.q .o1 (.q (.q .o3 (.c (.q .o1 .l) .l)) (.q .o1 (.q (.q .o6 (.k (.loop [(3,.I),(14,.I)] (.q .o1 (.q (.c .l .l) (.q (.k (.q .o4 (.reg (.held true [] (.take 0 (.take 1 (.take 2 (.take 4 (.take 5 (.take 6 (.all [(3,.take 7 (.take 8 (.take 9 (.done))))]))))))))))) .o2)))))) (.q .o2 .l))))
def X1.v (a:R2)(b:Hp)(c:Int->Hp->Prop):Prop:=Ww.c a b λd e=>If (!d) (c 0 e) (NilP a λf=>LdS (f.add 3) e λg=>XL [(.i .i64),(.i .i64)] (λh=>h 0 0 e) λi (j:Int) (k:Int) l=>If (k<((g.len:Nat):Int)) (Ix g.a g.len k 3 λm=>LdI .i64 (m.add 0) l λn=>LdI .i64 (m.add 1) l λo=>LdP (m.add 2) l λp=>Nw (.cells #[.I 0,.I 0,.pointer none] 210 (0,0)) l λq r=>St1 (q.add 0) (.I n) r λs=>St1 (q.add 1) (.I o) s λt=>St1 (q.add 2) (.pointer p) t λu=>Held u λv=>LdH v .p (q.add 2) λ(w:R2)=>LdH v (.i .i64) ((q.add 0).add 0) λ(x:Int)=>Xx.c w u λy z=>And (v z) <| Ar .i64 (y-x) λaa=>Ar .i64 (j+aa) λab=>Ar .i64 (k+1) λac=>i ab ac z) (c j l))
theorem X1.o {a b c}(d:X1.v a b c):X1.c a b c:=Wa Tryz.func109 (x:=X1.h) (R0 d)
def X9.h:Hn:=.q .o2 (.q (.q .o3 (.c (.q .o2 .l) .l)) (.q .o4 (.q (.q .o2 (.c (.q .o2 .l) .l)) (.q (.o 11) (.q (.oq 16) .l)))))
def X9.v (a:R2)(b:Int)(c:Hp)(d:Int->Int->Hp->Prop):Prop:=Ww.c a c λe f=>If (!e) (d 0 5 f) (Xu.c a b f λg h=>If g.isNone (d 0 8 h) (NilP g λi=>LdP (i.add 2) h λj=>XY.c j b h λk l m=>NilP g λn=>LdI .i64 ((n.add 0).add 1) m λo=>Ar .i64 (o*256) λp=>NilP a λq=>LdI .i64 ((q.add 0).add 0) m λr=>Ar .i64 (k*r) λs=>Ar .i64 (p+s) λt=>d t 0 m))
theorem X9.o {a b c d}(e:X9.v a b c d):X9.c a b c d:=Wa Tryz.func115 (x:=X9.h) (R0 e)
def Ww.h:Hn:=.q .o1 (.q (.reg (.seq [.op,.op,.op,.grd true 6 (RI.ops 6),.op])) .l)
def Ww.v (a:R2)(b:Hp)(c:Bool->Hp->Prop):Prop:=JnB (λd e=>c d e) λf=>If (!a.isNone) (NilP a λg=>LdI .i64 ((g.add 0).add 0) b λh=>f (decide (h>0)) b) (f false b)
theorem Ww.o {a b c}(d:Ww.v a b c):Ww.c a b c:=Wa Tryz.func137 (x:=Ww.h) (R0 d)
def Xu.h:Hn:=.q .o1 (.q (.q .o6 (.k (.loop [(13,.I)] (.q .o1 (.q (.c .l .l) (.q (.k (.q .o2 (.q (.o 15) (.q .o2 (.c (.q .o7 .l) .l))))) .o2)))))) (.q .o1 .l))
def Xu.v (a:R2)(b:Int)(c:Hp)(d:Option Addr->Hp->Prop):Prop:=NilP a λe=>LdS (e.add 3) c λf=>XL [(.i .i64)] (λg=>g 0 c) λh (i:Int) j=>If (i<((f.len:Nat):Int)) (NilP a λk=>LdS (k.add 3) j λl=>Ix l.a l.len i 3 λm=>LdP (m.add 2) j λn=>XY.c n b j λo p q=>If (p==0) (NilP a λr=>LdS (r.add 3) q λs=>Ix s.a s.len i 3 λt=>d (some t) q) (Ar .i64 (i+1) λu=>h u q)) (d none j)
theorem Xu.o {a b c d}(e:Xu.v a b c d):Xu.c a b c d:=Wa Tryz.func145 (x:=Xu.h) (R0 e)
def ZA.h:Hn:=.q .o3 (.q (.q .o7 (.q .o2 (.c (.q .o2 .l) .l))) (.q .o5 .l))
def ZA.v (a b c:Int)(d:Hp)(e:Option Addr->Int->Hp->Prop):Prop:=Nw (.cells #[.I a,.I b,.I c] 31 (0,0)) d λf g=>LdI .i64 (f.add 0) g λh=>LdI .i64 (f.add 1) g λi=>LdI .i64 (f.add 2) g λj=>YB.c h i j g λk l m=>If (l != 0) (e none 1 m) (LdI .i64 (f.add 0) m λn=>LdI .i64 (f.add 1) m λo=>LdI .i64 (f.add 2) m λp=>Nw (.cells #[.I n,.I o,.I p,.slice none 0 0] 205 (0,0)) m λq r=>e (some q) 0 r)
theorem ZA.o {a b c d e}(f:ZA.v a b c d e):ZA.c a b c d e:=Wa Tryz.func156 (x:=ZA.h) (R0 f)
def XI.h:Hn:=.q .o1 (.q (.q .o3 (.c (.q .o1 .l) .l)) (.q .o1 (.q .o10 (.q .o2 .l))))
def XI.v (a:R2)(b:Hp)(c:Sl->Hp->Prop):Prop:=Ww.c a b λd e=>If (!d) (c ⟨none,0,0⟩ e) (Nw (.cells #[.slice none 0 0] 51 (0,0)) e λf g=>NilP a λh=>LdS (h.add 3) g λi=>We.c i ⟨228,#[],#[.pointer (some f)]⟩ g λj k=>NilP a λl=>St1 (l.add 3) (.slice j.a j.len j.cap) k λm=>LdS f m λn=>c n m)
theorem XI.o {a b c}(d:XI.v a b c):XI.c a b c:=Wa Tryz.func190 (x:=XI.h) (R0 d)
def W0.h:Hn:=.q .o2 (.q (.k (.q .o4 (.c (.q .o2 .l) (.q .o3 (.c (.q .o2 .l) .l))))) (.q .o1 (.q (.k (.loop [(6,.one .s)] (.q (.q .o4 (.c .l .l)) (.k (.q .o7 (.q (.q .o2 (.c .l .l)) .o5)))))) (.q .o3 .l))))
def W0.v (a:R2)(b:Int)(c:Hp)(d:Sl->Int->Hp->Prop):Prop:=Ww.c a c λe f=>If (!e) (d ⟨none,0,0⟩ 5 f) (If (b<0) (d ⟨none,0,0⟩ 1 f) (XL [.s] (λg=>g ⟨none,0,0⟩ f) λh (i:Sl) j=>If (((i.len:Nat):Int)<b) (Yy.c a j λk l m=>If (!l) (d i 0 m) (Nw (.cells #[.I k] 3 (0,0)) m λn o=>App i 1 8 3 [.I 0] ⟨some n,1,1⟩ o λp q=>h p q)) (d i 0 j)))
theorem W0.o {a b c d}(e:W0.v a b c d):W0.c a b c d:=Wa Tryz.func214 (x:=W0.h) (R0 e)
def Ys.h:Hn:=.q .o1 (.q (.q .o3 (.c (.q .o1 .l) .l)) (.q (.o 11) (.q (.q .o2 (.c (.q .o2 .l) .l)) (.q (.q .o6 (.k (.loop [(31,.I)] (.q .o1 (.q (.c .l .l) (.q (.k (.q .o4 (.q (.oq 17) (.c (.q .o1 .l) .l)))) .o2)))))) (.q (.o 11) (.q (.o 15) (.q .o1 .l)))))))
def Ys.v (a:R2)(b:Int)(c:Hp)(d:Int->Hp->Prop):Prop:=Ww.c a c λe f=>If (!e) (d 5 f) (NilP a λg=>LdI .i64 ((g.add 0).add 0) f λh=>LdI .i64 ((g.add 0).add 1) f λi=>LdI .i64 ((g.add 0).add 2) f λj=>Qz.c b h i j f λk l m=>If (l != 0) (d l m) (NilP a λn=>LdS (n.add 3) m λo=>XL [(.i .i64)] (λp=>p 0 m) λq (r:Int) s=>If (r<((o.len:Nat):Int)) (Ix o.a o.len r 3 λt=>LdI .i64 (t.add 0) s λu=>LdI .i64 (t.add 1) s λv=>LdP (t.add 2) s λw=>Nw (.cells #[.I 0,.I 0,.pointer none] 210 (0,0)) s λx y=>St1 (x.add 0) (.I u) y λz=>St1 (x.add 1) (.I v) z λaa=>St1 (x.add 2) (.pointer w) aa λab=>LdI .i64 ((x.add 0).add 1) ab λac=>LdI .i64 ((x.add 0).add 1) ab λad=>Ar .i64 ((if b>ac then b else ac)-(if b<ad then b else ad)) λae=>NilP a λaf=>LdI .i64 ((af.add 0).add 1) ab λag=>If (ae<ag) (d 9 ab) (Ar .i64 (r+1) λah=>q ah ab)) (NilP a λai=>LdS (ai.add 3) s λaj=>Wb.c aj b ⟨258,#[],#[]⟩ s λak al am=>NilP a λan=>LdS (an.add 3) am λao=>Nw (.cells #[.I 0,.I b,.pointer k] 210 (0,0)) am λap aq=>Wg.c ao ak ⟨some ap,1,1⟩ aq λar au=>NilP a λav=>St1 (av.add 3) (.slice ar.a ar.len ar.cap) au λaw=>d 0 aw)))
theorem Ys.o {a b c d}(e:Ys.v a b c d):Ys.c a b c d:=Wa Tryz.func216 (x:=Ys.h) (R0 e)
def XK.h:Hn:=.q .o2 (.sjn [] (.q .o4 (.c (.reg (.held true [6] (.take 0 (.take 1 (.take 2 (.all [(3,.all [(4,.all [(5,.all [(6,.done)])])])])))))) .l)) (.q .o5 .l))
def XK.v (a b:Int)(c:R2)(d:Addr)(e:Hp)(f:Bool->Hp->Prop):Prop:=Nw (.cells #[.I a,.I b,.pointer c] 210 (0,0)) e λg h=>Jn [] (λi=>LdI .i64 ((g.add 0).add 0) i λj=>f (j==0) i) λk=>LdI .i64 ((g.add 0).add 0) h λl=>If (l==0) (Held h λm=>LdH m .s d λ(n:Sl)=>LdH m .p (g.add 2) λ(o:R2)=>Y6.c o h λp q r=>And (m r) <| Nw (.cells #[.I p,.I q] 92 (0,0)) r λs t=>And (m t) <| App n 2 16 92 [.I 0,.I 0] ⟨some s,1,1⟩ t λu v=>And (m v) <| St1 d (.slice u.a u.len u.cap) v λw=>k w) (k h)
theorem XK.o {a b c d e f}(g:XK.v a b c d e f):XK.c a b c d e f:=Wa Tryz.func228 (x:=XK.h) (R0 g)
def YA.h:Hn:=.q .o2 (.q (.q .o3 (.c (.q .o2 .l) .l)) (.q .o1 (.q (.q .o3 (.k (.loop [(6,.one .b),(19,.I)] (.q .o1 (.q (.c .l .l) (.q (.k (.q .o5 (.q .o8 (.q (.q .o2 (.c (.q .o3 .l) .l)) (.reg (.seq [.op,.op,.grd false 2 [.op,.op],.op,.grd false 5 (RI.ops 5),.op])))))) .o2)))))) (.q (.q .o1 (.c (.q .o2 .l) .l)) (.q (.q .o3 (.k (.loop [(49,.I)] (.q .o1 (.q (.c .l .l) (.q (.k (.q .o3 (.q .o4 (.q .o6 .o10)))) .o2)))))) (.q .o4 .l))))))
def YA.v (a:R2)(b:Sl)(c:Hp)(d:Sl->Int->Hp->Prop):Prop:=Ww.c a c λe f=>If (!e) (d ⟨none,0,0⟩ 5 f) (XL [.b,(.i .i64)] (λg=>g false 0 f) λh (i:Bool) (j:Int) k=>If (j<((b.len:Nat):Int)) (Ix b.a b.len j 1 λl=>LdI .i64 l k λm=>WU.c a m k λn o p=>If (o != 0) (d ⟨none,0,0⟩ o p) (JnB (λq r=>JnB (λs t=>Ar .i64 (j+1) λu=>h s u t) λv=>If q (v true r) (SlcL b 1 0 j (b.cap:Nat) λw=>Wm.c w m r λx y=>v x y)) λz=>If i (z true p) (z (!n) p))) (If i (d ⟨none,0,0⟩ 9 k) (XL [(.i .i64)] (λaa=>aa 0 k) λab (ac:Int) ad=>If (ac<((b.len:Nat):Int)) (Ix b.a b.len ac 1 λae=>LdI .i64 ae ad λaf=>Xu.c a af ad λag ah=>NilP ag λai=>LdP (ai.add 2) ah λaj=>Y4.c aj af ah λak al=>NilP ag λam=>LdI .i64 ((am.add 0).add 0) al λan=>Ar .i64 (an-1) λao=>NilP ag λap=>St1 ((ap.add 0).add 0) (.I ao) al λaq=>Ar .i64 (ac+1) λar=>ab ar aq) (XI.c a ad λau av=>d au 0 av))))
theorem YA.o {a b c d}(e:YA.v a b c d):YA.c a b c d:=Wa Tryz.func246 (x:=YA.h) (R0 e)
def Yy.h:Hn:=.q .o2 (.q .o1 (.q (.q .o6 (.k (.loop [(4,.one .p),(14,.I)] (.q .o1 (.q (.c .l .l) (.q (.k (.q .o2 (.q .o7 (.q (.reg (.heldJ true [] [(48,.one .b)] (.take 0 (.take 1 (.take 2 (.take 3 (.take 4 (.take 5 (.take 6 (.take 7 (.take 8 (.all [(9,.take 10 (.take 11 (.split 34 (.take 12 (.take 13 (.take 14 (.split 37 (.take 15 (.take 16 (.take 17 (.take 18 (.take 19 (.take 20 (.take 21 (.take 22 (.take 23 (.take 24 (.take 25 (.done)))))))))))) (.take 15 (.take 16 (.take 17 (.take 19 (.take 20 (.take 21 (.all [(18,.all [(22,.all [(23,.take 24 (.take 25 (.done)))])]),(22,.all [(18,.all [(23,.take 24 (.take 25 (.done)))])])]))))))))))) (.take 12 (.take 13 (.take 14 (.take 15 (.take 16 (.take 17 (.take 18 (.take 19 (.take 20 (.take 21 (.take 22 (.take 23 (.take 24 (.take 25 (.done))))))))))))))))))])))))))))))) (.c .o2 .l))))) .o2)))))) (.q (.q .o2 (.c (.q .o2 .l) .l)) (.q .o10 (.q .o10 (.q .o3 .l))))))
def Yy.v (a:R2)(b:Hp)(c:Int->Bool->Hp->Prop):Prop:=NilP a λd=>LdS (d.add 3) b λe=>XL [.p,(.i .i64)] (λf=>f none 0 b) λg (h:R2) (i:Int) j=>If (i<((e.len:Nat):Int)) (NilP a λk=>LdS (k.add 3) j λl=>Ix l.a l.len i 3 λm=>Jn [.b] (λ(n:Bool) o=>If n (Ar .i64 (i+1) λp=>g (some m) p o) (Ar .i64 (i+1) λq=>g h q o)) λr=>Held j λs=>NilP (some m) λt=>LdH s (.i .i64) ((t.add 0).add 0) λ(u:Int)=>NilP (some m) λv=>LdH s .p (v.add 2) λ(w:R2)=>Xx.c w j λx y=>And (s y) <| If (u<x) (If h.isNone (r true y) (NilP (some m) λz=>NilP h λaa=>(LdI .i64 ((z.add 0).add 0) y λab=>LdI .i64 ((z.add 0).add 1) y λac=>And (s y) <| LdI .i64 ((aa.add 0).add 0) y λad=>LdI .i64 ((aa.add 0).add 1) y λae=>And (s y) <| WQ.c ab ac ad ae y λaf ag=>And (s ag) <| r af ag) ∧ (LdI .i64 ((aa.add 0).add 0) y λah=>LdI .i64 ((aa.add 0).add 1) y λai=>And (s y) <| LdI .i64 ((z.add 0).add 0) y λaj=>LdI .i64 ((z.add 0).add 1) y λak=>And (s y) <| WQ.c aj ak ah ai y λal am=>And (s am) <| r al am))) (r false y)) (If h.isNone (c 0 false j) (NilP h λan=>LdP (an.add 2) j λao=>Y1.c ao j λap aq ar=>NilP h λau=>LdI .i64 ((au.add 0).add 0) ar λav=>Ar .i64 (av+1) λaw=>NilP h λax=>St1 ((ax.add 0).add 0) (.I aw) ar λay=>c ap true ay))
theorem Yy.o {a b c}(d:Yy.v a b c):Yy.c a b c:=Wa Tryz.func251 (x:=Yy.h) (R0 d)
def Yj.h:Hn:=.q .o2 (.q .o6 .l)
def Yj.v (a b:Int)(c:R2)(d:Int)(e:Hp)(f:Int->Hp->Prop):Prop:=Nw (.cells #[.I a,.I b,.pointer c] 210 (0,0)) e λg h=>LdI .i64 ((g.add 0).add 1) h λi=>Ar .i64 (i-d) λj=>f j h
theorem Yj.o {a b c d e f}(g:Yj.v a b c d e f):Yj.c a b c d e f:=Wa Tryz.func258 (x:=Yj.h) (R0 g)
def WU.h:Hn:=.q .o2 (.q (.q .o3 (.c (.q .o2 .l) .l)) (.q .o4 (.q (.q .o2 (.c (.q .o2 .l) .l)) (.q .o10 .l))))
def WU.v (a:R2)(b:Int)(c:Hp)(d:Bool->Int->Hp->Prop):Prop:=Ww.c a c λe f=>If (!e) (d false 5 f) (Xu.c a b f λg h=>If g.isNone (d false 8 h) (NilP g λi=>LdP (i.add 2) h λj=>X6.c j b h λk l m=>d k l m))
theorem WU.o {a b c d}(e:WU.v a b c d):WU.c a b c d:=Wa Tryz.func263 (x:=WU.h) (R0 e)
def WQ.h:Hn:=.q .o3 (.q (.reg (.seq [.op,.op,.op,.op,.op,.op,.grd false 12 [.op,.op,.op,.op,.op,.op,.grd true 5 (RI.ops 5)],.op])) .l)
def WQ.v (a b c d:Int)(e:Hp)(f:Bool->Hp->Prop):Prop:=Nw (.cells #[.I a,.I b] 207 (0,0)) e λg h=>Nw (.cells #[.I c,.I d] 207 (0,0)) h λi j=>LdI .i64 (g.add 0) j λk=>LdI .i64 (i.add 0) j λl=>JnB (λm n=>f m n) λo=>If (k>l) (o true j) (LdI .i64 (g.add 0) j λp=>LdI .i64 (i.add 0) j λq=>JnB (λr s=>o r s) λt=>If (p==q) (LdI .i64 (g.add 1) j λu=>LdI .i64 (i.add 1) j λv=>t (decide (u<v)) j) (t false j))
theorem WQ.o {a b c d e f}(g:WQ.v a b c d e f):WQ.c a b c d e f:=Wa Tryz.func276 (x:=WQ.h) (R0 g)
end Go.Proofs
namespace Go.Ar
open Go Go.Vc Go.Proofs
variable {σ:Hp}{F:Rg}{p:Nat}{c:Cls}{ps:List (Nat×Nat)}{ss:List SpA}
def blks (ps:List (Nat×Nat)):List Nat:=ps.flatMap λx=>[x.1,x.2]
theorem VT {ps:List (Nat×Nat)}{b:Nat}:b∈blks ps↔∃x∈ps,b=x.1\/b=x.2:=by simp[blks]
def entV:List (Nat×Nat)->List SpA->List Value
 | x::ps,s::ss=>.int .i64 (s.many:Int) :: .int .i64 (s.st:Int) :: .pointer (some ⟨x.1,0,none⟩)::entV ps ss
 | _,_=>[]
theorem Qf:∀{ps:List (Nat×Nat)} {ss:List SpA},ps.length=ss.length->(entV ps ss).length=3*ss.length
 | [],[],_=>rfl
 | x::ps,s::ss,h=>by simp only[entV,zU]at *;rw[Qf (by omega)];omega
theorem ZJ:∀{ps:List (Nat×Nat)} {ss:List SpA} {i:Nat} {x:Nat×Nat} {s:SpA},ps[i]?=some x->ss[i]?=some s →
 (entV ps ss)[3*i]?=some (.int .i64 (s.many:Int))/\(entV ps ss)[3*i+1]?=some (.int .i64 (s.st:Int))/\(entV ps ss)[3*i+2]?=some (.pointer (some ⟨x.1,0,none⟩))
 | [],_,_,_,_,h,_=>by simp at h
 | _::_,[],_,_,_,_,h=>by simp at h
 | y::ps,t::ss,0,x,s,h1,h2=>by simp at h1 h2;subst h1;subst h2;simp[entV]
 | y::ps,t::ss,i+1,x,s,h1,h2=>by
  have:=ZJ (ps:=ps) (ss:=ss) (i:=i) (by simpa using h1) (by simpa using h2);simp only[entV];rw[show 3*(i+1)=3*i+3 by omega];simpa using this
theorem Q7:∀{ps ps':List (Nat×Nat)} {ss ss':List SpA},ps.length=ss.length->entV (ps++ps') (ss++ss')=entV ps ss++entV ps' ss'
 | [],_,[],_,_=>rfl
 | x::ps,_,s::ss,_,h=>by simp only[zAV,entV,Q7 (ps:=ps) (ss:=ss) (by simpa using h)]
theorem WbG:∀{ps:List (Nat×Nat)} {ss:List SpA},∀v∈entV ps ss,one1 v=true
 | [],_,v,h=>by simp[entV]at h
 | _::_,[],v,h=>by simp[entV]at h
 | x::ps,s::ss,v,h=>by
  simp only[entV,zX]at h;rcases h with rfl|rfl|rfl|h
  ·rfl
  ·rfl
  ·rfl
  ·exact WbG v h
structure CeH (σ:Hp) (F:Rg) (p:Nat) (c:Cls) (ps:List (Nat×Nat)) (ss:List SpA):Prop where
 hd:∃sl:Sl,Blk σ p [.int .i64 (c.size:Int),.int .i64 (c.pages:Int),.int .i64 (c.batch:Int),.slice sl.a sl.len sl.cap]/\RowR sl 3 (entV ps ss) σ (λb=>F b/\b≠p/\b∉blks ps)
 sp:∀(i:Nat) (x:Nat×Nat) s,ps[i]?=some x->ss[i]?=some s->SpH σ x.1 x.2 c s
 fp:F p
 fb:∀b∈blks ps,F b
 nd:(p::blks ps).Nodup
 len:ps.length=ss.length
 ok:c.ok
 srt:ss.Pairwise (λa b=>a.st<b.st)
theorem CeH.loc:Lcl λσ F=>CeH σ F p c ps ss:=λσ σ' F G h hz hs=>by
 obtain⟨sl,hb,hr⟩:=h.hd;have keep:∀b,b<σ.size->F b->σ'[b]?=σ[b]? := λb hb hf=>(hs b hb hf).2;have kb:∀{b:Nat} {cs:List Value},Blk σ b cs->F b->Blk σ' b cs:=by
  rintro b cs ⟨e,he⟩ hf;exact⟨e,(keep b (Blk.lt ⟨e,he⟩) hf).trans he⟩
 have lt:∀b∈blks ps,b<σ.size:=by
  intro b hb;obtain⟨x,hx,hbx⟩:=VT.1 hb;obtain⟨i,hi⟩:=zL hx;have hil:=(gSi.1 hi).1;have:=(h.sp i x _ hi (gGe (by rw[←h.len];exact hil))).lt;rcases hbx with rfl|rfl
  ·exact this.1
  ·exact this.2
 refine⟨⟨sl,kb hb h.fp,RowR.loc _ _ _ _ _ _ _ hr hz λb hb hf=>⟨⟨(hs b hb hf.1).1,hf.2⟩,(hs b hb hf.1).2⟩⟩,λi x s hx hsx=>?_,(hs p hb.lt h.fp).1,λb hb=>(hs b (lt b hb) (h.fb b hb)).1,h.nd,h.len,h.ok,h.srt⟩;have h1:=h.sp i x s hx hsx;have m1:x.1∈blks ps:=VT.2 ⟨x,zE hx,.inl rfl⟩;have m2:x.2∈blks ps:=VT.2 ⟨x,zE hx,.inr rfl⟩;obtain⟨cp,hc,hd⟩:=h1.hd;obtain⟨r,hr⟩:=h1.row;exact⟨⟨cp,hc,kb hd (h.fb _ m1)⟩,⟨r,kb hr (h.fb _ m2)⟩,h1.ne,h1.len,h1.ok,h1.fit⟩
theorem CeH.keep0 {σ':Hp}(h:CeH σ F p c ps ss)(e:Ext0 σ σ'):CeH σ' F p c ps ss:=Lcl.keep0 CeH.loc h e
theorem CeH.few (h:CeH σ F p c ps ss):ss.length<=1024:=by
 have key:∀i (hi:i<ss.length),i<=ss[i].st:=by
  intro i
  induction i with
  | zero=>intro _;omega
  | succ i ih=>
   intro hi;have h1:=ih (by omega);have h2:=zAF.1 h.srt i (i+1) (by omega) hi (by omega);omega
 rcases zFW ss.length with h0|h0
 ·omega
 ·have hl:ss.length-1<ss.length:=by omega
  have h1:=key _ hl;have hp:ss.length-1<ps.length:=by rw[h.len];exact hl
  have h2:=(h.sp _ _ _ (gGe hp) (gGe hl)).fit;have:=h.ok.2.2.2.1;omega
structure EnR (σ:Hp) (F:Rg) (p:Nat) (ps:List (Nat×Nat)) (ss:List SpA) (sl:Sl) (rb:Nat) (cs:List Value):Prop where
 a:sl.a=some ⟨rb,0,none⟩
 blk:Blk σ rb cs
 fr:F rb/\rb≠p/\rb∉blks ps
 get:∀{j:Nat} {v:Value},(entV ps ss)[j]?=some v->cs[j]?=some v
 lenC:3*ss.length<=cs.length
theorem CeH.sl (h:CeH σ F p c ps ss):∃sl:Sl,Blk σ p [.int .i64 (c.size:Int),.int .i64 (c.pages:Int),.int .i64 (c.batch:Int),.slice sl.a sl.len sl.cap]/\sl.len=ss.length/\(ss≠[]->∃rb cs,EnR σ F p ps ss sl rb cs):=by
 obtain⟨sl,hb,hr⟩:=h.hd;have hl:=hr.1;rw[Qf h.len]at hl;refine⟨sl,hb,by omega,λhne=>?_⟩;have hpos:0<ss.length:=zCA.2 hne;rcases hr.2 with⟨h0,_⟩|⟨b,cs,hq,ha,hbb,hle,hcl,ht⟩
 ·omega
 ·refine⟨b,cs,ha,hbb,hq,λ{j v} hj=>?_,?_⟩
  ·rw[←ht,zg]at hj;split at hj
   ·exact hj
   ·cases hj
  ·have:=congrArg List.length ht;rw[zY,Qf h.len]at this;omega
theorem CeH.at_i (h:CeH σ F p c ps ss){i:Nat}(hi:i<ss.length):∃x s,ps[i]?=some x/\ss[i]?=some s/\SpH σ x.1 x.2 c s:=by
 have hi2:i<ps.length:=by rw[h.len];exact hi
 have h1:ps[i]?=some ps[i]:=gGe hi2;exact⟨_,_,h1,gGe hi,h.sp i _ _ h1 (gGe hi)⟩
theorem QU (h:CeH σ F p c ps ss){R:Bool->Hp->Prop}(hR:R true σ):Ww.c (some ⟨p,0,none⟩) σ R:=by
 refine Ww.o ?_;unfold Ww.v;obtain⟨sl,hb,hl,hr⟩:=h.sl;have hc:=h.ok;unfold Cls.ok at hc;refine JnB.intro (ifT rfl (nilP (hb.rI2 rfl ?_)));rw[zQ (by omega)];exact hR
def I63 (x:Int):Prop:=x<=9223372036854775807
theorem WgU (h:CeH σ F p c ps ss)(x:Int)(hx:I63 x){R:Option Addr->Hp->Prop}(h0:ofS c ss x=none->R none σ)
 (h1:∀(i:Nat) sl rb cs,ofS c ss x=some i->i<ss.length->Blk σ p [.int .i64 (c.size:Int),.int .i64 (c.pages:Int),.int .i64 (c.batch:Int),.slice sl.a sl.len sl.cap]->EnR σ F p ps ss sl rb cs->R (some ⟨rb,3*i,none⟩) σ):Xu.c (some ⟨p,0,none⟩) x σ R:=by
 refine Xu.o ?_;unfold Xu.v;obtain⟨sl,hb,hl,hr⟩:=h.sl;have hfew:=h.few;refine nilP (hb.rS rfl ?_);refine Zw (a:=.i .i64) (λ(t:Int) h'=>∃i:Nat,t=(i:Int)/\i<=ss.length/\h'=σ/\∀(j:Nat) s,j<i->ss[j]?=some s->idx c s x=none) (λt _=>ss.length-t.toNat) ⟨0,rfl,by omega,rfl,λj s hj=>by omega⟩ ?_;rintro t h' ⟨i,rfl,hi,rfl,hno⟩;refine ifD (λhlt=>?_) λhge=>?_
 ·simp only at hlt;have hi':i<ss.length:=by omega
  obtain⟨xx,s,hp,hs,hS⟩:=h.at_i hi';obtain⟨rb,cs,E⟩:=hr (by rintro rfl;simp at hi');have eg:=ZJ hp hs;refine nilP (hb.rS rfl ?_);rw[E.a];refine ix (by omega) (by omega) ?_;rw[add_lit];refine E.blk.rP (x:=some ⟨xx.1,0,none⟩) ?_ ?_
  ·have:=E.get eg.2.2;rw[show 0+(i:Int).toNat*3+2=3*i+2 by omega];exact this
  have hfind:∀r,idx c s x=some r->ofS c ss x=some i:=by
   intro r hr';refine zAU.2 ⟨hi',?_,λj hj=>?_⟩
   ·have:ss[i]=s:=by rw[gGe hi']at hs;simpa using hs
    rw[this,hr'];rfl
   ·rw[hno j _ hj (gGe (by omega))];simp
  refine Waq hS x hx (λr hr'=>ifT rfl (nilP (hb.rS rfl ?_))) λhn=>ifF rfl ?_
  ·rw[E.a];refine ix (by omega) (by omega) ?_;rw[add_lit,show 0+(i:Int).toNat*3=3*i by omega];exact h1 i sl rb cs (hfind r hr') hi' hb E
  ·refine arN (m:=i+1) (by omega) (by omega) ⟨⟨i+1,rfl,by omega,rfl,λj s' hj hs'=>?_⟩,by omega⟩;by_cases e:j=i
   ·subst e;rw[hs]at hs';cases hs';exact hn
   ·exact hno j s' (by omega) hs'
 ·refine h0 ?_;refine zCP.2 λs hs=>?_;obtain⟨j,hj⟩:=zL hs;have:=(gSi.1 hj).1;rw[hno j s (by simp only at hge;omega) hj];rfl
theorem KB {x:Int}{k:Nat}{s:SpA}(hk:ofS c ss x=some k)(hs:ss[k]?=some s):isTk c ss x=(obj c s x).map s.is:=by
 unfold isTk;rw[hk];simp only[hs];rfl
theorem HR {x:Int}(hk:ofS c ss x=none):isTk c ss x=none:=by unfold isTk;rw[hk]
theorem HX (h:CeH σ F p c ps ss)(x:Int)(hx:I63 x){R:Bool->Int->Hp->Prop}(h1:∀b,isTk c ss x=some b->R b 0 σ)(h0:isTk c ss x=none->R false 8 σ):WU.c (some ⟨p,0,none⟩) x σ R:=by
 refine WU.o ?_;unfold WU.v;refine QU h (ifF rfl (WgU h x hx (λhn=>ifT rfl (h0 (HR hn))) λi sl rb cs hof hi hb E=>ifF rfl (nilP ?_)));obtain⟨xx,s,hp,hs,hS⟩:=h.at_i hi;have eg:=ZJ hp hs;refine E.blk.rP (x:=some ⟨xx.1,0,none⟩) (E.get eg.2.2) ?_;have hk:=KB hof hs;exact WcP hS x hx (λj hj=>h1 _ (by rw[hk,hj];rfl)) λhn=>h0 (by rw[hk,hn];rfl)
theorem Ud {x:Int}{k:Nat}{s:SpA}(hk:ofS c ss x=some k)(hs:ss[k]?=some s):Wap c ss x=(idx c s x).map (at_ c s):=by
 unfold Wap;rw[hk];simp only[hs]
theorem GH {x:Int}(hk:ofS c ss x=none):Wap c ss x=none:=by unfold Wap;rw[hk]
theorem Wi1 {x:Int}{k:Nat}{s:SpA}(hk:ofS c ss x=some k)(hs:ss[k]?=some s):∃i,idx c s x=some i:=by
 obtain⟨hi,hf,_⟩:=zAU.1 hk;have:ss[k]=s:=by rw[gGe hi]at hs;simpa using hs
 rw[this]at hf;exact zBP.1 hf
theorem Whk (h:CeH σ F p c ps ss)(x:Int)(hx:I63 x){R:Int->Int->Hp->Prop}(h1:∀a,Wap c ss x=some a->R (a:Int) 0 σ)(h0:Wap c ss x=none->R 0 8 σ):X9.c (some ⟨p,0,none⟩) x σ R:=by
 refine X9.o ?_;unfold X9.v;refine QU h (ifF rfl (WgU h x hx (λhn=>ifT rfl (h0 (GH hn))) λi sl rb cs hof hi hb E=>ifF rfl (nilP ?_)));obtain⟨xx,s,hp,hs,hS⟩:=h.at_i hi;have eg:=ZJ hp hs;obtain⟨r,hr⟩:=Wi1 hof hs;have hk:=Ud hof hs;have hc:=h.ok;unfold Cls.ok at hc;have hrl:=((KJ (by omega)).1 hr).2.2;rw[hS.len]at hrl;have hn:=h.ok.n_le;have hfit:=hS.fit;have hm:r*c.size<=128*512:=zo (by omega) (by omega);refine E.blk.rP (x:=some ⟨xx.1,0,none⟩) (E.get eg.2.2) ?_;refine Waq hS x hx (λr' hr'=>?_) λhn=>by rw[hr]at hn;cases hn
 rw[hr]at hr';cases hr';refine nilP (E.blk.rI2 (x:=s.st) (E.get eg.2.1) (arN (m:=s.st*256) (by simp) (by omega) (nilP (hb.rI2 rfl ?_))));refine arN (m:=r*c.size) (by simp) (by omega) (arN (m:=at_ c s r) (by simp[at_]) (by unfold at_;omega) (h1 _ (by rw[hk,hr];rfl)))
theorem HJ {h:Hp}{rb i:Nat}{cs:List Value}{x y:Int}{z:Option Addr}{e:Nat}(hb:Blk h rb cs)(h0:cs[3*i]?=some (.int .i64 x))(h1:cs[3*i+1]?=some (.int .i64 y))(h2:cs[3*i+2]?=some (.pointer z))
 {K:Int->Int->Option Addr->Prop} (hK:K x y z):LdI .i64 (Addr.add ⟨rb,3*i,none⟩ 0) h λu=>LdI .i64 (Addr.add ⟨rb,3*i,none⟩ 1) h λv=>LdP (Addr.add ⟨rb,3*i,none⟩ 2) h λw=>K u v w:=
 hb.rI h0 (hb.rI h1 (hb.rP h2 hK))
theorem Wda {h:Hp}{x y:Int}{z:Option Addr}{e:Nat}{K:Addr->Hp->Prop}(hK:∀h',Ext0 h h'->Blk h' h.size [.int .i64 x,.int .i64 y,.pointer z]->K ⟨h.size,0,none⟩ h') :
 Nw (.cells #[.int .i64 0,.int .i64 0,.pointer none] e (0,0)) h λn v=>St1 (n.add 0) (.int .i64 x) v λv1=>St1 (n.add 1) (.int .i64 y) v1 λv2=>St1 (n.add 2) (.pointer z) v2 λv3=>K n v3:=by
 refine nw (cs:=[.int .i64 0,.int .i64 0,.pointer none]) λv hz e hb=>hb.s1 (by simp) λv1 o1 b1=>b1.s1 (by simp) λv2 o2 b2=>b2.s1 (by simp) λv3 o3 b3=>?_;refine hK v3 ?_ b3;exact Ext.fresh (Ext.fresh (Ext.fresh e o1.ext λi hi=>by omega) o2.ext λi hi=>by omega) o3.ext λi hi=>by omega
theorem WiS (h:CeH σ F p c ps ss){R:Int->Hp->Prop}(hR:∀σ',Ext0 σ σ'->R (Qx ss:Int) σ'):X1.c (some ⟨p,0,none⟩) σ R:=by
 refine X1.o ?_;unfold X1.v;obtain⟨sl,hb,hl,hr⟩:=h.sl;have hfew:=h.few;have hn:=h.ok.n_le;refine QU h (ifF rfl (nilP (hb.rS rfl ?_)));refine Ks (a:=.i .i64) (bb:=.i .i64) (λ(n t:Int) h'=>∃i:Nat,t=(i:Int)/\i<=ss.length/\Ext0 σ h'/\n=(Qx (ss.take i):Int)/\Qx (ss.take i)<=128*i) (λ_ t _=>ss.length-t.toNat) ⟨0,rfl,by omega,Ext.refl _ _,by simp[Qx],by simp[Qx]⟩ ?_;rintro n t h' ⟨i,rfl,hi,e,rfl,hle⟩;refine ifD (λhlt=>?_) λhge=>?_
 ·simp only at hlt;have hi':i<ss.length:=by omega
  obtain⟨xx,s,hp,hs,hS⟩:=h.at_i hi';obtain⟨rb,cs,E⟩:=hr (by rintro rfl;simp at hi');have eg:=ZJ hp hs;rw[E.a];refine ix (by omega) (by omega) ?_;rw[add_lit,show 0+(i:Int).toNat*3=3*i by omega];refine HJ (e:=0) (e.blk E.blk id) (E.get eg.1) (E.get eg.2.1) (E.get eg.2.2) (Wda λv5 e5 b5=>?_);have hS5:=(hS.keep0 e).keep0 e5;refine⟨λh''=>Blk h'' h'.size [.int .i64 s.many,.int .i64 s.st,.pointer (some ⟨xx.1,0,none⟩)],b5,⟨_,λh'' hS=>by rw[add_lit,hS.cell];rfl,⟨_,λh'' hS=>by rw[add_lit,add_lit,hS.cell];rfl,?_⟩⟩⟩;refine H5 hS5 ⟨b5,?_⟩;have hml:=U2 s;have hsl:=hS.len;have htk:Qx (ss.take (i+1))=Qx (ss.take i)+(c.n-s.many):=by
   rw[zr,hs];simp only[Qx,zDK,zAD,zI,zBX,zDR,zp,List.sum_nil];omega
  refine arN (m:=c.n-s.many) (by omega) (by omega) (arN (m:=Qx (ss.take (i+1))) (by omega) (by omega) (arN (m:=i+1) (by omega) (by omega) ⟨⟨i+1,rfl,by omega,e.trans e5,rfl,by omega⟩,by omega⟩))
 ·have:i=ss.length:=by simp only at hge;omega
  subst this;rw[zAA]at *;exact hR _ e
def runV (c:Cls)(l:List Nat):List Value:=l.flatMap λ(s:Nat)=>[.int .i64 (s:Int),.int .i64 (c.pages:Int)]
theorem WaS (c:Cls)(l:List Nat):(runV c l).length=2*l.length:=by
 induction l with
 | nil=>rfl
 | cons x l ih=>simp only[runV,zBN,zJ,zU,zAH]at *;omega
theorem Wh6 (h:CeH σ F p c ps ss){R:Sl->Hp->Prop}(hR:∀s σ',Ext0 σ σ'->RowR s 2 (runV c (ss.map (·.st))) σ' (λb=>σ.size<=b)->R s σ'):XH.c (some ⟨p,0,none⟩) σ R:=by
 refine XH.o ?_;unfold XH.v;obtain⟨sl,hb,hl,hr⟩:=h.sl;have hfew:=h.few;refine QU h (ifF rfl (nilP (hb.rS rfl ?_)));refine Ks (a:=.s) (bb:=.i .i64) (λ(out:Sl) (t:Int) h'=>∃i:Nat,t=(i:Int)/\i<=ss.length/\Ext0 σ h'/\RowR out 2 (runV c ((ss.take i).map (·.st))) h' (λb=>σ.size<=b)) (λ_ t _=>ss.length-t.toNat) ⟨0,rfl,by omega,Ext.refl _ _,RowR.nil _ _ _ _⟩ ?_;rintro out t h' ⟨i,rfl,hi,e,hrow⟩;refine ifD (λhlt=>?_) λhge=>?_
 ·simp only at hlt;have hi':i<ss.length:=by omega
  obtain⟨xx,s,hp,hs,hS⟩:=h.at_i hi';obtain⟨rb,cs,E⟩:=hr (by rintro rfl;simp at hi');have eg:=ZJ hp hs;rw[E.a];refine ix (by omega) (by omega) ?_;rw[add_lit,show 0+(i:Int).toNat*3=3*i by omega];refine HJ (e:=0) (e.blk E.blk id) (E.get eg.1) (E.get eg.2.1) (E.get eg.2.2) (Wda λv5 e5 b5=>b5.rP rfl ?_);have hS5:=(hS.keep0 e).keep0 e5;refine WiJ hS5 λv6 e6=>?_;have e06:=(e.trans e5).trans e6;have hrow6:=(RowR.loc _ _ _).keep0 ((RowR.loc _ _ _).keep0 hrow e5) e6;have hlen:=hrow6.1;rw[WaS,zh,zY]at hlen;refine hrow6.push (vs:=[.int .i64 (s.st:Int),.int .i64 (c.pages:Int)]) (λb hb=>ze e06.1 hb) rfl rfl (by simp[one1]) (by omega) (by omega) λs' v8 hl' e' ho'=>?_;refine arN (m:=i+1) (by omega) (by omega) ⟨⟨i+1,rfl,by omega,Ext.fresh e06 e' λ_ h=>h,?_⟩,by omega⟩;rw[zr,hs];simp only[runV,zDK,zAD,zI,zBX,zGB,zBN,List.flatMap_nil,zAL]at *;exact ho'
 ·have:i=ss.length:=by simp only at hge;omega
  subst this;rw[zAA]at *;exact hR _ _ e hrow
theorem Wja (hc:c.ok){R:Option Addr->Int->Hp->Prop}(hR:∀σ' p,Ext0 σ σ'->σ.size<=p->p<σ'.size->CeH σ' (· = p) p c [] []->R (some ⟨p,0,none⟩) 0 σ'):ZA.c c.size c.pages c.batch σ R:=by
 refine ZA.o ?_;unfold ZA.v;refine nw (cs:=[.int .i64 c.size,.int .i64 c.pages,.int .i64 c.batch]) λv hz e hb=>?_;refine hb.rI rfl (hb.rI rfl (hb.rI rfl (Vv _ _ _ (λc' hc' e1 e2 e3 v1 ex=>?_) λhno=>?_)))
 case refine_2=>rw[(Vg c).2 hc]at hno;cases hno
 have hb1:=ex.blk hb id;refine ifF rfl (hb1.rI rfl (hb1.rI rfl (hb1.rI rfl (nw (cs:=[.int .i64 c.size,.int .i64 c.pages,.int .i64 c.batch,.slice none 0 0]) λv2 hz2 ex2 hb2=>?_))));exact hR _ _ ((e.trans ex).trans ex2) (by have:=ex.1;omega) (by omega) ⟨⟨⟨none,0,0⟩,hb2,RowR.nil _ _ _ _⟩,by simp,rfl,by simp[blks],by simp[blks],rfl,hc,by simp⟩
theorem Wgk (a b a' b':Nat){R:Bool->Hp->Prop}(hR:∀σ',Ext0 σ σ'->R (decide (a>a')||(a==a'&&decide (b<b'))) σ'):WQ.c (a:Int) (b:Int) (a':Int) (b':Int) σ R:=by
 refine WQ.o ?_;unfold WQ.v;refine nw (cs:=[.int .i64 a,.int .i64 b]) λv hz e hb=>nw (cs:=[.int .i64 a',.int .i64 b']) λv1 hz1 e1 hb1=>?_;have hb':=e1.blk hb id;have hR':=hR _ (e.trans e1);refine hb'.rI rfl (hb1.rI rfl (JnB.intro (ifD (λh=>?_) λh=>?_)))
 ·have:decide (a>a')=true:=by simpa using h
  rw[this,Bool.true_or]at hR';exact hR'
 ·have:decide (a>a')=false:=by simpa using h
  rw[this,zEW]at hR';refine hb'.rI rfl (hb1.rI rfl (JnB.intro ?_));rw[beqN];refine iff_ (λhe=>?_) λhe=>?_
  ·rw[he,zDS]at hR';refine hb'.rI rfl (hb1.rI rfl ?_);have:decide ((b:Int)<(b':Int))=decide (b<b'):=by rw[decide_eq_decide];omega
   rw[this];exact hR'
  ·rw[he,zDO]at hR';exact hR'
theorem Z4:∀{i k:Nat},YS ss i=some k->k<i/\∃s,ss[k]?=some s/\s.many<s.tk.length
 | 0,_,h=>by simp[YS]at h
 | i+1,k,h=>by
  have up:YS ss i=some k->k<i+1/\∃s,ss[k]?=some s/\s.many<s.tk.length:=λh=>by
   have:=Z4 h;exact⟨by omega,this.2⟩
  simp only[YS]at h;split at h
  ·rename_i x hx;split at h
   ·rename_i hlt;have here:i<i+1/\∃s,ss[i]?=some s/\s.many<s.tk.length:=⟨by omega,x,hx,hlt⟩;split at h
    ·rename_i j hj;split at h
     ·split at h
      ·cases h;exact here
      ·cases h;exact up hj
     ·cases h;exact here
    ·cases h;exact here
   ·exact up h
  ·exact up h
theorem U3 {s:SpA}(h:s.many<s.tk.length):∃i,low s=some i/\i<s.tk.length/\s.is i=false:=by
 unfold low;cases hf:s.tk.findIdx? (· == false)with
 | some i=>
  obtain⟨hi,hb,_⟩:=zAU.1 hf;refine⟨i,rfl,hi,?_⟩;have:s.tk[i]=false:=by simpa using hb
  simp[SpA.is,zO,gGe hi,this]
 | none=>
  exfalso;have h1:=zCP.1 hf;have:s.many=s.tk.length:=by
   unfold SpA.many;rw[List.count_eq_length];intro x hx;have:=h1 x hx;cases x
   ·simp at this
   ·rfl
  omega
theorem Wdt:∀{ps:List (Nat×Nat)} {ss:List SpA} {k:Nat} {s s':SpA},ps.length=ss.length->ss[k]?=some s->s'.st=s.st->entV ps (ss.set k s')=(entV ps ss).set (3*k) (.int .i64 (s'.many:Int))
 | [],[],_,_,_,_,h,_=>by simp at h
 | [],_::_,_,_,_,h,_,_=>by simp at h
 | _::_,[],_,_,_,_,h,_=>by simp at h
 | x::ps,t::ss,0,s,s',_,h,e=>by simp at h;subst h;simp[entV,e]
 | x::ps,t::ss,k+1,s,s',hl,h,e=>by
  simp only[zCL,entV];rw[Wdt (ps:=ps) (ss:=ss) (s:=s) (by simpa using hl) (by simpa using h) e];rw[show 3*(k+1)=3*k+1+1+1 by omega];simp
theorem Wex {h:Hp}{b:Nat}{cs cs':List Value}(h1:Blk h b cs)(h2:Blk h b cs'):cs=cs':=by
 obtain⟨e,he⟩:=h1;obtain⟨e',he'⟩:=h2;rw[he]at he';simp only[Option.some.injEq,Obj.cells.injEq]at he';simpa using congrArg Array.toList he'.1
theorem ZK {x:Nat×Nat}{i:Nat}(hx:ps[i]?=some x):x.1∈blks ps/\x.2∈blks ps:=
 ⟨VT.2 ⟨x,zE hx,.inl rfl⟩,VT.2 ⟨x,zE hx,.inr rfl⟩⟩
theorem GD:∀{ps:List (Nat×Nat)},(blks ps).Nodup->∀{i j:Nat} {x y:Nat×Nat},ps[i]?=some x->ps[j]?=some y->i≠j->∀b,(b=x.1\/b=x.2)->¬(b=y.1\/b=y.2)
 | [],_,_,_,_,_,h,_,_=>by simp at h
 | z::ps,hn,i,j,x,y,h1,h2,hij=>by
  have hn':z.1∉blks ps/\z.2∉blks ps/\z.1≠z.2/\(blks ps).Nodup:=by
   simp only[blks,zBN,zAV,zCK,zm,zX,not_or]at hn;exact⟨hn.1.2,hn.2.1,hn.1.1,hn.2.2⟩
  intro b hb hb'
  match i,j,hij with
  | 0,0,h=>exact h rfl
  | 0,j+1,_=>
   simp at h1;subst h1;have:=ZK (ps:=ps) (i:=j) (by simpa using h2);rcases hb with rfl|rfl<;>rcases hb' with e|e<;>rw[e]at hn'<;>simp[this]at hn'
  | i+1,0,_=>
   simp at h2;subst h2;have:=ZK (ps:=ps) (i:=i) (by simpa using h1);rcases hb with rfl|rfl<;>rcases hb' with e|e<;>rw[←e]at hn'<;>simp[this]at hn'
  | i+1,j+1,h=>exact GD hn'.2.2.2 (by simpa using h1) (by simpa using h2) (by omega) b hb hb'
theorem CeH.turn (h:CeH σ F p c ps ss){k:Nat}{x:Nat×Nat}{s s':SpA}(hx:ps[k]?=some x)(hs:ss[k]?=some s)(hst:s'.st=s.st){σ1:Hp}(e1:Ext (λb=>b=x.1\/b=x.2) σ σ1)(hS:SpH σ1 x.1 x.2 c s')
 {sl:Sl} {rb:Nat} {cs:List Value} (hb:Blk σ p [.int .i64 (c.size:Int),.int .i64 (c.pages:Int),.int .i64 (c.batch:Int),.slice sl.a sl.len sl.cap]) (E:EnR σ F p ps ss sl rb cs)
 {K:Hp->Prop} (hK:∀σ2,Ext F σ σ2->CeH σ2 F p c ps (ss.set k s')->K σ2):St1 ⟨rb,3*k,none⟩ (.int .i64 (s'.many:Int)) σ1 K:=by
 obtain⟨sl',hb',hr⟩:=h.hd;have hsl:sl'=sl:=by
  have:=Wex hb' hb;simp at this;obtain⟨a,n,c⟩:=sl;obtain⟨a',n',c'⟩:=sl';simp at this ⊢;exact this
 subst hsl;have hm:=ZK hx;have hnd:=h.nd;simp only[zm]at hnd;have hki:=(gSi.1 hs).1;have hr1:=(RowR.loc sl' 3 (entV ps ss)).keep hr e1 λb hb hf=>λhh=>hf.2.2 (by rcases hh with rfl|rfl;exact hm.1;exact hm.2);have hb1:=e1.blk hb λhh=>hnd.1 (by rcases hh with h|h<;>rw[h];exact hm.1;exact hm.2)
 refine hr1.st (j:=3*k) (by rw[Qf h.len];omega) (λb hba=>by rw[E.a]at hba;cases hba;rfl) λσ2 e2 hr2=>?_;have e12:Ext F σ σ2:=(e1.sub λi hi=>h.fb i (by rcases hi with rfl|rfl;exact hm.1;exact hm.2)).trans (e2.sub λi hi=>hi.1);refine hK σ2 e12 ⟨⟨sl',e2.blk hb1 λhh=>hh.2.1 rfl,?_⟩,λi y t hy ht=>?_,h.fp,h.fb,h.nd,by simpa using h.len,h.ok,?_⟩
 ·rw[Wdt h.len hs hst];exact hr2
 ·have hmy:=ZK hy;have k2:SpH σ1 y.1 y.2 c t:=by
   by_cases hik:i=k
   ·subst hik;rw[hx]at hy;cases hy;rw[zK hki]at ht;cases ht;exact hS
   ·rw[zf (Ne.symm hik)]at ht;have ap:=GD hnd.2 hy hx hik;exact(h.sp i y t hy ht).keep e1 (ap _ (.inl rfl)) (ap _ (.inr rfl))
  exact k2.keep e2 (λhh=>hh.2.2 hmy.1) (λhh=>hh.2.2 hmy.2)
 ·have:(ss.set k s').map (·.st)=ss.map (·.st):=by
   apply zn;intro i;simp only[za];by_cases hik:i=k
   ·subst hik;rw[zK hki,hs];simp[hst]
   ·rw[zf (Ne.symm hik)]
  have h2:=h.srt;rw[←zCB (f:=SpA.st) (R:=(· < ·))]at h2 ⊢;rw[this];exact h2
theorem Wj0 (h:CeH σ F p c ps ss){R:Int->Bool->Hp->Prop}(h1:∀x ss',oneS c ss=some (x,ss')->∀σ',Ext F σ σ'->CeH σ' F p c ps ss'->R (x:Int) true σ')(h0:oneS c ss=none->∀σ',Ext0 σ σ'->R 0 false σ') :
 Yy.c (some ⟨p,0,none⟩) σ R:=by
 refine Yy.o ?_;unfold Yy.v;obtain⟨sl,hb,hl,hr⟩:=h.sl;have hfew:=h.few;have hn:=h.ok.n_le;obtain⟨rb,cs,E⟩:∃rb cs,ss≠[]->EnR σ F p ps ss sl rb cs:=by
  by_cases hne:ss=[]
  ·exact⟨0,[],λh=>absurd hne h⟩
  ·obtain⟨rb,cs,E⟩:=hr hne;exact⟨rb,cs,λ_=>E⟩
 refine nilP (hb.rS rfl ?_);refine Ks (a:=.p) (bb:=.i .i64) (λ(best:Option Addr) (t:Int) h'=>∃i:Nat,t=(i:Int)/\i<=ss.length/\Ext0 σ h'/\best=(YS ss i).map λk=>⟨rb,3*k,none⟩) (λ_ t _=>ss.length-t.toNat) ⟨0,rfl,by omega,Ext.refl _ _,rfl⟩ ?_;rintro best t h' ⟨i,rfl,hi,e,rfl⟩;refine ifD (λhlt=>?_) λhge=>?_
 ·simp only at hlt;have hi':i<ss.length:=by omega
  have E:=E (by rintro rfl;simp at hi');obtain⟨xx,s,hp,hs,hS⟩:=h.at_i hi';have eg:=ZJ hp hs;have hsl:=hS.len;refine nilP ((e.blk hb id).rS rfl ?_);rw[E.a];refine ix (by omega) (by omega) ?_;rw[add_lit,show 0+(i:Int).toNat*3=3*i by omega];have Eb:=e.blk E.blk id;have bf:YS ss (i+1)=if s.many<s.tk.length then(match YS ss i with
   | some j=>match ss[j]? with
    | some y=>if GG s y then some i else some j
    | none=>some i
   | none=>some i)else YS ss i:=by
   simp only[YS,hs];rfl
  have J:∀(r:Bool) (v:Hp),Ext0 σ v->(if r then some i else YS ss i)=YS ss (i+1) →
   If r (Ar .i64 ((i:Int)+1) λt50=>(∃j:Nat,t50=(j:Int)/\j<=ss.length/\Ext0 σ v/\some (⟨rb,3*i,none⟩:Addr)=(YS ss j).map λk=>⟨rb,3*k,none⟩)/\ss.length-t50.toNat<ss.length-(i:Int).toNat)
    (Ar .i64 ((i:Int)+1) λt50=>(∃j:Nat,t50=(j:Int)/\j<=ss.length/\Ext0 σ v/\((YS ss i).map λk=>(⟨rb,3*k,none⟩:Addr))=(YS ss j).map λk=>⟨rb,3*k,none⟩)/\ss.length-t50.toNat<ss.length-(i:Int).toNat):=by
   intro r v ev hr';cases r
   ·refine ifF rfl (arN (m:=i+1) (by omega) (by omega) ⟨⟨i+1,rfl,by omega,ev,?_⟩,by omega⟩);rw[←hr'];rfl
   ·refine ifT rfl (arN (m:=i+1) (by omega) (by omega) ⟨⟨i+1,rfl,by omega,ev,?_⟩,by omega⟩);rw[←hr'];rfl
  refine Jn.intro ⟨λh''=>Blk h'' rb cs,Eb,nilP ⟨_,λh'' hS=>by rw[add_lit,add_lit,hS.cell];exact E.get eg.1,nilP ⟨_,λh'' hS=>by rw[add_lit,hS.cell];exact E.get eg.2.2,?_⟩⟩⟩;refine H5 (hS.keep0 e) ⟨Eb,?_⟩;refine ifD (λhlt2=>?_) λhge2=>?_
  ·have hm:s.many<s.tk.length:=by omega
   rw[zB hm]at bf;cases hbf:YS ss i with
   | none=>
    rw[hbf]at bf J;exact ifT rfl (J true h' e bf.symm)
   | some j=>
    rw[hbf]at bf J;obtain⟨hji,y,hy,hym⟩:=Z4 hbf;simp only[hy]at bf;have hpj:j<ps.length:=by rw[h.len];omega
    have egj:=ZJ (gGe hpj) hy;have fin:WQ.c (s.many:Int) (s.st:Int) (y.many:Int) (y.st:Int) h' λt46 v3=>Blk v3 rb cs ∧
     If t46 (Ar .i64 ((i:Int)+1) λt50=>(∃j:Nat,t50=(j:Int)/\j<=ss.length/\Ext0 σ v3/\some (⟨rb,3*i,none⟩:Addr)=(YS ss j).map λk=>⟨rb,3*k,none⟩)/\ss.length-t50.toNat<ss.length-(i:Int).toNat)
      (Ar .i64 ((i:Int)+1) λt50=>(∃j':Nat,t50=(j':Int)/\j'<=ss.length/\Ext0 σ v3/\((some j).map λk=>(⟨rb,3*k,none⟩:Addr))=(YS ss j').map λk=>⟨rb,3*k,none⟩)/\ss.length-t50.toNat<ss.length-(i:Int).toNat):=by
     refine Wgk _ _ _ _ λv3 e3=>⟨e3.blk Eb id,J _ v3 (e.trans e3) ?_⟩;rw[bf];rfl
    refine ifF rfl (nilP (nilP ⟨?_,?_⟩))
    ·exact Eb.rI2 (E.get eg.1) (Eb.rI2 (E.get eg.2.1) ⟨Eb,Eb.rI2 (E.get egj.1) (Eb.rI2 (E.get egj.2.1) ⟨Eb,fin⟩)⟩)
    ·exact Eb.rI2 (E.get egj.1) (Eb.rI2 (E.get egj.2.1) ⟨Eb,Eb.rI2 (E.get eg.1) (Eb.rI2 (E.get eg.2.1) ⟨Eb,fin⟩)⟩)
  ·have hm:¬s.many<s.tk.length:=by omega
   rw[zA hm]at bf;exact J false h' e bf.symm
 ·have hii:i=ss.length:=by simp only at hge;omega
  subst hii;cases hbf:YS ss ss.length with
  | none=>
   refine ifT rfl (h0 ?_ _ e);simp[oneS,best,hbf]
  | some k=>
   obtain⟨hk,s,hs,hsm⟩:=Z4 hbf;have E:=E (by rintro rfl;simp at hk);obtain⟨xx,s',hp,hs',hS⟩:=h.at_i hk;rw[hs]at hs';cases hs';have eg:=ZJ hp hs;obtain⟨r,hlow,hr1,hr2⟩:=U3 hsm;have h':=h.keep0 e;have one:oneS c ss=some (at_ c s r,ss.set k (s.put r true)):=by simp[oneS,best,hbf,hs,hlow]
   have E':EnR _ F p ps ss sl rb cs:=⟨E.a,e.blk E.blk id,E.fr,E.get,E.lenC⟩;refine ifF rfl (nilP (E'.blk.rP (x:=some ⟨xx.1,0,none⟩) (E.get eg.2.2) ?_));refine Wib (hS.keep0 e) hlow λv5 e5 hS5=>nilP ?_;have hmx:=ZK hp;have nrb:¬(rb=xx.1\/rb=xx.2):=λhh=>E.fr.2.2 (by rcases hh with h|h<;>rw[h];exact hmx.1;exact hmx.2)
   have hml:=U2 s;have hmany:=UZ hr1 true;rw[hr2]at hmany;have hmany':(s.put r true).many=s.many+1:=by simp at hmany;omega
   have hsl:=hS.len;refine(e5.blk E'.blk nrb).rI2 (E.get eg.1) (arN (m:=s.many+1) (by omega) (by omega) (nilP ?_));rw[add_lit,add_lit,zt,zt,←hmany'];exact h'.turn (s':=s.put r true) hp hs rfl e5 hS5 (e.blk hb id) E' λv6 e6 h6=>h1 _ _ one v6 (e.to.trans e6) h6
theorem Wgr {k:Nat}{s s':SpA}(hs:ss[k]?=some s):Qx (ss.set k s')+(s.tk.length-s.many)=Qx ss+(s'.tk.length-s'.many):=by
 unfold Qx
 induction ss generalizing k with
 | nil=>simp at hs
 | cons x ss ih=>
  cases k with
  | zero=>simp at hs;subst hs;simp;omega
  | succ k=>
   have:=ih (by simpa using hs);simp only[zCL,zI,zp];omega
theorem Wfy {x:Nat}{ss':List SpA}(h:oneS c ss=some (x,ss')):Qx ss'+1=Qx ss:=by
 unfold oneS at h;split at h
 ·rename_i k hk;obtain⟨_,s,hs,hsm⟩:=Z4 hk;rw[hs]at h;simp only at h;split at h
  ·rename_i i hi;cases h;obtain⟨r,hr,hrl,hri⟩:=U3 hsm;rw[hi]at hr;cases hr;have h1:=Wgr (s':=s.put i true) hs;have h2:=UZ hrl true;rw[hri]at h2;have h3:(s.put i true).tk.length=s.tk.length:=by simp[SpA.put]
   simp at h2;omega
  ·cases h
 ·cases h
theorem CeH.room (h:CeH σ F p c ps ss):Qx ss<=131072:=by
 have key:∀l:List SpA,(∀s∈l,s.tk.length<=128)->Qx l<=128*l.length:=by
  intro l
  induction l with
  | nil=>intro _;simp[Qx]
  | cons x l ih=>
   intro hl;have h1:=hl x (by simp);have h2:=ih λs hs=>hl s (by simp[hs]);simp only[Qx,zI,zp,zU]at *;omega
 have:=key ss λs hs=>by
  obtain⟨i,hi⟩:=zL hs;have hil:=(gSi.1 hi).1;obtain⟨x,s',_,hs',hS⟩:=h.at_i hil;rw[hi]at hs';cases hs';rw[hS.len];exact h.ok.n_le
 have:=h.few;omega
theorem UH {m:Nat}{x:Nat}{ss':List SpA}(h:oneS c ss=some (x,ss')):Qg c (m+1) ss=(x::(Qg c m ss').1,(Qg c m ss').2):=by
 simp[Qg,h]
theorem WhJ (h:CeH σ F p c ps ss)(m:Int)(hm:0<=m){R:Sl->Int->Hp->Prop}
 (hR:∀s σ',Ext F σ σ'->RowR s 1 (ints (Qg c m.toNat ss).1) σ' (λb=>σ.size<=b)->CeH σ' (Cut F σ) p c ps (Qg c m.toNat ss).2->R s 0 σ'):W0.c (some ⟨p,0,none⟩) m σ R:=by
 refine W0.o ?_;unfold W0.v;have h:=CeH.loc.cut h;have hroom:=CeH.room h;refine QU h (ifF rfl (ifDF (by omega) ?_));refine Zw (a:=.s) (λ(out:Sl) h'=>∃xs ss',Ext F σ h'/\RowR out 1 (ints xs) h' (λb=>σ.size<=b)/\CeH h' (Cut F σ) p c ps ss'/\xs.length<=m.toNat/\xs.length+Qx ss'=Qx ss/\Qg c m.toNat ss=(xs++(Qg c (m.toNat-xs.length) ss').1,(Qg c (m.toNat-xs.length) ss').2))
  (λout _=>m.toNat-out.len) ⟨[],ss,Ext.refl _ _,RowR.nil _ _ _ _,h,by simp,by simp,by simp⟩ ?_
 rintro out h' ⟨xs,ss',e,hrow,hC,hle,hrm,htk⟩;have hlen:=hrow.lenN;refine ifD (λhlt=>?_) λhge=>?_
 ·have hsucc:m.toNat-xs.length=(m.toNat-(xs.length+1))+1:=by omega
  refine Wj0 hC (λx ss2 hone v2 e2 hC2=>ifF rfl ?_) λhnone v2 e2=>ifT rfl ?_
  ·have e02:Ext F σ v2:=e.trans (e2.sub λi hi=>hi.1);have hrow2:=(RowR.loc _ _ _).keep hrow e2 λb _ hb hc=>by have:=hc.2;omega
   refine hrow2.push (vs:=[.int .i64 (x:Int)]) (λb hb=>ze e02.1 hb) rfl rfl (by simp[one1]) (by omega) (by omega) λs' v4 hl' e' ho'=>?_;have hr2:=Wfy hone;refine⟨⟨xs++[x],ss2,e02.newT e' λi hi=>.inr hi,by rw[VM];exact ho',CeH.loc.keep hC2 e' λb _ hb hc=>(by have:=hb.2;omega),by simp;omega,by simp;omega,?_⟩,by omega⟩;rw[htk,hsucc,UH hone];simp
  ·have:Qg c (m.toNat-xs.length) ss'=([],ss'):=by rw[hsucc];simp[Qg,hnone]
   rw[this]at htk;have hr:=hR out v2 (e.trans e2.to);rw[htk,zAL]at hr;exact hr ((RowR.loc _ _ _).keep0 hrow e2) (hC.keep0 e2)
 ·have hz:m.toNat-xs.length=0:=by omega
  rw[hz]at htk;have hr:=hR out h' e;rw[htk]at hr;simp only[Qg,zAL]at hr;exact hr hrow hC
theorem WgH (h:CeH σ F p c ps ss)(m:Int)(hm:m<0){R:Sl->Int->Hp->Prop}(hR:R ⟨none,0,0⟩ 1 σ):W0.c (some ⟨p,0,none⟩) m σ R:=by
 refine W0.o ?_;unfold W0.v;exact QU h (ifF rfl (ifDT (by omega) hR))
def kps:List (Nat×Nat)->List SpA->List (Nat×Nat)
 | x::ps,s::ss=>if s.many != 0 then x::kps ps ss else kps ps ss
 | _,_=>[]
theorem UE:∀{ps:List (Nat×Nat)} {ss:List SpA},ps.length=ss.length->(kps ps ss).length=(sweep ss).length
 | [],[],_=>rfl
 | x::ps,s::ss,h=>by
  have ih:=UE (ps:=ps) (ss:=ss) (by simpa using h);simp only[kps,sweep,zCR]at *;split<;>simp[ih]
theorem WcK:∀{ps:List (Nat×Nat)} {ss:List SpA},(kps ps ss).Sublist ps
 | [],_=>by simp[kps]
 | _::_,[]=>by simp[kps]
 | x::ps,s::ss=>by
  simp only[kps];split
  ·exact WcK.cons_cons x
  ·exact WcK.cons x
theorem GC:∀{ps ps':List (Nat×Nat)} {ss ss':List SpA},ps.length=ss.length->kps (ps++ps') (ss++ss')=kps ps ss++kps ps' ss'
 | [],_,[],_,_=>rfl
 | x::ps,_,s::ss,_,h=>by
  simp only[zAV,kps,GC (ps:=ps) (ss:=ss) (by simpa using h)];split<;>rfl
theorem Wgl:∀{ps:List (Nat×Nat)} {ss:List SpA} {i:Nat} {x:Nat×Nat} {s:SpA},ps.length=ss.length->(kps ps ss)[i]?=some x->(sweep ss)[i]?=some s->∃j:Nat,ps[j]?=some x/\ss[j]?=some s
 | [],[],_,_,_,_,h,_=>by simp[kps]at h
 | y::ps,t::ss,i,x,s,hl,h1,h2=>by
  have ih:=λi=>Wgl (ps:=ps) (ss:=ss) (i:=i) (x:=x) (s:=s) (by simpa using hl);simp only[kps,sweep,zCR]at h1 h2;cases hm:(t.many != 0)
  ·rw[hm]at h1 h2;obtain⟨j,h3,h4⟩:=ih i h1 h2;exact⟨j+1,by simpa using h3,by simpa using h4⟩
  ·rw[hm]at h1 h2;cases i with
   | zero=>simp at h1 h2;exact⟨0,by simp[h1],by simp[h2]⟩
   | succ i=>
    obtain⟨j,h3,h4⟩:=ih i (by simpa using h1) (by simpa[sweep]using h2);exact⟨j+1,by simpa using h3,by simpa using h4⟩
theorem WbI (a b:List SpA):sweep (a++b)=sweep a++sweep b:=by simp[sweep]
theorem Wb3 (a b:List SpA):ZH (a++b)=ZH a++ZH b:=by simp[ZH]
theorem Wcb (c:Cls)(a b:List Nat):runV c (a++b)=runV c a++runV c b:=by simp[runV]
theorem WbT {a b:List (Nat×Nat)}(h:a.Sublist b):(blks a).Sublist (blks b):=by
 induction h with
 | slnil=>exact List.Sublist.refl _
 | cons x _ ih=>exact(ih.cons _).cons _
 | cons_cons x _ ih=>exact(ih.cons_cons _).cons_cons _
theorem WbW {h:Hp}{Q:Rg}{n3:Nat}{o:Sl}{l:List Nat}{x1 x2:Nat}{s:SpA}(hb:Blk h n3 [.slice o.a o.len o.cap])(hrow:RowR o 2 (runV c l) h Q)(hQ:∀b,Q b->n3<b)(hl:l.length<=2000)(hS:SpH h x1 x2 c s){R:Bool->Hp->Prop}
 (hR:∀h' o',Ext (λb=>b=n3\/Q b) h h'->Blk h' n3 [.slice (Sl.a o') o'.len o'.cap]->RowR o' 2 (runV c (l++if s.many=0 then[s.st]else[])) h' (Grow Q h)->R (s.many==0) h') :
 VC Tryz.prog ⟨228,#[],#[.pointer (some ⟨n3,0,none⟩)]⟩ [.agg #[.int .i64 (s.many:Int),.int .i64 (s.st:Int),.pointer (some ⟨x1,0,none⟩)]] [.one .b] h R:=by
 refine WaN (all := #[.agg #[.int .i64 (s.many:Int),.int .i64 (s.st:Int),.pointer (some ⟨x1,0,none⟩)],.pointer (some ⟨n3,0,none⟩)]) (by kernel_rfl) (by simp) ?_;refine XK.o ?_;unfold XK.v;refine nw (cs:=[.int .i64 (s.many:Int),.int .i64 (s.st:Int),.pointer (some ⟨x1,0,none⟩)]) λv hz e hb1=>?_;have hn3:=hb.lt;have hbv:=e.blk hb id;have hrow:=(RowR.loc o 2 (runV c l)).mono hrow (G:=λb=>Q b/\b<h.size) λb hb hf=>⟨hf,hb⟩;refine Jn.intro (hb1.rI2 rfl ?_);rw[WfM];refine iff_ (λhm=>?_) λhm=>?_
 ·have hm':s.many=0:=by simpa using hm
  rw[zB hm']at hR;refine⟨λh'=>Blk h' h.size [.int .i64 (s.many:Int),.int .i64 (s.st:Int),.pointer (some ⟨x1,0,none⟩)]/\Blk h' n3 [.slice o.a o.len o.cap],⟨hb1,hbv⟩,⟨o,λh' hS=>by rw[hS.2.cell];rfl,⟨some ⟨x1,0,none⟩,λh' hS=>by rw[add_lit,hS.1.cell];rfl,?_⟩⟩⟩;refine WiJ (hS.keep0 e) λv2 e2=>⟨⟨e2.blk hb1 id,e2.blk hbv id⟩,?_⟩;have e02:=e.trans e2;have hrow2:=(RowR.loc _ _ _).keep0 hrow e02;have hlen:=hrow2.1;rw[WaS]at hlen;refine nw (cs:=[.int .i64 (s.st:Int),.int .i64 (c.pages:Int)]) λv3 hz3 e3 hb3=>⟨⟨(e2.trans e3).blk hb1 id,(e2.trans e3).blk hbv id⟩,?_⟩;have hrow3:=(RowR.loc _ _ _).keep0 hrow2 e3;have hs2:=e02.1;refine hrow3.app (ys:=[.int .i64 (s.st:Int),.int .i64 (c.pages:Int)]) rfl rfl ?_ (by simp[one1]) ?_ ?_ zBA λs' v4 hl' e4 ho'=>?_
  ·intro j u hu;rw[add_lit,zG,hb3.cell];exact hu
  ·simp only;have:(o.len+1)*16<=2001*16:=zo (by omega) (by omega);omega
  ·simp only;omega
  ·have b1:Blk v4 h.size [.int .i64 (s.many:Int),.int .i64 (s.st:Int),.pointer (some ⟨x1,0,none⟩)]:=e4.blk ((e2.trans e3).blk hb1 id) λhh=>by have:=hh.2;omega
   have b2:Blk v4 n3 [.slice o.a o.len o.cap]:=e4.blk ((e2.trans e3).blk hbv id) λhh=>by have:=hQ _ hh.1;omega
   refine⟨⟨b1,b2⟩,b2.s0 (by simp) λv5 o5 b5=>(Wr o5 b1 (by omega)).rI2 rfl ?_⟩;have e05:Ext (λb=>b=n3\/Q b) h v5:=(Ext0.to ((e.trans e2).trans e3)).trans (e4.sub λi hi=>.inr hi.1)|>.trans (o5.ext.sub λi hi=>.inl hi);rw[WfM];refine hR v5 s' e05 b5 ?_;rw[Wcb];have:runV c [s.st]=[.int .i64 (s.st:Int),.int .i64 (c.pages:Int)]:=rfl;rw[this];have k1:=(RowR.loc _ _ _).mono ho' (G:=Grow Q h) λb _ hg=>by
    rcases hg with h|h
    ·exact .inl h.1
    ·exact .inr (by omega)
   exact(RowR.loc _ _ _).keep k1 o5.ext λb _ hf he=>by
    rcases hf with h|h
    ·have:=hQ _ h;omega
    ·omega
 ·have hm':¬s.many=0:=by simpa using hm
  rw[zA hm',zAL]at hR;refine hb1.rI2 rfl ?_;rw[WfM];exact hR v o e.to hbv ((RowR.loc _ _ _).keep0 ((RowR.loc _ _ _).mono hrow λb _ hf=>.inl hf.1) e)
def Whb (n3:Nat)(c:Cls)(l:List Nat)(h:Hp):Prop:=∃o:Sl,Blk h n3 [.slice o.a o.len o.cap]/\RowR o 2 (runV c l) h (λb=>n3<b)
theorem set3 {A D:List Value}{x y z:Value}{k:Nat}(hk:k=A.length)(hD:3<=D.length):(((A++D).set k x).set (k+1) y).set (k+2) z=A++[x,y,z]++D.drop 3:=by
 subst hk
 match D,hD with
 | d0::d1::d2::D,_=>simp[List.set_append]
theorem Ue {i:Nat}{s:SpA}(hs:ss[i]?=some s):ZH (ss.take (i+1))=ZH (ss.take i)++(if s.many=0 then[s.st]else[]):=by
 rw[zr,hs,Wb3]
 congr 1
 by_cases hm:s.many=0<;>simp[ZH,hm]
theorem Ur {i:Nat}{s:SpA}(hs:ss[i]?=some s):sweep (ss.take (i+1))=sweep (ss.take i)++(if s.many=0 then[]else[s]):=by
 rw[zr,hs,WbI]
 congr 1
 by_cases hm:s.many=0<;>simp[sweep,hm]
theorem WaX {i:Nat}{x:Nat×Nat}{s:SpA}(hl:ps.length=ss.length)(hx:ps[i]?=some x)(hs:ss[i]?=some s):kps (ps.take (i+1)) (ss.take (i+1))=kps (ps.take i) (ss.take i)++(if s.many=0 then[]else[x]):=by
 rw[zr,zr,hs,hx,GC (by simp[hl])]
 congr 1
 by_cases hm:s.many=0<;>simp[kps,hm]
theorem Wf8 (l:List SpA):(ZH l).length<=l.length:=by unfold ZH;rw[zh];exact zEJ _ _
theorem WgJ (l:List SpA):(sweep l).length<=l.length:=zEJ _ _
theorem WeQ (h:CeH σ F p c ps ss){sl:Sl}{rb n3:Nat}{cs:List Value}{σ1:Hp}(e1:Ext0 σ σ1)(hlen:sl.len=ss.length)(hn3:σ.size<=n3)(hE:ss≠[]->EnR σ F p ps ss sl rb cs/\sl.len<=sl.cap/\cs.length=sl.cap*3)(h0:Whb n3 c [] σ1){R:Sl->Hp->Prop}
 (hR:∀h' sl',Ext (λb=>F b/\b≠p/\b∉blks ps\/n3<=b) σ1 h'->Whb n3 c (ZH ss) h'->(sl'=sl/\ZH ss=[]/\sweep ss=ss/\kps ps ss=ps/\Ext (λb=>n3<=b) σ1 h'\/(RowR sl' 3 (entV (kps ps ss) (sweep ss)) h' (λb=>F b/\b≠p/\b∉blks ps)))->R sl' h') :
 We.c sl ⟨228,#[],#[.pointer (some ⟨n3,0,none⟩)]⟩ σ1 R:=by
 refine We.o ?_;unfold We.v;refine Wh.o ?_;unfold Wh.v;have hfew:=h.few;have hpl:=h.len;refine Zw (a:=.i .i64) (λ(t:Int) h'=>∃i:Nat,t=(i:Int)/\i<=ss.length/\Ext (λb=>n3<=b) σ1 h'/\Whb n3 c [] h'/\ZH (ss.take i)=[]/\sweep (ss.take i)=ss.take i/\kps (ps.take i) (ss.take i)=ps.take i) (λt _=>ss.length-t.toNat) ⟨0,rfl,by omega,Ext.refl _ _,h0,by simp[ZH],by simp[sweep],by simp[kps]⟩ ?_;rintro t h' ⟨i,rfl,hi,e,⟨o,hbo,hro⟩,q1,q2,q3⟩;have eo:∀{v:Hp},Ext (λb=>n3<=b) σ1 v->Ext (λb=>n3<=b) σ v:=λe=>e1.to.trans e;refine ifD (λhlt=>?_) λhge=>?_
 ·have hi':i<ss.length:=by omega
  obtain⟨E,hcap,hcl⟩:=hE (by rintro rfl;simp at hi');obtain⟨xx,s,hp,hs,hS⟩:=h.at_i hi';have eg:=ZJ hp hs;have hrl:=E.blk.lt;have hSl:=hS.lt;rw[E.a];refine ix (by omega) (by omega) ?_;rw[add_lit,show 0+(i:Int).toNat*3=3*i by omega];refine HJ (e:=0) ((eo e).blk E.blk (by omega)) (E.get eg.1) (E.get eg.2.1) (E.get eg.2.2) ?_;have hn3h:n3<h'.size:=hbo.lt;refine WbW hbo hro (λb h=>h) (by simp) (hS.keep (eo e) (by omega) (by omega)) λh2 o2 e2 hb2 hr2=>?_;have e2:Ext (λb=>n3<=b) h' h2:=e2.sub λb hb=>by omega
  have hr2:=(RowR.loc _ _ _).mono hr2 (G:=λb=>n3<b) λb _ hb=>by
   rcases hb with h|h
   ·exact h
   ·omega
  refine iff_ (λhm=>?_) λhm=>?_
  ·-- the first that goes
   have hm':s.many=0:=by simpa using hm
   rw[zB hm',zCK]at hr2;have hne1:((i:Int)==(-1))=false:=by rw[zAR];omega
   show If ((i:Int)==(-1)) _ _;refine ifF hne1 (arN (m:=i+1) (by omega) (by omega) ?_);have q1':ZH (ss.take (i+1))=[s.st]:=by rw[Ue hs,q1,zB hm'];rfl
   have q2':sweep (ss.take (i+1))=ss.take i:=by rw[Ur hs,q2,zB hm',zAL]
   have q3':kps (ps.take (i+1)) (ss.take (i+1))=ps.take i:=by rw[WaX hpl hp hs,q3,zB hm',zAL]
   have hke:∀k,k<=ss.length->(entV (kps (ps.take k) (ss.take k)) (sweep (ss.take k))).length=3*(sweep (ss.take k)).length:=λk _=>Qf (UE (by simp[hpl]));have Eb2:Blk h2 rb cs:=(eo (e.trans e2)).blk E.blk (by omega);refine Ks (a:=.i .i64) (bb:=.i .i64) (λ(i1 j1:Int) v=>∃j:Nat,j1=(j:Int)/\i<j/\j<=ss.length/\i1=((sweep (ss.take j)).length:Int)/\(sweep (ss.take j)).length<j/\Ext (λb=>b=rb\/n3<=b) σ1 v/\Whb n3 c (ZH (ss.take j)) v ∧
    Blk v rb (entV (kps (ps.take j) (ss.take j)) (sweep (ss.take j))++cs.drop (3*(sweep (ss.take j)).length))) (λ_ j1 _=>ss.length-j1.toNat) ?_ ?_
   ·refine⟨i+1,rfl,by omega,by omega,?_,?_,(e.trans e2).sub λb hb=>.inr hb,?_,?_⟩
    ·rw[q2',zY];omega
    ·rw[q2',zY];omega
    ·rw[q1'];exact⟨o2,hb2,hr2⟩
    ·rw[q2',q3',zY,zBZ (by omega)];have:entV (ps.take i) (ss.take i)++cs.drop (3*i)=cs:=by
      have h1:(entV (ps.take i) (ss.take i)).length=3*i:=by rw[Qf (by simp[hpl]),zY];omega
      apply zn;intro k;rcases zAB k (3*i)with hk|hk
      ·rw[zd (by omega)];have h2:(entV ps ss)[k]?=(entV (ps.take i) (ss.take i))[k]? := by
        conv=>lhs;rw[←zBG i ps,←zBG i ss,Q7 (by simp[hpl])]
        rw[zd (by omega)]
       rw[←h2];have h3:k<(entV ps ss).length:=by rw[Qf hpl];omega
       rw[gGe h3];exact(E.get (gGe h3)).symm
      ·rw[zk (by omega),zu,h1]
       congr 1;omega
     rw[this];exact Eb2
   ·rintro i1 j1 v ⟨j,rfl,hij,hj,rfl,hKj,ev,⟨o3,hbo3,hro3⟩,hrow⟩;have hK1:=hke j hj;have evo:Ext (λb=>b=rb\/n3<=b) σ v:=e1.to.trans ev;refine ifD (λhlt2=>?_) λhge2=>?_
    ·have hj':j<ss.length:=by omega
     obtain⟨yy,u,hpy,hsu,hSu⟩:=h.at_i hj';have egu:=ZJ hpy hsu;have hSul:=hSu.lt;have hm1:=ZK hpy;refine ix (by omega) (by omega) ?_;rw[add_lit,show 0+(j:Int).toNat*3=3*j by omega];have get:∀d,d<3->∀w,(entV ps ss)[3*j+d]?=some w->(entV (kps (ps.take j) (ss.take j)) (sweep (ss.take j))++cs.drop (3*(sweep (ss.take j)).length))[3*j+d]?=some w:=by
      intro d hd w hw;rw[zk (by omega),zu,hK1,show 3*(sweep (ss.take j)).length+(3*j+d-3*(sweep (ss.take j)).length)=3*j+d by omega];exact E.get hw
     refine HJ (e:=0) hrow (get 0 (by omega) _ egu.1) (get 1 (by omega) _ egu.2.1) (get 2 (by omega) _ egu.2.2) (Wda λv5 e5 b5=>b5.rI rfl (b5.rI rfl (b5.rP rfl ?_)));have hn3v:n3<v.size:=hbo3.lt;have hcut:=(RowR.loc _ _ _).mono hro3 (G:=λb=>n3<b/\b<v.size) λb hb hf=>⟨hf,hb⟩;have hswl:=Wf8 (ss.take j);rw[zY]at hswl;refine WbW (e5.blk hbo3 id) ((RowR.loc _ _ _).keep0 hcut e5) (λb hb=>hb.1) (by omega) ((hSu.keep evo (λhh=>by rcases hh with h|h;exact E.fr.2.2 (h▸hm1.1);omega) (λhh=>by rcases hh with h|h;exact E.fr.2.2 (h▸hm1.2);omega)).keep0 e5) λv6 o6 e6 hb6 hr6=>?_;have hsz5:=e5.1;have hr6:=(RowR.loc _ _ _).mono hr6 (G:=λb=>n3<b) λb _ hb=>by
      rcases hb with h|h
      ·exact h.1
      ·omega
     have b6:Blk v6 v.size [.int .i64 (u.many:Int),.int .i64 (u.st:Int),.pointer (some ⟨yy.1,0,none⟩)]:=e6.blk b5 λhh=>by rcases hh with h|h;omega;have:=h.2;omega
     have hrb:rb<σ.size:=E.blk.lt;have row6:=e6.blk (e5.blk hrow id) λhh=>by rcases hh with h|h;omega;have:=h.1;omega
     have ev6:Ext (λb=>b=rb\/n3<=b) σ1 v6:=(ev.trans e5.to).trans (e6.sub λb hb=>by rcases hb with h|h;omega;have:=h.1;omega);rw[←Ue hsu]at hr6;have st:=Ur hsu;have kt:=WaX hpl hpy hsu;by_cases hum:u.many=0
     ·rw[zB hum,zAL]at st kt;have:(u.many==0)=true:=by simp[hum]
      rw[this];refine ifF rfl (arN (m:=j+1) (by omega) (by omega) ⟨⟨j+1,rfl,by omega,by omega,?_,?_,ev6,⟨o6,hb6,hr6⟩,?_⟩,by omega⟩)
      ·rw[st]
      ·rw[st];omega
      ·rw[st,kt];exact row6
     ·rw[zA hum]at st kt;have:(u.many==0)=false:=by simp[hum]
      rw[this];refine ifT rfl (b6.rI rfl (b6.rI rfl (b6.rP rfl (ix (by omega) (by omega) ?_))));rw[add_lit,show 0+((sweep (ss.take j)).length:Int).toNat*3=3*(sweep (ss.take j)).length by omega];have hlen6:(entV (kps (ps.take j) (ss.take j)) (sweep (ss.take j))++cs.drop (3*(sweep (ss.take j)).length)).length=cs.length:=by
       rw[zJ,hK1,zz];omega
      refine row6.s1 (by omega) λv7 o7 b7=>b7.s1 (by simp;omega) λv8 o8 b8=>b8.s1 (by simp;omega) λv9 o9 b9=>?_;rw[zt,set3 hK1.symm (by rw[zz];omega),List.drop_drop]at b9;have ev9:Ext (λb=>b=rb\/n3<=b) σ1 v9:=((ev6.trans (o7.ext.sub λb hb=>.inl hb)).trans (o8.ext.sub λb hb=>.inl hb)).trans (o9.ext.sub λb hb=>.inl hb);have e69:Ext (· = rb) v6 v9:=(o7.ext.trans o8.ext).trans o9.ext;refine arN (m:=(sweep (ss.take j)).length+1) (by omega) (by omega) (arN (m:=j+1) (by omega) (by omega) ⟨⟨j+1,rfl,by omega,by omega,?_,?_,ev9,⟨o6,e69.blk hb6 (by omega),(RowR.loc _ _ _).keep hr6 e69 λb _ hb he=>by omega⟩,?_⟩,by omega⟩)
      ·rw[st];simp
      ·rw[st];simp;omega
      ·rw[st,kt,Q7 (UE (by simp[hpl]))];simp only[zJ,zU,zAH,entV];rw[show 3*((sweep (ss.take j)).length+(0+1))=3*(sweep (ss.take j)).length+3 by omega];exact b9
    ·have hjj:j=ss.length:=by omega
     subst hjj;rw[zAA]at *;have htl:ps.take ss.length=ps:=by rw[←hpl,zAA]
     rw[htl]at hrow hK1;have hswl:=WgJ ss;refine slc (by omega) (by omega) (by omega) ?_;have hK3:3*(sweep ss).length<=cs.length:=by omega
     have hlt3:(sweep ss).length<ss.length:=hKj;rw[zA (by omega)];simp only[E.a,zb,add_lit,zG];refine⟨by simp[one1],?_⟩;simp only;have hz:(List.replicate (sl.len-(sweep ss).length) [Value.int .i64 0,.int .i64 0,.pointer none]).flatten.length=3*(sl.len-(sweep ss).length):=by
      rw[zDL,zCX,zDM];simp;omega
     refine KE (o:=(sweep ss).length*3) (i:=0) hrow (by rw[hz,zJ,hK1,zz];omega) λv10 o10 b10=>?_;refine slc (lo:=0) (by omega) (by omega) (by omega) ?_;have ev10:Ext (λb=>b=rb\/n3<=b) σ1 v10:=ev.trans (o10.ext.sub λb hb=>.inl hb);refine hR v10 _ (ev10.sub λb hb=>?_) ⟨o3,Wr o10 hbo3 (by have:=E.blk.lt;omega),(RowR.loc _ _ _).keep hro3 o10.ext λb _ hb he=>by have:=E.blk.lt;omega⟩ (.inr ?_)
     ·rcases hb with rfl|h
      ·exact .inl E.fr
      ·exact .inr h
     ·refine⟨by rw[Qf (UE hpl)];simp;omega,.inr ⟨rb,_,E.fr,?_,b10,?_,?_,?_⟩⟩
      ·simp only[E.a];split<;>simp[add_lit]
      ·simp only;omega
      ·simp only[zJ,zY,zz,hz,hK1];omega
      ·rw[Qf (UE hpl),zt,show(sweep ss).length*3=3*(sweep ss).length by omega];rw[zAC,zBM (by rw[zY,zJ,hK1];omega),zFB,Nat.min_self];rw[zBM (by omega),zAZ (by omega)]
  ·have hm':¬s.many=0:=by simpa using hm
   rw[zA hm',zAL]at hr2;refine arN (m:=i+1) (by omega) (by omega) ⟨⟨i+1,rfl,by omega,e.trans e2,⟨o2,hb2,hr2⟩,?_,?_,?_⟩,by omega⟩
   ·rw[Ue hs,q1,zA hm'];rfl
   ·rw[Ur hs,q2,zA hm',zr,hs];rfl
   ·rw[WaX hpl hp hs,q3,zA hm',zr,hp];rfl
 ·have hii:i=ss.length:=by omega
  subst hii;rw[zAA]at *;have htl:ps.take ss.length=ps:=by rw[←hpl,zAA]
  rw[htl]at q3;have hne1:((-1:Int)==(-1))=true:=rfl;refine ifT hne1 (hR h' sl (e.sub λb hb=>.inr hb) ?_ (.inl ⟨rfl,q1,q2,q3,e⟩));rw[q1];exact⟨o,hbo,hro⟩
theorem CeH.sl' (h:CeH σ F p c ps ss):∃sl:Sl,Blk σ p [.int .i64 (c.size:Int),.int .i64 (c.pages:Int),.int .i64 (c.batch:Int),.slice sl.a sl.len sl.cap]/\sl.len=ss.length/\RowR sl 3 (entV ps ss) σ (λb=>F b/\b≠p/\b∉blks ps) ∧
 ∃rb cs,(ss≠[]->EnR σ F p ps ss sl rb cs/\sl.len<=sl.cap/\cs.length=sl.cap*3):=by
 obtain⟨sl,hb,hr⟩:=h.hd;have hl:=hr.1;rw[Qf h.len]at hl;refine⟨sl,hb,by omega,hr,?_⟩;rcases hr.2 with⟨h0,_⟩|⟨b,cs,hq,ha,hbb,hle,hcl,ht⟩
 ·exact⟨0,[],λhne=>by have:=zCA.2 hne;omega⟩
 ·refine⟨b,cs,λ_=>⟨⟨ha,hbb,hq,λ{j v} hj=>?_,?_⟩,hle,hcl⟩⟩
  ·rw[←ht,zg]at hj;split at hj
   ·exact hj
   ·cases hj
  ·have:=congrArg List.length ht;rw[zY,Qf h.len]at this;omega
theorem Whn (h:CeH σ F p c ps ss){R:Sl->Hp->Prop}
 (hR:∀o σ',Ext F σ σ'->RowR o 2 (runV c (ZH ss)) σ' (λb=>σ.size<=b)->CeH σ' (Cut F σ) p c (kps ps ss) (sweep ss)->R o σ'):XI.c (some ⟨p,0,none⟩) σ R:=by
 refine XI.o ?_;unfold XI.v;have h:=CeH.loc.cut h;obtain⟨sl,hb,hl,hrow,rb,cs,hE⟩:=h.sl';refine QU h (ifF rfl (nw (cs:=[.slice none 0 0]) λv1 hz1 e1 hb1=>nilP ((e1.blk hb id).rS rfl ?_)));refine WeQ h e1 hl (zD _) hE ⟨⟨none,0,0⟩,hb1,RowR.nil _ _ _ _⟩ λv2 sl' e2 ⟨o,hbo,hro⟩ hcase=>nilP ?_;have hplt:=hb.lt;have hnd:=h.nd;have hsub:=WbT (WcK (ps:=ps) (ss:=ss));simp only[zm]at hnd;refine(e2.blk (e1.blk hb id) λhh=>by rcases hh with h|h;exact h.2.1 rfl;omega).s1 (by simp) λv3 o3 hb3=>?_;have hbo3:=Wr o3 hbo (by have:=hbo.lt;omega);refine hbo3.rS0 rfl (hR o v3 ?_ ((RowR.loc _ _ _).keep ((RowR.loc _ _ _).mono hro λb _ hb=>by omega) o3.ext λb _ hb he=>by omega) ?_)
 ·refine(e1.to.newT e2 λb hb=>?_).newT o3.ext λb hb=>?_
  ·rcases hb with h|h
   ·exact .inl h.1.1
   ·exact .inr h
  ·subst hb;exact .inl h.fp.1
 ·have esp:∀b,b∈blks ps->b<σ.size->¬(Cut F σ b/\b≠p/\b∉blks ps\/σ.size<=b):=λb hb hlt hh=>by
   rcases hh with h|h
   ·exact h.2.2 hb
   ·omega
  refine⟨⟨sl',hb3,?_⟩,λi x s hx hs=>?_,h.fp,λb hb=>h.fb b (hsub.subset hb),?_,UE h.len,h.ok,h.srt.sublist zCS⟩
  ·rcases hcase with⟨rfl,_,q2,q3,ex⟩|hr
   ·rw[q2,q3];exact(RowR.loc _ _ _).keep ((RowR.loc _ _ _).keep ((RowR.loc _ _ _).keep0 hrow e1) ex λb _ hb he=>by have:=hb.1.2;omega) o3.ext λb _ hb he=>hb.2.1 he
   ·exact(RowR.loc _ _ _).keep ((RowR.loc _ _ _).mono hr λb _ hb=>⟨hb.1,hb.2.1,λhm=>hb.2.2 (hsub.subset hm)⟩) o3.ext λb _ hb he=>hb.2.1 he
  ·obtain⟨j,hxj,hsj⟩:=Wgl h.len hx hs;have hS:=h.sp j x s hxj hsj;have hm:=ZK hxj;have hl:=hS.lt;exact((hS.keep0 e1).keep e2 (esp _ hm.1 hl.1) (esp _ hm.2 hl.2)).keep o3.ext (λhe=>hnd.1 (he▸hm.1)) (λhe=>hnd.1 (he▸hm.2))
  ·simp only[zm];exact⟨λhm=>hnd.1 (hsub.subset hm),hnd.2.sublist hsub⟩
theorem Wj7 {x:Int}{k i:Nat}{s:SpA}(hc:0<c.size)(hk:ofS c ss x=some k)(hs:ss[k]?=some s)(v:Bool)(y:Int):ofS c (ss.set k (s.put i v)) y=ofS c ss y:=by
 have hid:∀t:SpA,∀j w z,idx c (t.put j w) z=idx c t z:=λt j w z=>by unfold idx SpA.put;simp only[zBQ]
 unfold ofS;have hki:=(gSi.1 hs).1;have:(ss.set k (s.put i v)).map (λs=>(idx c s y).isSome)=ss.map (λs=>(idx c s y).isSome):=by
  apply zn;intro j;simp only[za];by_cases hjk:j=k
  ·subst hjk;rw[zK hki,hs];simp[hid]
  ·rw[zf (Ne.symm hjk)]
 have h2:∀l:List SpA,l.findIdx? (λs=>(idx c s y).isSome)=(l.map λs=>(idx c s y).isSome).findIdx? id:=λl=>by rw[List.findIdx?_map];rfl
 rw[h2,h2,this]
def AllT (c:Cls)(ss:List SpA)(xs:List Int):Prop:=(∀x∈xs,isTk c ss x=some true)/\xs.Nodup
theorem UW {x:Int}{b:Bool}(h:isTk c ss x=some b):∃k s i,ofS c ss x=some k/\ss[k]?=some s/\obj c s x=some i/\s.is i=b:=by
 unfold isTk at h;split at h
 ·rename_i k hk;split at h
  ·rename_i s hs;cases ho:obj c s x with
   | none=>rw[ho]at h;cases h
   | some i=>rw[ho]at h;exact⟨k,s,i,hk,hs,ho,by simpa[SpA.is]using h⟩
  ·cases h
 ·cases h
theorem Wai {x:Int}{k i:Nat}{s:SpA}(hk:ofS c ss x=some k)(hs:ss[k]?=some s)(ho:obj c s x=some i):put1 c ss x=ss.set k (s.put i false):=by
 simp[put1,hk,hs,ho]
theorem Wfj {x y:Int}(hc:0<c.size)(hx:isTk c ss x=some true)(hne:y≠x):isTk c (put1 c ss x) y=isTk c ss y:=by
 obtain⟨k,s,i,hk,hs,ho,_⟩:=UW hx;rw[Wai hk hs ho];have hki:=(gSi.1 hs).1;have hof:=Wj7 hc hk hs false (i:=i) y;have hob:∀t:SpA,∀j w z,obj c (t.put j w) z=obj c t z:=λt j w z=>by unfold obj idx at_ SpA.put;simp only[zBQ]
 cases hy:ofS c ss y with
 | none=>rw[HR (hof.trans hy),HR hy]
 | some m=>
  by_cases hmk:m=k
  ·subst hmk;rw[KB (hof.trans hy) (zK hki),KB hy hs,hob];cases hoy:obj c s y with
   | none=>rfl
   | some j=>
    simp only[zb,Option.some.injEq];have hij:i≠j:=λe=>by
     subst e;exact hne (((Vr hc).1 hoy).1.trans ((Vr hc).1 ho).1.symm)
    simp[SpA.is,SpA.put,zO,zf hij]
  ·have hml:m<ss.length:=(zAU.1 hy).1;rw[KB (hof.trans hy) ((zf (Ne.symm hmk)).trans (gGe hml)),KB hy (gGe hml)]
theorem AllT.next {x:Int}{xs:List Int}(hc:0<c.size)(h:AllT c ss (x::xs)):AllT c (put1 c ss x) xs:=by
 have hn:=zm.1 h.2;refine⟨λy hy=>?_,hn.2⟩;rw[Wfj hc (h.1 x (by simp)) λe=>hn.1 (e▸hy)];exact h.1 y (by simp[hy])
theorem Wfz {xs:List Int}(h:putE c ss xs=0):AllT c ss xs:=by
 unfold putE at h;split at h
 ·cases h
 ·rename_i h1;split at h
  ·cases h
  ·rename_i h2;simp only[zBH,not_or,zBJ,zAP,Bool.not_eq_false',zN,zS]at h1 h2;refine⟨λx hx=>?_,h2.2⟩;have a:=h1 x hx;have b:=h2.1 x hx;cases ht:isTk c ss x with
   | none=>rw[ht]at a;simp at a
   | some v=>
    cases v
    ·rw[ht]at b;exact absurd rfl b
    ·rfl
theorem Wd4 {sl:Sl}{xs:List Int}{X:Rg}(h:CeH σ F p c ps ss)(hs:SlR sl 1 (xs.map (Value.int .i64)) σ X)(hX:∀b,X b->¬F b)(hi:∀x∈xs,I63 x)(hA:AllT c ss xs)(hl:xs.length<=1000000){K:Hp->Prop}
 (hK:∀σ',Ext F σ σ'->CeH σ' F p c ps (xs.foldl (put1 c) ss)->K σ') :
 XL [(.i .i64)] (λI1=>I1 0 σ) λJ3 (t49:Int) v6=>If (decide (t49<((sl.len:Nat):Int))) (Ix sl.a sl.len t49 1 λa51=>LdI .i64 a51 v6 λaddr1=>
  Xu.c (some ⟨p,0,none⟩) addr1 v6 λvx v7=>NilP vx λa57=>LdP (a57.add 2) v7 λt59=>Y4.c t59 addr1 v7 λt61 v8=>NilP vx λa63=>LdI .i64 ((a63.add 0).add 0) v8 λt66=>
  Ar .i64 (t66-1) λt67=>NilP vx λa68=>St1 ((a68.add 0).add 0) (.int .i64 t67) v8 λv9=>Ar .i64 (t49+1) λt71=>J3 t71 v9) (K v6):=by
 have hlen:sl.len=xs.length:=by have:=hs.1;simp at this;omega
 have hcs:0<c.size:=by have:=h.ok.1;omega
 refine Zw (a:=.i .i64) (λ(t:Int) h'=>∃(i:Nat) (ss':List SpA),t=(i:Int)/\i<=xs.length/\Ext F σ h'/\CeH h' F p c ps ss'/\AllT c ss' (xs.drop i)/\(xs.drop i).foldl (put1 c) ss'=xs.foldl (put1 c) ss) (λt _=>xs.length-t.toNat) ⟨0,ss,rfl,by omega,Ext.refl _ _,h,by simpa using hA,by simp⟩ ?_;rintro t h' ⟨i,ss',rfl,hil,e,hC,hA',hf⟩;refine ifD (λhlt=>?_) λhge=>?_
 ·have hi':i<xs.length:=by omega
  have hx:xs[i]?=some xs[i]:=gGe hi';have hd:xs.drop i=xs[i]::xs.drop (i+1):=List.drop_eq_getElem_cons hi';rw[hd]at hA' hf;refine((SlR.loc _ _ _).keep hs e λb _ hb hF=>hX b hb hF).ixI hx ?_;obtain⟨k,s,j,hk,hss,ho,hit⟩:=UW (hA'.1 xs[i] zCC);have hix:=hi xs[i] (zj hi');refine WgU hC xs[i] hix (λhn=>by rw[hk]at hn;cases hn) λk' sl' rb cs hof hkl hb E=>nilP ?_;rw[hk]at hof;cases hof;obtain⟨yy,s',hp,hs',hS⟩:=hC.at_i hkl;rw[hss]at hs';cases hs';have eg:=ZJ hp hss;have hj:=((Vr hcs).1 ho).2;refine E.blk.rP (x:=some ⟨yy.1,0,none⟩) (E.get eg.2.2) ?_;refine Wjl hS hix ho hit λv8 e8 hS8=>nilP ?_;have hmx:=ZK hp;have nrb:¬(rb=yy.1\/rb=yy.2):=λhh=>E.fr.2.2 (by rcases hh with h|h<;>rw[h];exact hmx.1;exact hmx.2)
  have hml:=U2 s;have hmany:=UZ hj false;rw[hit]at hmany;have hsl:=hS.len;have hnl:=hS.ok.n_le;have hmany':((s.put j false).many:Int)=s.many-1:=by simp at hmany;omega
  refine(e8.blk E.blk nrb).rI2 (E.get eg.1) (ar (by omega) (by omega) (nilP ?_));simp only[add_lit,zt];rw[←hmany'];refine hC.turn (s':=s.put j false) hp hss rfl e8 hS8 hb E λv9 e9 hC9=>?_;refine arN (m:=i+1) (by omega) (by omega) ⟨⟨i+1,_,rfl,by omega,e.trans e9,hC9,?_,?_⟩,by omega⟩
  ·have:=AllT.next hcs hA'
   rwa [Wai hk hss ho]at this
  ·rw[zBV,Wai hk hss ho]at hf;exact hf
 ·have:i=xs.length:=by omega
  subst this;rw[List.drop_length,List.foldl_nil]at hf;subst hf;exact hK h' e hC
theorem WjT (h:CeH σ F p c ps ss){sl:Sl}{xs:List Int}{X:Rg}(hs:SlR sl 1 (xs.map (Value.int .i64)) σ X)(hX:∀b,X b->¬F b)(hi:∀x∈xs,I63 x)(hl:xs.length<=1000000)(hcap:sl.len<=sl.cap){R:Sl->Int->Hp->Prop}
 (h0:putE c ss xs≠0->R ⟨none,0,0⟩ (putE c ss xs) σ)
 (h1:putE c ss xs=0->∀o σ',Ext F σ σ'->RowR o 2 (runV c (ZH (xs.foldl (put1 c) ss))) σ' (λb=>σ.size<=b)->CeH σ' (Cut F σ) p c (kps ps (xs.foldl (put1 c) ss)) (sweep (xs.foldl (put1 c) ss))->R o 0 σ') :
 YA.c (some ⟨p,0,none⟩) sl σ R:=by
 refine YA.o ?_;unfold YA.v;have hlen:sl.len=xs.length:=by have:=hs.1;simp at this;omega
 refine QU h (ifF rfl ?_);have tw:∀i,(xs.take i).any (λx=>isTk c ss x==some false)=true\/¬(xs.take i).Nodup->(∀x∈xs,(isTk c ss x).isSome=true)->putE c ss xs=9:=by
  intro i hb hall;unfold putE;rw[zA,zB]
  ·rcases hb with hb|hb
   ·rw[zl]at hb;obtain⟨x,hx,hx2⟩:=hb;have:xs.any (λx=>isTk c ss x==some false)=true:=zl.2 ⟨x,zBS hx,hx2⟩;rw[this];rfl
   ·have:¬xs.Nodup:=λhn=>hb (hn.sublist (zGC _ _));simp[this]
  ·simp only[zBJ,zAP];intro x hx;have:=hall x hx;cases ht:isTk c ss x
   ·rw[ht]at this;cases this
   ·simp
 refine Ks (a:=.b) (bb:=.i .i64) (λ(tw:Bool) (t:Int) h'=>∃i:Nat,t=(i:Int)/\i<=xs.length/\h'=σ/\(∀x∈xs.take i,(isTk c ss x).isSome=true)/\(tw=true↔(xs.take i).any (λx=>isTk c ss x==some false)=true\/¬(xs.take i).Nodup)) (λ_ t _=>xs.length-t.toNat)
  ⟨0,rfl,by omega,rfl,by simp,by simp⟩ ?_
 rintro tw' t h' ⟨i,rfl,hil,rfl,hsome,htw⟩;refine ifD (λhlt=>?_) λhge=>?_
 ·have hi':i<xs.length:=by omega
  have hx:xs[i]?=some xs[i]:=gGe hi';have hix:=hi xs[i] (zj hi');have htk:xs.take (i+1)=xs.take i++[xs[i]]:=by rw[zr,hx];rfl
  refine hs.ixI hx (HX h xs[i] hix (λb hb=>ifF rfl ?_) λhn=>ifT rfl ?_)
  ·have hsome':∀x∈xs.take (i+1),(isTk c ss x).isSome=true:=by
    rw[htk];intro x hx;rcases zM.1 hx with h1|h1
    ·exact hsome x h1
    ·simp at h1;subst h1;rw[hb];rfl
   have fin:∀r1:Bool,(r1=true↔(xs.take (i+1)).any (λx=>isTk c ss x==some false)=true\/¬(xs.take (i+1)).Nodup)->Ar .i64 ((i:Int)+1) λt45=>
    (∃j:Nat,t45=(j:Int)/\j<=xs.length/\h'=h'/\(∀x∈xs.take j,(isTk c ss x).isSome=true)/\(r1=true↔(xs.take j).any (λx=>isTk c ss x==some false)=true\/¬(xs.take j).Nodup))/\xs.length-t45.toNat<xs.length-(i:Int).toNat:=
    λr1 hr1=>arN (m:=i+1) (by omega) (by omega) ⟨⟨i+1,rfl,by omega,rfl,hsome',hr1⟩,by omega⟩
   have hnd:∀y:Int,(xs.take i++[y]).Nodup↔(xs.take i).Nodup/\y∉xs.take i:=λy=>by
    rw[zAY];constructor
    ·exact λh=>⟨h.1,λhm=>h.2.2 y hm y (by simp) rfl⟩
    ·exact λh=>⟨h.1,by simp,λa ha z hz e=>by simp at hz;subst hz;exact h.2 (e▸ha)⟩
   have ex:(xs.take (i+1)).any (λx=>isTk c ss x==some false)=true\/¬(xs.take (i+1)).Nodup↔(tw'=true\/b=false)\/xs[i]∈xs.take i:=by
    rw[htk,hnd,List.any_append,htw];simp only[List.any_cons,List.any_nil,Bool.or_false,zBH,hb];have hbb:((some b==some false)=true)↔b=false:=by cases b<;>simp
    rw[hbb];constructor
    ·rintro((h|h)|h)
     ·exact .inl (.inl (.inl h))
     ·exact .inl (.inr h)
     ·by_cases hn:(xs.take i).Nodup
      ·by_cases hm:xs[i]∈xs.take i
       ·exact .inr hm
       ·exact absurd ⟨hn,hm⟩ h
      ·exact .inl (.inl (.inr hn))
    ·rintro(((h|h)|h)|h)
     ·exact .inl (.inl h)
     ·exact .inr λhh=>h hh.1
     ·exact .inl (.inr h)
     ·exact .inr λhh=>hh.2 h
   have J1:∀r:Bool,(r=true↔tw'=true\/b=false)->JnB (λr1 v4=>Ar .i64 ((i:Int)+1) λt45=>
    (∃j:Nat,t45=(j:Int)/\j<=xs.length/\v4=h'/\(∀x∈xs.take j,(isTk c ss x).isSome=true)/\(r1=true↔(xs.take j).any (λx=>isTk c ss x==some false)=true\/¬(xs.take j).Nodup))/\xs.length-t45.toNat<xs.length-(i:Int).toNat) λJ2=>
    If r (J2 true h') (SlcL sl 1 0 (i:Int) (sl.cap:Nat) λt41=>Wm.c t41 xs[i] h' λt43 v5=>J2 t43 v5):=by
    intro r hr;refine JnB.intro ?_;cases r
    ·refine ifF rfl ?_;refine slc (lo:=0) (by omega) (by omega) (by omega) ?_;have hsub:SlR ⟨if sl.cap=0 then sl.a else sl.a.map (·.add (0*1)),i-0,sl.cap-0⟩ 1 ((xs.take i).map (Value.int .i64)) h' X:=by
      refine⟨by simp;omega,?_⟩;rcases hs.2 with h0|⟨b',o',cs',hf',ha',hb',hc'⟩
      ·left;have:xs=[]:=by simpa using h0
       simp[this]
      ·refine .inr ⟨b',o',cs',hf',?_,hb',λj hj=>?_⟩
       ·rw[zA (by omega),ha'];simp[add_lit]
       ·simp only[zh,zY]at hj;rw[hc' j (by simp;omega),List.map_take,zg,zB (by omega)]
     refine Wbs hsub (by simp;omega) _ (fin _ ?_);rw[ex,←hr];simp
    ·refine ifT rfl (fin true ?_);rw[ex,←hr];simp
   refine JnB.intro ?_;cases tw'
   ·refine ifF rfl (J1 _ ?_);cases b<;>simp
   ·exact ifT rfl (J1 _ (by simp))
  ·have:putE c ss xs=8:=by
    unfold putE;rw[zB];exact zl.2 ⟨xs[i],zj hi',by rw[hn];rfl⟩
   have h0:=h0 (by rw[this];decide);rw[this]at h0;exact h0
 ·have:i=xs.length:=by omega
  subst this;rw[zAA]at *;cases tw'
  ·refine ifF rfl ?_;have hE:putE c ss xs=0:=by
    unfold putE;have h2:¬(xs.any (λx=>isTk c ss x==some false)=true\/¬xs.Nodup):=λhh=>by have:=htw.2 hh;cases this
    rw[zA,zA]
    ·simp only[not_or,zBJ,Decidable.not_not]at h2;rw[h2.1];simp[h2.2]
    ·simp only[zBJ,zAP];intro x hx;have:=hsome x hx;cases ht:isTk c ss x
     ·rw[ht]at this;cases this
     ·simp
   refine Wd4 (CeH.loc.cut h) hs (λb hb hf=>hX b hb hf.1) hi (Wfz hE) hl λv6 e6 hC6=>?_;refine Whn hC6 λo v10 e10 hro hC10=>?_;exact h1 hE o v10 ((e6.trans e10).sub λb hb=>hb.1) ((RowR.loc _ _ _).mono hro λb _ hb=>ze e6.1 hb) (CeH.loc.mono hC10 λb _ hb=>hb.1)
  ·refine ifT rfl ?_;have h9:=tw xs.length (by rw[zAA];exact htw.1 rfl) hsome;have h0:=h0 (by rw[h9];decide);rw[h9]at h0;exact h0
theorem WcH {x y:Sl}{a o b o':Nat}{cs ds:List Value}(hx:x.a=some ⟨a,o,none⟩)(hy:y.a=some ⟨b,o',none⟩)(ha:Blk σ a cs)(hb:Blk σ b ds)(hne:a≠b)(hd:ds≠[]){K:Bool->Hp->Prop}(hK:K false σ) :
 ExtB Tryz.prog 282 [.slice x.a x.len x.cap,.slice y.a y.len y.cap] σ K:=by
 rintro w rfl;obtain⟨ea,ha⟩:=ha;obtain⟨eb,hb⟩:=hb;refine⟨false,w,?_,.refl _,hK⟩;rw[hx,hy,run_callFunc_extern Tryz.func282 (by kernel_rfl) (by kernel_rfl) (by kernel_rfl) (e:=Extern.SlicesOverlaps.overlaps #[203,203] #[4]) (by kernel_rfl)];have:=Lib.run_overlaps_apart (P:=Tryz.prog) w 203 4 210 Tryz.underlying203 3 Tryz.sizeOf210
  ⟨a,o,none⟩ ⟨b,o',none⟩ x.len x.cap y.len y.cap hne ea eb cs.length ds.length (by simp[World.shape?,ha]) (by simp[World.shape?,hb]) (by simpa using hd) (by simp[World.frozen?,ha]) (by simp[World.frozen?,ha])
 rw[this];rfl
theorem Wfs {Q:Rg}{s:Sl}{xs:List Value}{i m vb:Nat}{x y z:Value}(h:RowR s 3 xs σ Q)(hlen:s.len=m)(hm:m<=2000)(hi:i<=m)(hv:Blk σ vb [x,y,z])(hvb:¬Q vb)(h1:∀v∈xs,one1 v=true)(h2:one1 x=true/\one1 y=true/\one1 z=true)
 {R:Sl->Hp->Prop} (hR:∀s' σ',Ext Q σ σ'->RowR s' 3 (xs.take (3*i)++[x,y,z]++xs.drop (3*i)) σ' (Grow Q σ)->R s' σ') :
 Wg.c s (i:Int) ⟨some ⟨vb,0,none⟩,1,1⟩ σ R:=by
 refine Wg.o ?_;unfold Wg.v;have hxl:=h.1;have hcap:s.len<=s.cap:=by
  rcases h.2 with⟨h0,h0'⟩|⟨b,cs,_,_,_,hle,_⟩
  ·omega
  ·exact hle
 have hrd:Rd σ (some ⟨vb,0,none⟩) [x,y,z]:=by
  intro j u hu;rw[add_lit,zG,hv.cell];exact hu
 have ho:∀v∈[x,y,z],one1 v=true:=by simp[h2]
 refine slc (by omega) (by omega) (by omega) (ifF rfl (iff_ (λhe=>?_) λhe=>?_))
 ·have hie:i=m:=by
   have:(i:Int)=((s.len:Nat):Int):=by simpa using he
   omega
  refine h.app (ys:=[x,y,z]) rfl rfl hrd ho (by first|omega | (simp only;omega)) (by first|omega | (simp only;omega)) zBA λs' h' hl' e' ho'=>hR s' h' e' ?_
  rw[zAZ (by omega),List.drop_of_length_le (by omega),zAL];exact ho'
 ·have hie:i<m:=by
   have:¬(i:Int)=((s.len:Nat):Int):=by simpa using he
   omega
  obtain⟨b,cs,hQ,ha,hb,hle,hcl,ht⟩:∃b cs,Q b/\s.a=some ⟨b,0,none⟩/\Blk σ b cs/\s.len<=s.cap/\cs.length=s.cap*3/\cs.take xs.length=xs:=by
   rcases h.2 with⟨h0,_⟩|h
   ·omega
   ·exact h
  have hbv:vb≠b:=λe=>hvb (e▸hQ);have hxcs:∀j v,xs[j]?=some v->cs[j]?=some v:=λj v hj=>by
   rw[←ht,zg]at hj;split at hj
   ·exact hj
   ·cases hj
  refine arN (m:=m+1) (by first|omega | (simp only;omega)) (by omega) (ifD (λhgt=>?_) λhle2=>?_)
  ·-- no room: a new row
   refine slc (lo:=0) (by omega) (by omega) (by omega) (arN (m:=m+1) (by first|omega | (simp only;omega)) (by omega) (arN (m:=m+1-i) (by omega) (by omega) ?_))
   have hcz:¬s.cap=0:=by omega
   rw[zA hcz];simp only[ha,zb,add_lit,zDZ,zt,Nat.sub_zero];refine⟨by omega,xs.take (3*i),by rw[zY];simp only;omega,?_,by simp[one1],by simp only;omega,by simp only;omega,by omega,λhin=>by simp only at hin;omega,λ_ cc hcc=>?_⟩
   ·intro j v hj;rw[add_lit,zG,hb.cell];rw[zg]at hj;split at hj
    ·exact hxcs j v hj
    ·cases hj
   simp only[iTn]at hcc ⊢;have hi1:i+(m+1-i)=m+1:=by omega
   rw[hi1]at hcc ⊢;refine nw λv2 hz2 e2 hb2=>?_;have hzl:∀k,(List.replicate k [Value.int .i64 0,.int .i64 0,.pointer none]).flatten.length=3*k:=λk=>by
    rw[zDL,zCX,zDM];simp;omega
   have htl:(xs.take (3*i)).length=3*i:=by rw[zY];omega
   refine slc (by first|omega | (simp only;omega)) (by first|omega | (simp only;omega)) (by first|omega | (simp only;omega)) ?_
   have hv2:=e2.blk hv id;have n1:(if cc=i then(some ⟨σ.size,0,none⟩:Option Addr)else(some ⟨σ.size,0,none⟩:Option Addr).map (·.add (i*3)))=some ⟨σ.size,i*3,none⟩:=by
    have:¬cc=i:=by omega
    rw[zA this];simp[add_lit]
   rw[n1];refine⟨[x,y,z],by simp only;rw[zBZ (by omega)];rfl,?_,ho,?_⟩
   ·intro j u hu;rw[add_lit,zG,hv2.cell];exact hu
   simp only;refine KE (o:=i*3) (i:=0) hb2 (by simp only[zJ,htl,hzl,zU,zAH];omega) λv3 o3 b3=>?_;refine arN (m:=i+1) (by first|omega | (simp only;omega)) (by omega) (slc (by first|omega | (simp only;omega)) (by first|omega | (simp only;omega)) (by first|omega | (simp only;omega)) (slc (by omega) (by omega) (by omega) ?_))
   have hb3':Blk v3 b cs:=Wr o3 (e2.blk hb id) (by have:=hb.lt;omega);have hdl:(xs.drop (3*i)).length=3*(m-i):=by rw[zz];omega
   refine⟨xs.drop (3*i),by simp only;rw[zBZ (by omega),hdl];omega,?_,λv hv=>h1 v (zDI hv),?_⟩
   ·have hci:¬s.cap=i:=by omega
    rw[zA hci];simp only[ha,zb,add_lit];intro j v hj;rw[add_lit,hb3'.cell];rw[zu]at hj;have:=hxcs _ _ hj;rw[show 0+i*3+j=3*i+j by omega];exact this
   have hbig:(xs.take (3*i)++(List.replicate (m+1-i) [Value.int .i64 0,.int .i64 0,.pointer none]).flatten++(List.replicate (cc-(m+1)) [Value.int .i64 0,.int .i64 0,.pointer none]).flatten).length=3*cc:=by
    simp only[zJ,htl,hzl];omega
   have tk:∀L:List Value,((xs.take (3*i)++(List.replicate (m+1-i) [Value.int .i64 0,.int .i64 0,.pointer none]).flatten++(List.replicate (cc-(m+1)) [Value.int .i64 0,.int .i64 0,.pointer none]).flatten).take (3*i))=xs.take (3*i):=λ_=>by
    rw[zAC,zBM (by omega),zAZ (by omega)]
   have fin:∀v4,ZY v3 v4 σ.size->Blk v4 σ.size ((xs.take (3*i)++[x,y,z])++xs.drop (3*i)++((xs.take (3*i)++(List.replicate (m+1-i) [Value.int .i64 0,.int .i64 0,.pointer none]).flatten++(List.replicate (cc-(m+1)) [Value.int .i64 0,.int .i64 0,.pointer none]).flatten).drop (3*i+3)).drop (3*(m-i)))->R ⟨some ⟨σ.size,0,none⟩,m+1,cc⟩ v4:=by
    intro v4 o4 b4;refine hR _ v4 ?_ ⟨?_,.inr ⟨σ.size,_,.inr (zD _),rfl,b4,by simp only;omega,?_,?_⟩⟩
    ·exact((e2.to.newT o3.ext λi hi=>by subst hi;exact .inr (zD _)).newT o4.ext λi hi=>by subst hi;exact .inr (zD _))
    ·simp only[zJ,htl,hdl,zU,zAH];omega
    ·simp only[zJ,htl,hdl,zU,zAH,zz,hzl];omega
    ·rw[zAC (xs.take (3*i)++[x,y,z]),←zAC,zFC];rfl
   have e3:(xs.take (3*i)++(List.replicate (m+1-i) [Value.int .i64 0,.int .i64 0,.pointer none]).flatten++(List.replicate (cc-(m+1)) [Value.int .i64 0,.int .i64 0,.pointer none]).flatten).take (i*3+0)=xs.take (3*i):=by
    rw[show i*3+0=3*i by omega];exact tk []
   rw[e3]at b3;have hlen3:(xs.take (3*i)++[x,y,z]++(xs.take (3*i)++(List.replicate (m+1-i) [Value.int .i64 0,.int .i64 0,.pointer none]).flatten++(List.replicate (cc-(m+1)) [Value.int .i64 0,.int .i64 0,.pointer none]).flatten).drop (i*3+0 + [x,y,z].length)).length=3*cc:=by
    simp only[zJ,zz,htl,hzl,zU,zAH];omega
   by_cases hci:cc=i+1
   ·exfalso;omega
   ·rw[zA hci];simp only[zb,add_lit,zG];refine KE (o:=(i+1)*3) (i:=0) b3 (by rw[hlen3,hdl];omega) λv4 o4 b4=>fin v4 o4 ?_;have q1:(i+1)*3+0=(xs.take (3*i)++[x,y,z]).length:=by rw[zJ,htl];simp;omega
    have q2:(i+1)*3+0+(xs.drop (3*i)).length=(xs.take (3*i)++[x,y,z]).length+3*(m-i):=by rw[hdl,q1]
    rw[q2,q1,zFC,List.drop_append]at b4
    ·rw[List.drop_of_length_le (show(xs.take (3*i)++[x,y,z]).length<=(xs.take (3*i)++[x,y,z]).length+3*(m-i) by omega),zCK]at b4;have q3:i*3+0 + [x,y,z].length=3*i+3:=by simp;omega
     rw[q3]at b4;have q4:(xs.take (3*i)++[x,y,z]).length+3*(m-i)-(xs.take (3*i)++[x,y,z]).length=3*(m-i):=by omega
     rw[q4]at b4;exact b4
    ·rfl
  ·-- room: the rest moves
   have hle3:m+1<=s.cap:=by omega
   have hcz:¬s.cap=0:=by omega
   have hci:¬s.cap=i:=by omega
   refine arN (m:=m+1) (by first|omega | (simp only;omega)) (by omega) (slc (lo:=0) (by omega) (by omega) (by omega) ?_)
   rw[zA hcz];simp only[ha,zb,add_lit,zDZ,zt,Nat.sub_zero];refine arN (m:=i+1) (by first|omega | (simp only;omega)) (by omega) (slc (by first|omega | (simp only;omega)) (by first|omega | (simp only;omega)) (by first|omega | (simp only;omega)) ?_)
   have hxcs':cs.take (3*m)=xs:=by rw[←hlen,show 3*s.len=xs.length by omega];exact ht
   have na:∃o',(if s.cap=i+1 then(some ⟨b,0,none⟩:Option Addr)else(some ⟨b,0,none⟩:Option Addr).map (·.add ((i+1)*3)))=some ⟨b,o',none⟩:=by
    split
    ·exact⟨0,rfl⟩
    ·exact⟨_,by simp[add_lit];rfl⟩
   obtain⟨o',na⟩:=na;refine WcH (x:=⟨some ⟨vb,0,none⟩,1,1⟩) (a:=vb) (o:=0) (b:=b) rfl na hv hb hbv (λe=>by rw[e]at hcl;simp at hcl;omega) (ifT rfl ?_);refine arN (m:=i+1) (by first|omega | (simp only;omega)) (by omega) (slc (by first|omega | (simp only;omega)) (by first|omega | (simp only;omega)) (by first|omega | (simp only;omega)) (slc (by first|omega | (simp only;omega)) (by first|omega | (simp only;omega)) (by first|omega | (simp only;omega)) ?_))
   have hne1:¬s.cap=i+1:=by omega
   rw[zA hne1,zA hci];simp only[zb,add_lit,zG];have hdl:(xs.drop (3*i)).length=3*(m-i):=by rw[zz];omega
   refine⟨xs.drop (3*i),by simp only;rw[Nat.min_eq_right (by omega),hdl];omega,?_,λv hv=>h1 v (zDI hv),?_⟩
   ·intro j v hj;rw[add_lit,hb.cell];rw[zu]at hj;have:=hxcs _ _ hj;rw[show i*3+j=3*i+j by omega];exact this
   refine KE (o:=(i+1)*3) (i:=0) hb (by rw[hdl];omega) λv3 o3 b3=>?_;refine slc (by first|omega | (simp only;omega)) (by first|omega | (simp only;omega)) (by first|omega | (simp only;omega)) ?_
   rw[zA hci];simp only[zb,add_lit,zG];have hv3:=Wr o3 hv hbv;refine⟨[x,y,z],by simp only;rw[zBZ (by omega)];rfl,?_,ho,?_⟩
   ·intro j u hu;rw[add_lit,zG,hv3.cell];exact hu
   have hl3:(cs.take ((i+1)*3+0)++xs.drop (3*i)++cs.drop ((i+1)*3+0+(xs.drop (3*i)).length)).length=cs.length:=by
    simp only[zJ,zY,zz,hdl];omega
   refine KE (o:=i*3) (i:=0) b3 (by rw[hl3];simp;omega) λv4 o4 b4=>?_;have a1:(cs.take ((i+1)*3+0)).length=3*i+3:=by rw[zY];omega
   have htl:(xs.take (3*i)).length=3*i:=by rw[zY];omega
   have p1:(cs.take ((i+1)*3+0)++xs.drop (3*i)++cs.drop ((i+1)*3+0+(xs.drop (3*i)).length)).take (i*3+0)=xs.take (3*i):=by
    rw[zAC,zBM (by omega),zFB,zBZ (by omega),←hxcs',zFB,zBZ (by omega)]
    congr 1;omega
   have p2:(cs.take ((i+1)*3+0)++xs.drop (3*i)++cs.drop ((i+1)*3+0+(xs.drop (3*i)).length)).drop (i*3+0 + [x,y,z].length)=xs.drop (3*i)++cs.drop ((i+1)*3+0+(xs.drop (3*i)).length):=by
    rw[zAC,List.drop_left'];rw[a1];simp;omega
   rw[p1,p2,←zAC]at b4;refine hR _ v4 ((Ext.of_only (F:=Q) o3 hQ).trans (Ext.of_only o4 hQ)) ⟨?_,.inr ⟨b,_,.inl hQ,rfl,b4,(by first|omega | (simp only;omega)),?_,?_⟩⟩
   ·simp only[zJ,htl,zU,zAH,hdl];omega
   ·simp only[zJ,htl,zz,zU,zAH,hdl];omega
   ·rw[zFC];rfl
def YU (ss:List SpA)(st:Nat):Nat:=(ss.takeWhile (λs=>s.st<st)).length
theorem Uo (l:List SpA)(P:SpA->Bool):l.takeWhile P=l.take (l.takeWhile P).length/\l.dropWhile P=l.drop (l.takeWhile P).length:=by
 induction l with
 | nil=>simp
 | cons x l ih=>
  simp only[List.takeWhile_cons,List.dropWhile_cons];cases P x
  ·simp
  ·simp only[zP,zU,zGD,zFD];exact⟨by rw[←ih.1],ih.2⟩
theorem HW (c:Cls)(ss:List SpA)(st:Nat):addS c ss st=ss.take (YU ss st)++⟨st,List.replicate c.n false⟩::ss.drop (YU ss st):=by
 have:=Uo ss (λs=>decide (s.st<st));unfold addS YU;rw[this.2,←this.1]
theorem Uv (hs:ss.Pairwise (λa b=>a.st<b.st))(st:Nat):YU ss st<=ss.length/\∀(i:Nat) s,ss[i]?=some s->(s.st<st↔i<YU ss st):=by
 unfold YU
 induction ss with
 | nil=>simp
 | cons x ss ih=>
  have hp:=zBT.1 hs;obtain⟨h1,h2⟩:=ih hp.2;simp only[List.takeWhile_cons];by_cases hx:x.st<st
  ·simp only[hx,decide_true,zP,zU];refine⟨by omega,λi s hi=>?_⟩;cases i with
   | zero=>simp at hi;subst hi;simp[hx]
   | succ i=>have:=h2 i s (by simpa using hi);omega
  ·simp only[hx,decide_false,zZ,zq,zAH,Nat.zero_le,Nat.not_lt_zero,iff_false,zCZ];intro i s hi;cases i with
   | zero=>simp at hi;subst hi;exact hx
   | succ i=>
    have:=hp.1 s (zE (i:=i) (by simpa using hi));omega
theorem WgQ (h:CeH σ F p c ps ss){σ1:Hp}(e1:Ext0 σ σ1){sl:Sl}{rb:Nat}{cs:List Value}(hl:sl.len=ss.length)(hE:ss≠[]->EnR σ F p ps ss sl rb cs)(st:Nat)(hst:st<=1024){R:Int->Bool->Hp->Prop}(hR:∀σ' b,Ext0 σ1 σ'->R (YU ss st:Int) b σ') :
 Wb.c sl (st:Int) ⟨258,#[],#[]⟩ σ1 R:=by
 refine Wb.o ?_;unfold Wb.v;have hfew:=h.few;obtain⟨hp1,hp2⟩:=Uv h.srt st;have cmp:∀(k:Nat) (x:Nat×Nat) s (v:Hp) (K:Int->Hp->Prop),ps[k]?=some x->ss[k]?=some s->Ext0 σ1 v->(∀v',Ext0 v v'->K ((s.st:Int)-(st:Int)) v') →
  VC Tryz.prog ⟨258,#[],#[]⟩ [.agg #[.int .i64 (s.many:Int),.int .i64 (s.st:Int),.pointer (some ⟨x.1,0,none⟩)],.int .i64 (st:Int)] [.one (.i .i64)] v K:=by
  intro k x s v K hx hs ev hK;refine WaN (all := #[.agg #[.int .i64 (s.many:Int),.int .i64 (s.st:Int),.pointer (some ⟨x.1,0,none⟩)],.int .i64 (st:Int)]) (by kernel_rfl) (by simp) ?_;refine Yj.o ?_;unfold Yj.v;have hf:=(h.sp k x s hx hs).fit;refine nw (cs:=[.int .i64 (s.many:Int),.int .i64 (s.st:Int),.pointer (some ⟨x.1,0,none⟩)]) λv1 hz e hb=>hb.rI2 rfl (ar (by omega) (by omega) (hK v1 e))
 refine Ks (a:=.i .i64) (bb:=.i .i64) (λ(i j:Int) v=>∃a b:Nat,i=(a:Int)/\j=(b:Int)/\a<=YU ss st/\YU ss st<=b/\b<=ss.length/\Ext0 σ1 v) (λi j _=>j.toNat-i.toNat) ⟨0,ss.length,rfl,by rw[hl],by omega,hp1,by omega,Ext.refl _ _⟩ ?_;rintro i j v ⟨a,b,rfl,rfl,ha,hb,hbl,ev⟩;have ev0:Ext0 σ v:=e1.trans ev;refine ifD (λhlt=>?_) λhge=>?_
 ·have hne:ss≠[]:=by rintro rfl;simp at hbl;omega
  have E:=hE hne;refine arN (m:=a+b) (by omega) (by omega) ?_;have hw:IntKind.u64.wrap ((a+b:Nat):Int)=((a+b:Nat):Int):=by
   unfold IntKind.wrap;simp[IntKind.bits,IntKind.signed];omega
  refine arW ?_;rw[hw];refine nn (by omega) ?_;have hm1:min (1:Int).toNat IntKind.u64.bits=1:=by decide
  rw[hm1,WdD];have hmid:(((a+b:Nat):Int)/2^1)=(((a+b)/2:Nat):Int):=by omega
  refine arN (m:=(a+b)/2) hmid (by omega) ?_;have hml:(a+b)/2<ss.length:=by omega
  obtain⟨x,s,hx,hs,hS⟩:=h.at_i hml;have eg:=ZJ hx hs;rw[E.a];refine ix (by omega) (by omega) ?_;rw[add_lit,show 0+(((a+b)/2:Nat):Int).toNat*3=3*((a+b)/2) by omega];refine HJ (e:=0) (ev0.blk E.blk id) (E.get eg.1) (E.get eg.2.1) (E.get eg.2.2) (cmp _ x s v _ hx hs ev λv' e'=>?_);have hiff:=hp2 _ s hs;show If (decide (((s.st:Int)-(st:Int))<0)) _ _;refine ifD (λhneg=>?_) λhpos=>?_
  ·exact arN (m:=(a+b)/2+1) (by omega) (by omega) ⟨⟨_,b,rfl,rfl,by have:=hiff.1 (by omega);omega,hb,hbl,ev.trans e'⟩,by omega⟩
  ·exact⟨⟨a,_,rfl,rfl,ha,by
    apply Classical.byContradiction;intro hc;have:=hiff.2 (by omega);omega,by omega,ev.trans e'⟩,by omega⟩
 ·have hab:a=YU ss st:=by omega
  subst hab;refine JnB.intro (ifD (λhlt2=>?_) λhge2=>hR v _ ev);have hml:YU ss st<ss.length:=by omega
  have hne:ss≠[]:=by rintro rfl;simp at hml
  have E:=hE hne;obtain⟨x,s,hx,hs,hS⟩:=h.at_i hml;have eg:=ZJ hx hs;rw[E.a];refine ix (by omega) (by omega) ?_;rw[add_lit,show 0+(YU ss st:Int).toNat*3=3*YU ss st by omega];refine HJ (e:=0) (ev0.blk E.blk id) (E.get eg.1) (E.get eg.2.1) (E.get eg.2.2) (cmp _ x s v _ hx hs ev λv' e'=>hR v' _ (ev.trans e'))
theorem Wkz (h:CeH σ F p c ps ss){st:Nat}(hf:st+c.pages<=1024){R:Int->Hp->Prop}(h9:UR c ss st=9->∀σ',Ext0 σ σ'->R 9 σ')
 (h0:UR c ss st=0->∀σ' ps',Ext F σ σ'->CeH σ' (Grow F σ) p c ps' (addS c ss st)->R 0 σ'):Ys.c (some ⟨p,0,none⟩) (st:Int) σ R:=by
 refine Ys.o ?_;unfold Ys.v;have h:=CeH.loc.cut h;obtain⟨sl,hb,hl,hrow,rb,cs,hE⟩:=h.sl';have hfew:=h.few;have hc:=h.ok;have hck:=hc;unfold Cls.ok at hck;refine QU h (ifF rfl (nilP (hb.rI2 rfl (hb.rI2 rfl (hb.rI2 rfl ?_)))));refine Wj5 hc hf λv1 pn qn e1 hpn hqn hSn=>ifF rfl (nilP ((e1.blk hb id).rS rfl ?_));have hplt:=hb.lt;refine Zw (a:=.i .i64) (λ(t:Int) v=>∃i:Nat,t=(i:Int)/\i<=ss.length/\Ext0 v1 v/\∀(j:Nat) s,j<i->ss[j]?=some s->¬max s.st st-min s.st st<c.pages) (λt _=>ss.length-t.toNat) ⟨0,rfl,by omega,Ext.refl _ _,λj s hj=>by omega⟩ ?_;rintro t v ⟨i,rfl,hi,ev,hno⟩;have ev0:=e1.trans ev;refine ifD (λhlt=>?_) λhge=>?_
 ·simp only at hlt;have hi':i<ss.length:=by omega
  obtain⟨E,hcap,hcl⟩:=hE (by rintro rfl;simp at hi');obtain⟨x,s,hx,hs,hS⟩:=h.at_i hi';have eg:=ZJ hx hs;have hsf:=hS.fit;rw[E.a];refine ix (by omega) (by omega) ?_;rw[add_lit,show 0+(i:Int).toNat*3=3*i by omega];refine HJ (e:=0) (ev0.blk E.blk id) (E.get eg.1) (E.get eg.2.1) (E.get eg.2.2) (Wda λv6 e6 b6=>b6.rI2 rfl (b6.rI2 rfl ?_));have hd:(if(st:Int)>(s.st:Int)then(st:Int)else(s.st:Int))-(if(st:Int)<(s.st:Int)then(st:Int)else(s.st:Int))=((max s.st st-min s.st st:Nat):Int):=by
   split<;>split<;>omega
  refine arN (m:=max s.st st-min s.st st) hd (by omega) (nilP (((ev0.trans e6).blk hb id).rI2 rfl ?_));refine ifD (λhlt2=>h9 ?_ _ (ev0.trans e6)) λhge2=>?_
  ·unfold UR;rw[zB];exact zl.2 ⟨s,zE hs,by simpa using(by omega:max s.st st-min s.st st<c.pages)⟩
  ·refine arN (m:=i+1) (by omega) (by omega) ⟨⟨i+1,rfl,by omega,ev.trans e6,λj s' hj hs'=>?_⟩,by omega⟩;by_cases e:j=i
   ·subst e;rw[hs]at hs';cases hs';omega
   ·exact hno j s' (by omega) hs'
 ·have hii:i=ss.length:=by simp only at hge;omega
  subst hii;have hE0:UR c ss st=0:=by
   unfold UR;rw[zA];simp only[zBJ,zAP,zN];intro s hs;obtain⟨j,hj⟩:=zL hs;exact hno j s (gSi.1 hj).1 hj
  refine nilP ((ev0.blk hb id).rS rfl ?_);refine WgQ h ev0 hl (λhne=>(hE hne).1) st (by omega) λv7 bb e7=>nilP (((ev0.trans e7).blk hb id).rS rfl ?_);have e07:=ev0.trans e7;obtain⟨hp1,hp2⟩:=Uv h.srt st;refine nw (cs:=[.int .i64 0,.int .i64 st,.pointer (some ⟨pn,0,none⟩)]) λv8 hz8 e8 hb8=>?_;have e08:=e07.trans e8;have hrow8:=(RowR.loc _ _ _).keep0 hrow e08;have hsz7:=e07.1;refine Wfs hrow8 hl (by omega) hp1 hb8 (λhh=>by have:=hh.1.2;omega) WbG ⟨rfl,rfl,rfl⟩ λs' v9 e9 hr9=>nilP ?_;have hb9:=e9.blk (e08.blk hb id) λhh=>hh.2.1 rfl;refine hb9.s1 (by simp) λv10 o10 hb10=>?_;have hpl:=h.len;have hnd:=h.nd;simp only[zm]at hnd;have hlt:=hSn.lt;have hsz1:=(ev.trans e7).trans e8 |>.1;have hlow:∀b∈blks ps,b<σ.size:=λb hb=>(h.fb b hb).2;have hS9:∀{a b s'},SpH v8 a b c s'->¬(Cut F σ a/\a≠p/\a∉blks ps)->¬(Cut F σ b/\b≠p/\b∉blks ps)->a≠p->b≠p->SpH v10 a b c s':=λhS n1 n2 m1 m2=>(hS.keep e9 n1 n2).keep o10.ext m1 m2;have hnew:=((hSn.keep0 ev).keep0 e7).keep0 e8;have hent:entV (ps.take (YU ss st)++(pn,qn)::ps.drop (YU ss st)) (ss.take (YU ss st)++⟨st,List.replicate c.n false⟩::ss.drop (YU ss st)) =
   (entV ps ss).take (3*YU ss st)++[.int .i64 0,.int .i64 st,.pointer (some ⟨pn,0,none⟩)]++(entV ps ss).drop (3*YU ss st):=by
   rw[Q7 (by simp[hpl])];have h1:entV ps ss=entV (ps.take (YU ss st)) (ss.take (YU ss st))++entV (ps.drop (YU ss st)) (ss.drop (YU ss st)):=by
    rw[←Q7 (by simp[hpl]),zBG,zBG]
   have h2:(entV (ps.take (YU ss st)) (ss.take (YU ss st))).length=3*YU ss st:=by rw[Qf (by simp[hpl]),zY];omega
   rw[h1,zFC h2,List.drop_left' h2,zAC];have:SpA.many ⟨st,List.replicate c.n false⟩=0:=by simp[SpA.many,zFA]
   simp[entV,this]
  refine h0 hE0 v10 (ps.take (YU ss st)++(pn,qn)::ps.drop (YU ss st)) ?_ ?_
  ·refine(((Ext0.to e08).trans (e9.sub λb hb=>hb.1.1))).trans (o10.ext.sub λb hb=>hb▸h.fp.1)
  ·have hperm:(blks (ps.take (YU ss st)++(pn,qn)::ps.drop (YU ss st))).Perm (pn::qn::blks ps):=by
    have:blks ps=blks (ps.take (YU ss st))++blks (ps.drop (YU ss st)):=by
     conv=>lhs;rw[←zBG (YU ss st) ps]
     simp only[blks,zGB]
    rw[this];have h3:blks (ps.take (YU ss st)++(pn,qn)::ps.drop (YU ss st))=blks (ps.take (YU ss st))++pn::qn::blks (ps.drop (YU ss st)):=by simp[blks]
    rw[h3];exact List.perm_middle.trans ((List.perm_middle).cons pn)
   have hbl:∀b,b∈blks (ps.take (YU ss st)++(pn,qn)::ps.drop (YU ss st))↔b=pn\/b=qn\/b∈blks ps:=by
    intro b;rw[hperm.mem_iff];simp
   refine⟨⟨s',hb10,?_⟩,λi x s hx hs=>?_,.inl h.fp.1,λb hb=>?_,?_,?_,hc,?_⟩
   ·rw[HW,hent];refine(RowR.loc _ _ _).keep ((RowR.loc _ _ _).mono hr9 λb _ hb=>?_) o10.ext λb _ hb he=>hb.2.1 he;rw[hbl];rcases hb with hb|hb
    ·exact⟨.inl hb.1.1,hb.2.1,λhh=>by
      rcases hh with h|h|h
      ·have:=hb.1.2;omega
      ·have:=hb.1.2;omega
      ·exact hb.2.2 h⟩
    ·exact⟨.inr (by omega),by omega,λhh=>by
      rcases hh with h|h|h
      ·omega
      ·omega
      ·have:=hlow b h;omega⟩
   ·rw[HW]at hs;have hpl':(ps.take (YU ss st)).length=YU ss st:=by rw[zY];omega
    have hsl':(ss.take (YU ss st)).length=YU ss st:=by rw[zY];omega
    have old:∀j:Nat,ps[j]?=some x->ss[j]?=some s->SpH v10 x.1 x.2 c s:=λj h1 h2=>by
     have hm:=ZK h1;exact hS9 ((h.sp j x s h1 h2).keep0 e08) (λhh=>hh.2.2 hm.1) (λhh=>hh.2.2 hm.2) (λe=>hnd.1 (e▸hm.1)) (λe=>hnd.1 (e▸hm.2))
    rcases zBO i (YU ss st)with hlt'|heq|hgt
    ·rw[zd (by omega),zg,zB hlt']at hx hs;exact old i hx hs
    ·rw[zk (by omega)]at hx hs;rw[hpl',heq,zCD]at hx;rw[hsl',heq,zCD]at hs;simp at hx hs;subst hx;subst hs;exact hS9 hnew (λhh=>by have:=hh.1.2;simp only at this;omega) (λhh=>by have:=hh.1.2;simp only at this;omega) (by simp only;omega) (by simp only;omega)
    ·rw[zk (by omega)]at hx hs;rw[hpl']at hx;rw[hsl']at hs;obtain⟨k,hk⟩:∃k,i-YU ss st=k+1:=⟨i-YU ss st-1,by omega⟩;rw[hk,zFY,zu]at hx hs;exact old _ hx hs
   ·rcases(hbl b).1 hb with h1|h1|h1
    ·subst h1;exact .inr hpn
    ·subst h1;exact .inr hqn
    ·exact .inl (h.fb b h1).1
   ·simp only[zm];refine⟨λhm=>?_,?_⟩
    ·rcases(hbl p).1 hm with h1|h1|h1
     ·omega
     ·omega
     ·exact hnd.1 h1
    ·rw[hperm.nodup_iff];simp only[zm,zX,not_or];have hne:=hSn.ne;exact⟨⟨hne,λhm=>by have:=hlow _ hm;omega⟩,λhm=>by have:=hlow _ hm;omega,hnd.2⟩
   ·rw[HW];simp[hpl]
   ·rw[HW];rw[zBR];have hsr:=h.srt;refine⟨hsr.sublist (zGC _ _),zBT.2 ⟨λs hs=>?_,hsr.sublist (List.drop_sublist _ _)⟩,λa ha b hb=>?_⟩
    ·obtain⟨j,hj⟩:=zL hs;rw[zu]at hj;have h1:=hp2 _ s hj;have h2:s.st≠st:=λe=>by
      have:=hno (YU ss st+j) s (gSi.1 hj).1 hj;rw[e]at this;simp at this;omega
     show st<s.st;omega
    ·obtain⟨i,hi⟩:=zL ha;rw[zg]at hi;split at hi
     ·rename_i hlt';have hat:=(hp2 i a hi).2 hlt';rcases zX.1 hb with rfl|hb
      ·exact hat
      ·obtain⟨j,hj⟩:=zL hb;rw[zu]at hj;obtain⟨hi1,hi2⟩:=gSi.1 hi;obtain⟨hj1,hj2⟩:=gSi.1 hj;have:=zAF.1 hsr i (YU ss st+j) hi1 hj1 (by omega);rw[hi2,hj2]at this;exact this
     ·cases hi
end Go.Ar
namespace Go.Proofs
open Go.Vc
set_option maxRecDepth 100000
def WP.h:Hn:=.q .o1 (.q (.q .o3 (.c (.q .o1 .l) .l)) (.q .o6 .l))
def WP.v (a:R2)(b:Hp)(c:Sl->Hp->Prop):Prop:=WS.c a b λd e=>If (!d) (c ⟨none,0,0⟩ e) (NilP a λf=>LdS (f.add 3) e λg=>Xg.c g e λh i=>c h i)
theorem WP.o {a b c}(d:WP.v a b c):WP.c a b c:=Wa Tryz.func108 (x:=WP.h) (R0 d)
def WS.h:Hn:=.q .o1 (.q (.reg (.seq [.op,.op,.op,.grd true 5 (RI.ops 5),.op])) .l)
def WS.v (a:R2)(b:Hp)(c:Bool->Hp->Prop):Prop:=JnB (λd e=>c d e) λf=>If (!a.isNone) (NilP a λg=>LdI .i64 (g.add 0) b λh=>f (decide (h>0)) b) (f false b)
theorem WS.o {a b c}(d:WS.v a b c):WS.c a b c:=Wa Tryz.func139 (x:=WS.h) (R0 d)
def Zl.h:Hn:=.q .o2 (.q (.q (.reg (.seq [.op,.op,.op,.grd false 2 [.op,.op],.op,.grd false 2 [.op,.op],.op,.grd false 2 [.op,.op]])) (.c (.q .o2 .l) .l)) (.q .o6 .l))
def Zl.v (a b:Int)(c:Hp)(d:Option Addr->Int->Hp->Prop):Prop:=JnB (λe f=>JnB (λg h=>JnB (λi j=>If i (d none 1 j) (Nw (.cells #[.I a,.I b,.I 0,.slice none 0 0] 215 (0,0)) j λk l=>d (some k) 0 l)) λm=>If g (m true h) (m (decide (b>8)) h)) λn=>If e (n true f) (n (decide (b<0)) f)) λo=>If (a<1) (o true c) (o (decide (a>32)) c)
theorem Zl.o {a b c d}(e:Zl.v a b c d):Zl.c a b c d:=Wa Tryz.func157 (x:=Zl.h) (R0 e)
def Wv.h:Hn:=.q .o2 (.q (.k (.q .o4 (.c (.q .o2 .l) (.q .o7 (.c (.q .o2 .l) .l))))) (.q .o7 (.q .o8 (.q .o10 (.q .o10 (.q .o3 .l))))))
def Wv.v (a:R2)(b:Hp)(c:Sl->Int->Hp->Prop):Prop:=WS.c a b λd e=>If (!d) (c ⟨none,0,0⟩ 5 e) (NilP a λf=>LdS (f.add 3) e λg=>If (((g.len:Nat):Int)==0) (c ⟨none,0,0⟩ 4 e) (NilP a λh=>LdS (h.add 3) e λi=>Ar .i64 (((i.len:Nat):Int)-1) λj=>NilP a λk=>LdS (k.add 3) e λl=>Ix l.a l.len j 1 λm=>LdS m e λn=>NilP a λo=>LdS (o.add 3) e λp=>SlcL p 1 0 j (p.cap:Nat) λq=>NilP a λr=>St1 (r.add 3) (.slice q.a q.len q.cap) e λs=>NilP a λt=>LdI .i64 (t.add 2) s λu=>NilP a λv=>St1 (v.add 2) (.I (if j<u then j else u)) s λw=>c n 0 w))
theorem Wv.o {a b c}(d:Wv.v a b c):Wv.c a b c:=Wa Tryz.func213 (x:=Wv.h) (R0 d)
def WX.h:Hn:=.q .o2 (.q (.k (.q .o4 (.c (.q .o2 .l) (.q .o8 (.c (.q .o2 .l) (.q (.oq 11) (.c (.q .o2 .l) .l))))))) (.q (.reg (.held true [8,11] (.take 0 (.take 1 (.take 2 (.take 3 (.take 4 (.take 5 (.all [(6,.all [(7,.all [(8,.take 9 (.take 10 (.all [(11,.done)])))])])]))))))))) (.q .o2 .l)))
def WX.v (a:R2)(b:Sl)(c:Hp)(d:Bool->Int->Hp->Prop):Prop:=WS.c a c λe f=>If (!e) (d false 5 f) (NilP a λg=>LdI .i64 (g.add 0) f λh=>If (((b.len:Nat):Int) != h) (d false 1 f) (NilP a λi=>LdS (i.add 3) f λj=>NilP a λk=>LdI .i64 (k.add 1) f λl=>If (((j.len:Nat):Int)≥l) (d false 0 f) (Held f λm=>NilP a λn=>LdH m .s (n.add 3) λ(o:Sl)=>WB.c b f λp q=>And (m q) <| Nw (.cells #[.slice p.a p.len p.cap] 69 (0,0)) q λr s=>And (m s) <| App o 1 24 69 [.slice none 0 0] ⟨some r,1,1⟩ s λt u=>NilP a λv=>St1 (v.add 3) (.slice t.a t.len t.cap) u λw=>d true 0 w)))
theorem WX.o {a b c d}(e:WX.v a b c d):WX.c a b c d:=Wa Tryz.func264 (x:=WX.h) (R0 e)
end Go.Proofs
namespace Go.Ar
open Go Go.Vc Go.Proofs
variable {σ:Hp}{F:Rg}{p batch room:Nat}{t:TrA}
def slV (s:Sl):Value:=.slice s.a s.len s.cap
def Wt (xs:List Int):List Value:=xs.map (Value.int .i64)
theorem QZ {l:List Int}:∀v∈Wt l,one1 v=true:=by
 intro v hv;simp only[Wt,zC]at hv;obtain⟨x,_,rfl⟩:=hv;rfl
def Bat (sls:List Sl)(bs:List (List Int))(σ:Hp)(D:Rg):Prop:=sls.length=bs.length/\∀(i:Nat) s xs,sls[i]?=some s->bs[i]?=some xs->SlR s 1 (Wt xs) σ D/\s.len<=s.cap
theorem Bat.loc (sls:List Sl)(bs:List (List Int)):Lcl (Bat sls bs):=λσ σ' F G h hz hs=>⟨h.1,λi s xs h1 h2=>⟨SlR.loc _ _ _ _ _ _ _ (h.2 i s xs h1 h2).1 hz hs,(h.2 i s xs h1 h2).2⟩⟩
def Dj (sls:List Sl):Prop:=sls.Pairwise λs t=>∀a a',s.a=some a->t.a=some a'->a.block≠a'.block
def InB (s:Sl)(b:Nat):Prop:=∃a,s.a=some a/\a.block=b
theorem _root_.Go.Vc.SlR.inB {s:Sl}{sz:Nat}{xs:List Value}{D:Rg}(h:SlR s sz xs σ D):SlR s sz xs σ λb=>D b/\InB s b:=
 ⟨h.1,h.2.imp id λ⟨b,o,cs,hq,ha,r⟩=>⟨b,o,cs,⟨hq,_,ha,rfl⟩,ha,r⟩⟩
theorem _root_.Go.Vc.SlR.blk {s:Sl}{sz:Nat}{xs:List Value}{D:Rg}(h:SlR s sz xs σ D)(hx:xs≠[]){b:Nat}(hb:InB s b):D b/\b<σ.size:=by
 rcases h.2 with h0|⟨b',o,cs,hq,ha,hc,_⟩
 ·exact absurd h0 hx
 ·obtain⟨a,h1,rfl⟩:=hb;rw[ha]at h1;cases h1;exact⟨hq,hc.lt⟩
theorem Dj.snoc {sls:List Sl}{bs:List (List Int)}{D:Rg}{z:Nat}{s':Sl}{xs:List Value}{v:Hp}(h:Dj sls)(hB:Bat sls bs σ D)(hne:∀xs∈bs,xs≠[])(hz:∀b,D b->b<z)(hs:RowR s' 1 xs v λb=>z<=b)(hx:xs≠[]):Dj (sls++[s']):=by
 refine zBR.2 ⟨h,List.pairwise_singleton _ _,λs hs1 u hu a a' h1 h2=>?_⟩;rw[zR]at hu;subst hu;obtain⟨i,hi⟩:=zL hs1;have hil:=(gSi.1 hi).1;have hbi:bs[i]?=some (bs[i]'(by rw[←hB.1];exact hil)):=gGe _;have hb:=((hB.2 i s _ hi hbi).1.blk (by simp only[Wt,ne_eq,zEN];exact hne _ (zE hbi)) ⟨a,h1,rfl⟩).1;have h3:=(hs.slR.blk hx ⟨a',h2,rfl⟩).1;have:=hz _ hb;omega
structure TfH (σ:Hp) (F:Rg) (p batch room:Nat) (t:TrA):Prop where
 mem:∃(sl:Sl) (sls:List Sl) (D:Rg),Blk σ p [.int .i64 (batch:Int),.int .i64 (room:Int),.int .i64 (t.low:Int),.slice sl.a sl.len sl.cap]/\RowR sl 1 (sls.map slV) σ (λb=>F b/\b≠p/\¬D b)/\Bat sls t.bs σ D/\(∀b,D b->F b/\b≠p)/\Dj sls
 fp:F p
 b1:1<=batch/\batch<=32
 r1:room<=8
 few:t.bs.length<=room
 low:t.low<=t.bs.length
 all:∀xs∈t.bs,xs.length=batch
theorem TfH.loc:Lcl λσ F=>TfH σ F p batch room t:=λσ σ' F G h hz hs=>by
 obtain⟨sl,sls,D,hb,hr,hB,hD,hJ⟩:=h.mem;refine⟨⟨sl,sls,λb=>D b/\b<σ.size,?_,?_,?_,λb hb=>⟨(hs b hb.2 (hD b hb.1).1).1,(hD b hb.1).2⟩,hJ⟩,(hs p hb.lt h.fp).1,h.b1,h.r1,h.few,h.low,h.all⟩
 ·obtain⟨e,he⟩:=hb;exact⟨e,(hs p (Blk.lt ⟨e,he⟩) h.fp).2.trans he⟩
 ·exact RowR.loc _ _ _ _ _ _ _ hr hz λb hb hf=>⟨⟨(hs b hb hf.1).1,hf.2.1,λhd=>hf.2.2 hd.1⟩,(hs b hb hf.1).2⟩
 ·exact Bat.loc _ _ _ _ _ _ hB hz λb hb hd=>⟨⟨hd,hb⟩,(hs b hb (hD b hd).1).2⟩
theorem TfH.keep0 {σ':Hp}(h:TfH σ F p batch room t)(e:Ext0 σ σ'):TfH σ' F p batch room t:=Lcl.keep0 TfH.loc h e
theorem Hb (h:TfH σ F p batch room t){R:Bool->Hp->Prop}(hR:R true σ):WS.c (some ⟨p,0,none⟩) σ R:=by
 refine WS.o ?_;unfold WS.v;obtain⟨sl,sls,D,hb,_⟩:=h.mem;have:=h.b1;refine JnB.intro (ifT rfl (nilP (hb.rI rfl ?_)));rw[zQ (by omega)];exact hR
theorem _root_.Go.Vc.SlR.ixS {s:Sl}{F:Rg}{sls:List Sl}(h:SlR s 1 (sls.map slV) σ F){i:Nat}{x:Sl}(hx:sls[i]?=some x){K:Sl->Prop}(hK:K x):Ix s.a s.len (i:Int) 1 λa=>LdS a σ K:=by
 have hi:=(gSi.1 hx).1;obtain⟨b,o,ha,hc⟩:=h.cell (j:=i) (v:=slV x) (by simp[hx]);have hl:=h.1;rw[zh]at hl;rw[ha];refine ix (by omega) (by omega) ?_;rw[add_lit];exact ldS (by simpa[slV]using hc) hK
theorem Wkr (h1:1<=batch)(h2:batch<=32)(h3:room<=8){R:Option Addr->Int->Hp->Prop}(hR:∀σ' p,Ext0 σ σ'->σ.size<=p->p<σ'.size->TfH σ' (· = p) p batch room ⟨0,[]⟩->R (some ⟨p,0,none⟩) 0 σ'):Zl.c batch room σ R:=by
 refine Zl.o ?_;unfold Zl.v;refine JnB.intro (ifDF (by omega) (JnB.intro (ifDF (by omega) (JnB.intro (ifDF (by omega) (ifDF (by omega) ?_))))));refine nw (cs:=[.int .i64 batch,.int .i64 room,.int .i64 0,.slice none 0 0]) λv hz e hb=>?_;exact hR v _ e (zD _) (by omega) ⟨⟨⟨none,0,0⟩,[],λ_=>False,hb,RowR.nil _ _ _ _,⟨rfl,λi s xs h=>by simp at h⟩,λb h=>h.elim,List.Pairwise.nil⟩,rfl,⟨h1,h2⟩,h3,by simp,by simp,by simp⟩
theorem We5 (h:TfH σ F p batch room t){sl:Sl}{xs:List Int}{X:Rg}(hs:SlR sl 1 (Wt xs) σ X)(hl:xs.length<=1000000){R:Bool->Int->Hp->Prop}(h1:xs.length≠batch->R false 1 σ)(h2:xs.length=batch->room<=t.bs.length->R false 0 σ)
 (h3:xs.length=batch->t.bs.length<room->∀σ',Ext F σ σ'->TfH σ' (Grow F σ) p batch room {t with bs:=t.bs++[xs]}->R true 0 σ'):WX.c (some ⟨p,0,none⟩) sl σ R:=by
 refine WX.o ?_;unfold WX.v;have h:=TfH.loc.cut h;obtain⟨so,sls,D,hb,hr,hB,hD,hJ⟩:=h.mem;have hlen:sl.len=xs.length:=by have:=hs.1;simp[Wt]at this;omega
 have hso:so.len=t.bs.length:=by have:=hr.1;rw[zh,hB.1]at this;omega
 have hr8:=h.r1;have hb1:=h.b1;refine Hb h (ifF rfl (nilP (hb.rI rfl ?_)));rw[bneN];refine iff_ (λhne=>h1 (by rw[←hlen];simpa using hne)) λheq=>?_;have heq':xs.length=batch:=by rw[←hlen];simpa using heq
 refine nilP (hb.rS rfl (nilP (hb.rI rfl (ifD (λhge=>h2 heq' (by simp only at hge;omega)) λhlt=>?_))));simp only at hlt;refine⟨λh'=>Blk h' p [.int .i64 (batch:Int),.int .i64 (room:Int),.int .i64 (t.low:Int),.slice so.a so.len so.cap],hb,nilP ⟨so,λh' hS=>by rw[add_lit,hS.cell];rfl,?_⟩⟩;refine V6 hs QZ (by omega) λs' v1 hl1 e1 hr1=>⟨e1.blk hb id,?_⟩;refine nw (cs:=[.slice s'.a s'.len s'.cap]) λv2 hz2 e2 hb2=>⟨(e1.trans e2).blk hb id,?_⟩;have hr2:=(RowR.loc _ _ _).keep0 ((RowR.loc _ _ _).keep0 hr e1) e2;refine hr2.app (ys:=[slV s']) rfl rfl ?_ (by simp[one1,slV]) ?_ ?_ zBA λs2 v3 hl3 e3 hr3=>nilP ?_
 ·intro j u hu;rw[add_lit,zG,hb2.cell];exact hu
 ·simp only;have:(so.len+1)*24<=9*24:=zo (by omega) (by omega);omega
 ·simp only;omega
 ·have hb3:=e3.blk ((e1.trans e2).blk hb id) λhh=>hh.2.1 rfl;have hplt:=hb.lt;have hs1:=e1.1;refine hb3.s1 (by simp) λv4 o4 hb4=>h3 heq' (by omega) v4 ?_ ?_
  ·exact((Ext0.to (e1.trans e2)).trans (e3.sub λb hb=>hb.1.1)).trans (o4.ext.sub λb hb=>hb▸h.fp.1)
  ·refine⟨⟨s2,sls++[s'],λb=>D b/\b<σ.size\/σ.size<=b/\b<v1.size,hb4,?_,⟨by simp[hB.1],λi s ys hi hy=>?_⟩,λb hb=>?_,?_⟩,.inl h.fp.1,h.b1,h.r1,by simp;omega,by have:=h.low;simp;omega,λys hy=>?_⟩
   ·rw[zAD];refine(RowR.loc _ _ _).keep ((RowR.loc _ _ _).mono hr3 λb _ hb=>?_) o4.ext λb _ hb he=>hb.2.1 he;rcases hb with hb|hb
    ·exact⟨.inl hb.1.1,hb.2.1,λhd=>by
      rcases hd with hd|hd
      ·exact hb.2.2 hd.1
      ·have:=hb.1.2;omega⟩
    ·exact⟨.inr (by omega),by omega,λhd=>by rcases hd with hd|hd<;>omega⟩
   ·have mv:∀{s:Sl} {ys:List Int} {G:Rg},SlR s 1 (Wt ys) v2 G->(∀b,G b->b≠p/\¬(Cut F σ b/\b≠p/\¬D b))->SlR s 1 (Wt ys) v4 G:=λhS hn=>
     (SlR.loc _ _ _).keep ((SlR.loc _ _ _).keep hS e3 λb _ hb=>(hn b hb).2) o4.ext λb _ hb he=>(hn b hb).1 he
    rcases zAB i sls.length with hi'|hi'
    ·rw[zd hi']at hi;rw[zd (by rw[←hB.1];exact hi')]at hy;obtain⟨k1,k2⟩:=hB.2 i s ys hi hy;refine⟨(SlR.loc _ _ _).mono (mv ((SlR.loc _ _ _).keep0 ((SlR.loc _ _ _).keep0 ((SlR.loc _ _ _).mono k1 (G:=λb=>D b/\b<σ.size) λb hb hd=>⟨hd,hb⟩) e1) e2) λb hd=>⟨(hD b hd.1).2,λhh=>hh.2.2 hd.1⟩) λb _ hd=>.inl hd,k2⟩
    ·rw[zk hi']at hi;rw[zk (by rw[←hB.1];exact hi')]at hy;have hi0:i-sls.length=0:=by
      have:=(gSi.1 hi).1;simp at this;omega
     rw[hi0]at hi;rw[show i-t.bs.length=0 by rw[←hB.1];exact hi0]at hy;simp at hi hy;subst hi;subst hy;have hcap:s'.len<=s'.cap:=by
      rcases hr1.2 with⟨q1,q2⟩|⟨_,_,_,_,_,q,_⟩
      ·omega
      ·exact q
     refine⟨(SlR.loc _ _ _).mono (mv ((SlR.loc _ _ _).keep0 ((SlR.loc _ _ _).mono hr1.slR (G:=λb=>σ.size<=b/\b<v1.size) λb hb hd=>⟨hd,hb⟩) e2) λb hd=>⟨by omega,λhh=>by have:=hh.1.2;omega⟩) λb _ hd=>.inr hd,hcap⟩
   ·rcases hb with hd|hd
    ·exact⟨.inl (hD b hd.1).1.1,(hD b hd.1).2⟩
    ·exact⟨.inr hd.1,by omega⟩
   ·have hne:∀ys∈t.bs,ys≠[]:=λys hy e=>by have:=TfH.all ‹_› ys hy;rw[e]at this;simp at this;omega
    exact hJ.snoc hB hne (λb hd=>(hD b hd).1.2) hr1 (by simp only[Wt,ne_eq,zEN];intro e;rw[e]at heq';simp at heq';omega)
   ·rcases zM.1 hy with h|h
    ·exact TfH.all ‹_› ys h
    ·simp at h;subst h;exact heq'
theorem Wcn (h:TfH σ F p batch room t)(h0:t.bs=[]){R:Sl->Int->Hp->Prop}(hR:R ⟨none,0,0⟩ 4 σ):Wv.c (some ⟨p,0,none⟩) σ R:=by
 refine Wv.o ?_;unfold Wv.v;obtain⟨so,sls,D,hb,hr,hB,hD,hJ⟩:=h.mem;have hso:so.len=t.bs.length:=by have:=hr.1;rw[zh,hB.1]at this;omega
 refine Hb h (ifF rfl (nilP (hb.rS rfl (ifT ?_ hR))));simp[hso,h0]
theorem WgS (h:TfH σ F p batch room t)(h0:t.bs≠[]){R:Sl->Int->Hp->Prop}(hR:∀out σ',Ext F σ σ'->(∀b,InB out b->F b)->SlR out 1 (Wt (t.bs.getLast?.getD [])) σ' (InB out)->out.len<=out.cap->TfH σ' (λb=>F b/\¬InB out b) p batch room t.rem->R out 0 σ'):Wv.c (some ⟨p,0,none⟩) σ R:=by
 refine Wv.o ?_;unfold Wv.v;obtain⟨so,sls,D,hb,hr,hB,hD,hJ⟩:=h.mem;have hso:so.len=t.bs.length:=by have:=hr.1;rw[zh,hB.1]at this;omega
 have hpos:=zCA.2 h0;have hr8:=h.r1;have hfw:=h.few;have hlow:=h.low;have hl0:t.bs.length-1<sls.length:=by rw[hB.1];omega
 obtain⟨o,ho⟩:∃o,sls[t.bs.length-1]?=some o:=⟨_,gGe hl0⟩;have hlast:t.bs[t.bs.length-1]?=some (t.bs.getLast?.getD []):=by
  rw[List.getLast?_eq_getElem?,gGe (by omega)];rfl
 obtain⟨k1,k2⟩:=hB.2 _ o _ ho hlast;refine Hb h (ifF rfl (nilP (hb.rS rfl (ifF ?_ ?_))))
 ·simp only[zAR];omega
 refine nilP (hb.rS rfl (arN (m:=t.bs.length-1) (by simp only;omega) (by omega) (nilP (hb.rS rfl ?_))));refine hr.slR.ixS ho (nilP (hb.rS rfl ?_));have hcap:so.len<=so.cap:=by
  rcases hr.2 with⟨q1,q2⟩|⟨_,_,_,_,_,q,_⟩
  ·omega
  ·exact q
 refine slc (lo:=0) (by omega) (by first|omega | (simp only;omega)) (by first|omega | (simp only;omega)) (nilP (hb.s1 (by simp) λv1 o1 hb1=>nilP (hb1.rI rfl (nilP ?_))))
 refine hb1.s1 (by simp) λv2 o2 hb2=>?_;have e12:Ext (· = p) σ v2:=o1.ext.trans o2.ext;have hmin:(if((t.bs.length-1:Nat):Int)<(t.low:Int)then((t.bs.length-1:Nat):Int)else(t.low:Int))=((min t.low (t.bs.length-1):Nat):Int):=by split<;>omega
 rw[hmin]at hb2;have hne:∀xs∈t.bs,xs≠[]:=λxs hx e=>by have h1:=h.all xs hx;have h2:=h.b1;rw[e]at h1;simp at h1;omega
 have hoD:∀b,InB o b->D b:=λb hb=>(k1.blk (by simp only[Wt,ne_eq,zEN];exact hne _ (zE hlast)) hb).1;refine hR o v2 (e12.sub λb hb=>hb▸h.fp) (λb hb=>(hD b (hoD b hb)).1) ((SlR.loc _ _ _).mono ((SlR.loc _ _ _).keep k1 e12 λb _ hb he=>(hD b hb).2 he).inB λb _ hd=>hd.2) k2 ⟨⟨_,sls.dropLast,λb=>D b/\¬InB o b,hb2,?_,⟨by simp[hB.1,TrA.rem],λi s xs hi hx=>?_⟩,λb hd=>⟨⟨(hD b hd.1).1,hd.2⟩,(hD b hd.1).2⟩,List.Pairwise.sublist (List.dropLast_sublist _) hJ⟩,⟨h.fp,λhb=>(hD p (hoD p hb)).2 rfl⟩,h.b1,h.r1,by simp[TrA.rem];omega,by simp[TrA.rem];omega,λxs hx=>h.all xs (List.dropLast_subset _ hx)⟩
 ·refine(RowR.loc _ _ _).keep ?_ e12 λb _ hb he=>hb.2.1 he;refine⟨by simp[hB.1],?_⟩;rcases hr.2 with⟨q1,q2⟩|⟨b,cs,hq,ha,hbb,hle,hcl,ht⟩
  ·omega
  ·refine .inr ⟨b,cs,⟨⟨hq.1,λhb=>hq.2.2 (hoD b hb)⟩,hq.2.1,λhd=>hq.2.2 hd.1⟩,?_,hbb,by simp only;omega,by simp only;omega,?_⟩
   ·simp only[ha];split<;>simp[add_lit]
   ·simp only[zh]at ht ⊢;have hd:sls.dropLast.map slV=(sls.map slV).take (sls.length-1):=by rw[zFE,List.map_take]
    rw[hd,←ht,zFB,zFX]
    congr 1;omega
 ·have hil:i<t.bs.length-1:=by
   have:=(gSi.1 hx).1;simpa[TrA.rem]using this
  rw[zFE,zg]at hi;simp only[TrA.rem,zFE,zg]at hx;rw[zB (by rw[hB.1];exact hil)]at hi;rw[zB hil]at hx;obtain⟨m1,m2⟩:=hB.2 i s xs hi hx;refine⟨(SlR.loc _ _ _).mono ((SlR.loc _ _ _).keep m1 e12 λb _ hb he=>(hD b hb).2 he).inB λb _ hb=>⟨hb.1,λhb2=>?_⟩,m2⟩;obtain⟨a,ha,e1⟩:=hb.2;obtain⟨a',ha',e2⟩:=hb2;obtain⟨hi1,rfl⟩:=gSi.1 hi;obtain⟨hl1,rfl⟩:=gSi.1 ho;exact zAF.1 hJ i _ hi1 hl1 hil a a' ha ha' (e1.trans e2.symm)
def OutR (out:Sl)(bs:List (List Int))(σ:Hp)(G:Rg):Prop:=∃sls:List Sl,SlR out 1 (sls.map slV) σ G/\Bat sls bs σ G
theorem OutR.loc (out:Sl)(bs:List (List Int)):Lcl (OutR out bs):=λσ σ' F G ⟨sls,h1,h2⟩ hz hs=>⟨sls,SlR.loc _ _ _ _ _ _ _ h1 hz hs,Bat.loc _ _ _ _ _ _ h2 hz hs⟩
theorem Wks {n:Nat}(hn:n<=1000000){R:Sl->Hp->Prop}(hR:∀s' σ',Ext0 σ σ'->RowR s' 1 [] σ' (λb=>σ.size<=b)->R s' σ'):Xj.c ⟨none,0,0⟩ (n:Int) σ R:=by
 refine Xj.o ?_;unfold Xj.v;refine Jn.intro (ifDF (by omega) (arN (m:=0) (by simp) (by omega) (arN (m:=n) (by simp) (by omega) (ifD (λhpos=>?_) λh0=>hR _ _ (Ext.refl _ _) (RowR.nil _ _ _ _)))));refine slc (lo:=0) (hi:=0) (mx:=0) (by omega) (by omega) (by simp) ?_;refine⟨by omega,[],by simp,by simp[Rd],by simp[one1],by simp only[iTn];omega,by simp only[iTn];omega,by omega,λhin=>by simp only[iTn]at hin;omega,λhout cc hcc=>?_⟩;refine nw λv1 hz1 e1 hb1=>?_;simp only[iTn]at *;have hcc':n<=cc:=by omega
 refine slc (lo:=0) (hi:=0) (mx:=cc) (by omega) (by omega) (by simp only;omega) (hR _ v1 e1 ⟨by simp,.inr ⟨σ.size,_,zD _,?_,hb1,by simp,?_,by simp⟩⟩)
 ·simp only;split<;>simp[add_lit]
 ·simp only[zCK,zJ,zDL,zCX,zDM,zU,zAH,Nat.sub_zero];omega
theorem WbJ (bs:List (List Int)){i:Nat}{xs:List Int}(h:bs[i]?=some xs):(bs.take (i+1)).flatten=(bs.take i).flatten++xs:=by
 rw[zr,h];simp
theorem TfH.flat (h:TfH σ F p batch room t):t.bs.flatten.length<=256:=by
 have key:∀l:List (List Int),(∀xs∈l,xs.length=batch)->l.flatten.length=batch*l.length:=by
  intro l
  induction l with
  | nil=>intro _;simp
  | cons x l ih=>
   intro hl;rw[zDC,zJ,hl x (by simp),ih λxs hx=>hl xs (by simp[hx]),zU,Nat.mul_add];omega
 rw[key t.bs h.all];have h1:=h.b1;have h2:=h.few;have h3:=h.r1;have:batch*t.bs.length<=32*8:=zo h1.2 (by omega);omega
theorem Wgv (bs:List (List Int))(i:Nat):(bs.take i).flatten.length<=bs.flatten.length:=by
 conv=>rhs;rw[←zBG i bs,zFS,zJ]
 omega
theorem WjW (h:TfH σ F p batch room t){R:Sl->Hp->Prop}(hR:∀s' σ',Ext0 σ σ'->s'.len=t.bs.flatten.length->RowR s' 1 (Wt t.bs.flatten) σ' (λb=>σ.size<=b)->R s' σ'):WP.c (some ⟨p,0,none⟩) σ R:=by
 refine WP.o ?_;unfold WP.v;have hfl:=h.flat;obtain⟨so,sls,D,hb,hr,hB,hD,hJ⟩:=h.mem;have hso:so.len=t.bs.length:=by have:=hr.1;rw[zh,hB.1]at this;omega
 have hfw:=h.few;have hr8:=h.r1;refine Hb h (ifF rfl (nilP (hb.rS rfl ?_)));refine Xg.o ?_;unfold Xg.v;refine Ks (a:=.i .i64) (bb:=.i .i64) (λ(n tt:Int) v=>∃i:Nat,tt=(i:Int)/\i<=t.bs.length/\v=σ/\n=(((t.bs.take i).flatten.length:Nat):Int)) (λ_ tt _=>t.bs.length-tt.toNat) ⟨0,rfl,by omega,rfl,by simp⟩ ?_;rintro n tt v ⟨i,rfl,hi,rfl,rfl⟩;refine ifD (λhlt=>?_) λhge=>?_
 ·simp only at hlt;have hi':i<t.bs.length:=by omega
  have his:i<sls.length:=by rw[hB.1];exact hi'
  refine hr.slR.ixS (gGe his) ?_;obtain⟨m1,m2⟩:=hB.2 i _ _ (gGe his) (gGe hi');have hl1:sls[i].len=t.bs[i].length:=by have:=m1.1;simp[Wt]at this;omega
  have ft:=WbJ t.bs (gGe hi');have fl:=Wgv t.bs (i+1);refine arN (m:=(t.bs.take (i+1)).flatten.length) (by rw[ft,zJ,hl1];omega) (by omega) (ifDF (by omega) (arN (m:=i+1) (by omega) (by omega) ⟨⟨i+1,rfl,by omega,rfl,rfl⟩,by omega⟩))
 ·have hii:i=t.bs.length:=by simp only at hge;omega
  subst hii;rw[zAA];refine Wks (by omega) λs1 v1 e1 hr1=>?_;refine Ks (a:=.s) (bb:=.i .i64) (λ(s:Sl) (tt:Int) w=>∃i:Nat,tt=(i:Int)/\i<=t.bs.length/\Ext0 v w/\RowR s 1 (Wt (t.bs.take i).flatten) w (λb=>v.size<=b)) (λ_ tt _=>t.bs.length-tt.toNat) ⟨0,rfl,by omega,e1,by simpa[Wt]using hr1⟩ ?_;rintro s tt w ⟨i,rfl,hi,e,hrow⟩;refine ifD (λhlt=>?_) λhge=>?_
  ·simp only at hlt;have hi':i<t.bs.length:=by omega
   have his:i<sls.length:=by rw[hB.1];exact hi'
   refine((RowR.loc _ _ _).keep0 hr e).slR.ixS (gGe his) ?_;obtain⟨m1,m2⟩:=hB.2 i _ _ (gGe his) (gGe hi');have hl1:sls[i].len=t.bs[i].length:=by have:=m1.1;simp[Wt]at this;omega
   have hlb:=h.all _ (zj hi');have hb1:=h.b1;have ft:=WbJ t.bs (gGe hi');have fl:=Wgv t.bs (i+1);have hsl:s.len=(t.bs.take i).flatten.length:=by have:=hrow.1;simp only[Wt,zh]at this;omega
   rw[ft,zJ]at fl;refine hrow.app (ys:=Wt t.bs[i]) rfl (by simp[Wt];omega) ((SlR.loc _ _ _).keep0 m1 e).rd QZ ?_ (by omega) (by omega) λs' w' hl' e' ho'=>?_
   ·have:(s.len+sls[i].len)*8<=512*8:=zo (by omega) (by omega);omega
   ·refine arN (m:=i+1) (by omega) (by omega) ⟨⟨i+1,rfl,by omega,Ext.fresh e e' λ_ h=>h,?_⟩,by omega⟩;rw[ft];have:Wt ((t.bs.take i).flatten++t.bs[i])=Wt (t.bs.take i).flatten++Wt t.bs[i]:=by simp[Wt]
    rw[this];exact(RowR.loc _ _ _).mono ho' λb _ hb=>by
     rcases hb with h|h
     ·exact h
     ·exact ze e.1 h
  ·have hii:i=t.bs.length:=by simp only at hge;omega
   subst hii;rw[zAA]at hrow;exact hR s w e (by have:=hrow.1;simp only[Wt,zh]at this;omega) hrow
end Go.Ar
namespace Go.Ar
open Go Go.Vc Go.Proofs
open Go.Bu (YT)
variable {σ:Hp}{F:Rg}{p:Nat}{ow:Nat->Nat}
def G7 (ow:Nat->Nat)(x:Nat)(l:List (Nat×Nat×Nat)):Prop:=
 l.length<=x/\(∀r∈l,1<=r.2.1/\r.1+r.2.1<=x/\∀y,r.1<=y->y<r.1+r.2.1->ow y=r.2.2)/\∀y,y<x->ow y≠0->∃r∈l,r.1<=y/\y<r.1+r.2.1
theorem G7.new {x:Nat}{l:List (Nat×Nat×Nat)}(h:G7 ow x l):G7 ow (x+1) (l++[(x,1,ow x)]):=by
 refine⟨by simp;exact h.1,λr hr=>?_,λy hy hn=>?_⟩
 ·rcases zM.1 hr with h1|h1
  ·exact⟨(h.2.1 r h1).1,by have:=(h.2.1 r h1).2.1;omega,(h.2.1 r h1).2.2⟩
  ·simp at h1;subst h1;exact⟨zD _,zD _,λy h1 h2=>by simp only at h1 h2 ⊢;rw[show y=x by omega]⟩
 ·rcases zAB y x with h1|h1
  ·obtain⟨r,hr,h2⟩:=h.2.2 y h1 hn;exact⟨r,zAM _ hr,h2⟩
  ·exact⟨(x,1,ow x),by simp,by simp only;omega⟩
theorem G7.more {x a m no:Nat}{l:List (Nat×Nat×Nat)}(h:G7 ow x (l++[(a,m,no)]))(he:a+m=x)(hno:ow x=no):G7 ow (x+1) (l++[(a,m+1,no)]):=by
 refine⟨by have:=h.1;simp at this ⊢;omega,λr hr=>?_,λy hy hn=>?_⟩
 ·rcases zM.1 hr with h1|h1
  ·have:=h.2.1 r (zAM _ h1);exact⟨this.1,by omega,this.2.2⟩
  ·simp at h1;subst h1;have:=h.2.1 (a,m,no) (by simp);refine⟨by simp only;omega,by simp only;omega,λy h1 h2=>?_⟩;simp only at h1 h2 ⊢;rcases zAB y (a+m)with h3|h3
   ·exact this.2.2 y h1 h3
   ·rw[show y=x by omega];exact hno
 ·rcases zAB y x with h1|h1
  ·obtain⟨r,hr,h2⟩:=h.2.2 y h1 hn;rcases zM.1 hr with h3|h3
   ·exact⟨r,zAM _ h3,h2⟩
   ·simp at h3;subst h3;exact⟨(a,m+1,no),by simp,by simp only at h2 ⊢;omega⟩
  ·exact⟨(a,m+1,no),by simp,by simp only;have:=h.2.1 (a,m,no) (by simp);simp only at this;omega⟩
end Go.Ar
namespace Go.Proofs
open Go.Vc
set_option maxRecDepth 100000
def Xe.h:Hn:=.q .o1 (.q .o1 (.q (.q .o3 (.k (.loop [(3,.I),(7,.I)] (.q .o1 (.q (.c .l .l) (.q (.k (.q .o2 (.q .o8 (.c .o3 .l)))) .o2)))))) (.q .o2 .l)))
def Xe.v (a:R2)(b:Hp)(c:Int->Hp->Prop):Prop:=W7.c a b λd e=>XL [(.i .i64),(.i .i64)] (λf=>f 0 0 e) λg (h:Int) (i:Int) j=>If (i<d) (NilP a λk=>LdS (k.add 0) j λl=>Ix l.a l.len i 2 λm=>LdB (m.add 0) j λn=>If n (Ar .i64 (h+1) λo=>Ar .i64 (i+1) λp=>g o p j) (Ar .i64 (i+1) λq=>g h q j)) (c h j)
theorem Xe.o {a b c}(d:Xe.v a b c):Xe.c a b c:=Wa Tryz.func71 (x:=Xe.h) (R0 d)
def W8.h:Hn:=.q .o1 (.q (.q .o3 (.c (.q .o1 .l) .l)) (.q .o6 .l))
def W8.v (a:R2)(b:Hp)(c:Int->Hp->Prop):Prop:=Xs.c a b λd e=>If (!d) (c 0 e) (NilP a λf=>LdM (f.add 1) e λg=>MLen .i64 .s g e λh=>c h e)
theorem W8.o {a b c}(d:W8.v a b c):W8.c a b c:=Wa Tryz.func72 (x:=W8.h) (R0 d)
def W7.h:Hn:=.q .o1 (.q (.q .o3 (.c (.q .o1 .l) .l)) (.q .o6 .l))
def W7.v (a:R2)(b:Hp)(c:Int->Hp->Prop):Prop:=Xs.c a b λd e=>If (!d) (c 0 e) (NilP a λf=>LdS (f.add 0) e λg=>c ((g.len:Nat):Int) e)
theorem W7.o {a b c}(d:W7.v a b c):W7.c a b c:=Wa Tryz.func103 (x:=W7.h) (R0 d)
def Xs.h:Hn:=.q .o1 (.q (.reg (.seq [.op,.op,.op,.grd true 6 (RI.ops 6),.op])) .l)
def Xs.v (a:R2)(b:Hp)(c:Bool->Hp->Prop):Prop:=JnB (λd e=>c d e) λf=>If (!a.isNone) (NilP a λg=>LdS (g.add 0) b λh=>f (decide (((h.len:Nat):Int)>0)) b) (f false b)
theorem Xs.o {a b c}(d:Xs.v a b c):Xs.c a b c:=Wa Tryz.func104 (x:=Xs.h) (R0 d)
def Qa.h:Hn:=.q .o2 (.q (.q (.reg (.seq [.op,.op,.op,.grd false 2 [.op,.op]])) (.c (.q .o2 .l) .l)) (.q .o7 .l))
def Qa.v (a:Int)(b:Hp)(c:Option Addr->Int->Hp->Prop):Prop:=JnB (λd e=>If d (c none 1 e) (Mk a a 2 160 [.bool false,.bool false] e λf g=>Nw (.map #[] 0) g λh i=>Nw (.cells #[.slice f.a f.len f.cap,.map (some h.block),.I 0] 164 (0,0)) i λj k=>c (some j) 0 k)) λl=>If (a<1) (l true b) (l (decide (a>1024)) b)
theorem Qa.o {a b c}(d:Qa.v a b c):Qa.c a b c:=Wa Tryz.func124 (x:=Qa.h) (R0 d)
def YP.h:Hn:=.q .o2 (.q (.k (.q .o4 (.c (.q .o2 .l) (.q (.reg (.seq [.op,.op,.op,.grd false 2 [.op,.op],.op,.grd false 7 (RI.ops 7),.op,.grd false 9 (RI.ops 9),.op])) (.c (.q .o2 .l) .l))))) (.q (.o 11) .l))
def YP.v (a:R2)(b c:Int)(d:Hp)(e:Sl->Int->Hp->Prop):Prop:=Xs.c a d λf g=>If (!f) (e ⟨none,0,0⟩ 5 g) (JnB (λh i=>JnB (λj k=>JnB (λl m=>If l (e ⟨none,0,0⟩ 1 m) (NilP a λn=>LdS (n.add 0) m λo=>Ar .i64 (b+c) λp=>SlcL o 2 b p (o.cap:Nat) λq=>e q 0 m)) λr=>If j (r true k) (NilP a λs=>LdS (s.add 0) k λt=>Ar .i64 (((t.len:Nat):Int)-b) λu=>r (decide (c>u)) k)) λv=>If h (v true i) (NilP a λw=>LdS (w.add 0) i λx=>v (decide (b>((x.len:Nat):Int))) i)) λy=>If (b<0) (y true g) (y (decide (c<1)) g))
theorem YP.o {a b c d e}(f:YP.v a b c d e):YP.c a b c d e:=Wa Tryz.func271 (x:=YP.h) (R0 f)
def YE.h:Hn:=.q .o1 (.q .o2 (.k (.loop [(8,.I)] (.q (.q .o5 (.c .l .l)) (.q (.k (.q (.reg (.tail 7 (RI.ops 7) [.op])) .o6)) .o3)))))
def YE.v (a:R2)(b c:Int)(d e:Bool)(f:Hp)(g:Hp->Prop):Prop:=Nw (.cells #[.bool d,.bool e] 160 (0,0)) f λh i=>XL [(.i .i64)] (λj=>j b i) λk (l:Int) m=>Ar .i64 (b+c) λn=>If (l<n) (NilP a λo=>LdS (o.add 0) m λp=>LdB (h.add 0) m λq=>LdB (h.add 1) m λr=>Ix p.a p.len l 2 λs=>St1 (s.add 0) (.bool q) m λt=>St1 (s.add 1) (.bool r) t λu=>NilP a λv=>LdM (v.add 1) u λw=>MDel .i64 .s w l u λx=>Ar .i64 (l+1) λy=>k y x) (g m)
theorem YE.o {a b c d e f g}(h:YE.v a b c d e f g):YE.c a b c d e f g:=Wa Tryz.func272 (x:=YE.h) (R0 h)
def YM.h:Hn:=.q .o1 (.q .o9 (.q (.k (.q .o3 (.c (.q .o2 .l) (.q .o3 (.c (.q .o1 .l) .l))))) (.q .o5 (.q .o1 .l))))
def YM.v (a:R2)(b c:Int)(d:Hp)(e:Int->Hp->Prop):Prop:=YP.c a b c d λf g h=>If (g != 0) (e g h) (Wf.c f ⟨301,#[],#[]⟩ h λi j=>If i (e 5 j) (LdB ((Addr.mk 2 0 none).add 0) j λk=>LdB ((Addr.mk 2 0 none).add 1) j λl=>YE.c a b c k l j λm=>e 0 m))
theorem YM.o {a b c d e}(f:YM.v a b c d e):YM.c a b c d e:=Wa Tryz.func280 (x:=YM.h) (R0 f)
def Yf.h:Hn:=.q .o2 (.q .o4 .l)
def Yf.v (a b:Bool)(c:Hp)(d:Bool->Hp->Prop):Prop:=Nw (.cells #[.bool a,.bool b] 160 (0,0)) c λe f=>LdB (e.add 0) f λg=>LdB (e.add 1) f λh=>LdB ((Addr.mk 0 0 none).add 0) f λi=>LdB ((Addr.mk 0 0 none).add 1) f λj=>d (!((g==i)&&((h==j)&&true))) f
theorem Yf.o {a b c d}(e:Yf.v a b c d):Yf.c a b c d:=Wa Tryz.func301 (x:=Yf.h) (R0 e)
end Go.Proofs
namespace Go.Ar
open Go Go.Vc Go.Proofs
open Go.Bu (YT)
variable {σ:Hp}{F:Rg}{p q r:Nat}{sp:Sp}
structure Gl (σ:Hp):Prop where
 c0:cell σ ⟨2,0,none⟩=some (.bool true)
 c1:cell σ ⟨2,1,none⟩=some (.bool false)
 u0:cell σ ⟨0,0,none⟩=some (.bool false)
 u1:cell σ ⟨0,1,none⟩=some (.bool false)
structure Gc (σ:Hp):Prop where
 d0:cell σ ⟨1,0,none⟩=some (.bool true)
 d1:cell σ ⟨1,1,none⟩=some (.bool true)
structure Gd (σ:Hp):Prop where
 lt:1<σ.size
def Off (F:Rg):Prop:=∀b,F b->b≠2/\b≠0
theorem ZB {h:Hp}{b o:Nat}{v:Value}(hc:cell h ⟨b,o,none⟩=some v):b<h.size:=(Wkn hc).1
theorem Gl.keep {σ':Hp}(g:Gl σ)(e:Ext F σ σ')(hF:Off F):Gl σ':=by
 have n1:¬F 2:=λh=>(hF _ h).1 rfl;have n2:¬F 0:=λh=>(hF _ h).2 rfl;exact⟨(ZD e (ZB g.c0) n1).trans g.c0,(ZD e (ZB g.c1) n1).trans g.c1,(ZD e (ZB g.u0) n2).trans g.u0,(ZD e (ZB g.u1) n2).trans g.u1⟩
theorem Gc.keep {σ':Hp}(g:Gc σ)(e:Ext F σ σ')(hF:¬F 1):Gc σ':=⟨(ZD e (ZB g.d0) hF).trans g.d0,(ZD e (ZB g.d1) hF).trans g.d1⟩
theorem Gc.keep0 {σ':Hp}(g:Gc σ)(e:Ext0 σ σ'):Gc σ':=g.keep e id
theorem Gd.keep {σ':Hp}(g:Gd σ)(e:Ext F σ σ')(hF:¬F 1):Gd σ':=⟨zDJ g.lt e.1⟩
theorem Gd.keep0 {σ':Hp}(g:Gd σ)(e:Ext0 σ σ'):Gd σ':=g.keep e id
theorem Gl.keep0 {σ':Hp}(g:Gl σ)(e:Ext0 σ σ'):Gl σ':=g.keep e λ_ h=>h.elim
theorem Off.grow (hF:Off F)(g:Gl σ):Off (Grow F σ):=λb hb=>by
 rcases hb with h|h
 ·exact hF b h
 ·have h1:=ZB g.c0;have h2:=ZB g.u0;exact⟨by omega,by omega⟩
theorem Off.sub {G:Rg}(hF:Off F)(h:∀b,G b->F b):Off G:=λb hb=>hF b (h b hb)
def pgC:Nat->Bool×Bool
 | 0=>(false,false)
 | 1=>(true,false)
 | _=>(true,true)
def pgV (st:List Nat):List Value:=st.flatMap λx=>[.bool (pgC x).1,.bool (pgC x).2]
theorem VO (l:List Nat):(pgV l).length=2*l.length:=by
 induction l with
 | nil=>rfl
 | cons x l ih=>simp only[pgV,zBN,zJ,zU,zAH]at *;omega
theorem Wfb {l:List Nat}{i x:Nat}(h:l[i]?=some x):(pgV l)[2*i]?=some (.bool (pgC x).1)/\(pgV l)[2*i+1]?=some (.bool (pgC x).2):=by
 induction l generalizing i with
 | nil=>simp at h
 | cons y l ih=>
  have e:pgV (y::l)=[.bool (pgC y).1,.bool (pgC y).2]++pgV l:=by simp[pgV]
  rw[e];cases i with
  | zero=>simp at h;subst h;simp
  | succ i=>
   have:=ih (i:=i) (by simpa using h);rw[show 2*(i+1)=2*i+2 by omega];simpa using this
theorem Wjh {l:List Nat}{i v:Nat}(h:i<l.length)(rest:List Value):((pgV l++rest).set (2*i) (.bool (pgC v).1)).set (2*i+1) (.bool (pgC v).2)=pgV (l.set i v)++rest:=by
 induction l generalizing i with
 | nil=>simp at h
 | cons y l ih=>
  have e:∀z m,pgV (z::m)=.bool (pgC z).1 :: .bool (pgC z).2::pgV m:=λz m=>by simp[pgV]
  cases i with
  | zero=>simp[e]
  | succ i=>
   have:=ih (i:=i) (by simpa using h);rw[zCL,e,e,show 2*(i+1)=2*i+1+1 by omega];simp only[zAV,zCL];rw[this]
theorem Wll {x y:Nat}(hx:x<=2)(hy:y<=2):(((pgC x).1==(pgC y).1)&&(((pgC x).2==(pgC y).2)&&true))=(x==y):=by
 match x,y,hx,hy with
 | 0,0,_,_=>rfl
 | 1,1,_,_=>rfl
 | 2,2,_,_=>rfl
 | 0,1,_,_=>rfl
 | 0,2,_,_=>rfl
 | 1,0,_,_=>rfl
 | 1,2,_,_=>rfl
 | 2,0,_,_=>rfl
 | 2,1,_,_=>rfl
theorem Qm {α:Type}(x:Int×α)(l:List (Int×α))(k:Int):mget (x::l) k=if x.1=k then some x.2 else mget l k:=by
 unfold mget;rw[zDA];by_cases h:x.1=k
 ·simp[h]
 ·have:(x.1==k)=false:=by simpa using h
  rw[this,zA h]
theorem Whc {α:Type}(l:List (Int×α))(n k:Int)(v:α):mget (l.map λx=>if x.1==n then(n,v)else x) k=if k=n then(if l.any (λx=>x.1==n)then some v else none)else mget l k:=by
 induction l with
 | nil=>simp[mget]
 | cons x l ih=>
  rw[zI,Qm,ih,Qm,List.any_cons];by_cases hx:x.1=n
  ·by_cases hk:k=n
   ·subst hk;simp[hx]
   ·have:¬n=k:=λe=>hk e.symm;simp[hx,hk,this]
  ·have hx':(x.1==n)=false:=by simpa using hx
   simp only[hx',zZ,zq,zEW];by_cases hk:k=n
   ·subst hk;simp[hx]
   ·simp[hk]
theorem Wf6 {α:Type}(l:List (Int×α))(n k:Int)(v:α)(h:l.any (λx=>x.1==n)=false):mget (l++[(n,v)]) k=if k=n then some v else mget l k:=by
 induction l with
 | nil=>
  rw[zCK,Qm];by_cases hk:k=n
  ·simp[hk]
  ·have:¬n=k:=λe=>hk e.symm;simp[hk,this,mget]
 | cons x l ih=>
  rw[List.any_cons,Bool.or_eq_false_iff]at h;rw[zAV,Qm,ih h.2,Qm];have hx:¬x.1=n:=by simpa using h.1
  by_cases hk:k=n
  ·subst hk;simp[hx]
  ·simp[hk]
theorem WeM {α:Type}(l:List (Int×α))(n k:Int)(v:α):mget (mset l n v) k=if k=n then some v else mget l k:=by
 unfold mset;cases h:l.any (λx=>x.1==n)
 ·rw[zA (by simp),Wf6 l n k v h]
 ·rw[zB rfl,Whc,h];simp
theorem WbA {α:Type}(l:List (Int×α))(n k:Int):mget (mdel l n) k=if k=n then none else mget l k:=by
 unfold mdel
 induction l with
 | nil=>simp[mget]
 | cons x l ih=>
  rw[zCR,Qm];by_cases hx:x.1=n
  ·have:(!(x.1==n))=false:=by simp[hx]
   rw[this];simp only[zZ,zq,ih];by_cases hk:k=n
   ·simp[hk]
   ·have:¬x.1=k:=λe=>hk (e.symm.trans hx);simp[hk,this]
  ·have:(!(x.1==n))=true:=by simpa using hx
   rw[this,zB rfl,Qm,ih];by_cases hk:k=n
   ·subst hk;simp[hx]
   ·simp[hk]
theorem KF {α:Type}{l:List (Int×α)}{k:Int}{v:α}(h:mget l k=some v):(k,v)∈l:=by
 unfold mget at h;cases hf:l.find? (λx=>x.1==k)with
 | none=>rw[hf]at h;cases h
 | some x=>
  rw[hf]at h;have h1:=zCV hf;have h2:=zCW hf;have h3:x.1=k:=by simpa using h1
  have h4:x.2=v:=by simpa using h
  rw[←h3,←h4];exact h2
theorem Wcf {α:Type}{l:List (Int×α)}{k:Int}:(mget l k).isSome=true↔k∈l.map (·.1):=by
 unfold mget;rw[Option.isSome_map,zGE];simp
def WdH (σ:Hp)(s:Sl)(b:Nat)(f:Nat->Int):Prop:=s.a=some ⟨b,0,none⟩/\s.len=32/\32<=s.cap/\∃cs,Blk σ b cs/\32<=cs.length/\∀j,j<32->cs[j]?=some (.int .i64 (f j))
structure SpH2 (σ:Hp) (F:Rg) (p q r:Nat) (l:List (Int×Sl)) (B:Nat->Nat) (sp:Sp):Prop where
 hd:∃cap,sp.st.length<=cap/\Blk σ p [.slice (some ⟨q,0,none⟩) sp.st.length cap,.map (some r),.int .i64 (sp.pk:Int)]
 row:∃rest,Blk σ q (pgV sp.st++rest)
 map:MapL σ r .i64 .s l
 keys:∀x:Int,(mget l x).isSome=true↔∃k:Nat,x=k/\sp.st[k]?=some 2
 wd:∀(k:Nat) s,mget l (k:Int)=some s->WdH σ s (B k) λj=>sp.wd (32*k+j)
 inj:∀k k':Nat,sp.st[k]?=some 2->sp.st[k']?=some 2->B k=B k'->k=k'
 out:∀k:Nat,sp.st[k]?=some 2->F (B k)/\B k≠p/\B k≠q/\B k≠r
 fs:F p/\F q/\F r/\p≠q/\p≠r/\q≠r
 zero:∀w:Nat,sp.st[w/32]?≠some 2->sp.wd w=0
 n1:1<=sp.st.length
 n2:sp.st.length<=1024
 le2:∀x∈sp.st,x<=2
 pk:sp.pk<=1024
def SpH3 (σ:Hp)(F:Rg)(p:Nat)(sp:Sp):Prop:=∃q r l B,SpH2 σ F p q r l B sp
theorem SpH2.entry {l:List (Int×Sl)}{B:Nat->Nat}(h:SpH2 σ F p q r l B sp){k:Nat}(hk:sp.st[k]?=some 2):∃s,mget l (k:Int)=some s/\WdH σ s (B k) λj=>sp.wd (32*k+j):=by
 have:=(h.keys (k:Int)).2 ⟨k,rfl,hk⟩;obtain⟨s,hs⟩:=zBP.1 this;exact⟨s,hs,h.wd k s hs⟩
theorem SpH2.dirty {l:List (Int×Sl)}{B:Nat->Nat}(h:SpH2 σ F p q r l B sp){k:Nat}{s:Sl}(hs:mget l (k:Int)=some s):sp.st[k]?=some 2:=by
 obtain⟨k',e,hk⟩:=(h.keys (k:Int)).1 (by rw[hs];rfl);have:k=k':=by omega
 subst this;exact hk
theorem SpH3.loc:Lcl λσ F=>SpH3 σ F p sp:=λσ σ' F G ⟨q,r,l,B,h⟩ hz hs=>by
 have kb:∀{b:Nat} {cs:List Value},Blk σ b cs->F b->Blk σ' b cs/\G b:=by
  rintro b cs ⟨e,he⟩ hf;have:=hs b (Blk.lt ⟨e,he⟩) hf;exact⟨⟨e,this.2.trans he⟩,this.1⟩
 obtain⟨c,hc,hd⟩:=h.hd;obtain⟨rest,hrow⟩:=h.row;obtain⟨es,clk,hr,hm⟩:=h.map;have hrr:=hs r (zAK.1 hr).1 h.fs.2.2.1;refine⟨q,r,l,B,⟨c,hc,(kb hd h.fs.1).1⟩,⟨rest,(kb hrow h.fs.2.1).1⟩,⟨es,clk,hrr.2.trans hr,hm⟩,h.keys,λk s hk=>?_,h.inj,λk hk=>?_,⟨(kb hd h.fs.1).2,(kb hrow h.fs.2.1).2,hrr.1,h.fs.2.2.2⟩,h.zero,h.n1,h.n2,h.le2,h.pk⟩
 ·obtain⟨w1,w2,w3,cs,w4,w5⟩:=h.wd k s hk;exact⟨w1,w2,w3,cs,(kb w4 (h.out k (h.dirty hk)).1).1,w5⟩
 ·obtain⟨s,hsk,w1,w2,w3,cs,w4,w5⟩:=h.entry hk;exact⟨(kb w4 (h.out k hk).1).2,(h.out k hk).2⟩
theorem SpH3.keep0 {σ':Hp}(h:SpH3 σ F p sp)(e:Ext0 σ σ'):SpH3 σ' F p sp:=Lcl.keep0 SpH3.loc h e
variable {l:List (Int×Sl)}{B:Nat->Nat}
theorem SpH2.rS (h:SpH2 σ F p q r l B sp){K:Sl->Prop}(hK:∀cap,sp.st.length<=cap->K ⟨some ⟨q,0,none⟩,sp.st.length,cap⟩):LdS (Addr.add ⟨p,0,none⟩ 0) σ K:=by
 obtain⟨c,hc,hd⟩:=h.hd;exact hd.rS rfl (hK c hc)
theorem SpH2.rM (h:SpH2 σ F p q r l B sp){K:Option Nat->Prop}(hK:K (some r)):LdM (Addr.add ⟨p,0,none⟩ 1) σ K:=by
 obtain⟨c,hc,hd⟩:=h.hd;exact hd.rM rfl hK
theorem H8 (h:SpH3 σ F p sp){R:Bool->Hp->Prop}(hR:R true σ):Xs.c (some ⟨p,0,none⟩) σ R:=by
 refine Xs.o ?_;unfold Xs.v;obtain⟨q,r,l,B,h⟩:=h;have:=h.n1;refine JnB.intro (ifT rfl (nilP (h.rS λcap _=>?_)));rw[zQ (by simp only;omega)];exact hR
theorem Wa1 (h:SpH3 σ F p sp){R:Int->Hp->Prop}(hR:R (sp.st.length:Int) σ):W7.c (some ⟨p,0,none⟩) σ R:=by
 refine W7.o ?_;unfold W7.v;have h':=h;obtain⟨q,r,l,B,h⟩:=h;exact H8 h' (ifF rfl (nilP (h.rS λcap _=>hR)))
def Kr (st:List Nat):Nat:=st.countP (· != 0)
theorem Wbb (h:SpH3 σ F p sp){R:Int->Hp->Prop}(hR:R (Kr sp.st:Int) σ):Xe.c (some ⟨p,0,none⟩) σ R:=by
 refine Xe.o ?_;unfold Xe.v;have h':=h;obtain⟨q,r,l,B,h⟩:=h;have n2:=h.n2;refine Wa1 h' ?_;refine Ks (a:=.i .i64) (bb:=.i .i64) (λ(n t:Int) v=>∃i:Nat,t=(i:Int)/\i<=sp.st.length/\v=σ/\n=(Kr (sp.st.take i):Int)) (λ_ t _=>sp.st.length-t.toNat) ⟨0,rfl,by omega,rfl,by simp[Kr]⟩ ?_;rintro n t v ⟨i,rfl,hi,rfl,rfl⟩;refine ifD (λhlt=>?_) λhge=>?_
 ·have hi':i<sp.st.length:=by omega
  have hx:sp.st[i]?=some sp.st[i]:=gGe hi';have hle:=h.le2 _ (zj hi');have hc:Kr (sp.st.take (i+1))=Kr (sp.st.take i)+if sp.st[i]=0 then 0 else 1:=by
   rw[zr,hx];simp only[Kr,zDK,zDV,zCG,List.countP_nil,zG];by_cases h0:sp.st[i]=0<;>simp[h0]
  have hcl:Kr (sp.st.take i)<=i:=ze zEH (by simp;omega);refine nilP (h.rS λcap hc'=>ix (by omega) (by simp only;omega) ?_);rw[add_lit,show 0+(i:Int).toNat*2=2*i by omega];obtain⟨rest,hrow⟩:=h.row;have hg:=Wfb hx;refine hrow.rB (x:=(pgC sp.st[i]).1) (by rw[zt,zd (by rw[VO];omega)];exact hg.1) ?_;by_cases h0:sp.st[i]=0
  ·rw[zB h0]at hc;have:(pgC sp.st[i]).1=false:=by rw[h0];rfl
   exact ifF this (arN (m:=i+1) (by omega) (by omega) ⟨⟨i+1,rfl,by omega,rfl,by rw[hc];rfl⟩,by omega⟩)
  ·rw[zA h0]at hc;have:(pgC sp.st[i]).1=true:=by
    match sp.st[i],h0 with
    | 0,h=>exact absurd rfl h
    | 1,_=>rfl
    | n+2,_=>rfl
   exact ifT this (arN (m:=Kr (sp.st.take i)+1) (by omega) (by omega) (arN (m:=i+1) (by omega) (by omega) ⟨⟨i+1,rfl,by omega,rfl,by rw[hc]⟩,by omega⟩))
 ·have:i=sp.st.length:=by omega
  subst this;rw[zAA]at *;exact hR
theorem SpH2.len_l (h:SpH2 σ F p q r l B sp):l.length=sp.st.count 2:=by
 have hn:=h.map.nodup;have hp:(l.map (·.1)).Perm (((List.range sp.st.length).filter λk=>sp.st[k]?==some 2).map λk=>((k:Nat):Int)):=by
  rw[zEF hn]
  ·intro x;rw[←Wcf,h.keys];simp only[zC,zH,zW,zS];constructor
   ·rintro⟨k,rfl,hk⟩;exact⟨k,⟨(gSi.1 hk).1,hk⟩,rfl⟩
   ·rintro⟨k,⟨_,hk⟩,rfl⟩;exact⟨k,rfl,hk⟩
  ·have hnd:((List.range sp.st.length).filter λk=>sp.st[k]?==some 2).Pairwise (· ≠ ·):=List.Pairwise.sublist zCS zEZ;exact List.Pairwise.map _ (λa b (hne:a≠b) hab=>hne (by exact_mod_cast hab)) hnd
 have hl:=hp.length_eq;simp only[zh]at hl;rw[hl,←zEG];have key:∀st:List Nat,(List.range st.length).countP (λk=>st[k]?==some 2)=st.count 2:=by
  intro st
  induction st with
  | nil=>rfl
  | cons x st ih=>
   rw[zU,zGF,zCG,List.countP_map,List.count_cons,←ih]
   congr 1
 exact key sp.st
theorem WaV (h:SpH3 σ F p sp){R:Int->Hp->Prop}(hR:R (sp.st.count 2:Int) σ):W8.c (some ⟨p,0,none⟩) σ R:=by
 refine W8.o ?_;unfold W8.v;have h':=h;obtain⟨q,r,l,B,h⟩:=h;refine H8 h' (ifF rfl (nilP (h.rM ⟨l,h.map,?_⟩)));rw[h.len_l];exact hR
end Go.Ar
namespace Go.Ar
open Go Go.Vc Go.Proofs
open Go.Bu (YT)
variable {σ:Hp}{F:Rg}{p q r:Nat}{sp:Sp}{l:List (Int×Sl)}{B:Nat->Nat}
theorem Wik (l:List Nat)(n:Nat):pgV (l.take n)=(pgV l).take (2*n):=by
 induction l generalizing n with
 | nil=>simp[pgV]
 | cons y l ih=>
  have e:∀z m,pgV (z::m)=.bool (pgC z).1 :: .bool (pgC z).2::pgV m:=λz m=>by simp[pgV]
  cases n with
  | zero=>simp[pgV]
  | succ n=>
   rw[zGD,e,e,ih,show 2*(n+1)=2*n+1+1 by omega];simp
theorem WhH (l:List Nat)(n:Nat):pgV (l.drop n)=(pgV l).drop (2*n):=by
 induction l generalizing n with
 | nil=>simp[pgV]
 | cons y l ih=>
  have e:∀z m,pgV (z::m)=.bool (pgC z).1 :: .bool (pgC z).2::pgV m:=λz m=>by simp[pgV]
  cases n with
  | zero=>simp[pgV]
  | succ n=>
   rw[zFD,e,ih,show 2*(n+1)=2*n+1+1 by omega];simp
theorem Wi3 (n v:Nat):pgV (List.replicate n v)=(List.replicate n [Value.bool (pgC v).1,.bool (pgC v).2]).flatten:=by
 induction n with
 | zero=>rfl
 | succ n ih=>rw[zEI,zEI,zDC,←ih];simp[pgV]
theorem _root_.Go.Vc.SlR.rPg {s:Sl}{l:List Nat}(h:SlR s 2 (pgV l) σ F){i x:Nat}(hx:l[i]?=some x){K:Bool->Bool->Prop}(hK:K (pgC x).1 (pgC x).2) :
 Ix s.a s.len (i:Int) 2 λa=>LdB (a.add 0) σ λu=>LdB (a.add 1) σ λw=>K u w:=by
 have hi:=(gSi.1 hx).1;have hg:=Wfb hx;obtain⟨b,o,ha,hc⟩:=h.cell hg.1;obtain⟨b1,o1,ha1,hc1⟩:=h.cell hg.2;rw[ha]at ha1;cases ha1;have hl:=h.1;rw[VO]at hl;rw[ha];refine ix (by omega) (by omega) ?_;rw[add_lit];refine ldB ?_ (ldB ?_ hK)<;>rw[add_lit]
 ·rw[show o+(i:Int).toNat*2+0=o+2*i by omega];exact hc
 ·rw[show o+(i:Int).toNat*2+1=o+(2*i+1) by omega];exact hc1
theorem _root_.Go.Vc.SlR.lenP {s:Sl}{l:List Nat}(h:SlR s 2 (pgV l) σ F):s.len=l.length:=by
 have:=h.1;rw[VO]at this;omega
theorem Wek (g:Gl σ){x:Nat}(hx:x<=2){R:Bool->Hp->Prop}(hR:∀σ',Ext0 σ σ'->R (x != 0) σ'):Yf.c (pgC x).1 (pgC x).2 σ R:=by
 refine Yf.o ?_;unfold Yf.v;refine nw (cs:=[.bool (pgC x).1,.bool (pgC x).2]) λv hz e hb=>hb.rB rfl (hb.rB rfl ?_);have g:=g.keep0 e;refine ldB (by rw[←g.u0];rfl) (ldB (by rw[←g.u1];rfl) ?_);have e0:(((pgC x).1==false)&&(((pgC x).2==false)&&true))=(x==0):=Wll hx (y:=0) (by omega);rw[e0];exact hR v e
theorem WjD {s:Sl}{xs:List Nat}(h:SlR s 2 (pgV xs) σ F)(g:Gl σ)(hl:xs.length<=1000000)(h2:∀x∈xs,x<=2){R:Bool->Hp->Prop}
 (hR:∀σ',Ext0 σ σ'->R (xs.any (· != 0)) σ'):Wf.c s ⟨301,#[],#[]⟩ σ R:=by
 refine Wf.o ?_;unfold Wf.v;refine Wl.o ?_;unfold Wl.v;have hlen:=h.lenP;refine Zw (a:=.i .i64) (λ(t:Int) h'=>∃i:Nat,t=(i:Int)/\i<=xs.length/\Ext0 σ h'/\∀(j x:Nat),j<i->xs[j]?=some x->x=0) (λt _=>xs.length-t.toNat) ⟨0,rfl,by omega,Ext.refl _ _,λj x hj=>by omega⟩ ?_;rintro t w ⟨i,rfl,hi,e,hno⟩;refine ifD (λhlt=>?_) λhge=>?_
 ·have hi':i<xs.length:=by omega
  have hx:xs[i]?=some xs[i]:=gGe hi';refine((SlR.loc _ _ _).keep0 h e).rPg hx ?_;refine WaN (all := #[.agg #[.bool (pgC xs[i]).1,.bool (pgC xs[i]).2]]) (by kernel_rfl) (by simp) ?_;refine Wek (g.keep0 e) (h2 _ (zj hi')) λw' e'=>?_;refine iff_ (λhe=>?_) λhe=>?_
  ·have:xs.any (· != 0)=true:=zl.2 ⟨_,zj hi',he⟩;have:=hR w' (Ext.trans e e');rw[‹xs.any (· != 0)=true›]at this;show R (decide ((i:Int)≥0)) _;rw[zQ (by omega)];exact this
  ·have he':xs[i]=0:=by simpa using he
   refine arN (m:=i+1) (by omega) (by omega) ⟨⟨i+1,rfl,by omega,Ext.trans e e',λj x hj hjx=>?_⟩,by omega⟩;by_cases e:j=i
   ·subst e;rw[hx]at hjx;cases hjx;exact he'
   ·exact hno j x (by omega) hjx
 ·have:xs.any (· != 0)=false:=by
   rw[zAP];intro x hm;obtain⟨j,hj⟩:=zL hm;have:=(gSi.1 hj).1;simpa using hno j x (by omega) hj
  have:=hR w e;rw[‹xs.any (· != 0)=false›]at this;exact this
theorem SpH2.part (h:SpH2 σ F p q r l B sp){x y c:Nat}(hl:x+y<=sp.st.length):SlR ⟨some ⟨q,2*x,none⟩,y,c⟩ 2 (pgV ((sp.st.drop x).take y)) σ F:=by
 obtain⟨rest,hrow⟩:=h.row;have hlen:(pgV ((sp.st.drop x).take y)).length=y*2:=by rw[VO,zY,zz];omega
 refine⟨hlen,.inr ⟨q,2*x,_,h.fs.2.1,rfl,hrow.q,λj hj=>?_⟩⟩;rw[hlen]at hj;rw[zd (by rw[VO];omega),Wik,WhH,zg,zB (by omega),zu]
theorem WkL (h:SpH3 σ F p sp)(a m:Int){R:Sl->Int->Hp->Prop}(h0:YT sp.st.length a m=false->R ⟨none,0,0⟩ 1 σ)
 (h1:∀(x y:Nat) s,a=x->m=y->1<=y->x+y<=sp.st.length->SlR s 2 (pgV ((sp.st.drop x).take y)) σ F->R s 0 σ):YP.c (some ⟨p,0,none⟩) a m σ R:=by
 refine YP.o ?_;unfold YP.v;have h':=h;obtain⟨q,r,l,B,h⟩:=h;have n2:=h.n2;have bad:¬(0<=a/\1<=m/\m<=sp.st.length-a)->R ⟨none,0,0⟩ 1 σ:=λhn=>h0 (by simp only[YT,←zDN];exact zT hn);refine H8 h' (ifF rfl (JnB.intro (ifD (λc1=>JnB.intro (ifT rfl (JnB.intro (ifT rfl (ifT rfl (bad (by omega))))))) λc1=>?_)));refine JnB.intro (ifD (λc2=>JnB.intro (ifT rfl (ifT rfl (bad (by omega))))) λc2=>nilP (h.rS λcap hc=>?_));simp only;refine JnB.intro (ifD (λc3=>ifT rfl (bad (by omega))) λc3=>?_);refine nilP (h.rS λcap hc=>ar (by simp only;omega) (by simp only;omega) ?_);simp only;refine ifD (λc4=>bad (by omega)) λc4=>?_;obtain⟨x,rfl⟩:=zi (show 0<=a by omega);obtain⟨y,rfl⟩:=zi (show 0<=m by omega);refine nilP (h.rS λcap hc=>arN (m:=x+y) (by omega) (by omega) ?_);refine slc (by omega) (by simp only;omega) (zD _) ?_;simp only;rw[zA (by omega)];refine h1 x y _ rfl rfl (by omega) (by omega) ?_;have:=h.part (x:=x) (y:=y) (c:=cap-x) (by omega);have e:(Option.map (λ(u:Addr)=>u.add (x*2)) (some (⟨q,0,none⟩:Addr)))=some ⟨q,2*x,none⟩:=by
  simp only[zb,add_lit];congr 2;omega
 rw[e,Nat.add_sub_cancel_left];exact this
def Sp.set1 (s:Sp)(k v:Nat):Sp:={s with st:=s.st.set k v,wd:=λw=>if k*32<=w/\w<(k+1)*32 then 0 else s.wd w}
theorem Wjw {st:List Nat}(h:∀x∈st,x<=2){k v:Nat}(hv:v<=2):∀x∈st.set k v,x<=2:=by
 intro x hx;rcases zFF hx with h1|h1
 ·exact h x h1
 ·omega
theorem SpH2.set1 (h:SpH2 σ F p q r l B sp){k v:Nat}(hk:k<sp.st.length)(hv:v<=1){σ':Hp}(e:Ext (λb=>b=q\/b=r) σ σ'){rest:List Value}
 (hb:Blk σ' q (pgV (sp.st.set k v)++rest)) (hm:MapL σ' r .i64 .s (mdel l (k:Int))):SpH2 σ' F p q r (mdel l (k:Int)) B (sp.set1 k v):=by
 have g2:∀j:Nat,(sp.st.set k v)[j]?=some 2↔j≠k/\sp.st[j]?=some 2:=λj=>by
  rw[zCH];by_cases hjk:k=j
  ·subst hjk;rw[zB rfl,zB hk];constructor
   ·intro h;have:v=2:=by simpa using h
    omega
   ·intro h;exact absurd rfl h.1
  ·rw[zA hjk];exact⟨λh=>⟨λe=>hjk e.symm,h⟩,λh=>h.2⟩
 obtain⟨c,hc,hd⟩:=h.hd;have np:¬(p=q\/p=r):=by have:=h.fs;omega
 refine⟨⟨c,by simpa[Sp.set1]using hc,by simpa[Sp.set1]using e.blk hd np⟩,⟨rest,hb⟩,hm,λx=>?_,λj s hs=>?_,λj j' h1 h2=>?_,λj hj=>?_,h.fs,λw hw=>?_,by simpa[Sp.set1]using h.n1,by simpa[Sp.set1]using h.n2,Wjw h.le2 (by omega),h.pk⟩
 ·rw[WbA];by_cases hx:x=(k:Int)
  ·rw[zB hx];constructor
   ·intro h;cases h
   ·rintro⟨j,rfl,hj⟩;have:=(g2 j).1 hj;omega
  ·rw[zA hx,h.keys];constructor
   ·rintro⟨j,rfl,hj⟩;exact⟨j,rfl,(g2 j).2 ⟨by omega,hj⟩⟩
   ·rintro⟨j,rfl,hj⟩;exact⟨j,rfl,((g2 j).1 hj).2⟩
 ·rw[WbA]at hs;by_cases hx:(j:Int)=(k:Int)
  ·rw[zB hx]at hs;cases hs
  ·rw[zA hx]at hs;obtain⟨w1,w2,w3,cs,w4,w5,w6⟩:=h.wd j s hs;have ho:=h.out j (h.dirty hs);refine⟨w1,w2,w3,cs,e.blk w4 (by omega),w5,λi hi=>?_⟩;rw[w6 i hi];simp only[Sp.set1];rw[zA (by omega)]
 ·exact h.inj j j' ((g2 j).1 h1).2 ((g2 j').1 h2).2
 ·exact h.out j ((g2 j).1 hj).2
 ·simp only[Sp.set1]at hw ⊢;by_cases hin:k*32<=w/\w<(k+1)*32
  ·rw[zB hin]
  ·rw[zA hin];refine h.zero w λh2=>hw ((g2 _).2 ⟨by omega,h2⟩)
theorem Sp.set_zero (s:Sp)(a v:Nat):s.set a 0 v=s:=by
 have h1:setR s.st a (a+0) v=s.st:=by
  apply zn;intro i;rw[VW];cases s.st[i]? with
  | none=>rfl
  | some x=>simp only[zb];rw[zA (by omega)]
 have h2:(λw=>if a*32<=w/\w<(a+0)*32 then 0 else s.wd w)=s.wd:=by
  funext w;rw[zA (by omega)]
 simp only[Sp.set,h1,h2]
theorem Sp.set_succ (s:Sp)(a m v:Nat)(h:a+m<s.st.length):(s.set a m v).set1 (a+m) v=s.set a (m+1) v:=by
 have h1:(setR s.st a (a+m) v).set (a+m) v=setR s.st a (a+(m+1)) v:=by
  apply zn;intro i;rw[zCH,VW,VW,QH];by_cases hi:a+m=i
  ·subst hi;rw[zB rfl,zB h,gGe h,zb,zB (by omega)]
  ·rw[zA hi];cases s.st[i]? with
   | none=>rfl
   | some x=>
    simp only[zb];by_cases hin:a<=i/\i<a+m
    ·rw[zB hin,zB (by omega)]
    ·rw[zA hin,zA (by omega)]
 have h2:(λw=>if(a+m)*32<=w/\w<(a+m+1)*32 then 0 else(if a*32<=w/\w<(a+m)*32 then 0 else s.wd w))=λw=>if a*32<=w/\w<(a+(m+1))*32 then 0 else s.wd w:=by
  funext w
  by_cases h1:(a+m)*32<=w/\w<(a+m+1)*32
  ·rw[zB h1,zB (by omega)]
  ·rw[zA h1];by_cases h2:a*32<=w/\w<(a+m)*32
   ·rw[zB h2,zB (by omega)]
   ·rw[zA h2,zA (by omega)]
 simp only[Sp.set,Sp.set1,h1,h2]
theorem Wj8 (h:SpH3 σ F p sp){x y v:Nat}(hl:x+y<=sp.st.length)(hv:v<=1){R:Hp->Prop}(hR:∀σ',Ext F σ σ'->SpH3 σ' F p (sp.set x y v)->R σ') :
 YE.c (some ⟨p,0,none⟩) x y (pgC v).1 (pgC v).2 σ R:=by
 refine YE.o ?_;unfold YE.v;have hn2:sp.st.length<=1024:=by obtain⟨q,r,l,B,h⟩:=h;exact h.n2
 have hcut:SpH3 σ (Cut F σ) p sp:=Lcl.cut SpH3.loc h;refine nw (cs:=[.bool (pgC v).1,.bool (pgC v).2]) λu hz e hb=>?_;have hc:=hcut.keep0 e;refine Zw (a:=.i .i64) (λ(t:Int) w=>∃i:Nat,t=((x+i:Nat):Int)/\i<=y/\Ext (Cut F σ) u w/\Blk w σ.size [.bool (pgC v).1,.bool (pgC v).2]/\SpH3 w (Cut F σ) p (sp.set x i v)) (λt _=>x+y-t.toNat)
  ⟨0,rfl,by omega,Ext.refl _ _,hb,by rw[Sp.set_zero];exact hc⟩ ?_
 rintro t w ⟨i,rfl,hi,ew,hbw,q,r,l,B,hw⟩;refine arN (m:=x+y) (by omega) (by omega) (ifD (λhlt=>?_) λhge=>?_)
 ·have hlen:(sp.set x i v).st.length=sp.st.length:=QH _ _ _ _;refine nilP (hw.rS λcap hcap=>hbw.rB rfl (hbw.rB rfl (ix (by omega) (by simp only;omega) ?_)));rw[add_lit,show 0+((x+i:Nat):Int).toNat*2=2*(x+i) by omega];obtain⟨rest,hrow⟩:=hw.row;have hk:x+i<(sp.set x i v).st.length:=by omega
  refine hrow.s1 (by rw[zJ,VO];omega) λw1 o1 b1=>b1.s1 (by rw[zBQ,zJ,VO];omega) λw2 o2 b2=>?_;rw[zt,Wjh hk]at b2;have e2:Ext (· = q) w w2:=o1.ext.trans o2.ext;obtain⟨c,hc',hd⟩:=hw.hd;have hd2:=e2.blk hd hw.fs.2.2.2.1;refine nilP (hd2.rM rfl ⟨l,e2.mapL hw.map (λe=>hw.fs.2.2.2.2.2 e.symm),λw3 ho3 _ hm3=>?_⟩);have o3:=ho3 r rfl;have e3:Ext (λb=>b=q\/b=r) w w3:=(e2.sub λb hb=>.inl hb).trans (o3.ext.sub λb hb=>.inr hb);have h3:=hw.set1 hk hv e3 (Wr o3 b2 hw.fs.2.2.2.2.2) hm3;rw[Sp.set_succ _ _ _ _ (by omega)]at h3;have e4:Ext (Cut F σ) w w3:=e3.sub λb hb=>by
   rcases hb with rfl|rfl
   ·exact hw.fs.2.1
   ·exact hw.fs.2.2.1
  refine arN (m:=x+(i+1)) (by omega) (by omega) ⟨⟨i+1,rfl,by omega,ew.trans e4,e4.blk hbw λhf=>by have:=hf.2;omega,_,_,_,_,h3⟩,by omega⟩
 ·have:i=y:=by omega
  subst this;refine hR w (Ext.cut (e.to.trans ew)) (Lcl.mono SpH3.loc ⟨q,r,l,B,hw⟩ λb _ hb=>hb.1)
theorem Wlw (h:SpH3 σ F p sp)(g:Gl σ)(hF:Off F)(a m:Int){R:Int->Hp->Prop}(hR:∀σ',Ext F σ σ'->SpH3 σ' F p (mapS sp a m)->R (mapE sp a m) σ') :
 YM.c (some ⟨p,0,none⟩) a m σ R:=by
 refine YM.o ?_;unfold YM.v;have hle:(∀x∈sp.st,x<=2)/\sp.st.length<=1024:=by obtain⟨q,r,l,B,h⟩:=h;exact⟨h.le2,h.n2⟩
 refine WkL h a m (λhk=>?_) λx y s hx hy h1 h2 hs=>?_
 ·have e1:mapE sp a m=1:=by unfold mapE;rw[hk];rfl
  have e2:mapS sp a m=sp:=by unfold mapS;rw[e1];rfl
  have:=hR σ (Ext.refl _ _);rw[e1,e2]at this;exact ifT rfl (this h)
 ·subst hx;subst hy;have hk:YT sp.st.length (x:Int) (y:Int)=true:=by simp only[YT,zF,zN];omega
  refine ifF rfl (WjD hs g (by rw[zY,zz];omega) (λz hz=>hle.1 z (zDI (zBS hz))) λσ1 e1=>?_);have em:mapE sp x y=if((sp.st.drop x).take y).any (· != 0)then 5 else 0:=by unfold mapE;rw[hk];rfl
  refine iff_ (λhany=>?_) λhany=>?_
  ·rw[hany]at em;have e2:mapS sp x y=sp:=by unfold mapS;rw[em];rfl
   have:=hR σ1 (Ext0.to e1);rw[em,e2]at this;exact this (h.keep0 e1)
  ·rw[hany]at em;have e2:mapS sp x y=sp.set x y 1:=by unfold mapS;rw[em];rfl
   have g1:=g.keep0 e1;refine ldB (by rw[←g1.c0];rfl) (ldB (by rw[←g1.c1];rfl) ?_);refine Wj8 (v:=1) (h.keep0 e1) h2 (by omega) λσ2 e3 h3=>?_;have:=hR σ2 (Ext.trans (Ext0.to e1) e3);rw[em,e2]at this;exact this h3
def Kw (n:Nat):Sp:=⟨List.replicate n 0,λ_=>0,0⟩
theorem Wj2 {σ:Hp}{F:Rg}{p q r n c:Nat}(h1:1<=n)(h2:n<=1024)(hc:n<=c)(hd:Blk σ p [.slice (some ⟨q,0,none⟩) n c,.map (some r),.int .i64 0])(hq:Blk σ q (pgV (List.replicate n 0)))(hr:MapL σ r .i64 .s [])
 (hF:F p/\F q/\F r) (hne:p≠q/\p≠r/\q≠r):SpH2 σ F p q r [] (λ_=>0) (Kw n):=by
 have no:∀k:Nat,(List.replicate n 0)[k]?≠some 2:=λk hk=>by
  rw[zAT]at hk;split at hk<;>cases hk
 refine⟨⟨c,by simpa[Kw]using hc,by simpa[Kw]using hd⟩,⟨[],by simpa[Kw]using hq⟩,hr,λx=>?_,λk s hs=>(by cases hs),λk k' h1=>absurd h1 (no k),λk hk=>absurd hk (no k),⟨hF.1,hF.2.1,hF.2.2,hne⟩,λw _=>rfl,by simpa[Kw]using h1,by simpa[Kw]using h2,λx hx=>?_,by simp[Kw]⟩
 ·constructor
  ·intro h;cases h
  ·rintro⟨k,_,hk⟩;exact absurd hk (no k)
 ·have:=zGG hx;omega
theorem Wgt {n:Nat}(h1:1<=n)(h2:n<=1024){R:Option Addr->Int->Hp->Prop}(hR:∀σ' p',Ext0 σ σ'->σ.size<=p'->SpH3 σ' (λb=>σ.size<=b) p' (Kw n)->R (some ⟨p',0,none⟩) 0 σ'):Qa.c (n:Int) σ R:=by
 refine Qa.o ?_;unfold Qa.v;refine JnB.intro (ifDF (by omega) ?_);rw[zT (by omega)];refine ifF rfl (mk (by omega) (by omega) λu1 z1 e1 b1=>WcO λu2 z2 e2 m2=>nw (cs:=[.slice (some ⟨σ.size,0,none⟩) n n,.map (some u1.size),.int .i64 0]) λu3 z3 e3 b3=>?_);have hq:=Ext.blk e3 (Ext.blk e2 b1 id) id;have hr:=Ext.mapL e3 (m2 .i64 .s) id;refine hR u3 _ (Ext.trans (Ext.trans e1 e2) e3) (by omega) ⟨σ.size,u1.size,[],_,Wj2 h1 h2 (zD _) b3 ?_ hr ⟨by omega,by omega,by omega⟩ (by omega)⟩;rw[Wi3];exact hq
end Go.Ar
namespace Go.Vc
open Go
def itN (h:Hp)(it r:Nat):Nat:=
 match h[it]?,h[r]? with
 | some (.mapIter _ _ seen _),some (.map es _)=>(es.toList.filter λe=>!seen.contains e.born).length
 | _,_=>0
variable {σ:Hp}{k:IntKind}{c:CK}{l todo:List (Int×c.T)}{cur:Option (Int×c.T)}{r it:Nat}
theorem It.num {h:Hp}(hi:It h it k c (some r) l todo cur):itN h it r=todo.length:=by
 obtain⟨es,clk,seen,h1,h2,h3,h4,h5,h6,h7,h8⟩:=hi;unfold itN;rw[h1,h2];have:=congrArg List.length h7;simpa using this
theorem It.keep {h h':Hp}(hi:It h it k c (some r) l todo cur)(h1:h'[it]?=h[it]?)(h2:h'[r]?=h[r]?):It h' it k c (some r) l todo cur:=by
 obtain⟨es,clk,seen,a1,a2,rest⟩:=hi;exact⟨es,clk,seen,h1.trans a1,h2.trans a2,rest⟩
theorem rng0 {A:Hp->Prop}{body:Int->c.T->Hp->(Hp->Prop)->Prop}(hm:MapL σ r k c l)(I:List (Int×c.T)->Hp->Prop)
 (h0:∀v,v.size=σ.size+1->Ext0 σ v->I l v)
 (hend:∀v,I [] v->A v)
 (hstep:∀todo n x v v' (J:Hp->Prop),I todo v->(n,x)∈todo->ZY v v' σ.size->σ.size<v.size->(∀w,w[σ.size]?=v'[σ.size]?->w[r]?=v'[r]?->I (todo.filter λy=>!(y.1==n)) w->J w)->body n x v' J) :
 Rng k c (some r) σ λit v3=>XL [] (λI=>I v3) λJ1 v4=>Nxt k c it v4 (A v4) λ_ _ v5=>Ent k c it v5 λkey1 val1=>body key1 val1 v5 J1:=by
 refine⟨l,hm,λv hz hb hi=>?_⟩;have e0:Ext0 σ v:=⟨by omega,λb hb' _=>hb b hb'⟩;refine WkF (λw=>∃todo cur,It w σ.size k c (some r) l todo cur/\I todo w/\σ.size<w.size) (λw=>itN w σ.size r) ⟨l,none,hi,h0 v hz e0,by omega⟩ ?_;rintro w ⟨todo,cur,hiw,hI,hlt⟩;refine⟨rfl,some r,l,todo,cur,hiw,λht=>?_,λn x hx w' ho hi'=>?_⟩
 ·subst ht;exact hend w hI
 ·refine⟨rfl,some r,l,_,n,x,hi',hstep todo n x w w' _ hI hx ho hlt λu hu1 hu2 hIu=>?_⟩;have hiu:=hi'.keep hu1 hu2;refine⟨⟨_,_,hiu,hIu,?_⟩,?_⟩
  ·obtain⟨es,clk,seen,a1,_⟩:=hiu;exact(zAK.1 a1).1
  ·rw[hiu.num,hiw.num];exact List.length_filter_lt_length_iff_exists.2 ⟨(n,x),hx,by simp⟩
theorem rng1 {a:CK}{x0:a.T}{A:a.T->Hp->Prop}{body:Int->c.T->a.T->Hp->(a.T->Hp->Prop)->Prop}(hm:MapL σ r k c l)(I:List (Int×c.T)->a.T->Hp->Prop)
 (h0:∀v,v.size=σ.size+1->Ext0 σ v->I l x0 v)
 (hend:∀z v,I [] z v->A z v)
 (hstep:∀todo n x z v v' (J:a.T->Hp->Prop),I todo z v->(n,x)∈todo->ZY v v' σ.size->σ.size<v.size->(∀z' w,w[σ.size]?=v'[σ.size]?->w[r]?=v'[r]?->I (todo.filter λy=>!(y.1==n)) z' w->J z' w)->body n x z v' J) :
 Rng k c (some r) σ λit v3=>XL [a] (λI=>I x0 v3) λJ1 z v4=>Nxt k c it v4 (A z v4) λ_ _ v5=>Ent k c it v5 λkey1 val1=>body key1 val1 z v5 J1:=by
 refine⟨l,hm,λv hz hb hi=>?_⟩;have e0:Ext0 σ v:=⟨by omega,λb hb' _=>hb b hb'⟩;refine Zw (a:=a) (λz w=>∃todo cur,It w σ.size k c (some r) l todo cur/\I todo z w/\σ.size<w.size) (λ_ w=>itN w σ.size r) ⟨l,none,hi,h0 v hz e0,by omega⟩ ?_;rintro z w ⟨todo,cur,hiw,hI,hlt⟩;refine⟨rfl,some r,l,todo,cur,hiw,λht=>?_,λn x hx w' ho hi'=>?_⟩
 ·subst ht;exact hend z w hI
 ·refine⟨rfl,some r,l,_,n,x,hi',hstep todo n x z w w' _ hI hx ho hlt λz' u hu1 hu2 hIu=>?_⟩;have hiu:=hi'.keep hu1 hu2;refine⟨⟨_,_,hiu,hIu,?_⟩,?_⟩
  ·obtain⟨es,clk,seen,a1,_⟩:=hiu;exact(zAK.1 a1).1
  ·rw[hiu.num,hiw.num];exact List.length_filter_lt_length_iff_exists.2 ⟨(n,x),hx,by simp⟩
end Go.Vc
namespace Go.Ar
open Go Go.Vc Go.Proofs
open Go.Bu (YT)
variable {σ:Hp}{F:Rg}{p q r:Nat}{sp:Sp}{l:List (Int×Sl)}{B:Nat->Nat}
theorem KM {α:Type}{l:List (Int×α)}(hn:(l.map (·.1)).Nodup){n:Int}{x:α}(h:(n,x)∈l):mget l n=some x:=by
 induction l with
 | nil=>simp at h
 | cons y l ih=>
  rw[Qm];simp only[zI,zm]at hn;rcases zX.1 h with h1|h1
  ·subst h1;rw[zB rfl]
  ·have:¬y.1=n:=λe=>hn.1 (zC.2 ⟨_,h1,e.symm⟩);rw[zA this];exact ih hn.2 h1
end Go.Ar
namespace Go.Bu
open Go Go.Vc Go.Proofs
variable {σ:Hp}{p n sb:Nat}{S:Nat->Bool}{ms:List Nat}
def mapV (ms:List Nat):List Value:=ms.map λm=>Value.map (some m)
structure Part (B:Nat) (h:Hp) (p n:Nat) (j:Nat) (s:Sl) (ms:List Nat):Prop where
 len:ms.length=j
 sl:s.len=j
 hd:Blk h p [.int .i64 n,.slice s.a s.len s.cap]
 own:Own (λb=>B<=b/\b≠p/\b∉ms) h s 1 (mapV ms)
 new:∀m∈ms,B<=m/\m≠p/\m<h.size
 nd:ms.Nodup
theorem Part.done {B:Nat}{h:Hp}{j:Nat}{s:Sl}(hp:Part B h p n j s ms)(hB:B<=p)(hj:0<j)(n1:1<=n)(n2:n<=1024)(lo:2^j<=2*n)(hi:n<2^j)(bnd:Bounded S n)
 (maps:∀k m,ms[k]?=some m->∃B:List (Int×Bool),MapL h m .i64 .b B/\Keys S k B):∃sb,BH h p n S sb ms/\∀b,fp p sb ms b->B<=b:=by
 rcases hp.own.2 with⟨_,hl,_⟩|⟨sb,cs,⟨hq,hqp,hqm⟩,ha,hb,hle,hcl,ht⟩
 ·have:=hp.sl;omega
 ·refine⟨sb,⟨?_,?_,maps,?_,n1,n2,?_,?_,bnd⟩,?_⟩
  ·refine⟨s.cap,?_⟩;have:=hp.hd;rw[ha,hp.sl,←hp.len]at this;exact this
  ·refine⟨cs.drop (mapV ms).length,?_⟩;have:mapV ms++cs.drop (mapV ms).length=cs:=by
    conv=>lhs;lhs;rw[←ht]
    exact zBG _ _
   show Blk h sb (mapV ms++_);rw[this];exact hb
  ·simp only[zm,zX,not_or];exact⟨⟨λe=>hqp e.symm,λhm=>(hp.new p hm).2.1 rfl⟩,hqm,hp.nd⟩
  ·rw[hp.len];exact lo
  ·rw[hp.len];exact hi
  ·intro b hb;simp only[fp,zX]at hb;rcases hb with rfl|rfl|h
   ·exact hB
   ·exact hq
   ·exact(hp.new b h).1
theorem Part.hdS {B:Nat}{h:Hp}{j:Nat}{s:Sl}(hp:Part B h p n j s ms):cell h ⟨p,1,none⟩=some (.slice s.a s.len s.cap):=by rw[hp.hd.cell];rfl
theorem Part.keep0 {B:Nat}{h h':Hp}{j:Nat}{s:Sl}(hp:Part B h p n j s ms)(e:Ext0 h h'):Part B h' p n j s ms:=
 ⟨hp.len,hp.sl,e.blk hp.hd id,hp.own.keep0 e,λm hm=>⟨(hp.new m hm).1,(hp.new m hm).2.1,zDJ (hp.new m hm).2.2 e.1⟩,hp.nd⟩
theorem Part.step {B:Nat}{h:Hp}{j m e t bytes:Nat}{s:Sl}{zs:List Value}{K:Sl->Hp->Prop}(hp:Part B h p n j s ms)(hj:j<=1000)(hbt:bytes<=1000)(hz:zs.length=1)(hm:B<=m)(hmp:m≠p)(hml:m<h.size)(hmn:m∉ms)(hms:¬V9 s m)
 (hpB:p<h.size) (hBh:B<=h.size)
 (hgo:∀s' h',Ext (V9 s) h h'->s'.len=j+1->Blk h' p [.int .i64 n,.slice s.a s.len s.cap] →
  (∀h2,ZY h' h2 p->Blk h2 p [.int .i64 n,.slice s'.a s'.len s'.cap]->Part B h2 p n (j+1) s' (ms++[m]))->K s' h') :
 App s 1 bytes e zs ⟨some ⟨h.size,0,none⟩,1,1⟩ (h.push (.cells #[.map (some m)] t (0,0))) K:=by
 have hsl:=hp.sl;have own':Own (λb=>B<=b/\b≠p/\b∉ms++[m]) (h.push (.cells #[.map (some m)] t (0,0))) s 1 (mapV ms):=by
  have h1:=hp.own;have h2:Own (λb=>B<=b/\b≠p/\b∉ms++[m]) h s 1 (mapV ms):=by
   refine⟨h1.1,h1.2.imp id ?_⟩;rintro⟨b,cs,⟨q1,q2,q3⟩,ha,r⟩;refine⟨b,cs,⟨q1,q2,?_⟩,ha,r⟩;simp only[zM,zR,not_or];exact⟨q3,λe=>hms ⟨0,by rw[ha,e]⟩⟩
  exact h2.keep0 (VU _ _)
 have hsz:(h.push (.cells #[.map (some m)] t (0,0))).size=h.size+1:=by simp
 refine own'.app (ys:=[.map (some m)]) ?_ hz rfl Wla (by simp[one1]) ?_ ?_ zBA λs' h' hl' he ho hne=>?_
 ·intro b hb;rw[hsz]at hb;refine⟨by omega,by omega,?_⟩;simp only[zM,zR,not_or];exact⟨λhmem=>by have:=(hp.new b hmem).2.2;omega,by omega⟩
 ·simp only;have:(s.len+1)*bytes<=1001*1000:=zo (by omega) hbt;omega
 ·simp only;omega
 ·simp only at hl';have he':Ext (V9 s) h h':=(VU h _).to.trans he;have hnp:¬V9 s p:=λhb=>(hp.own.blk_lt hb).1.2.1 rfl;refine hgo s' h' he' (by omega) (he'.blk hp.hd hnp) λh2 h2o hb2=>⟨by simp[hp.len],by omega,hb2,?_,?_,?_⟩
  ·have:mapV (ms++[m])=mapV ms++[.map (some m)]:=by simp[mapV]
   rw[this];exact ho.keep (Ext.of_only (F:=(· = p)) h2o rfl) (λb hq _ hf=>hq.2.1 hf)
  ·intro x hx;have hs2:h2.size=h'.size:=h2o.1;have:=he'.1;rcases zM.1 hx with h1|h1
   ·have:=hp.new x h1;exact⟨this.1,this.2.1,by omega⟩
   ·simp at h1;subst h1;exact⟨hm,hmp,by omega⟩
  ·rw[zAY];refine⟨hp.nd,by simp,?_⟩;intro a ha b hb;simp at hb;subst hb;rintro rfl;exact hmn ha
def emptyS:Nat->Bool:=λ_=>false
theorem Wd1 (k:Nat):Keys emptyS k []:=by
 refine⟨by simp,λq hq=>?_⟩;have:=QV hq (QG k q);simp[emptyS]at this
theorem New_ok (pages:Int){R:Option Addr->Int->Hp->Prop}(hbad:¬(1<=pages/\pages<=1024)->R none 1 σ)
 (hR:∀(n:Nat),pages=(n:Int)->1<=n->n<=1024->∀σ' sb ms,Ext0 σ σ'->BH σ' σ.size n emptyS sb ms->(∀b,fp σ.size sb ms b->σ.size<=b)->R (some ⟨σ.size,0,none⟩) 0 σ'):Qb.c pages σ R:=by
 refine Qb.o ?_;unfold Qb.v;refine JnB.intro (ifD (λh1=>ifT rfl (hbad (by omega))) λh1=>?_);refine ifD (λh2=>hbad (by omega)) λh2=>?_;obtain⟨n,rfl⟩:=zi (show 0<=pages by omega);have n1:1<=n:=by omega
 have n2:n<=1024:=by omega
 unfold Nw;have e0:=VU σ (.cells #[.int .i64 (n:Int),.slice none 0 0] 52 (0,0));refine Zw (a:=.i .i64) (λt h=>∃(j:Nat) (s:Sl) (ms:List Nat),t=((2^j:Nat):Int)/\2^j<=2*n/\Ext0 σ h/\σ.size<h.size/\Part σ.size h σ.size n j s ms/\∀m∈ms,MapL h m .i64 .b []) (λt _=>2*n+1-t.toNat)
  ⟨0,⟨none,0,0⟩,[],rfl,by simp;omega,Ext.push _ _ _,by simp,⟨rfl,rfl,Blk.push _ _ _,Own.nil _ _ _,by simp,by simp⟩,by simp⟩ ?_
 rintro t h ⟨j,s,ms,rfl,hj2,hE,hsz,hP,hms⟩;have hj:j<=11:=by
  apply Classical.byContradiction;intro hc;have:2^12<=2^j:=zAI (by decide) (by omega);omega
 have hpj:=zv j;refine ifD (λhle=>?_) (λhgt=>?_)
 ·refine nilP ?_;rw[add_lit,zG];refine ldS hP.hdS ?_;have e1:=VU h (.map #[] 0);have hs1:(h.push (.map #[] 0)).size=h.size+1:=by simp
  have hP1:=hP.keep0 e1;refine hP1.step (m:=h.size) (by omega) (by omega) rfl (by omega) (by omega) (by omega) (λhm=>by have:=(hP.new _ hm).2.2;omega) (λhb=>by have:=(hP.own.blk_lt hb).2;omega) (by omega) (by omega) λs' h' he hl hb hstep=>?_;refine nilP (hb.st1 (by simp) λh2 ho hb2=>?_);have hP2:=hstep h2 ho hb2;have hE2:Ext0 σ h2:=by
   refine Ext.fresh (Ext.fresh (hE.trans e1) he λi hi=>(hP.own.blk_lt hi).1.1) (Ext.of_only (F:=(· = σ.size)) ho rfl) λi hi=>?_;rw[hi];exact zD _
  refine arN (m:=2^(j+1)) (by rw[zAN];omega) (by rw[zAN];omega) ⟨⟨j+1,s',ms++[h.size],rfl,by rw[zAN];omega,hE2,?_,hP2,?_⟩,by rw[zAN];omega⟩
  ·have:=ho.1;have:=he.1;omega
  ·intro m hm;have HY:∀{m:Nat},MapL (h.push (.map #[] 0)) m .i64 .b []->¬V9 s m->m≠σ.size->MapL h2 m .i64 .b []:=λhM hn hne=>Wbr ho (he.mapL hM hn) hne;rcases zM.1 hm with h1|h1
   ·exact HY (e1.mapL (hms m h1) id) (λhb=>(hP.own.blk_lt hb).1.2.2 h1) (hP.new m h1).2.1
   ·simp at h1;subst h1;exact HY (MapL.push _ _ _) (λhb=>by have:=(hP.own.blk_lt hb).2;omega) (by omega)
 ·have hjpos:0<j:=by
   rcases zFW j with e|e
   ·subst e;simp at hgt;omega
   ·exact e
  obtain⟨sb,hB,hF⟩:=hP.done (S:=emptyS) (zD _) hjpos n1 n2 hj2 (by omega) (λx hx=>by simp[emptyS]at hx) λk m hm=>⟨[],hms m (zE hm),Wd1 k⟩;exact hR n rfl n1 n2 h sb ms hE hB hF
end Go.Bu
namespace Go.Proofs
open Go.Vc
set_option maxRecDepth 100000
def XC.h:Hn:=.q .o6 (.q (.q .o3 (.c (.q .o6 .l) .l)) (.q .o5 (.q (.q .o6 (.k (.loop [(8,.I),(9,.I),(10,.I),(11,.I),(28,.I)] (.q .o1 (.q (.c .l .l) (.q (.k (.q .o6 (.q .o7 (.q .o10 (.q (.reg (.held true [] (.take 0 (.take 1 (.take 2 (.take 3 (.take 4 (.take 5 (.take 6 (.take 7 (.take 10 (.take 11 (.all [(8,.take 9 (.take 12 (.take 13 (.take 14 (.done)))))]))))))))))))) (.q (.reg (.held true [] (.take 0 (.take 1 (.take 2 (.take 3 (.take 4 (.take 5 (.take 6 (.take 7 (.take 9 (.take 10 (.all [(8,.take 11 (.take 12 (.take 13 (.done))))]))))))))))))) (.q .o6 .o7))))))) .o2)))))) (.q (.q .o5 (.k (.loop [(12,.I)] (.q (.reg (.seq [.it .i64 (.i .i64),.op])) (.q (.c .l .l) (.k (.q (.reg (.seq [.it .i64 (.i .i64),.op,.op])) .o4))))))) (.q (.o 16) .l)))))
def XC.v (a:R2)(b:Hp)(c:Int->Int->Int->Int->Int->Int->Hp->Prop):Prop:=WT.c a b λd e=>If (!d) (c 0 0 0 0 0 0 e) (NilP a λf=>LdS (f.add 0) e λg=>XL [(.i .i64),(.i .i64),(.i .i64),(.i .i64),(.i .i64)] (λh=>h 0 0 0 0 0 e) λi (j:Int) (k:Int) (l:Int) (m:Int) (n:Int) o=>If (n<((g.len:Nat):Int)) (Ix g.a g.len n 3 λp=>LdI .i64 (p.add 0) o λq=>LdI .i64 (p.add 1) o λr=>LdI .i64 (p.add 2) o λs=>Nw (.cells #[.I 0,.I 0,.I 0] 31 (0,0)) o λt u=>St1 (t.add 0) (.I q) u λv=>St1 (t.add 1) (.I r) v λw=>St1 (t.add 2) (.I s) w λx=>LdI .i64 (t.add 0) x λy=>LdI .i64 (t.add 1) x λz=>LdI .i64 (t.add 2) x λaa=>ZE.c y z aa x λab ac ad=>NilP a λae=>LdS (ae.add 5) ad λaf=>Ix af.a af.len n 1 λag=>LdP ag ad λah=>XH.c ah ad λai aj=>Held aj λak=>NilP a λal=>LdH ak .s (al.add 6) λ(am:Sl)=>Ix am.a am.len n 1 λan=>LdH ak .p an λ(ao:R2)=>LdH ak (.i .i64) (t.add 0) λ(ap:Int)=>WP.c ao aj λaq ar=>And (ak ar) <| Ar .i64 (((aq.len:Nat):Int)*ap) λau=>Ar .i64 (j+au) λav=>Held ar λaw=>NilP a λax=>LdH aw .s (ax.add 5) λ(ay:Sl)=>Ix ay.a ay.len n 1 λaz=>LdH aw .p az λ(a0:R2)=>LdH aw (.i .i64) (t.add 0) λ(a1:Int)=>X1.c a0 ar λa2 a3=>And (aw a3) <| Ar .i64 (a2*a1) λa4=>Ar .i64 (k+a4) λa5=>Ar .i64 (((ai.len:Nat):Int)*ab) λa6=>Ar .i64 (l+a6) λa7=>LdI .i64 (t.add 1) a3 λa8=>Ar .i64 (((ai.len:Nat):Int)*a8) λa9=>Ar .i64 (m+a9) λba=>Ar .i64 (n+1) λbb=>i av a5 a7 ba bb a3) (NilP a λbc=>LdM (bc.add 7) o λbd=>Rng .i64 (.i .i64) bd o λbe bf=>
 XL [(.i .i64)] (λbg=>bg 0 bf) λbh (bi:Int) bj=>Nxt .i64 (.i .i64) be bj (NilP a λbk=>LdP (bk.add 2) bj λbl=>YJ.c bl bj λbm bn=>c j k l m bi bm bn) (λbo bp bq=>Ent .i64 (.i .i64) be bq λbr bs=>Ar .i64 (bi+bs) λbt=>bh bt bq)))
theorem XC.o {a b c}(d:XC.v a b c):XC.c a b c:=Wa Tryz.func74 (x:=XC.h) (R0 d)
def Yw.h:Hn:=.q .o3 (.q (.q .o3 (.c (.q .o3 .l) .l)) (.q (.q .o2 (.c (.q .o3 .l) .l)) (.q .o8 (.q (.q .o2 (.c (.q .o3 .l) .l)) (.sjn [] (.q .o2 (.c (.q .o5 (.k (.loop [] (.q (.reg (.seq [.it .i64 (.i .i64),.op])) (.q (.c .l .l) (.k (.q (.reg (.seq [.it .i64 (.i .i64),.op,.op,.op,.op])) (.q .o3 (.q (.reg (.seq [.op,.op,.op,.op,.grd true 5 (RI.ops 5)])) (.c (.q .o5 .l) .l)))))))))) .l)) (.q (.o 15) (.q (.q .o2 (.c (.q .o4 .l) .l)) (.q .o6 .l))))))))
def Yw.v (a:R2)(b:Int)(c:Hp)(d:Int->Int->Int->Hp->Prop):Prop:=WT.c a c λe f=>If (!e) (d 0 0 5 f) (If (b<0) (d 0 0 8 f) (NilP a λg=>LdP (g.add 4) f λh=>Nz 256<|Ar .i64 (b.tdiv 256) λi=>YN.c h i f λj k=>If (j==0) (d 0 0 8 k) (Jn [] (λl=>NilP a λm=>LdS (m.add 5) l λn=>Ar .i64 (j-1) λo=>Ix n.a n.len o 1 λp=>LdP p l λq=>X9.c q b l λr s t=>If (s != 0) (d 0 0 s t) (Ar .i64 (j-1) λu=>d u r 0 t)) λv=>If (j==41) (NilP a λw=>LdM (w.add 7) k λx=>Rng .i64 (.i .i64) x k λy z=>XL [] (λaa=>aa z) λab ac=>Nxt .i64 (.i .i64) y ac (v ac) (λad ae af=>Ent .i64 (.i .i64) y af λag ah=>Nz 256<|Ar .i64 (b.tdiv 256) λai=>JnB (λaj ak=>If aj (Ar .i64 (ag*256) λal=>d (-1) al 0 ak) (ab ak)) λam=>If (ag<=ai) (Ar .i64 (ag+ah) λan=>am (decide (ai<an)) af) (am false af))) (v k))))
theorem Yw.o {a b c d}(e:Yw.v a b c d):Yw.c a b c d:=Wa Tryz.func76 (x:=Yw.h) (R0 e)
def WT.h:Hn:=.q .o1 (.q (.reg (.seq [.op,.op,.op,.grd true 5 (RI.ops 5),.op])) .l)
def WT.v (a:R2)(b:Hp)(c:Bool->Hp->Prop):Prop:=JnB (λd e=>c d e) λf=>If (!a.isNone) (NilP a λg=>LdP (g.add 1) b λh=>f (!h.isNone) b) (f false b)
theorem WT.o {a b c}(d:WT.v a b c):WT.c a b c:=Wa Tryz.func106 (x:=WT.h) (R0 d)
def Yz.h:Hn:=.q .o1 (.q (.reg (.seq [.op,.op,.op,.grd true 7 (RI.ops 7),.op])) .l)
def Yz.v (a:R2)(b:Int)(c:Hp)(d:Bool->Hp->Prop):Prop:=WT.c a c λe f=>JnB (λg h=>d g h) λi=>If e (NilP a λj=>LdP (j.add 3) f λk=>XG.c k b f λl m=>i (decide (l>0)) m) (i false f)
theorem Yz.o {a b c d}(e:Yz.v a b c d):Yz.c a b c d:=Wa Tryz.func113 (x:=Yz.h) (R0 e)
def Z8.h:Hn:=.q .o2 (.q (.q .o3 (.c (.q .o2 .l) .l)) (.q .o3 (.q (.q (.reg (.seq [.op,.op,.op,.grd false 3 (RI.ops 3),.op,.grd false 2 [.op,.op],.op,.grd false 2 [.op,.op]])) (.c (.q .o2 .l) .l)) (.q .o8 (.q .o9 (.q .o9 (.q (.q .o3 (.k (.loop [(61,.I)] (.q .o1 (.q (.c .l .l) (.q (.k (.q .o4 (.q .o7 (.q .o9 (.reg (.heldJ true [18,21] [] (.take 0 (.take 1 (.take 2 (.take 3 (.take 4 (.take 5 (.take 6 (.take 9 (.take 10 (.take 11 (.take 12 (.take 13 (.all [(7,.all [(8,.all [(14,.all [(15,.take 16 (.take 17 (.all [(18,.take 19 (.take 20 (.all [(21,.done)])))])))])]),(14,.all [(8,.all [(15,.take 16 (.take 17 (.all [(18,.take 19 (.take 20 (.all [(21,.done)])))])))])])]),(14,.all [(7,.all [(8,.all [(15,.take 16 (.take 17 (.all [(18,.take 19 (.take 20 (.all [(21,.done)])))])))])])])]))))))))))))))))))) .o2)))))) (.q .o3 .l))))))))
def Z8.v (a:Sl)(b:R2)(c:Int)(d:Hp)(e:Option Addr->Int->Hp->Prop):Prop:=Y5.c a d λf g=>If (!f) (e none 2 g) (W7.c b g λh i=>JnB (λj k=>JnB (λl m=>JnB (λn o=>If n (e none 1 o) (Wc.c a o λp q=>Zz.c q λr s=>Nw (.map #[] 0) s λt u=>Nw (.cells #[.slice p.a p.len p.cap,.pointer b,.pointer none,.pointer none,.pointer r,.slice none 0 0,.slice none 0 0,.map (some t.block)] 177 (0,0)) u λv w=>Qb.c h w λx y z=>NilP (some v) λaa=>St1 (aa.add 2) (.pointer x) z λab=>QA.c h ab λac ad ae=>NilP (some v) λaf=>St1 (af.add 3) (.pointer ac) ae λag=>XL [(.i .i64)] (λah=>ah 0 ag) λai (aj:Int) ak=>If (aj<((a.len:Nat):Int)) (Ix a.a a.len aj 3 λal=>LdI .i64 (al.add 0) ak λam=>LdI .i64 (al.add 1) ak λan=>LdI .i64 (al.add 2) ak λao=>Nw (.cells #[.I 0,.I 0,.I 0] 31 (0,0)) ak λap aq=>St1 (ap.add 0) (.I am) aq λar=>St1 (ap.add 1) (.I an) ar λau=>St1 (ap.add 2) (.I ao) au λav=>LdI .i64 (ap.add 0) av λaw=>LdI .i64 (ap.add 1) av λax=>LdI .i64 (ap.add 2) av λay=>ZA.c aw ax ay av λaz a0 a1=>LdI .i64 (ap.add 2) a1 λa2=>Zl.c a2 c a1 λa3 a4 a5=>Jn [] (λa6=>Ar .i64 (aj+1) λa7=>ai a7 a6) λa8=>Held a5 λa9=>NilP (some v) λba=>LdH a9 .s (ba.add 5) λ(bb:Sl)=>NilP (some v) λbc=>LdH a9 .s (bc.add 6) λ(bd:Sl)=>(Nw (.cells #[.pointer az] 178 (0,0)) a5 λbe bf=>And (a9 bf) <| (App bb 1 8 178 [.pointer none] ⟨some be,1,1⟩ bf λbg bh=>And (a9 bh) <| Nw (.cells #[.pointer a3] 180 (0,0)) bh λbi bj=>And (a9 bj) <| App bd 1 8 180 [.pointer none] ⟨some bi,1,1⟩ bj λbk bl=>And (a9 bl) <|
 NilP (some v) λbm=>St1 (bm.add 5) (.slice bg.a bg.len bg.cap) bl λbn=>NilP (some v) λbo=>St1 (bo.add 6) (.slice bk.a bk.len bk.cap) bn λbp=>a8 bp) ∧ (Nw (.cells #[.pointer a3] 180 (0,0)) bf λbq br=>And (a9 br) <| App bb 1 8 178 [.pointer none] ⟨some be,1,1⟩ br λbs bt=>And (a9 bt) <| App bd 1 8 180 [.pointer none] ⟨some bq,1,1⟩ bt λbu bv=>And (a9 bv) <| NilP (some v) λbw=>St1 (bw.add 5) (.slice bs.a bs.len bs.cap) bv λbx=>NilP (some v) λbz=>St1 (bz.add 6) (.slice bu.a bu.len bu.cap) bx λb0=>a8 b0)) ∧ (Nw (.cells #[.pointer a3] 180 (0,0)) a5 λb1 b2=>And (a9 b2) <| Nw (.cells #[.pointer az] 178 (0,0)) b2 λb3 b4=>And (a9 b4) <| App bb 1 8 178 [.pointer none] ⟨some b3,1,1⟩ b4 λb5 b6=>And (a9 b6) <| App bd 1 8 180 [.pointer none] ⟨some b1,1,1⟩ b6 λb7 b8=>And (a9 b8) <| NilP (some v) λb9=>St1 (b9.add 5) (.slice b5.a b5.len b5.cap) b8 λca=>NilP (some v) λcb=>St1 (cb.add 6) (.slice b7.a b7.len b7.cap) ca λcc=>a8 cc)) (e (some v) 0 ak))) λcd=>If l (cd true m) (cd (decide (c>8)) m)) λce=>If j (ce true k) (ce (decide (c<0)) k)) λcf=>If (h<32) (cf true i) (Nz 16 <| cf ((h.tmod 16) != 0) i))
theorem Z8.o {a b c d e}(f:Z8.v a b c d e):Z8.c a b c d e:=Wa Tryz.func125 (x:=Z8.h) (R0 f)
def Wy.h:Hn:=.q .o2 (.q (.q .o4 (.q .o2 (.c (.q .o3 .l) .l))) (.q (.o 12) .l))
def Wy.v (a:R2)(b:Int)(c:Hp)(d:Sl->Int->Hp->Prop):Prop:=WM.c a b c λe f=>If (e != 0) (d ⟨none,0,0⟩ e f) (NilP a λg=>LdS (g.add 6) f λh=>Ix h.a h.len b 1 λi=>LdP i f λj=>Wv.c j f λk l m=>d k l m)
theorem Wy.o {a b c d}(e:Wy.v a b c d):Wy.c a b c d:=Wa Tryz.func174 (x:=Wy.h) (R0 e)
def Wz.h:Hn:=.q .o2 (.q (.q .o4 (.q .o2 (.c (.q .o3 .l) .l))) (.q (.o 13) .l))
def Wz.v (a:R2)(b c:Int)(d:Hp)(e:Sl->Int->Hp->Prop):Prop:=WM.c a b d λf g=>If (f != 0) (e ⟨none,0,0⟩ f g) (NilP a λh=>LdS (h.add 5) g λi=>Ix i.a i.len b 1 λj=>LdP j g λk=>W0.c k c g λl m n=>e l m n)
theorem Wz.o {a b c d e}(f:Wz.v a b c d e):Wz.c a b c d e:=Wa Tryz.func176 (x:=Wz.h) (R0 f)
def XM.h:Hn:=.q .o1 (.q (.q .o4 (.q .o2 (.c (.q .o2 .l) .l))) (.q (.o 17) (.q (.q .o2 (.c (.q .o2 .l) .l)) (.q .o10 .l))))
def XM.v (a:R2)(b:Int)(c:Hp)(d:Int->Hp->Prop):Prop:=WM.c a b c λe f=>If (e != 0) (d e f) (NilP a λg=>LdS (g.add 0) f λh=>Ix h.a h.len b 3 λi=>LdI .i64 (i.add 1) f λj=>Ar .i64 (b+1) λk=>Yk.c a j 1 k f λl m n=>If (m != 0) (d m n) (NilP a λo=>LdS (o.add 5) n λp=>Ix p.a p.len b 1 λq=>LdP q n λr=>Ys.c r l n λs t=>d s t))
theorem XM.o {a b c d}(e:XM.v a b c d):XM.c a b c d:=Wa Tryz.func177 (x:=XM.h) (R0 e)
def WH.h:Hn:=.q .o2 (.q (.k (.q .o4 (.c (.q .o2 .l) (.q (.reg (.seq [.op,.op,.op,.grd false 2 [.op,.op],.op,.grd false 2 [.op,.op],.op,.grd false 2 [.op,.op],.op,.grd false 5 (RI.ops 5),.op])) (.c (.q .o2 .l) .l))))) (.q .o9 (.q (.q .o2 (.c (.q .o3 .l) .l)) (.q .o7 (.q .o3 .l)))))
def WH.v (a:R2)(b c:Int)(d:Hp)(e:Int->Int->Hp->Prop):Prop:=WT.c a d λf g=>If (!f) (e 0 5 g) (JnB (λh i=>JnB (λj k=>JnB (λl m=>JnB (λn o=>If n (e 0 1 o) (Yk.c a b c 41 o λp q r=>If (q != 0) (e 0 q r) (NilP a λs=>LdM (s.add 7) r λt=>MSet .i64 (.i .i64) t p b r λu=>e p 0 u))) λv=>If l (v true m) (Ar .i64 (c-1) λw=>v ((bits .and .i64 c w) != 0) m)) λx=>If j (x true k) (x (decide (c>16)) k)) λy=>If h (y true i) (y (decide (c<1)) i)) λz=>If (b<1) (z true g) (z (decide (b>64)) g))
theorem WH.o {a b c d e}(f:WH.v a b c d e):WH.c a b c d e:=Wa Tryz.func179 (x:=WH.h) (R0 f)
def WG.h:Hn:=.q .o1 (.q (.q .o3 (.c (.q .o1 .l) .l)) (.q (.o 11) (.q (.q .o2 (.c (.q .o1 .l) .l)) (.q .o6 (.q .o6 (.q .o1 .l))))))
def WG.v (a:R2)(b:Int)(c:Hp)(d:Int->Hp->Prop):Prop:=WT.c a c λe f=>If (!e) (d 5 f) (NilP a λg=>LdM (g.add 7) f λh=>Lk .i64 (.i .i64) h b f λi=>If (!i.isSome) (d 8 f) (NilP a λj=>LdM (j.add 7) f λk=>MDel .i64 (.i .i64) k b f λl=>Nw (.cells #[.I b,.I (i.getD 0)] 92 (0,0)) l λm n=>XS.c a ⟨some m,1,1⟩ n λo=>d 0 o))
theorem WG.o {a b c d}(e:WG.v a b c d):WG.c a b c d:=Wa Tryz.func187 (x:=WG.h) (R0 e)
def XS.h:Hn:=.q .o3 (.k (.loop [(8,.I)] (.q .o1 (.q (.c .l .l) (.q (.k (.q .o4 (.q (.reg (.tail 8 (RI.ops 8) [.op])) (.q (.reg (.tail 8 (RI.ops 8) [.op])) (.reg (.tail 8 (RI.ops 8) [.op])))))) .o2)))))
def XS.v (a:R2)(b:Sl)(c:Hp)(d:Hp->Prop):Prop:=XL [(.i .i64)] (λe=>e 0 c) λf (g:Int) h=>If (g<((b.len:Nat):Int)) (Ix b.a b.len g 2 λi=>LdI .i64 (i.add 0) h λj=>LdI .i64 (i.add 1) h λk=>Nw (.cells #[.I 0,.I 0] 92 (0,0)) h λl m=>St1 (l.add 0) (.I j) m λn=>St1 (l.add 1) (.I k) n λo=>NilP a λp=>LdP (p.add 4) o λq=>LdI .i64 (l.add 0) o λr=>LdI .i64 (l.add 1) o λs=>Xz.c q r s o λt u=>NilP a λv=>LdP (v.add 3) u λw=>LdI .i64 (l.add 0) u λx=>LdI .i64 (l.add 1) u λy=>Xc.c w x y u λz aa=>NilP a λab=>LdP (ab.add 2) aa λac=>LdI .i64 (l.add 0) aa λad=>LdI .i64 (l.add 1) aa λae=>XN.c ac ad ae aa λaf ag=>Ar .i64 (g+1) λah=>f ah ag) (d h)
theorem XS.o {a b c d}(e:XS.v a b c d):XS.c a b c d:=Wa Tryz.func189 (x:=XS.h) (R0 e)
def WJ.h:Hn:=.q .o1 (.q (.q .o4 (.q .o2 (.c (.q .o2 .l) .l))) (.q (.o 14) (.q (.q .o2 (.c (.q .o2 .l) .l)) (.q .o3 (.q .o1 .l)))))
def WJ.v (a:R2)(b:Int)(c:Sl)(d:Hp)(e:Int->Hp->Prop):Prop:=WM.c a b d λf g=>If (f != 0) (e f g) (NilP a λh=>LdS (h.add 5) g λi=>Ix i.a i.len b 1 λj=>LdP j g λk=>YA.c k c g λl m n=>If (m != 0) (e m n) (XS.c a l n λo=>e 0 o))
theorem WJ.o {a b c d e}(f:WJ.v a b c d e):WJ.c a b c d e:=Wa Tryz.func199 (x:=WJ.h) (R0 f)
def WM.h:Hn:=.q .o1 (.q (.k (.q .o4 (.c (.q .o1 .l) (.q (.reg (.seq [.op,.op,.op,.grd false 7 (RI.ops 7),.op])) (.c (.q .o1 .l) .l))))) (.q .o1 .l))
def WM.v (a:R2)(b:Int)(c:Hp)(d:Int->Hp->Prop):Prop:=WT.c a c λe f=>If (!e) (d 5 f) (JnB (λg h=>If g (d 1 h) (d 0 h)) λi=>If (b<0) (i true f) (NilP a λj=>LdS (j.add 0) f λk=>i (decide (b≥((k.len:Nat):Int))) f))
theorem WM.o {a b c d}(e:WM.v a b c d):WM.c a b c d:=Wa Tryz.func212 (x:=WM.h) (R0 e)
def Yk.h:Hn:=.q .o2 (.q (.o 12) (.sjn [(10,.I),(11,.I)] (.q .o2 (.c (.q .o1 (.q (.k (.loop [(12,.I)] (.q (.q .o5 (.c .l .l)) (.k .o3)))) (.q (.q .o4 (.c (.q .o2 .l) .l)) (.o 12)))) .l)) (.q (.q .o2 (.c (.q .o3 .l) .l)) (.q .o7 (.q .o8 (.q .o3 .l))))))
def Yk.v (a:R2)(b c d:Int)(e:Hp)(f:Int->Int->Hp->Prop):Prop:=NilP a λg=>LdP (g.add 2) e λh=>XA.c h b c e λi j k=>Jn [(.i .i64),(.i .i64)] (λ(l:Int) (m:Int) n=>If (m != 0) (f 0 m n) (NilP a λo=>LdP (o.add 3) n λp=>Xq.c p l b n λq r=>NilP a λs=>LdP (s.add 4) r λt=>XP.c t l b d r λu v=>f l 0 v)) λw=>If (j==6) (XL [(.i .i64)] (λx=>x 16 k) λy (z:Int) aa=>If (z<(if c>b then c else b)) (Ar .i64 (z*2) λab=>y ab aa) (Yx.c a z aa λac ad=>If (!ac) (f 0 6 ad) (NilP a λae=>LdP (ae.add 2) ad λaf=>XA.c af b c ad λag ah ai=>w ag ah ai))) (w i j k)
theorem Yk.o {a b c d e f}(g:Yk.v a b c d e f):Yk.c a b c d e f:=Wa Tryz.func215 (x:=Yk.h) (R0 g)
def WD.h:Hn:=.q .o2 (.q (.q .o4 (.q .o2 (.c (.q .o3 .l) .l))) (.q (.q (.o 11) (.c (.q .o2 .l) .l)) (.q (.q .o3 (.k (.loop [(32,.I)] (.q .o1 (.q (.c .l .l) (.q (.k (.q .o3 (.q (.o 14) (.q (.reg (.seq [.op,.op,.op,.grd false 2 [.op,.op]])) (.c (.q .o2 .l) .l))))) .o2)))))) (.q (.o 13) .l))))
def WD.v (a:R2)(b:Int)(c:Sl)(d:Hp)(e:Bool->Int->Hp->Prop):Prop:=WM.c a b d λf g=>If (f != 0) (e false f g) (NilP a λh=>LdS (h.add 0) g λi=>Ix i.a i.len b 3 λj=>LdI .i64 (j.add 2) g λk=>If (((c.len:Nat):Int) != k) (e false 1 g) (XL [(.i .i64)] (λl=>l 0 g) λm (n:Int) o=>If (n<((c.len:Nat):Int)) (Ix c.a c.len n 1 λp=>LdI .i64 p o λq=>NilP a λr=>LdS (r.add 5) o λs=>Ix s.a s.len b 1 λt=>LdP t o λu=>WU.c u q o λv w x=>JnB (λy z=>If y (e false 8 z) (Ar .i64 (n+1) λaa=>m aa z)) λab=>If (w != 0) (ab true x) (ab (!v) x)) (NilP a λac=>LdS (ac.add 6) o λad=>Ix ad.a ad.len b 1 λae=>LdP ae o λaf=>WX.c af c o λag ah ai=>e ag ah ai)))
theorem WD.o {a b c d e}(f:WD.v a b c d e):WD.c a b c d e:=Wa Tryz.func222 (x:=WD.h) (R0 f)
def Yx.h:Hn:=.q .o1 (.q (.q .o2 (.k (.loop [(5,.I)] (.q (.q .o9 (.c .l .l)) (.q (.k (.q (.q .o8 (.c .l .l)) (.q (.q .o3 (.k (.loop [(6,.I)] (.q (.q .o6 (.c .l .l)) (.q (.k .o6) .o3))))) (.q .o7 (.q .o1 .l))))) .o4))))) (.q .o1 .l))
def Yx.v (a:R2)(b:Int)(c:Hp)(d:Bool->Hp->Prop):Prop:=XL [(.i .i64)] (λe=>e b c) λf (g:Int) h=>Ar .i64 (g+b) λi=>NilP a λj=>LdP (j.add 1) h λk=>W7.c k h λl m=>If (i<=l) (NilP a λn=>LdP (n.add 1) m λo=>YM.c o g b m λp q=>If (p != 0) (Ar .i64 (g+b) λr=>f r q) (Nz 16<|Ar .i64 (g.tdiv 16) λs=>XL [(.i .i64)] (λt=>t s q) λu (v:Int) w=>Ar .i64 (g+b) λx=>Nz 16<|Ar .i64 (x.tdiv 16) λy=>If (v<y) (NilP a λz=>LdP (z.add 3) w λaa=>XR.c aa v w λab ac=>Ar .i64 (v+1) λad=>u ad ac) (NilP a λae=>LdP (ae.add 2) w λaf=>XN.c af g b w λag ah=>d true ah))) (d false m)
theorem Yx.o {a b c d}(e:Yx.v a b c d):Yx.c a b c d:=Wa Tryz.func253 (x:=Yx.h) (R0 e)
end Go.Proofs
namespace Go.Ar
open Go Go.Vc Go.Proofs
open Go.Bu (YT ZU YR cnt)
inductive Lb where
 | hd|tab|free|trk|own|crow|trow|runs
 | cen (k:Nat)
 | tra (k:Nat)
 deriving DecidableEq
structure Lay where
 p:Nat
 hs:Nat
 fr:Nat
 tr:Nat
 op:Nat
 rn:Nat
 tab:Sl
 crow:Sl
 trow:Sl
 cps:List Nat
 tps:List Nat
def hdV (Y:Lay):List Value:=[.slice Y.tab.a Y.tab.len Y.tab.cap,.pointer (some ⟨Y.hs,0,none⟩),.pointer (some ⟨Y.fr,0,none⟩),.pointer (some ⟨Y.tr,0,none⟩),.pointer (some ⟨Y.op,0,none⟩),.slice Y.crow.a Y.crow.len Y.crow.cap,.slice Y.trow.a Y.trow.len Y.trow.cap,.map (some Y.rn)]
def tabV (tb:List Cls):List Value:=tb.flatMap λc=>[.int .i64 (c.size:Int),.int .i64 (c.pages:Int),.int .i64 (c.batch:Int)]
def ptrV (l:List Nat):List Value:=l.map λb=>.pointer (some ⟨b,0,none⟩)
def runI (l:List (Nat×Nat)):List (Int×Int):=l.map λr=>((r.1:Int),(r.2:Int))
def Wcl (p n:Nat)(S:Nat->Bool):Hp->Rg->Prop:=λσ F=>∃sb ms,Go.Bu.BH σ p n S sb ms/\∀b,Go.Bu.fp p sb ms b->F b
def TrkR (p:Nat)(st:List Nat):Hp->Rg->Prop:=λσ F=>∃q,TrH σ p q st/\F p/\F q
def CenR (p:Option Nat)(c:Option Cls)(ss:Option (List SpA)):Hp->Rg->Prop:=λσ F=>match p,c,ss with
 | some p,some c,some ss=>∃ps,CeH σ F p c ps ss
 | _,_,_=>True
def TraR (p:Option Nat)(c:Option Cls)(room:Nat)(t:Option TrA):Hp->Rg->Prop:=λσ F=>match p,c,t with
 | some p,some c,some t=>TfH σ F p c.batch room t
 | _,_,_=>True
def AC (A:AR)(Y:Lay)(T:Nat->Hp->Rg->Prop):Lb->Hp->Rg->Prop
 | .hd=>BlkR Y.p (hdV Y)
 | .tab=>SlR Y.tab 3 (tabV A.tb)
 | .free=>Wcl Y.fr A.n A.S
 | .trk=>TrkR Y.tr A.st
 | .own=>λσ F=>PmH σ F Y.op A.ow
 | .crow=>RowR Y.crow 1 (ptrV Y.cps)
 | .trow=>RowR Y.trow 1 (ptrV Y.tps)
 | .runs=>MapR Y.rn .i64 (.i .i64) (runI A.runs)
 | .cen k=>CenR Y.cps[k]? A.tb[k]? A.cen[k]?
 | .tra k=>T k
def traT (A:AR)(Y:Lay)(k:Nat):Hp->Rg->Prop:=TraR Y.tps[k]? A.tb[k]? A.room A.tra[k]?
theorem Wcl.loc (p n:Nat)(S:Nat->Bool):Lcl (Wcl p n S):=by
 rintro σ σ' F G ⟨sb,ms,h,hf⟩ hz hs;have hlt:∀b,Go.Bu.fp p sb ms b->b<σ.size:=λb hb=>by
  unfold Go.Bu.fp at hb;rcases zX.1 hb with h1|h1
  ·obtain⟨c,hc⟩:=h.hd;rw[h1];exact hc.lt
  rcases zX.1 h1 with h2|h2
  ·obtain⟨c,hc⟩:=h.row;rw[h2];exact hc.lt
  ·obtain⟨k,hk⟩:=zL h2;obtain⟨B,hB,_⟩:=h.maps k b hk;exact hB.lt
 have e:Ext (λb=>¬Go.Bu.fp p sb ms b) σ σ':=⟨hz,λb hb hf'=>(hs b hb (hf b (Classical.not_not.1 hf'))).2⟩;exact⟨sb,ms,h.keep e λb hb hn=>hn hb,λb hb=>(hs b (hlt b hb) (hf b hb)).1⟩
theorem TrkR.loc (p:Nat)(st:List Nat):Lcl (TrkR p st):=by
 rintro σ σ' F G ⟨q,h,hp,hq⟩ hz hs;have e:Ext (λb=>b≠p/\b≠q) σ σ':=⟨hz,λb hb hf=>by
  by_cases h1:b=p
  ·subst h1;exact(hs b hb hp).2
  ·have h2:b=q:=Classical.byContradiction λh2=>hf ⟨h1,h2⟩;subst h2;exact(hs b hb hq).2⟩
 exact⟨q,h.keep e (λhx=>hx.1 rfl) (λhx=>hx.2 rfl),(hs p h.lt.1 hp).1,(hs q h.lt.2 hq).1⟩
theorem CenR.loc (p:Option Nat)(c:Option Cls)(ss:Option (List SpA)):Lcl (CenR p c ss):=by
 rintro σ σ' F G h hz hs;unfold CenR at *;split
 ·simp only at h;obtain⟨ps,h⟩:=h;exact⟨ps,CeH.loc _ _ _ _ h hz hs⟩
 ·trivial
theorem TraR.loc (p:Option Nat)(c:Option Cls)(room:Nat)(t:Option TrA):Lcl (TraR p c room t):=by
 rintro σ σ' F G h hz hs;unfold TraR at *;split
 ·exact TfH.loc _ _ _ _ h hz hs
 ·trivial
theorem AC.loc {A:AR}{Y:Lay}{T:Nat->Hp->Rg->Prop}(hT:∀k,Lcl (T k)):∀i,Lcl (AC A Y T i)
 | .hd=>BlkR.loc _ _
 | .tab=>SlR.loc _ _ _
 | .free=>Wcl.loc _ _ _
 | .trk=>TrkR.loc _ _
 | .own=>PmH.loc
 | .crow=>RowR.loc _ _ _
 | .trow=>RowR.loc _ _ _
 | .runs=>MapR.loc _ _ _ _
 | .cen k=>CenR.loc _ _ _
 | .tra k=>hT k
theorem traT.loc {A:AR}{Y:Lay}(k:Nat):Lcl (traT A Y k):=TraR.loc _ _ _ _
structure LayOk (A:AR) (Y:Lay):Prop where
 c:Y.cps.length=A.tb.length
 t:Y.tps.length=A.tb.length
 cen:A.cen.length=A.tb.length
 tra:A.tra.length=A.tb.length
 tb1:1<=A.tb.length
 tb2:A.tb.length<=40
 n1:32<=A.n
 n2:A.n<=1024
 n3:A.n%16=0
 st:A.st.length=A.n
 room:A.room<=8
 ok:∀c∈A.tb,c.ok
structure AHY (σ:Hp) (F:Rg) (Y:Lay) (A:AR) (T:Nat->Hp->Rg->Prop):Prop where
 lay:LayOk A Y
 tl:∀k,Lcl (T k)
 sep:Sep (AC A Y T) σ F
def AH (σ:Hp)(F:Rg)(p hs:Nat)(A:AR):Prop:=∃Y:Lay,Y.p=p/\Y.hs=hs/\AHY σ F Y A (traT A Y)
variable {σ:Hp}{F:Rg}{p hs:Nat}{A:AR}{Y:Lay}{T:Nat->Hp->Rg->Prop}
theorem AHY.loc:Lcl λσ F=>AHY σ F Y A T:=λσ σ' F G h hz hs=>⟨h.lay,h.tl,Sep.loc (AC.loc h.tl) _ _ _ _ h.sep hz hs⟩
theorem AH.loc:Lcl λσ F=>AH σ F p hs A:=λσ σ' F G ⟨Y,h1,h2,h⟩ hz hs=>⟨Y,h1,h2,AHY.loc _ _ _ _ h hz hs⟩
theorem AHY.keep0 {σ':Hp}(h:AHY σ F Y A T)(e:Ext0 σ σ'):AHY σ' F Y A T:=Lcl.keep0 AHY.loc h e
theorem AH.keep0 {σ':Hp}(h:AH σ F p hs A)(e:Ext0 σ σ'):AH σ' F p hs A:=Lcl.keep0 AH.loc h e
theorem AHY.hd (h:AHY σ F Y A T):Blk σ Y.p (hdV Y):=by
 obtain⟨G,hG,hp,hb⟩:=h.sep.get .hd;exact hb
theorem QE (tb:List Cls):(tabV tb).length=tb.length*3:=by
 induction tb with
 | nil=>rfl
 | cons x l ih=>simp only[tabV,zBN,zJ,zU,zAH]at *;omega
theorem VX {tb:List Cls}{i:Nat}{c:Cls}(h:tb[i]?=some c):(tabV tb)[3*i]?=some (.int .i64 (c.size:Int))/\(tabV tb)[3*i+1]?=some (.int .i64 (c.pages:Int))/\(tabV tb)[3*i+2]?=some (.int .i64 (c.batch:Int)):=by
 induction tb generalizing i with
 | nil=>simp at h
 | cons x l ih=>
  have e:tabV (x::l)=[.int .i64 (x.size:Int),.int .i64 (x.pages:Int),.int .i64 (x.batch:Int)]++tabV l:=by simp[tabV]
  rw[e];cases i with
  | zero=>simp at h;subst h;simp
  | succ i=>
   have:=ih (i:=i) (by simpa using h);rw[show 3*(i+1)=3*i+3 by omega];simpa using this
theorem AHY.tabL (h:AHY σ F Y A T):Y.tab.len=A.tb.length:=by
 obtain⟨G,hG,hb⟩:=h.sep.get .tab;have:=hb.1;rw[QE]at this;omega
theorem HC {s:Sl}{tb:List Cls}(h:SlR s 3 (tabV tb) σ F){k d:Nat}{c:Cls}(hc:tb[k]?=some c)(hd:d<3){K:Int->Prop}(hK:K (if d=0 then c.size else if d=1 then c.pages else c.batch:Nat)) :
 Ix s.a s.len (k:Int) 3 λa=>LdI .i64 (a.add d) σ K:=by
 have hg:=VX hc;have hv:(tabV tb)[3*k+d]?=some (.int .i64 ((if d=0 then c.size else if d=1 then c.pages else c.batch:Nat):Int)):=by
  match d,hd with
  | 0,_=>exact hg.1
  | 1,_=>exact hg.2.1
  | 2,_=>exact hg.2.2
 have hk:=(gSi.1 hc).1;obtain⟨b,o,ha,hcell⟩:=h.cell hv;have hl:=h.1;rw[QE]at hl;rw[ha];refine ix (by omega) (by omega) ?_;rw[add_lit,add_lit];refine ldI ?_ hK;rw[show o+(k:Int).toNat*3+d=o+(3*k+d) by omega];exact hcell
theorem AHY.tabR (h:AHY σ F Y A T){k d:Nat}{c:Cls}(hc:A.tb[k]?=some c)(hd:d<3){K:Int->Prop}(hK:K (if d=0 then c.size else if d=1 then c.pages else c.batch:Nat)) :
 Ix Y.tab.a Y.tab.len (k:Int) 3 λa=>LdI .i64 (a.add d) σ K:=by
 obtain⟨G,hG,hb⟩:=h.sep.get .tab;exact HC hb hc hd hK
theorem WfY {s:Sl}{l:List Nat}(h:SlR s 1 (ptrV l) σ F){k q:Nat}(hq:l[k]?=some q){K:Option Addr->Prop}(hK:K (some ⟨q,0,none⟩)):Ix s.a s.len (k:Int) 1 λa=>LdP a σ K:=by
 have hk:=(gSi.1 hq).1;obtain⟨b,o,ha,hcell⟩:=h.cell (j:=k) (v:=.pointer (some ⟨q,0,none⟩)) (by simp[ptrV,hq]);have hl:=h.1;simp[ptrV]at hl;rw[ha];refine ix (by omega) (by omega) ?_;rw[add_lit];exact ldP (by rw[show o+(k:Int).toNat*1=o+k by omega];exact hcell) hK
theorem AHY.crowR (h:AHY σ F Y A T){k q:Nat}(hq:Y.cps[k]?=some q){K:Option Addr->Prop}(hK:K (some ⟨q,0,none⟩)):Ix Y.crow.a Y.crow.len (k:Int) 1 λa=>LdP a σ K:=by
 obtain⟨G,hG,hb⟩:=h.sep.get .crow;exact WfY (RowR.slR hb) hq hK
theorem AHY.trowR (h:AHY σ F Y A T){k q:Nat}(hq:Y.tps[k]?=some q){K:Option Addr->Prop}(hK:K (some ⟨q,0,none⟩)):Ix Y.trow.a Y.trow.len (k:Int) 1 λa=>LdP a σ K:=by
 obtain⟨G,hG,hb⟩:=h.sep.get .trow;exact WfY (RowR.slR hb) hq hK
theorem AHY.at_ (h:AHY σ F Y A T){k:Nat}(hk:k<A.tb.length):∃c ss q t r,A.tb[k]?=some c/\A.cen[k]?=some ss/\Y.cps[k]?=some q/\A.tra[k]?=some t/\Y.tps[k]?=some r/\c.ok:=by
 have h1:=h.lay.c;have h2:=h.lay.t;have h3:=h.lay.cen;have h4:=h.lay.tra;exact⟨A.tb[k],A.cen[k],Y.cps[k],A.tra[k],Y.tps[k],by simp,by simp,by simp,by simp,by simp,h.lay.ok _ (zj hk)⟩
theorem Wlj {k q:Nat}{c:Cls}{ss:List SpA}{G:Rg}(h1:Y.cps[k]?=some q)(h2:A.tb[k]?=some c)(h3:A.cen[k]?=some ss)(h:AC A Y T (.cen k) σ G):∃ps,CeH σ G q c ps ss:=by
 simp only[AC]at h;rw[h1,h2,h3]at h;exact h
theorem AHY.cen (h:AHY σ F Y A T){k q:Nat}{c:Cls}{ss:List SpA}(h1:Y.cps[k]?=some q)(h2:A.tb[k]?=some c)(h3:A.cen[k]?=some ss):∃G ps,(∀b,G b->F b)/\CeH σ G q c ps ss:=by
 obtain⟨G,hG,hb⟩:=h.sep.get (.cen k);obtain⟨ps,hc⟩:=Wlj h1 h2 h3 hb;exact⟨G,ps,hG,hc⟩
theorem Vs (h:AHY σ F Y A T){R:Bool->Hp->Prop}(hR:R true σ):WT.c (some ⟨Y.p,0,none⟩) σ R:=by
 refine WT.o ?_;unfold WT.v;exact JnB.intro (ifT rfl (nilP (h.hd.rP rfl hR)))
theorem Vd (h:AHY σ F Y A T)(k:Int){R:Int->Hp->Prop}(h1:A.ck k=false->R 1 σ)(h0:∀x:Nat,k=x->x<A.tb.length->R 0 σ):WM.c (some ⟨Y.p,0,none⟩) k σ R:=by
 refine WM.o ?_;unfold WM.v;have hl:=h.tabL;have bad:¬(0<=k/\k<A.tb.length)->R 1 σ:=λhn=>h1 (by unfold AR.ck;rw[←zDN];exact zT hn);refine Vs h (ifF rfl (JnB.intro (ifD (λc1=>ifT rfl (bad (by omega))) λc1=>nilP (h.hd.rS rfl (ifD (λc2=>?_) λc2=>?_)))))
 ·simp only at c2;exact bad (by omega)
 ·simp only at c2;exact h0 k.toNat (by omega) (by omega)
theorem Wj4 (h:AHY σ F Y A T)(x:Int){R:Bool->Hp->Prop}(hR:R (VB A x) σ):Yz.c (some ⟨Y.p,0,none⟩) x σ R:=by
 refine Yz.o ?_;unfold Yz.v;obtain⟨G,hG,q,hT,_⟩:=h.sep.get .trk;refine Vs h (JnB.intro (ifT rfl (nilP (h.hd.rP rfl (WgA hT x ?_)))));have:decide (stI A.st x>0)=VB A x:=by
  unfold stI VB;by_cases hx:0<=x
  ·by_cases hl:x<A.st.length
   ·rw[zB ⟨hx,hl⟩,zQ hx,zDS,decide_eq_decide];omega
   ·rw[zA (by omega),zQ hx,zDS,zO,zV (by omega)];rfl
  ·rw[zA (by omega),zT hx];rfl
 rw[this];exact hR
structure RunsOk (A:AR):Prop where
 dis:∀r∈A.runs,∀s∈A.runs,∀x,r.1<=x->x<r.1+r.2->s.1<=x->x<s.1+s.2->r=s
 big:∀x,x<1024->A.ow x=41->(WbY A x).isSome=true
 cls:∀x,x<1024->A.ow x≠0->A.ow x≠41->A.ow x<=A.tb.length
 fit:∀r∈A.runs,r.1+r.2<=1024
theorem Wam (h:RunsOk A){x:Nat}{r:Nat×Nat}(hr:r∈A.runs)(h1:r.1<=x)(h2:x<r.1+r.2):WbY A x=some r:=by
 cases hf:WbY A x with
 | none=>
  unfold WbY at hf;rw[zBI]at hf;have:=hf r hr;simp[h1,h2]at this
 | some s=>
  unfold WbY at hf;have hs:=zCW hf;have hp:=zCV hf;simp at hp;rw[h.dis r hr s hs x h1 h2 hp.1 hp.2]
theorem WjY (h:AHY σ F Y A T)(hr:RunsOk A)(x:Int)(hx:I63 x){R:Int->Int->Int->Hp->Prop}(h1:∀σ' k a,Ext0 σ σ'->VQ A x=some (k,a)->R k (a:Int) 0 σ')(h0:∀σ',Ext0 σ σ'->VQ A x=none->R 0 0 8 σ') :
 Yw.c (some ⟨Y.p,0,none⟩) x σ R:=by
 refine Yw.o ?_;unfold Yw.v;refine Vs h (ifF rfl (ifD (λc1=>h0 σ (Ext.refl _ _) (by unfold VQ;rw[zB c1])) λc1=>nilP (h.hd.rP rfl (nz (by decide) ?_))));obtain⟨y,rfl⟩:=zi (show 0<=x by omega);have hy:y<=9223372036854775807:=by unfold I63 at hx;omega
 have tp:((y:Int).tdiv 256)=((y/256:Nat):Int):=by rw[YQ (by omega)];simp
 refine ar (by rw[tp];omega) (by rw[tp];omega) ?_;rw[tp];obtain⟨G,hG,hP⟩:=h.sep.get .own;refine WkG hP _ ?_;have eo:owI A.ow ((y/256:Nat):Int)=if y/256<1024 then A.ow (y/256)else 0:=by
  unfold owI;by_cases hl:y/256<1024
  ·rw[zB (by omega),zB hl];rfl
  ·rw[zA (by omega),zA hl]
 have ef:VQ A (y:Int)=(let no:=if y/256<1024 then A.ow (y/256)else 0
  if no=0 then none else if no=41 then(WbY A (y/256)).map λr=>(-1,r.1*256)else
  match A.tb[no-1]?,A.cen[no-1]? with
  | some c,some ss=>(Wap c ss (y:Int)).map λa=>(((no-1:Nat):Int),a)
  | _,_=>none):=by
  unfold VQ;rw[zA c1];rfl
 rw[eo];generalize hno:(if y/256<1024 then A.ow (y/256)else 0)=no at *
 simp only at ef;rw[WfM];refine iff_ (λe0=>h0 σ (Ext.refl _ _) (by rw[ef,zB (by simpa using e0)])) λe0=>?_;have hne:no≠0:=by simpa using e0
 rw[zA hne]at ef;have hlt:y/256<1024:=by
  rcases zAB (y/256) 1024 with h|h
  ·exact h
  ·rw[zA (by omega)]at hno;exact absurd hno.symm hne
 rw[zB hlt]at hno;refine Jn.intro ?_;have e41:(((no:Nat):Int)==41)=(no==41):=beqN no 41;rw[e41];refine iff_ (λc2=>?_) λc2=>?_
 ·have h41:no=41:=by simpa using c2
  subst h41;rw[zB rfl]at ef;obtain⟨r,hrr⟩:=zBP.1 (hr.big _ hlt hno);have hrm:=zCW hrr;have hrp:=zCV hrr;simp at hrp;obtain⟨G,hG,hRm⟩:=h.sep.get .runs;refine nilP (h.hd.rM rfl ?_);refine rng0 hRm.2 (λtodo v=>Ext0 σ v/\(∀z∈todo,z∈runI A.runs)/\((r.1:Int),(r.2:Int))∈todo) (λv hz e=>⟨e,λz hz=>hz,zC.2 ⟨r,hrm,rfl⟩⟩) (λv hv=>absurd hv.2.2 (by simp)) ?_;rintro todo n z v v' J ⟨e,hsub,hmem⟩ hm ho hlt2 hJ;have e':Ext0 σ v':=Ext.fresh e ho.ext λi hi=>by omega
  obtain⟨s,hs,hse⟩:=zC.1 (hsub _ hm);cases hse;have hfit:=hr.fit s hs;refine nz (by decide) (ar (by omega) (by omega) ?_);refine JnB.intro (ifD (λc3=>ar (by omega) (by omega) (ifD (λc4=>?_) λc4=>?_)) λc3=>ifF rfl ?_)
  ·have hsr:=Wam hr hs (x:=y/256) (by omega) (by omega);refine ar (by omega) (by omega) ?_;have:=h1 v' (-1) (s.1*256) e' (by rw[ef,hsr];rfl);simpa using this
  ·refine hJ v' rfl rfl ⟨e',λu hu=>hsub u (zH.1 hu).1,zH.2 ⟨hmem,?_⟩⟩;have:¬(r.1:Int)=(s.1:Int):=λe=>by
    have:=Wam hr hrm hrp.1 hrp.2;have e1:r.1=s.1:=by omega
    by_cases h2:r.2=0
    ·omega
    by_cases h3:s.2=0
    ·have:=hRm.2.nodup;have hkk:=KM this (zC.2 ⟨r,hrm,rfl⟩);have hkk2:=KM this (zC.2 ⟨s,hs,rfl⟩);rw[e1,hkk2]at hkk;have:s.2=r.2:=by
      have:(s.2:Int)=(r.2:Int):=Option.some.inj hkk;omega
     omega
    ·have:=hr.dis r hrm s hs r.1 (by omega) (by omega) (by omega) (by omega);subst this;omega
   simpa using this
  ·refine hJ v' rfl rfl ⟨e',λu hu=>hsub u (zH.1 hu).1,zH.2 ⟨hmem,?_⟩⟩;have:¬(r.1:Int)=(s.1:Int):=λe=>by omega
   simpa using this
 ·have h41:no≠41:=by simpa using c2
  rw[zA h41]at ef;have hcl:=hr.cls _ hlt (by rw[hno];exact hne) (by rw[hno];exact h41);rw[hno]at hcl;obtain⟨c,ss,q,t,r,hc,hss,hq,_,_,hok⟩:=h.at_ (k:=no-1) (by omega);obtain⟨G,ps,hG,hC⟩:=h.cen hq hc hss;rw[hc,hss]at ef;simp only at ef;refine nilP (h.hd.rS rfl (arN (m:=no-1) (by omega) (by have:=h.lay.tb2;omega) (h.crowR hq (Whk hC _ hx (λa ha=>?_) λha=>?_))))
  ·refine ifF rfl (arN (m:=no-1) (by omega) (by have:=h.lay.tb2;omega) (h1 σ _ a (Ext.refl _ _) ?_));rw[ef,ha];rfl
  ·refine ifT rfl (h0 σ (Ext.refl _ _) ?_);rw[ef,ha];rfl
end Go.Ar