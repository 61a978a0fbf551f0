/- Texts joined. -/
import Derived.Test.YtoeidadjhkkioaaGreatDoorA3
set_option linter.unusedVariables false
set_option linter.unusedSimpArgs false
namespace Go.Vc
open Go
def yh (h:Hp)(it r:Nat):Nat:=
 match h[it]?,h[r]? with
 | some (.mapIter _ _ seen _),some (.map es _)=>(es.toList.filter λe=>!seen.contains e.born).length
 | _,_=>0
variable {U:Hp}{k:IntKind}{c:CK}{l todo:List (Int×c.T)}{cur:Option (Int×c.T)}{r it:Nat}
theorem It.num {h:Hp}(hi:It h it k c (some r) l todo cur):yh h it r=todo.length:=by
 obtain⟨s,i,a,d,b,j,m,w,p,g,u⟩:=hi;unfold yh;rw[d,b];have:=congrArg List.length g;simpa using this
theorem It.bS {h h':Hp}(hi:It h it k c (some r) l todo cur)(h1:h'[it]?=h[it]?)(h2:h'[r]?=h[r]?):It h' it k c (some r) l todo cur:=by
 obtain⟨j,d,b,i,g,a⟩:=hi;exact⟨j,d,b,h1.trans i,h2.trans g,a⟩
theorem CR {A:aP}{body:Int->c.T->Hp->(Hp->Prop)->Prop}(hm:dJ U r k c l)(I:List (Int×c.T)->Hp->Prop)
 (h0:∀v,v.size=U.size+1->aF U v->I l v)
 (hend:∀v,I [] v->A v)
 (hstep:∀todo n x v v' (J:aP),I todo v->(n,x)∈todo->Ka v v' U.size->U.size<v.size->(∀w,w[U.size]?=v'[U.size]?->w[r]?=v'[r]?->I (todo.filter λy=>!(y.1==n)) w->J w)->body n x v' J) :
 pz k c (some r) U λit v3=>X6 [] (λI=>I v3) λJ1 v4=>oT k c it v4 (A v4) λ_ _ v5=>oY k c it v5 λkey1 val1=>body key1 val1 v5 J1:=by
 refine⟨l,hm,λv K L hi=>?_⟩;have M:aF U v:=⟨O,λb p _=>L b p⟩;refine II (λw=>∃todo d,It w U.size k c (some r) l todo d/\I todo w/\U.size<w.size) (λw=>yh w U.size r) ⟨l,none,hi,h0 v K M,O⟩ ?_;rintro w ⟨todo,d,g,B,z⟩;refine⟨rfl,some r,l,todo,d,g,λG=>?_,λn x D N E i=>?_⟩
 ·subst G;exact hend w B
 ·refine⟨rfl,some r,l,_,n,x,i,hstep todo n x w N _ B D E z λu j m s=>?_⟩;have a:=i.bS j m;refine⟨⟨_,_,a,s,?_⟩,?_⟩
  ·obtain⟨P,H,C,F,_⟩:=a;exact(jS.1 F).1
  ·rw[a.num,g.num];exact Cb.2 ⟨(n,x),D,by simp⟩
theorem xJ {a:CK}{x0:a.T}{A:a.T->Hp->Prop}{body:Int->c.T->a.T->Hp->(a.T->Hp->Prop)->Prop}(hm:dJ U r k c l)(I:List (Int×c.T)->a.T->Hp->Prop)
 (h0:∀v,v.size=U.size+1->aF U v->I l x0 v)
 (hend:∀z v,I [] z v->A z v)
 (hstep:∀todo n x z v v' (J:a.T->Hp->Prop),I todo z v->(n,x)∈todo->Ka v v' U.size->U.size<v.size->(∀z' w,w[U.size]?=v'[U.size]?->w[r]?=v'[r]?->I (todo.filter λy=>!(y.1==n)) z' w->J z' w)->body n x z v' J) :
 pz k c (some r) U λit v3=>X6 [a] (λI=>I x0 v3) λJ1 z v4=>oT k c it v4 (A z v4) λ_ _ v5=>oY k c it v5 λkey1 val1=>body key1 val1 z v5 J1:=by
 refine⟨l,hm,λv M N hi=>?_⟩;have P:aF U v:=⟨O,λb s _=>N b s⟩;refine Qv (a:=a) (λz w=>∃todo g,It w U.size k c (some r) l todo g/\I todo z w/\U.size<w.size) (λ_ w=>yh w U.size r) ⟨l,none,hi,h0 v M P,O⟩ ?_;rintro z w ⟨todo,g,i,D,C⟩;refine⟨rfl,some r,l,todo,g,i,λK=>?_,λn x F Q G j=>?_⟩
 ·subst K;exact hend z w D
 ·refine⟨rfl,some r,l,_,n,x,j,hstep todo n x z w Q _ D F G C λz' u m p B=>?_⟩;have d:=j.bS m p;refine⟨⟨_,_,d,B,?_⟩,?_⟩
  ·obtain⟨R,L,E,H,_⟩:=d;exact(jS.1 H).1
  ·rw[d.num,i.num];exact Cb.2 ⟨(n,x),F,by simp⟩
end Go.Vc
namespace Go.Ar
open Go Go.Vc Go.Proofs
open Go.Bu (Zz)
variable {U:Hp}{F:Rg}{p q r:Nat}{sp:Sp}{l:List (Int×Sl)}{B:Nat->Nat}
theorem ZA {α:Type}{l:List (Int×α)}(hn:(l.map (·.1)).Nodup){n:Int}{x:α}(h:(n,x)∈l):bU l n=some x:=by
 induction l with
 | nil=>simp at h
 | cons y l ih=>
  rw[KZ];simp only[zR,zr]at hn;rcases zW.1 h with h1|h1
  ·subst h1;rw[zC rfl]
  ·have:¬y.1=n:=λe=>hn.1 (zD.2 ⟨_,h1,e.symm⟩);rw[zB this];exact ih hn.2 h1
end Go.Ar
namespace Go.Bu
open Go Go.Vc Go.Proofs
variable {U:Hp}{p n sb:Nat}{S:Nat->Bool}{ms:List Nat}
def kJ (ms:List Nat):List Value:=ms.map λm=>Value.map (some m)
structure Part (B:Nat) (h:Hp) (p n:Nat) (j:Nat) (s:Sl) (ms:List Nat):Prop where
 len:ms.length=j
 sl:s.len=j
 hd:bZ h p [.int .i64 n,.slice s.a s.len s.cap]
 own:Go.Vc.Own (λb=>B<=b/\b≠p/\b∉ms) h s 1 (kJ ms)
 new:∀m∈ms,B<=m/\m≠p/\m<h.size
 nd:ms.Nodup
theorem Part.done {B:Nat}{h:Hp}{j:Nat}{s:Sl}(hp:Part B h p n j s ms)(hB:B<=p)(hj:0<j)(n1:1<=n)(n2:n<=1024)(lo:2^j<=2*n)(hi:n<2^j)(jC:Bounded S n)
 (maps:∀k m,ms[k]?=some m->∃B:List (Int×Bool),dJ h m .i64 .b B/\Keys S k B):∃sb,BH h p n S sb ms/\∀b,fp p sb ms b->B<=b:=by
 rcases hp.own.2 with⟨_,hl,_⟩|⟨sb,cs,⟨hq,hqp,hqm⟩,ha,hb,hle,hcl,ht⟩
 ·have:=hp.sl;omega
 ·refine⟨sb,⟨?_,?_,maps,?_,n1,n2,?_,?_,jC⟩,?_⟩
  ·refine⟨s.cap,?_⟩;have:=hp.hd;rw[ha,hp.sl,←hp.len]at this;exact this
  ·refine⟨cs.drop (kJ ms).length,?_⟩;have:kJ ms++cs.drop (kJ ms).length=cs:=by
    conv=>lhs;lhs;rw[←ht]
    exact oJ _ _
   show bZ h sb (kJ ms++_);rw[this];exact hb
  ·simp only[zr,zW,not_or];exact⟨⟨λe=>hqp e.symm,λa=>(hp.new p a).2.1 rfl⟩,hqm,hp.nd⟩
  ·rw[hp.len];exact lo
  ·rw[hp.len];exact hi
  ·intro b hb;simp only[fp,zW]at hb;rcases hb with rfl|rfl|h
   ·exact hB
   ·exact hq
   ·exact(hp.new b h).1
theorem Part.Mz {B:Nat}{h:Hp}{j:Nat}{s:Sl}(hp:Part B h p n j s ms):cell h ⟨p,1,none⟩=some (.slice s.a s.len s.cap):=by rw[hp.hd.cell];rfl
theorem Part.bP {B:Nat}{h h':Hp}{j:Nat}{s:Sl}(hp:Part B h p n j s ms)(e:aF h h'):Part B h' p n j s ms:=
 ⟨hp.len,hp.sl,e.bV hp.hd id,hp.own.bP e,λm a=>⟨(hp.new m a).1,(hp.new m a).2.1,u9 (hp.new m a).2.2 e.1⟩,hp.nd⟩
theorem Part.step {B:Nat}{h:Hp}{j m e t bytes:Nat}{s:Sl}{zs:List Value}{K:Sl->Hp->Prop}(hp:Part B h p n j s ms)(hj:j<=1000)(hbt:bytes<=1000)(hz:zs.length=1)(hm:B<=m)(hmp:m≠p)(hml:m<h.size)(hmn:m∉ms)(hms:¬H9 s m)
 (hpB:p<h.size) (hBh:B<=h.size)
 (hgo:∀s' h',Ext (H9 s) h h'->s'.len=j+1->bZ h' p [.int .i64 n,.slice s.a s.len s.cap] →
  (∀h2,Ka h' h2 p->bZ h2 p [.int .i64 n,.slice s'.a s'.len s'.cap]->Part B h2 p n (j+1) s' (ms++[m]))->K s' h') :
 App s 1 bytes e zs ⟨some ⟨h.size,0,none⟩,1,1⟩ (h.push (.cells #[.map (some m)] t (0,0))) K:=by
 have M:=hp.sl;have y:Go.Vc.Own (λb=>B<=b/\b≠p/\b∉ms++[m]) (h.push (.cells #[.map (some m)] t (0,0))) s 1 (kJ ms):=by
  have g:=hp.own;have h2:Go.Vc.Own (λb=>B<=b/\b≠p/\b∉ms++[m]) h s 1 (kJ ms):=by
   refine⟨g.1,g.2.imp id ?_⟩;rintro⟨b,cs,⟨q1,q2,q3⟩,ha,r⟩;refine⟨b,cs,⟨q1,q2,?_⟩,ha,r⟩;simp only[zK,zN,not_or];exact⟨q3,λe=>hms ⟨0,by rw[ha,e]⟩⟩
  exact h2.bP (HU _ _)
 have z:(h.push (.cells #[.map (some m)] t (0,0))).size=h.size+1:=by simp
 refine y.app (ys:=[.map (some m)]) ?_ hz rfl MD (by simp[dS]) ?_ ?_ nm λs' h' A J L E=>?_
 ·intro b i;rw[z]at i;refine⟨O,O,?_⟩;simp only[zK,zN,not_or];exact⟨λw=>by have:=(hp.new b w).2.2;omega,O⟩
 ·simp only;have:(s.len+1)*bytes<=1001*1000:=mD O hbt;omega
 ·simp only;omega
 ·simp only at A;have d:Ext (H9 s) h h':=(HU h _).to.trans J;have C:¬H9 s p:=λi=>(hp.own.jv i).1.2.1 rfl;refine hgo s' h' d O (d.bV hp.hd C) λh2 u D=>⟨by simp[hp.len],O,D,?_,?_,?_⟩
  ·have:kJ (ms++[m])=kJ ms++[.map (some m)]:=by simp[kJ]
   rw[this];exact L.bS (Ext.eU (F:=(· = p)) u rfl) (λb H _ N=>H.2.1 N)
  ·intro x hx;have G:h2.size=h'.size:=u.1;have:=d.1;rcases zK.1 hx with g|g
   ·have:=hp.new x g;exact⟨this.1,this.2.1,O⟩
   ·simp at g;subst g;exact⟨hm,hmp,O⟩
  ·rw[nB];refine⟨hp.nd,by simp,?_⟩;intro a ha b i;simp at i;subst i;rintro rfl;exact hmn ha
def iB:Nat->Bool:=λ_=>false
theorem NI (k:Nat):Keys iB k []:=by
 refine⟨by simp,λq a=>?_⟩;have:=Uu a (Vp k q);simp[iB]at this
theorem uP (aG:Int){R:Option Addr->Int->Hp->Prop}(hbad:¬(1<=aG/\aG<=1024)->R none 1 U)
 (hR:∀(n:Nat),aG=(n:Int)->1<=n->n<=1024->∀σ' sb ms,aF U σ'->BH σ' U.size n iB sb ms->(∀b,fp U.size sb ms b->U.size<=b)->R (some ⟨U.size,0,none⟩) 0 σ'):KA.c aG U R:=by
 refine KA.o ?_;unfold KA.v;refine bX.intro (cN (λg=>cF rfl (hbad O)) λg=>?_);refine cN (λh2=>hbad O) λh2=>?_;obtain⟨n,rfl⟩:=zc (show 0<=aG by omega);have M:1<=n:=by omega
 have L:n<=1024:=by omega
 unfold Nw;have e0:=HU U (.cells #[.int .i64 (n:Int),.slice none 0 0] 52 (0,0));refine Qv (a:=bO) (λt h=>∃(j:Nat) (s:Sl) (ms:List Nat),t=((2^j:Nat):Int)/\2^j<=2*n/\aF U h/\U.size<h.size/\Part U.size h U.size n j s ms/\∀m∈ms,dJ h m .i64 .b []) (λt _=>2*n+1-t.toNat)
  ⟨0,⟨none,0,0⟩,[],rfl,by simp;omega,Ext.push _ _ _,by simp,⟨rfl,rfl,bZ.push _ _ _,Own.nil _ _ _,by simp,by simp⟩,by simp⟩ ?_
 rintro t h ⟨j,s,ms,rfl,J,K,N,d,w⟩;have hj:j<=11:=by
  apply Classical.byContradiction;intro hc;have:2^12<=2^j:=pj aB O;omega
 have Z:=k8 j;refine cN (λP=>?_) (λH=>?_)
 ·refine bL ?_;rw[add_lit,zH];refine oA d.Mz ?_;have e1:=HU h (.map #[] 0);have Q:(h.push (.map #[] 0)).size=h.size+1:=by simp
  have D:=d.bP e1;refine D.step (m:=h.size) O O rfl O O O (λy=>by have:=(d.new _ y).2.2;omega) (λp=>by have:=(d.own.jv p).2;omega) O O λX h' E hl p r=>?_;refine bL (p.RV aA λh2 z G=>?_);have C:=r h2 z G;have B:aF U h2:=by
   refine Ext.fresh (Ext.fresh (K.trans e1) E λi hi=>(d.own.jv hi).1.1) (Ext.eU (F:=(· = U.size)) z rfl) λi hi=>?_;rw[hi];exact zE _
  refine cT (m:=2^(j+1)) (by rw[mG];omega) (by rw[mG];omega) ⟨⟨j+1,X,ms++[h.size],rfl,by rw[mG];omega,B,?_,C,?_⟩,by rw[mG];omega⟩
  ·have:=z.1;have:=E.1;omega
  ·intro m y;have pV:∀{m:Nat},dJ (h.push (.map #[] 0)) m .i64 .b []->¬H9 s m->m≠U.size->dJ h2 m .i64 .b []:=λhM V A=>H6 z (E.fV hM V) A;rcases zK.1 y with g|g
   ·exact pV (e1.fV (w m g) id) (λp=>(d.own.jv p).1.2.2 g) (d.new m g).2.1
   ·simp at g;subst g;exact pV (dJ.push _ _ _) (λp=>by have:=(d.own.jv p).2;omega) O
 ·have u:0<j:=by
   rcases DV j with e|e
   ·subst e;simp at H;omega
   ·exact e
  obtain⟨sb,hB,Y⟩:=d.done (S:=iB) (zE _) u M L J O (λx W=>by simp[iB]at W) λk m y=>⟨[],w m (zG y),NI k⟩;exact hR n rfl M L h sb ms K hB Y
end Go.Bu
namespace Go.Proofs
open Go.Vc
set_option maxRecDepth 100000
def Xt.h:Hn:=.q .o1 (.q (.cU (.seq [.op,.op,.op,.cY true 5 (RI.ops 5),.op])) .l)
def Xt.v (a:R2)(b:Hp)(c:aO):Prop:=bX (λd e=>c d e) λf=>If (!a.isNone) (bG a 1 b λh=>f (!h.isNone) b) (f false b)
theorem Xt.o {a b c}(d:Xt.v a b c):Xt.c a b c:=Wa Tryz.func133 (x:=Xt.h) (R0 d)
def Ky.h:Hn:=.q .o2 (.q (.q .o3 .aJ) (.q .o3 (.q (.q (.cU (.seq [.op,.op,.op,.cY false 3 (RI.ops 3),.op,.cY false 2 [.op,.op],.op,.cY false 2 [.op,.op]])) .aJ) (.q .o8 (.q .o9 (.q .o9 (.q (.q .o3 (.k (.loop [(61,.I)] (.q .o1 (.q (.c .l .l) (.q (.k (.q .o4 (.q .o7 (.q .o9 (.cU (.gI true [18,21] [] (.tk [0,1,2,3,4,5,6,9,10,11,12,13] (.all [(7,.all [(8,.all [(14,.all [(15,.take 16 (.take 17 (.all [(18,.take 19 (.take 20 (.all [(21,.done)])))])))])]),(14,.all [(8,.all [(15,.take 16 (.take 17 (.all [(18,.take 19 (.take 20 (.all [(21,.done)])))])))])])]),(14,.all [(7,.all [(8,.all [(15,.take 16 (.take 17 (.all [(18,.take 19 (.take 20 (.all [(21,.done)])))])))])])])])))))))) .o2)))))) (.q .o3 .l))))))))
def Ky.v (a:Sl)(b:R2)(c:Int)(d:Hp)(e:Option Addr->Int->Hp->Prop):Prop:=ZZ.c a d λf g=>If (!f) (e none 2 g) (X3.c b g λh i=>bX (λj k=>bX (λl m=>bX (λn o=>If n (e none 1 o) (Wo.c a o λp q=>QK.c q λr s=>Nw (.map #[] 0) s λt u=>aV #[.slice p.a p.len p.cap,.pointer b,.pointer none,.pointer none,.pointer r,.slice none 0 0,.slice none 0 0,.map (some t.block)] 199 u λv w=>KA.c h w λx y z=>bW (some v) λaa=>aR aa 2 (.pointer x) z λab=>Vm.c h ab λac ad ae=>bW (some v) λaf=>aR af 3 (.pointer ac) ae λag=>X6 [bO] (λah=>ah 0 ag) λai (aj:Int) ak=>If (aj<((a.len:Nat):Int)) (Ix a.a a.len aj 3 λal=>aQ al 0 ak λam=>aQ al 1 ak λan=>aQ al 2 ak λao=>aV #[.I 0,.I 0,.I 0] 149 ak λap aq=>aR ap 0 (.I am) aq λar=>aR ap 1 (.I an) ar λau=>aR ap 2 (.I ao) au λav=>aQ ap 0 av λaw=>aQ ap 1 av λax=>aQ ap 2 av λay=>QM.c aw ax ay av λaz a0 a1=>aQ ap 2 a1 λa2=>Qt.c a2 c a1 λa3 a4 a5=>Jn [] (λa6=>bM (aj+1) λa7=>ai a7 a6) λa8=>dY a5 λa9=>bW (some v) λba=>aT a9 ba 5 λbb=>bW (some v) λbc=>aT a9 bc 6 λbd=>(aV #[.pointer az] 202 a5 λbe bf=>And (a9 bf) <| (App bb 1 8 202 [.pointer none] ⟨some be,1,1⟩ bf λbg bh=>And (a9 bh) <| aV #[.pointer a3] 204 bh λbi bj=>And (a9 bj) <| App bd 1 8 204 [.pointer none] ⟨some bi,1,1⟩ bj λbk bl=>And (a9 bl) <|
 bW (some v) λbm=>aR bm 5 (.slice bg.a bg.len bg.cap) bl λbn=>bW (some v) λbo=>aR bo 6 (.slice bk.a bk.len bk.cap) bn λbp=>a8 bp) ∧ (aV #[.pointer a3] 204 bf λbq br=>And (a9 br) <| App bb 1 8 202 [.pointer none] ⟨some be,1,1⟩ br λbs bt=>And (a9 bt) <| App bd 1 8 204 [.pointer none] ⟨some bq,1,1⟩ bt λbu bv=>And (a9 bv) <| bW (some v) λbw=>aR bw 5 (.slice bs.a bs.len bs.cap) bv λbx=>bW (some v) λbz=>aR bz 6 (.slice bu.a bu.len bu.cap) bx λb0=>a8 b0)) ∧ (aV #[.pointer a3] 204 a5 λb1 b2=>And (a9 b2) <| aV #[.pointer az] 202 b2 λb3 b4=>And (a9 b4) <| App bb 1 8 202 [.pointer none] ⟨some b3,1,1⟩ b4 λb5 b6=>And (a9 b6) <| App bd 1 8 204 [.pointer none] ⟨some b1,1,1⟩ b6 λb7 b8=>And (a9 b8) <| bW (some v) λb9=>aR b9 5 (.slice b5.a b5.len b5.cap) b8 λca=>bW (some v) λcb=>aR cb 6 (.slice b7.a b7.len b7.cap) ca λcc=>a8 cc)) (e (some v) 0 ak))) λcd=>If l (cd true m) (cd (decide (c>8)) m)) λce=>If j (ce true k) (ce (decide (c<0)) k)) λcf=>If (h<32) (cf true i) (Nz 16 <| cf ((h.tmod 16) != 0) i))
theorem Ky.o {a b c d e}(f:Ky.v a b c d e):Ky.c a b c d e:=Wa Tryz.func154 (x:=Ky.h) (R0 f)
def WU.h:Hn:=.q .o2 (.q (.q .o4 (.q .o2 (.c (.q .o3 .l) .l))) (.q (.o 12) .l))
def WU.v (a:R2)(b:Int)(c:Hp)(d:Sl->Int->Hp->Prop):Prop:=Xf.c a b c λe f=>If (e != 0) (d ⟨none,0,0⟩ e f) (bF a 6 f λh=>Ix h.a h.len b 1 λi=>fY i f λj=>WT.c j f λk l m=>d k l m)
theorem WU.o {a b c d}(e:WU.v a b c d):WU.c a b c d:=Wa Tryz.func169 (x:=WU.h) (R0 e)
def WZ.h:Hn:=.q .o2 (.q (.q .o4 (.q .o2 (.c (.q .o3 .l) .l))) (.q (.o 13) .l))
def WZ.v (a:R2)(b c:Int)(d:Hp)(e:Sl->Int->Hp->Prop):Prop:=Xf.c a b d λf g=>If (f != 0) (e ⟨none,0,0⟩ f g) (bF a 5 g λi=>Ix i.a i.len b 1 λj=>fY j g λk=>Xs.c k c g λl m n=>e l m n)
theorem WZ.o {a b c d e}(f:WZ.v a b c d e):WZ.c a b c d e:=Wa Tryz.func171 (x:=WZ.h) (R0 f)
def Yk.h:Hn:=.q .o1 (.q (.q .o4 (.q .o2 .aJ)) (.q (.o 17) (.q (.q .o2 .aJ) (.q .fX .l))))
def Yk.v (a:R2)(b:Int)(c:Hp)(d:aN):Prop:=Xf.c a b c λe f=>If (e != 0) (d e f) (bF a 0 f λh=>Ix h.a h.len b 3 λi=>aQ i 1 f λj=>bM (b+1) λk=>YZ.c a j 1 k f λl m n=>If (m != 0) (d m n) (bF a 5 n λp=>Ix p.a p.len b 1 λq=>fY q n λr=>Y4.c r l n λs t=>d s t))
theorem Yk.o {a b c d}(e:Yk.v a b c d):Yk.c a b c d:=Wa Tryz.func172 (x:=Yk.h) (R0 e)
def Xb.h:Hn:=.q .o2 (.q (.k (.q .o4 (.c .aL (.q (.cU (.seq [.op,.op,.op,.cY false 2 [.op,.op],.op,.cY false 2 [.op,.op],.op,.cY false 2 [.op,.op],.op,.cY false 5 (RI.ops 5),.op])) .aJ)))) (.q .o9 (.q (.q .o2 (.c (.q .o3 .l) .l)) (.q .o7 (.q .o3 .l)))))
def Xb.v (a:R2)(b c:Int)(d:Hp)(e:Int->Int->Hp->Prop):Prop:=Xt.c a d λf g=>If (!f) (e 0 5 g) (bX (λh i=>bX (λj k=>bX (λl m=>bX (λn o=>If n (e 0 1 o) (YZ.c a b c 41 o λp q r=>If (q != 0) (e 0 q r) (bJ a 7 r λt=>kD .i64 bO t p b r λu=>e p 0 u))) λv=>If l (v true m) (bM (c-1) λw=>v ((bits .and .i64 c w) != 0) m)) λx=>If j (x true k) (x (decide (c>16)) k)) λy=>If h (y true i) (y (decide (c<1)) i)) λz=>If (b<1) (z true g) (z (decide (b>64)) g))
theorem Xb.o {a b c d e}(f:Xb.v a b c d e):Xb.c a b c d e:=Wa Tryz.func174 (x:=Xb.h) (R0 f)
def Xd.h:Hn:=.q .o1 (.q (.q .o3 .aK) (.q (.o 11) (.q (.q .o2 .aK) (.q .o6 (.q .o6 .aM)))))
def Xd.v (a:R2)(b:Int)(c:Hp)(d:aN):Prop:=Xt.c a c λe f=>If (!e) (d 5 f) (bJ a 7 f λh=>Lk .i64 bO h b f λi=>If (!i.isSome) (d 8 f) (bJ a 7 f λk=>mn .i64 bO k b f λl=>aV #[.I b,.I (i.getD 0)] 268 l λm n=>Yh.c a ⟨some m,1,1⟩ n λo=>d 0 o))
theorem Xd.o {a b c d}(e:Xd.v a b c d):Xd.c a b c d:=Wa Tryz.func182 (x:=Xd.h) (R0 e)
def Yh.h:Hn:=.q .o3 (.k (.loop [(8,.I)] (.q .o1 (.q (.c .l .l) (.q (.k (.q .o4 (.q (.cU (.tail 8 (RI.ops 8) [.op])) (.q (.cU (.tail 8 (RI.ops 8) [.op])) (.cU (.tail 8 (RI.ops 8) [.op])))))) .o2)))))
def Yh.v (a:R2)(b:Sl)(c:Hp)(d:aP):Prop:=X6 [bO] (λe=>e 0 c) λf (g:Int) h=>If (g<((b.len:Nat):Int)) (Ix b.a b.len g 2 λi=>aQ i 0 h λj=>aQ i 1 h λk=>aV #[.I 0,.I 0] 268 h λl m=>aR l 0 (.I j) m λn=>aR l 1 (.I k) n λo=>bG a 4 o λq=>aQ l 0 o λr=>aQ l 1 o λs=>X4.c q r s o λt u=>bG a 3 u λw=>aQ l 0 u λx=>aQ l 1 u λy=>XM.c w x y u λz aa=>bG a 2 aa λac=>aQ l 0 aa λad=>aQ l 1 aa λae=>Yt.c ac ad ae aa λaf ag=>bM (g+1) λah=>f ah ag) (d h)
theorem Yh.o {a b c d}(e:Yh.v a b c d):Yh.c a b c d:=Wa Tryz.func184 (x:=Yh.h) (R0 e)
def Xa.h:Hn:=.q .o1 (.q (.q .o4 (.q .o2 .aJ)) (.q (.o 14) (.q (.q .o2 .aJ) (.q .o3 .aM))))
def Xa.v (a:R2)(b:Int)(c:Sl)(d:Hp)(e:aN):Prop:=Xf.c a b d λf g=>If (f != 0) (e f g) (bF a 5 g λi=>Ix i.a i.len b 1 λj=>fY j g λk=>Zd.c k c g λl m n=>If (m != 0) (e m n) (Yh.c a l n λo=>e 0 o))
theorem Xa.o {a b c d e}(f:Xa.v a b c d e):Xa.c a b c d e:=Wa Tryz.func194 (x:=Xa.h) (R0 f)
def Xf.h:Hn:=.q .o1 (.q (.k (.q .o4 (.c .aM (.q (.cU (.seq [.op,.op,.op,.cY false 7 (RI.ops 7),.op])) .aK)))) .aM)
def Xf.v (a:R2)(b:Int)(c:Hp)(d:aN):Prop:=Xt.c a c λe f=>If (!e) (d 5 f) (bX (λg h=>If g (d 1 h) (d 0 h)) λi=>If (b<0) (i true f) (bF a 0 f λk=>i (decide (b≥((k.len:Nat):Int))) f))
theorem Xf.o {a b c d}(e:Xf.v a b c d):Xf.c a b c d:=Wa Tryz.func231 (x:=Xf.h) (R0 e)
def YZ.h:Hn:=.q .o2 (.q (.o 12) (.kI [(10,.I),(11,.I)] (.q .o2 (.c (.q .o1 (.q (.k (.loop [(12,.I)] (.q (.q .o5 (.c .l .l)) (.k .o3)))) (.q (.q .o4 .aJ) (.o 12)))) .l)) (.q (.q .o2 (.c (.q .o3 .l) .l)) (.q .o7 (.q .o8 (.q .o3 .l))))))
def YZ.v (a:R2)(b c d:Int)(e:Hp)(f:Int->Int->Hp->Prop):Prop:=bG a 2 e λh=>XZ.c h b c e λi j k=>Jn [bO,bO] (λ(l:Int) (m:Int) n=>If (m != 0) (f 0 m n) (bG a 3 n λp=>XU.c p l b n λq r=>bG a 4 r λt=>Yx.c t l b d r λu v=>f l 0 v)) λw=>If (j==6) (X6 [bO] (λx=>x 16 k) λy (z:Int) aa=>If (z<(if c>b then c else b)) (bM (z*2) λab=>y ab aa) (Ze.c a z aa λac ad=>If (!ac) (f 0 6 ad) (bG a 2 ad λaf=>XZ.c af b c ad λag ah ai=>w ag ah ai))) (w i j k)
theorem YZ.o {a b c d e f}(g:YZ.v a b c d e f):YZ.c a b c d e f:=Wa Tryz.func234 (x:=YZ.h) (R0 g)
def Y8.h:Hn:=.q .o3 (.q (.q .o3 (.c (.q .o3 .l) .l)) (.q (.q .o2 (.c (.q .o3 .l) .l)) (.q .o8 (.q (.q .o2 (.c (.q .o3 .l) .l)) (.kI [] (.q .o2 (.c (.q .o5 (.k (.loop [] (.q (.cU (.seq [.it .i64 bO,.op])) (.q (.c .l .l) (.k (.q (.cU (.seq [.it .i64 bO,.op,.op,.op,.op])) (.q .o3 (.q (.cU (.seq [.op,.op,.op,.op,.cY true 5 (RI.ops 5)])) (.c (.q .o5 .l) .l)))))))))) .l)) (.q (.o 15) (.q (.q .o2 (.c (.q .o4 .l) .l)) (.q .o6 .l))))))))
def Y8.v (a:R2)(b:Int)(c:Hp)(d:Int->Int->Int->Hp->Prop):Prop:=Xt.c a c λe f=>If (!e) (d 0 0 5 f) (If (b<0) (d 0 0 8 f) (bG a 4 f λh=>Nz 256<|bM (b.tdiv 256) λi=>Zp.c h i f λj k=>If (j==0) (d 0 0 8 k) (Jn [] (λl=>bF a 5 l λn=>bM (j-1) λo=>Ix n.a n.len o 1 λp=>fY p l λq=>YG.c q b l λr s t=>If (s != 0) (d 0 0 s t) (bM (j-1) λu=>d u r 0 t)) λv=>If (j==41) (bJ a 7 k λx=>pz .i64 bO x k λy z=>X6 [] (λaa=>aa z) λab ac=>oT .i64 bO y ac (v ac) (λad ae af=>oY .i64 bO y af λag ah=>Nz 256<|bM (b.tdiv 256) λai=>bX (λaj ak=>If aj (bM (ag*256) λal=>d (-1) al 0 ak) (ab ak)) λam=>If (ag<=ai) (bM (ag+ah) λan=>am (decide (ai<an)) af) (am false af))) (v k))))
theorem Y8.o {a b c d}(e:Y8.v a b c d):Y8.c a b c d:=Wa Tryz.func238 (x:=Y8.h) (R0 e)
def W6.h:Hn:=.q .o2 (.q (.q .o4 (.q .o2 (.c (.q .o3 .l) .l))) (.q (.q (.o 11) .aJ) (.q (.q .o3 (.k (.loop [(32,.I)] (.q .o1 (.q (.c .l .l) (.q (.k (.q .o3 (.q (.o 14) (.q (.cU (.seq [.op,.op,.op,.cY false 2 [.op,.op]])) .aJ)))) .o2)))))) (.q (.o 13) .l))))
def W6.v (a:R2)(b:Int)(c:Sl)(d:Hp)(e:Bool->Int->Hp->Prop):Prop:=Xf.c a b d λf g=>If (f != 0) (e false f g) (bF a 0 g λi=>Ix i.a i.len b 3 λj=>aQ j 2 g λk=>If (((c.len:Nat):Int) != k) (e false 1 g) (X6 [bO] (λl=>l 0 g) λm (n:Int) o=>If (n<((c.len:Nat):Int)) (Ix c.a c.len n 1 λp=>bN p o λq=>bF a 5 o λs=>Ix s.a s.len b 1 λt=>fY t o λu=>Xn.c u q o λv w x=>bX (λy z=>If y (e false 8 z) (bM (n+1) λaa=>m aa z)) λab=>If (w != 0) (ab true x) (ab (!v) x)) (bF a 6 o λad=>Ix ad.a ad.len b 1 λae=>fY ae o λaf=>Xq.c af c o λag ah ai=>e ag ah ai)))
theorem W6.o {a b c d e}(f:W6.v a b c d e):W6.c a b c d e:=Wa Tryz.func242 (x:=W6.h) (R0 f)
def Zb.h:Hn:=.q .o1 (.q (.cU (.seq [.op,.op,.op,.cY true 7 (RI.ops 7),.op])) .l)
def Zb.v (a:R2)(b:Int)(c:Hp)(d:aO):Prop:=Xt.c a c λe f=>bX (λg h=>d g h) λi=>If e (bG a 3 f λk=>Yd.c k b f λl m=>i (decide (l>0)) m) (i false f)
theorem Zb.o {a b c d}(e:Zb.v a b c d):Zb.c a b c d:=Wa Tryz.func284 (x:=Zb.h) (R0 e)
def Ze.h:Hn:=.q .o1 (.q (.q .o2 (.k (.loop [(5,.I)] (.q (.q .o9 (.c .l .l)) (.q (.k (.q (.q .o8 (.c .l .l)) (.q (.q .o3 (.k (.loop [(6,.I)] (.q (.q .o6 (.c .l .l)) (.q (.k .o6) .o3))))) (.q .o7 .aM)))) .o4))))) .aM)
def Ze.v (a:R2)(b:Int)(c:Hp)(d:aO):Prop:=X6 [bO] (λe=>e b c) λf (g:Int) h=>bM (g+b) λi=>bG a 1 h λk=>X3.c k h λl m=>If (i<=l) (bG a 1 m λo=>Zn.c o g b m λp q=>If (p != 0) (bM (g+b) λr=>f r q) (Nz 16<|bM (g.tdiv 16) λs=>X6 [bO] (λt=>t s q) λu (v:Int) w=>bM (g+b) λx=>Nz 16<|bM (x.tdiv 16) λy=>If (v<y) (bG a 3 w λaa=>Yo.c aa v w λab ac=>bM (v+1) λad=>u ad ac) (bG a 2 w λaf=>Yt.c af g b w λag ah=>d true ah))) (d false m)
theorem Ze.o {a b c d}(e:Ze.v a b c d):Ze.c a b c d:=Wa Tryz.func287 (x:=Ze.h) (R0 e)
end Go.Proofs
namespace Go.Ar
open Go Go.Vc Go.Proofs
open Go.Bu (Zz Kg Zx)
inductive Lb where
 | hd|dF|free|oD|own|dU|cS|runs
 | cG (k:Nat)
 | cR (k:Nat)
 deriving DecidableEq
structure Lay where
 p:Nat
 hs:Nat
 fr:Nat
 tr:Nat
 op:Nat
 rn:Nat
 dF:Sl
 dU:Sl
 cS:Sl
 fK:List Nat
 gC:List Nat
def k9 (Y:Lay):List Value:=[.slice Y.dF.a Y.dF.len Y.dF.cap,.pointer (some ⟨Y.hs,0,none⟩),.pointer (some ⟨Y.fr,0,none⟩),.pointer (some ⟨Y.tr,0,none⟩),.pointer (some ⟨Y.op,0,none⟩),.slice Y.dU.a Y.dU.len Y.dU.cap,.slice Y.cS.a Y.cS.len Y.cS.cap,.map (some Y.rn)]
def gH (tb:List cA):List Value:=tb.flatMap λc=>[.int .i64 (c.size:Int),.int .i64 (c.aG:Int),.int .i64 (c.batch:Int)]
def fN (l:List Nat):List Value:=l.map λb=>.pointer (some ⟨b,0,none⟩)
def iU (l:List (Nat×Nat)):List (Int×Int):=l.map λr=>((r.1:Int),(r.2:Int))
def ug (p n:Nat)(S:Nat->Bool):Hp->Rg->Prop:=λU F=>∃sb ms,Go.Bu.BH U p n S sb ms/\∀b,Go.Bu.fp p sb ms b->F b
def mJ (p:Nat)(st:List Nat):Hp->Rg->Prop:=λU F=>∃q,im U p q st/\F p/\F q
def jZ (p:Option Nat)(c:Option cA)(ss:Option (List cH)):Hp->Rg->Prop:=λU F=>match p,c,ss with
 | some p,some c,some ss=>∃ps,fF U F p c ps ss
 | _,_,_=>True
def lG (p:Option Nat)(c:Option cA)(room:Nat)(t:Option gP):Hp->Rg->Prop:=λU F=>match p,c,t with
 | some p,some c,some t=>iW U F p c.batch room t
 | _,_,_=>True
def AC (A:AR)(Y:Lay)(T:Nat->Hp->Rg->Prop):Lb->Hp->Rg->Prop
 | .hd=>iE Y.p (k9 Y)
 | .dF=>cV Y.dF 3 (gH A.tb)
 | .free=>ug Y.fr A.n A.S
 | .oD=>mJ Y.tr A.st
 | .own=>λU F=>jn U F Y.op A.ow
 | .dU=>bT Y.dU 1 (fN Y.fK)
 | .cS=>bT Y.cS 1 (fN Y.gC)
 | .runs=>jQ Y.rn .i64 bO (iU A.runs)
 | .cG k=>jZ Y.fK[k]? A.tb[k]? A.cG[k]?
 | .cR k=>T k
def cM (A:AR)(Y:Lay)(k:Nat):Hp->Rg->Prop:=lG Y.gC[k]? A.tb[k]? A.room A.cR[k]?
theorem ug.loc (p n:Nat)(S:Nat->Bool):dN (ug p n S):=by
 rintro U σ' F G ⟨j,i,h,r⟩ w s;have m:∀b,Go.Bu.fp p j i b->b<U.size:=λb a=>by
  unfold Go.Bu.fp at a;rcases zW.1 a with h1|h1
  ·obtain⟨c,g⟩:=h.hd;rw[h1];exact g.lt
  rcases zW.1 h1 with h2|h2
  ·obtain⟨c,g⟩:=h.row;rw[h2];exact g.lt
  ·obtain⟨k,u⟩:=zP h2;obtain⟨B,x,_⟩:=h.maps k b u;exact x.lt
 have e:Ext (λb=>¬Go.Bu.fp p j i b) U σ':=⟨w,λb a d=>(s b a (r b (Classical.not_not.1 d))).2⟩;exact⟨j,i,h.bS e λb a y=>y a,λb a=>(s b (m b a) (r b a)).1⟩
theorem mJ.loc (p:Nat)(st:List Nat):dN (mJ p st):=by
 rintro U σ' F G ⟨q,h,j,i⟩ r a;have e:Ext (λb=>b≠p/\b≠q) U σ':=⟨r,λb m s=>by
  by_cases h1:b=p
  ·subst h1;exact(a b m j).2
  ·have d:b=q:=Classical.byContradiction λd=>s ⟨h1,d⟩;subst d;exact(a b m i).2⟩
 exact⟨q,h.bS e (λg=>g.1 rfl) (λg=>g.2 rfl),(a p h.lt.1 j).1,(a q h.lt.2 i).1⟩
theorem jZ.loc (p:Option Nat)(c:Option cA)(ss:Option (List cH)):dN (jZ p c ss):=by
 rintro U g F G h b d;unfold jZ at *;split
 ·simp only at h;obtain⟨a,h⟩:=h;exact⟨a,fF.loc _ _ _ _ h b d⟩
 ·trivial
theorem lG.loc (p:Option Nat)(c:Option cA)(room:Nat)(t:Option gP):dN (lG p c room t):=by
 rintro U d F G h a b;unfold lG at *;split
 ·exact iW.loc _ _ _ _ h a b
 ·trivial
theorem AC.loc {A:AR}{Y:Lay}{T:Nat->Hp->Rg->Prop}(hT:∀k,dN (T k)):∀i,dN (AC A Y T i)
 | .hd=>iE.loc _ _
 | .dF=>cV.loc _ _ _
 | .free=>ug.loc _ _ _
 | .oD=>mJ.loc _ _
 | .own=>jn.loc
 | .dU=>bT.loc _ _ _
 | .cS=>bT.loc _ _ _
 | .runs=>jQ.loc _ _ _ _
 | .cG k=>jZ.loc _ _ _
 | .cR k=>hT k
theorem cM.loc {A:AR}{Y:Lay}(k:Nat):dN (cM A Y k):=lG.loc _ _ _ _
structure fA (A:AR) (Y:Lay):Prop where
 c:Y.fK.length=A.tb.length
 t:Y.gC.length=A.tb.length
 cG:A.cG.length=A.tb.length
 cR:A.cR.length=A.tb.length
 nQ:1<=A.tb.length
 rz:A.tb.length<=40
 n1:32<=A.n
 n2:A.n<=1024
 n3:A.n%16=0
 st:A.st.length=A.n
 room:A.room<=8
 ok:∀c∈A.tb,c.ok
structure dK (U:Hp) (F:Rg) (Y:Lay) (A:AR) (T:Nat->Hp->Rg->Prop):Prop where
 lay:fA A Y
 tl:∀k,dN (T k)
 sep:Sep (AC A Y T) U F
def AH (U:Hp)(F:Rg)(p hs:Nat)(A:AR):Prop:=∃Y:Lay,Y.p=p/\Y.hs=hs/\dK U F Y A (cM A Y)
variable {U:Hp}{F:Rg}{p hs:Nat}{A:AR}{Y:Lay}{T:Nat->Hp->Rg->Prop}
theorem dK.loc:dN λU F=>dK U F Y A T:=λU d F G h a b=>⟨h.lay,h.tl,Sep.loc (AC.loc h.tl) _ _ _ _ h.sep a b⟩
theorem AH.loc:dN λU F=>AH U F p hs A:=λU g F G ⟨Y,b,a,h⟩ d hs=>⟨Y,b,a,dK.loc _ _ _ _ h d hs⟩
theorem dK.bP {σ':Hp}(h:dK U F Y A T)(e:aF U σ'):dK σ' F Y A T:=dN.bP dK.loc h e
theorem AH.bP {σ':Hp}(h:AH U F p hs A)(e:aF U σ'):AH σ' F p hs A:=dN.bP AH.loc h e
theorem dK.hd (h:dK U F Y A T):bZ U Y.p (k9 Y):=by
 obtain⟨G,d,b,a⟩:=h.sep.get .hd;exact a
theorem UA (tb:List cA):(gH tb).length=tb.length*3:=by
 induction tb with
 | nil=>rfl
 | cons x l ih=>simp only[gH,oy,zJ,zS,kr]at *;omega
theorem AD {tb:List cA}{i:Nat}{c:cA}(h:tb[i]?=some c):(gH tb)[3*i]?=some (.int .i64 (c.size:Int))/\(gH tb)[3*i+1]?=some (.int .i64 (c.aG:Int))/\(gH tb)[3*i+2]?=some (.int .i64 (c.batch:Int)):=by
 induction tb generalizing i with
 | nil=>simp at h
 | cons x l ih=>
  have e:gH (x::l)=[.int .i64 (x.size:Int),.int .i64 (x.aG:Int),.int .i64 (x.batch:Int)]++gH l:=by simp[gH]
  rw[e];cases i with
  | zero=>simp at h;subst h;simp
  | succ i=>
   have:=ih (i:=i) (by simpa using h);rw[show 3*(i+1)=3*i+3 by omega];simpa using this
theorem dK.pt (h:dK U F Y A T):Y.dF.len=A.tb.length:=by
 obtain⟨G,b,a⟩:=h.sep.get .dF;have:=a.1;rw[UA]at this;omega
theorem uh {s:Sl}{tb:List cA}(h:cV s 3 (gH tb) U F){k d:Nat}{c:cA}(hc:tb[k]?=some c)(hd:d<3){K:Int->Prop}(hK:K (if d=0 then c.size else if d=1 then c.aG else c.batch:Nat)) :
 Ix s.a s.len (k:Int) 3 λa=>gM .i64 (a.add d) U K:=by
 have i:=AD hc;have j:(gH tb)[3*k+d]?=some (.int .i64 ((if d=0 then c.size else if d=1 then c.aG else c.batch:Nat):Int)):=by
  match d,hd with
  | 0,_=>exact i.1
  | 1,_=>exact i.2.1
  | 2,_=>exact i.2.2
 have r:=(cX.1 hc).1;obtain⟨b,o,m,g⟩:=h.cell j;have p:=h.1;rw[UA]at p;rw[m];refine ix O O ?_;rw[add_lit,add_lit];refine oM ?_ hK;rw[show o+(k:Int).toNat*3+d=o+(3*k+d) by omega];exact g
theorem dK.yj (h:dK U F Y A T){k d:Nat}{c:cA}(hc:A.tb[k]?=some c)(hd:d<3){K:Int->Prop}(hK:K (if d=0 then c.size else if d=1 then c.aG else c.batch:Nat)) :
 Ix Y.dF.a Y.dF.len (k:Int) 3 λa=>gM .i64 (a.add d) U K:=by
 obtain⟨G,g,b⟩:=h.sep.get .dF;exact uh b hc hd hK
theorem D0 {s:Sl}{l:List Nat}(h:cV s 1 (fN l) U F){k q:Nat}(hq:l[k]?=some q){K:Option Addr->Prop}(hK:K (some ⟨q,0,none⟩)):Ix s.a s.len (k:Int) 1 λa=>fY a U K:=by
 have m:=(cX.1 hq).1;obtain⟨b,o,i,d⟩:=h.cell (j:=k) (v:=.pointer (some ⟨q,0,none⟩)) (by simp[fN,hq]);have g:=h.1;simp[fN]at g;rw[i];refine ix O O ?_;rw[add_lit];exact vL (by rw[show o+(k:Int).toNat*1=o+k by omega];exact d) hK
theorem dK.mq (h:dK U F Y A T){k q:Nat}(hq:Y.fK[k]?=some q){K:Option Addr->Prop}(hK:K (some ⟨q,0,none⟩)):Ix Y.dU.a Y.dU.len (k:Int) 1 λa=>fY a U K:=by
 obtain⟨G,d,b⟩:=h.sep.get .dU;exact D0 (bT.fW b) hq hK
theorem dK.tG (h:dK U F Y A T){k q:Nat}(hq:Y.gC[k]?=some q){K:Option Addr->Prop}(hK:K (some ⟨q,0,none⟩)):Ix Y.cS.a Y.cS.len (k:Int) 1 λa=>fY a U K:=by
 obtain⟨G,d,b⟩:=h.sep.get .cS;exact D0 (bT.fW b) hq hK
theorem dK.at_ (h:dK U F Y A T){k:Nat}(hk:k<A.tb.length):∃c ss q t r,A.tb[k]?=some c/\A.cG[k]?=some ss/\Y.fK[k]?=some q/\A.cR[k]?=some t/\Y.gC[k]?=some r/\c.ok:=by
 have a:=h.lay.c;have d:=h.lay.t;have g:=h.lay.cG;have b:=h.lay.cR;exact⟨A.tb[k],A.cG[k],Y.fK[k],A.cR[k],Y.gC[k],by simp,by simp,by simp,by simp,by simp,h.lay.ok _ (zt hk)⟩
theorem F4 {k q:Nat}{c:cA}{ss:List cH}{G:Rg}(h1:Y.fK[k]?=some q)(h2:A.tb[k]?=some c)(h3:A.cG[k]?=some ss)(h:AC A Y T (.cG k) U G):∃ps,fF U G q c ps ss:=by
 simp only[AC]at h;rw[h1,h2,h3]at h;exact h
theorem dK.cG (h:dK U F Y A T){k q:Nat}{c:cA}{ss:List cH}(h1:Y.fK[k]?=some q)(h2:A.tb[k]?=some c)(h3:A.cG[k]?=some ss):∃G ps,(∀b,G b->F b)/\fF U G q c ps ss:=by
 obtain⟨G,a,g⟩:=h.sep.get (.cG k);obtain⟨ps,d⟩:=F4 h1 h2 h3 g;exact⟨G,ps,a,d⟩
theorem HW (h:dK U F Y A T){R:aO}(hR:R true U):Xt.c (aW Y.p) U R:=by
 refine Xt.o ?_;unfold Xt.v;exact bX.intro (cF rfl (bL (h.hd.rP rfl hR)))
theorem U2 (h:dK U F Y A T)(k:Int){R:aN}(h1:A.ck k=false->R 1 U)(h0:∀x:Nat,k=x->x<A.tb.length->R 0 U):Xf.c (aW Y.p) k U R:=by
 refine Xf.o ?_;unfold Xf.v;have i:=h.pt;have a:¬(0<=k/\k<A.tb.length)->R 1 U:=λd=>h1 (by unfold AR.ck;rw[←wz];exact zM d);refine HW h (cD rfl (bX.intro (cN (λg=>cF rfl (a O)) λg=>bL (h.hd.rS rfl (cN (λb=>?_) λb=>?_)))))
 ·simp only at b;exact a O
 ·simp only at b;exact h0 k.toNat O O
theorem Mx (h:dK U F Y A T)(x:Int){R:aO}(hR:R (qg A x) U):Zb.c (aW Y.p) x U R:=by
 refine Zb.o ?_;unfold Zb.v;obtain⟨G,b,q,a,_⟩:=h.sep.get .oD;refine HW h (bX.intro (cF rfl (bL (h.hd.rP rfl (ς a x ?_)))));have:decide (y5 A.st x>0)=qg A x:=by
  unfold y5 qg;by_cases hx:0<=x
  ·by_cases hl:x<A.st.length
   ·rw[zC ⟨hx,hl⟩,zI hx,rO,decide_eq_decide];omega
   ·rw[zB O,zI hx,rO,zQ,zX O];rfl
  ·rw[zB O,zM hx];rfl
 rw[this];exact hR
structure iQ (A:AR):Prop where
 uY:∀r∈A.runs,∀s∈A.runs,∀x,r.1<=x->x<r.1+r.2->s.1<=x->x<s.1+s.2->r=s
 AA:∀x,x<1024->A.ow x=41->(tH A x).isSome=true
 cls:∀x,x<1024->A.ow x≠0->A.ow x≠41->A.ow x<=A.tb.length
 fit:∀r∈A.runs,r.1+r.2<=1024
theorem CY (h:iQ A){x:Nat}{r:Nat×Nat}(hr:r∈A.runs)(h1:r.1<=x)(h2:x<r.1+r.2):tH A x=some r:=by
 cases hf:tH A x with
 | none=>
  unfold tH at hf;rw[oI]at hf;have:=hf r hr;simp[h1,h2]at this
 | some s=>
  unfold tH at hf;have b:=uH hf;have a:=ux hf;simp at a;rw[h.uY r hr s b x h1 h2 a.1 a.2]
theorem Og (h:dK U F Y A T)(hr:iQ A)(x:Int)(hx:iP x){R:Int->Int->Int->Hp->Prop}(h1:∀σ' k a,aF U σ'->Hx A x=some (k,a)->R k (a:Int) 0 σ')(h0:∀σ',aF U σ'->Hx A x=none->R 0 0 8 σ') :
 Y8.c (aW Y.p) x U R:=by
 refine Y8.o ?_;unfold Y8.v;refine HW h (cD rfl (cN (λQ=>h0 U (Ext.refl _ _) (by unfold Hx;rw[zC Q])) λQ=>bL (h.hd.rP rfl (nz aB ?_))));obtain⟨y,rfl⟩:=zc (show 0<=x by omega);have hy:y<=9223372036854775807:=by unfold iP at hx;omega
 have S:((y:Int).tdiv 256)=((y/256:Nat):Int):=by rw[YR O];simp
 refine ar (by rw[S];omega) (by rw[S];omega) ?_;rw[S];obtain⟨G,hG,hP⟩:=h.sep.get .own;refine OE hP _ ?_;have eo:ru A.ow ((y/256:Nat):Int)=if y/256<1024 then A.ow (y/256)else 0:=by
  unfold ru;by_cases hl:y/256<1024
  ·rw[zC O,zC hl];rfl
  ·rw[zB O,zB hl]
 have g:Hx A (y:Int)=(let no:=if y/256<1024 then A.ow (y/256)else 0
  if no=0 then none else if no=41 then(tH A (y/256)).map λr=>(-1,r.1*256)else
  match A.tb[no-1]?,A.cG[no-1]? with
  | some c,some ss=>(r7 c ss (y:Int)).map λa=>(((no-1:Nat):Int),a)
  | _,_=>none):=by
  unfold Hx;rw[zB Q];rfl
 rw[eo];generalize hno:(if y/256<1024 then A.ow (y/256)else 0)=no at *
 simp only at g;rw[wW];refine cQ (λW=>h0 U (Ext.refl _ _) (by rw[g,zC (by simpa using W)])) λW=>?_;have C:no≠0:=by simpa using W
 rw[zB C]at g;have E:y/256<1024:=by
  rcases ku (y/256) 1024 with h|h
  ·exact h
  ·rw[zB O]at hno;exact absurd hno.symm C
 rw[zC E]at hno;refine Jn.intro ?_;have e41:(((no:Nat):Int)==41)=(no==41):=mg no 41;rw[e41];refine cQ (λc2=>?_) λc2=>?_
 ·have w:no=41:=by simpa using c2
  subst w;rw[zC rfl]at g;obtain⟨r,H⟩:=pX.1 (hr.AA _ E hno);have j:=uH H;have D:=ux H;simp at D;obtain⟨G,hG,M⟩:=h.sep.get .runs;refine bL (h.hd.rM rfl ?_);refine CR M.2 (λb v=>aF U v/\(∀z∈b,z∈iU A.runs)/\((r.1:Int),(r.2:Int))∈b) (λv hz e=>⟨e,λz hz=>hz,zD.2 ⟨r,j,rfl⟩⟩) (λv hv=>absurd hv.2.2 aA) ?_;rintro b n z v v' J ⟨e,d,B⟩ hm ho hlt2 hJ;have e':aF U v':=Ext.fresh e ho.ext λi hi=>by omega
  obtain⟨s,P,aa⟩:=zD.1 (d _ hm);cases aa;have hfit:=hr.fit s P;refine nz aB (ar O O ?_);refine bX.intro (cN (λc3=>ar O O (cN (λc4=>?_) λc4=>?_)) λc3=>cD rfl ?_)
  ·have hsr:=CY hr P (x:=y/256) O O;refine ar O O ?_;have:=h1 v' (-1) (s.1*256) e' (by rw[g,hsr];rfl);simpa using this
  ·refine hJ v' rfl rfl ⟨e',λu X=>d u (zL.1 X).1,zL.2 ⟨B,?_⟩⟩;have:¬(r.1:Int)=(s.1:Int):=λe=>by
    have:=CY hr j D.1 D.2;have e1:r.1=s.1:=by omega
    by_cases h2:r.2=0
    ·omega
    by_cases h3:s.2=0
    ·have:=M.2.nodup;have L:=ZA this (zD.2 ⟨r,j,rfl⟩);have N:=ZA this (zD.2 ⟨s,P,rfl⟩);rw[e1,N]at L;have:s.2=r.2:=by
      have:(s.2:Int)=(r.2:Int):=Option.some.inj L;omega
     omega
    ·have:=hr.uY r j s P r.1 O O O O;subst this;omega
   simpa using this
  ·refine hJ v' rfl rfl ⟨e',λu X=>d u (zL.1 X).1,zL.2 ⟨B,?_⟩⟩;have:¬(r.1:Int)=(s.1:Int):=λe=>by omega
   simpa using this
 ·have w:no≠41:=by simpa using c2
  rw[zB w]at g;have V:=hr.cls _ E (by rw[hno];exact C) (by rw[hno];exact w);rw[hno]at V;obtain⟨c,ss,q,t,r,hc,K,hq,_,_,hok⟩:=h.at_ (k:=no-1) O;obtain⟨G,ps,hG,hC⟩:=h.cG hq hc K;rw[hc,K]at g;simp only at g;refine bL (h.hd.rS rfl (cT (m:=no-1) O (by have:=h.lay.rz;omega) (h.mq hq (π hC _ hx (λa Z=>?_) λZ=>?_))))
  ·refine cD rfl (cT (m:=no-1) O (by have:=h.lay.rz;omega) (h1 U _ a (Ext.refl _ _) ?_));rw[g,Z];rfl
  ·refine cF rfl (h0 U (Ext.refl _ _) ?_);rw[g,Z];rfl
end Go.Ar
namespace Go.Ar
open Go Go.Vc Go.Proofs
open Go.Bu (Zz Kg Zx)
open Classical in
theorem _root_.Go.Vc.Sep.ke {L:Type}{C:L->Hp->Rg->Prop}{U:Hp}{F:Rg}(hC:∀i,dN (C i))(h:Sep C U F)(i:L):∃G:Rg,(∀b,G b->F b)/\C i U G/\(∀j,j≠i->∃H:Rg,(∀b,H b->F b)/\(∀b,H b->¬G b)/\C j U H)/\∀(σ':Hp) (C':L->Hp->Rg->Prop) (G':Rg),
 (∀j,j≠i->C' j=C j)->Ext G U σ'->(∀b,G' b->G b\/U.size<=b)->C' i σ' G'->dN (C' i)->Sep C' σ' λb=>F b/\b<U.size/\¬G b\/G' b:=by
 obtain⟨ρ,h⟩:=h;refine⟨_,λb a=>a.1,h i,λj p=>⟨_,λb a=>a.1,λb m w=>p (m.2.symm.trans w.2),h j⟩,λσ' C' G' p e u hi x=>⟨λb=>if G' b then i else ρ b,λj=>?_⟩⟩
 by_cases hji:j=i
 ·subst hji;exact x.mono hi λb _ a=>⟨.inr a,zC a⟩
 ·rw[p j hji];refine hC j _ _ _ _ (h j) e.1 λb a s=>?_;have d:¬(F b/\ρ b=i):=λr=>hji (s.2.symm.trans r.2);have g:¬G' b:=λr=>by
   rcases u b r with m|m
   ·exact d m
   ·omega
  exact⟨⟨.inl ⟨s.1,a,d⟩,(zB g).trans s.2⟩,e.2 b a d⟩
variable {U:Hp}{F:Rg}{p hs:Nat}{A:AR}{Y:Lay}{T:Nat->Hp->Rg->Prop}
theorem dK.step (h:dK U F Y A T)(i:Lb):∃G:Rg,(∀b,G b->F b)/\AC A Y T i U G/\(∀j,j≠i->∃H:Rg,(∀b,H b->F b)/\(∀b,H b->¬G b)/\AC A Y T j U H)/\∀(σ':Hp) (A':AR) (Y':Lay) (T':Nat->Hp->Rg->Prop) (G' H:Rg),
 fA A' Y'->(∀k,dN (T' k))->(∀j,j≠i->AC A' Y' T' j=AC A Y T j)->Ext G U σ'->(∀b,G' b->G b\/U.size<=b)->AC A' Y' T' i σ' G'->(∀b,(F b/\b<U.size/\¬G b\/G' b)->H b)->dK σ' H Y' A' T':=by
 obtain⟨G,m,hi,hd,a⟩:=h.sep.ke (AC.loc h.tl) i;refine⟨G,m,hi,hd,λσ' A' Y' T' G' H w d p e r g u=>⟨w,d,?_⟩⟩;exact(Sep.loc (AC.loc d)).mono (a σ' _ G' p e r g (AC.loc d i)) λb _ s=>u b s
theorem GD {U:Hp}{F G G':Rg}(hG:∀b,G b->F b)(hg:∀b,G' b->G b\/U.size<=b):∀b,(F b/\b<U.size/\¬G b\/G' b)->Grow F U b:=λb a=>by
 rcases a with a|a
 ·exact .inl a.1
 ·exact(hg b a).imp (hG b) id
theorem AY {U:Hp}{F G G':Rg}(hG:∀b,G b->F b)(hg:∀b,G' b->G b):∀b,(F b/\b<U.size/\¬G b\/G' b)->F b:=λb a=>by
 rcases a with a|a
 ·exact a.1
 ·exact hG b (hg b a)
theorem IT {U:Hp}{F G:Rg}(hG:∀b,G b->F b):∀b,(F b/\b<U.size/\¬G b\/Cut G U b)->Cut F U b:=λb a=>by
 rcases a with a|a
 ·exact⟨a.1,a.2.1⟩
 ·exact⟨hG b a.1,a.2⟩
theorem I3 {ow:Nat->Nat}:∀j,j≠Lb.own->AC {A with ow:=ow} Y T j=AC A Y T j:=by
 intro j hj;cases j<;>first|rfl|exact absurd rfl hj
theorem N7 {st:List Nat}:∀j,j≠Lb.oD->AC {A with st:=st} Y T j=AC A Y T j:=by
 intro j hj;cases j<;>first|rfl|exact absurd rfl hj
theorem Ed {S:Nat->Bool}:∀j,j≠Lb.free->AC {A with S:=S} Y T j=AC A Y T j:=by
 intro j hj;cases j<;>first|rfl|exact absurd rfl hj
theorem TQ {rs:List (Nat×Nat)}:∀j,j≠Lb.runs->AC {A with runs:=rs} Y T j=AC A Y T j:=by
 intro j hj;cases j<;>first|rfl|exact absurd rfl hj
theorem RX {k:Nat}{ss:List cH}:∀j,j≠Lb.cG k->AC {A with cG:=A.cG.set k ss} Y T j=AC A Y T j:=by
 intro j hj;cases j<;>first|rfl|skip
 rename_i k';have a:k≠k':=λe=>hj (by rw[e]);simp only[AC];rw[zh a]
theorem fA.ow {ow:Nat->Nat}(h:fA A Y):fA {A with ow:=ow} Y:=⟨h.c,h.t,h.cG,h.cR,h.nQ,h.rz,h.n1,h.n2,h.n3,h.st,h.room,h.ok⟩
theorem fA.CV {S:Nat->Bool}(h:fA A Y):fA {A with S:=S} Y:=⟨h.c,h.t,h.cG,h.cR,h.nQ,h.rz,h.n1,h.n2,h.n3,h.st,h.room,h.ok⟩
theorem fA.r5 {rs:List (Nat×Nat)}(h:fA A Y):fA {A with runs:=rs} Y:=⟨h.c,h.t,h.cG,h.cR,h.nQ,h.rz,h.n1,h.n2,h.n3,h.st,h.room,h.ok⟩
theorem fA.wT {st:List Nat}(h:fA A Y)(hl:st.length=A.st.length):fA {A with st:=st} Y:=⟨h.c,h.t,h.cG,h.cR,h.nQ,h.rz,h.n1,h.n2,h.n3,hl.trans h.st,h.room,h.ok⟩
theorem fA.lE {k:Nat}{ss:List cH}(h:fA A Y):fA {A with cG:=A.cG.set k ss} Y:=⟨h.c,h.t,by simpa using h.cG,h.cR,h.nQ,h.rz,h.n1,h.n2,h.n3,h.st,h.room,h.ok⟩
theorem LD (st:List Nat)(a m:Int)(v:Nat)(fr:List Nat):(UP st a m v fr).length=st.length:=by
 unfold UP;split<;>simp[Vt]
theorem Φ (st:List Nat)(k:Int):(jh st k).length=st.length:=by
 unfold jh;split<;>simp[Vt]
theorem dK.Clear (h:dK U F Y A T)(a m:Nat)(ha:a<=1000000){R:aN}(hR:∀σ' t,Ext F U σ'->dK σ' (Grow F U) Y {A with ow:=jK A.ow a m 0} T->R t σ'):X4.c (aW Y.op) a m U R:=by
 obtain⟨G,i,hi,_,d⟩:=h.step .own;refine SW hi a m ha λσ' e j=>hR σ' _ (e.sub i) ?_;exact d σ' _ _ T (Grow G U) _ h.lay.ow h.tl I3 e (λb g=>g) j (GD i λb g=>g)
theorem dK.Set (h:dK U F Y A T)(a m:Nat)(ha:a<=1000000){no:Nat}(h1:1<=no)(h2:no<=1000){R:aN}(hR:∀σ' t,Ext F U σ'->dK σ' (Grow F U) Y {A with ow:=jK A.ow a m no} T->R t σ'):Yx.c (aW Y.op) a m no U R:=by
 obtain⟨G,i,hi,_,d⟩:=h.step .own;refine Rb hi a m ha h1 h2 λσ' e j=>hR σ' _ (e.sub i) ?_;exact d σ' _ _ T (Grow G U) _ h.lay.ow h.tl I3 e (λb g=>g) j (GD i λb g=>g)
theorem dK.oD (h:dK U F Y A T):∃G:Rg,(∀b,G b->F b)/\∃q,im U Y.tr q A.st/\F q/\∀(σ':Hp) (st:List Nat),st.length=A.st.length->Ext (· = q) U σ'->im σ' Y.tr q st->Ext F U σ'/\dK σ' F Y {A with st:=st} T:=by
 obtain⟨G,g,⟨q,p,j,i⟩,_,d⟩:=h.step .oD;refine⟨G,g,q,p,g _ i,λσ' st m e r=>⟨e.sub λb a=>by subst a;exact g _ i,?_⟩⟩;exact d σ' _ _ T G _ (h.lay.wT m) h.tl N7 (e.sub λb a=>by subst a;exact i) (λb a=>.inl a) ⟨q,r,j,i⟩ (AY g λb a=>a)
theorem dK.xX (h:dK U F Y A T)(a m:Int){R:aN}(hR:∀σ' t,Ext F U σ'->dK σ' F Y {A with st:=UP A.st a m 2 [1]} T->R t σ'):XM.c (aW Y.tr) a m U R:=by
 obtain⟨G,i,q,d,_,b⟩:=h.oD;refine τ d a m λσ' e g=>?_;have:=b σ' _ (LD _ _ _ _ _) e g;exact hR σ' _ this.1 this.2
theorem dK.MR (h:dK U F Y A T)(a m:Int){R:aN}(hR:∀σ' t,Ext F U σ'->dK σ' F Y {A with st:=UP A.st a m 1 [2,3]} T->R t σ'):XU.c (aW Y.tr) a m U R:=by
 obtain⟨G,i,q,d,_,b⟩:=h.oD;refine WnI d a m λσ' e g=>?_;have:=b σ' _ (LD _ _ _ _ _) e g;exact hR σ' _ this.1 this.2
theorem dK.BP (h:dK U F Y A T)(k:Int){R:aN}(hR:∀σ' t,Ext F U σ'->dK σ' F Y {A with st:=jh A.st k} T->R t σ'):Yo.c (aW Y.tr) k U R:=by
 obtain⟨G,g,q,b,_,a⟩:=h.oD;refine Pd b k λσ' e d=>?_;have:=a σ' _ (Φ _ _) e d;exact hR σ' _ this.1 this.2
theorem dK.free (h:dK U F Y A T):∃sb ms,Go.Bu.BH U Y.fr A.n A.S sb ms/\∀(σ':Hp) (S:Nat->Bool),Ext (· ∈ ms) U σ'->Go.Bu.BH σ' Y.fr A.n S sb ms->Ext F U σ'/\dK σ' F Y {A with S:=S} T:=by
 obtain⟨G,g,⟨sb,ms,m,i⟩,_,d⟩:=h.step .free;have j:∀b,b∈ms->G b:=λb a=>i b (by unfold Go.Bu.fp;simp[a]);refine⟨sb,ms,m,λσ' S e p=>⟨e.sub λb a=>g b (j b a),?_⟩⟩;exact d σ' _ _ T G _ h.lay.CV h.tl Ed (e.sub j) (λb a=>.inl a) ⟨sb,ms,p,i⟩ (AY g λb a=>a)
theorem dK.xB (h:dK U F Y A T)(a m:Int){R:aN}(hR:∀σ' t,Ext F U σ'->dK σ' F Y {A with S:=Kg A.n A.S a m} T->R t σ'):Yt.c (aW Y.fr) a m U R:=by
 obtain⟨j,i,d,b⟩:=h.free;refine Go.Bu.rG d a m λσ' e g=>?_;have:=b σ' _ e g;exact hR σ' _ this.1 this.2
theorem dK.wU (h:dK U F Y A T)(a m:Int){R:Int->Int->Hp->Prop}(hR:∀σ',Ext F U σ'->dK σ' F Y {A with S:=Go.Bu.jl A.n A.S a m} T->R ((Go.Bu.ja A.n A.S a m:Nat):Int) (Go.Bu.je A.n A.S a m) σ'):XZ.c (aW Y.fr) a m U R:=by
 obtain⟨j,i,d,b⟩:=h.free;refine Go.Bu.ly d a m λσ' e g=>?_;have:=b σ' _ e g;exact hR σ' this.1 this.2
def rV (rs:List (Nat×Nat)):List Value:=rs.flatMap λr=>[.int .i64 (r.1:Int),.int .i64 (r.2:Int)]
theorem Ly (rs:List (Nat×Nat)):(rV rs).length=rs.length*2:=by
 induction rs with
 | nil=>rfl
 | cons x l ih=>simp only[rV,oy,zJ,zS,kr]at *;omega
theorem Pu {l:List (Nat×Nat)}{i:Nat}{r:Nat×Nat}(h:l[i]?=some r):(rV l)[2*i]?=some (.int .i64 (r.1:Int))/\(rV l)[2*i+1]?=some (.int .i64 (r.2:Int)):=by
 induction l generalizing i with
 | nil=>simp at h
 | cons x l ih=>
  have e:rV (x::l)=[.int .i64 (x.1:Int),.int .i64 (x.2:Int)]++rV l:=by simp[rV]
  rw[e];cases i with
  | zero=>simp at h;subst h;simp
  | succ i=>
   have:=ih (i:=i) (by simpa using h);rw[show 2*(i+1)=2*i+2 by omega];simpa using this
theorem Pp (c:cA)(l:List Nat):iT c l=rV (l.map λs=>(s,c.aG)):=by
 simp[iT,rV,List.flatMap_map]
theorem Te {s:Sl}{rs:List (Nat×Nat)}(h:cV s 2 (rV rs) U F){i:Nat}{r:Nat×Nat}(hr:rs[i]?=some r){K:Int->Int->Prop}(hK:K (r.1:Int) (r.2:Int)) :
 Ix s.a s.len (i:Int) 2 λa=>gM .i64 (a.add 0) U λu=>gM .i64 (a.add 1) U λw=>K u w:=by
 have m:=Pu hr;have hi:=(cX.1 hr).1;obtain⟨b,o,j,x⟩:=h.cell m.1;obtain⟨y,o1,d,g⟩:=h.cell m.2;rw[j]at d;cases d;have p:=h.1;rw[Ly]at p;rw[j];refine ix O O ?_;rw[add_lit];refine oM ?_ (oM ?_ hK)<;>rw[add_lit]
 ·rw[show o+(i:Int).toNat*2+0=o+2*i by omega];exact x
 ·rw[show o+(i:Int).toNat*2+1=o+(2*i+1) by omega];exact g
theorem dK.mono {G:Rg}(h:dK U F Y A T)(hs:∀b,b<U.size->F b->G b):dK U G Y A T:=dN.mono dK.loc h hs
theorem dK.cut (h:dK U F Y A T):dK U (Cut F U) Y A T:=dN.cut dK.loc h
theorem LV (A:AR)(rs:List (Nat×Nat))(r:Nat×Nat):UJ A (rs++[r])=Ul (UJ A rs) r:=by simp[UJ]
theorem I2 (h:dK U F Y A T){sl:Sl}{rs:List (Nat×Nat)}{X:Rg}(hs:cV sl 2 (rV rs) U X)(hX:∀b,b<U.size->X b->¬F b)(hl:rs.length<=1000000)(hb:∀r∈rs,r.1<=1000000){R:aP}
 (hR:∀σ',Ext F U σ'->dK σ' (Grow F U) Y (UJ A rs) T->R σ'):Yh.c (aW Y.p) sl U R:=by
 refine Yh.o ?_;unfold Yh.v;have S:sl.len=rs.length:=by have:=hs.1;rw[Ly]at this;omega
 have K:cV sl 2 (rV rs) U (Cut X U):=aH.cut hs;refine Qv (a:=bO) (λ(t:Int) v=>∃i:Nat,t=(i:Int)/\i<=rs.length/\Ext F U v/\dK v (Grow F U) Y (UJ A (rs.take i)) T) (λt _=>rs.length-t.toNat) ⟨0,rfl,O,Ext.refl _ _,by simpa[UJ]using h.mono λb _ hb=>.inl hb⟩ ?_;rintro t v ⟨i,rfl,hi,e,L⟩;refine cN (λaa=>?_) λhge=>?_
 ·have s:i<rs.length:=by omega
  have y:rs[i]?=some rs[i]:=cW s;have B:=hb _ (zt s);have J:=aH.bS K e λb M y x=>hX b M y.1 x;refine Te J y ?_;have N:rs.take (i+1)=rs.take i++[rs[i]]:=by rw[j6,y];rfl
  generalize rs[i]=r at *;refine nw (cs:=[.int .i64 0,.int .i64 0]) λv4 ab e4 H=>H.s1 aA λv5 o5 b5=>b5.s1 aA λv6 o6 W=>?_;have w:aF v v6:=Ext.fresh (Ext.fresh e4 o5.ext λi hi=>O) o6.ext λi hi=>by omega
  have u:=L.cut.bP w;have P:¬Cut (Grow F U) v v.size:=λx=>by have:=x.2;omega
  have g:bZ v6 v.size [.int .i64 (r.1:Int),.int .i64 (r.2:Int)]:=W;have z6:v.size<v6.size:=W.lt;refine bL (u.hd.rP rfl (g.rI rfl (g.rI rfl (u.Clear r.1 r.2 B λv7 t7 Z D=>?_))));have z:=Z.bV g P;have d:=D.mono (G:=λb=>Cut (Grow F U) v b\/v.size<b) λb _ hb=>by
   rcases hb with hb|hb
   ·exact .inl hb
   ·exact .inr O
  have E:¬(Cut (Grow F U) v v.size\/v.size<v.size):=λx=>by
   rcases x with h|h
   ·exact P h
   ·omega
  refine bL (d.hd.rP rfl (z.rI rfl (z.rI rfl (d.xX _ _ λv8 t8 Q j=>?_))));have V:=Q.bV z E;refine bL (j.hd.rP rfl (V.rI rfl (V.rI rfl (j.xB _ _ λv9 t9 e9 C=>?_))));have sub:∀b,(Cut (Grow F U) v b\/v.size<b)->Grow F U b:=λb hb=>by
   rcases hb with hb|hb
   ·exact hb.1
   ·exact .inr (by have:=e.1;omega)
  have ee:Ext F U v9:=((((e.trans (aF.to w)).jB (Z.sub λb hb=>hb.1))).jB (Q.sub sub)).jB (e9.sub sub);refine cT (m:=i+1) O O ⟨⟨i+1,rfl,O,ee,?_⟩,O⟩;rw[N,LV];exact C.mono λb _ hb=>sub b hb
 ·have:i=rs.length:=by omega
  subst this;rw[lL]at L;exact hR v e L
end Go.Ar
namespace Go.Proofs
open Go.Vc
set_option maxRecDepth 100000
def X0.h:Hn:=.q .o1 (.q (.q .o3 .aK) (.q .o1 (.q (.q .o5 (.k (.loop [(3,.I)] (.q (.cU (.seq [.it .i64 .p,.op])) (.q (.c .l .l) (.k (.q (.cU (.seq [.it .i64 .p,.op,.op,.op,.op])) (.oq 17)))))))) .aL)))
def X0.v (a:R2)(b:Hp)(c:aN):Prop:=Xu.c a b λd e=>If (!d) (c 0 e) (bJ a 2 e λg=>pz .i64 .p g e λh i=>X6 [bO] (λj=>j 0 i) λk (l:Int) m=>oT .i64 .p h m (c l m) (λn o p=>oY .i64 .p h p λq r=>bF a 0 p λt=>Ix t.a t.len q 3 λu=>aQ u 0 p λv=>bF r 0 p λx=>bM (v*((x.len:Nat):Int)) λy=>bM (l+y) λz=>k z p))
theorem X0.o {a b c}(d:X0.v a b c):X0.c a b c:=Wa Tryz.func90 (x:=X0.h) (R0 d)
def Xu.h:Hn:=.q .o1 (.q (.cU (.seq [.op,.op,.op,.cY true 5 (RI.ops 5),.op])) .l)
def Xu.v (a:R2)(b:Hp)(c:aO):Prop:=bX (λd e=>c d e) λf=>If (!a.isNone) (bJ a 2 b λh=>f (!h.isNone) b) (f false b)
theorem Xu.o {a b c}(d:Xu.v a b c):Xu.c a b c:=Wa Tryz.func132 (x:=Xu.h) (R0 d)
def KB.h:Hn:=.q .o2 (.q (.k (.q .o4 (.c .aL (.q (.cU (.seq [.op,.op,.op,.cY false 2 [.op,.op],.op])) .aJ)))) (.q .o8 .l))
def KB.v (a:Sl)(b:Int)(c:Hp)(d:Option Addr->Int->Hp->Prop):Prop:=ZZ.c a c λe f=>If (!e) (d none 2 f) (bX (λg h=>If g (d none 1 h) (Wo.c a h λi j=>Nw (.map #[] 0) j λk l=>aV #[.slice i.a i.len i.cap,.I b,.map (some k.block)] 188 l λm n=>d (some m) 0 n)) λo=>If (b<0) (o true f) (o (decide (b>65536)) f))
theorem KB.o {a b c d}(e:KB.v a b c d):KB.c a b c d:=Wa Tryz.func155 (x:=KB.h) (R0 e)
def Yj.h:Hn:=.q .o2 (.q .o8 (.q (.q .o2 (.c (.q .o3 .l) .l)) (.q (.q .o6 (.c (.q (.q .o9 (.q .o6 (.c .o8 (.o 11)))) .aL) .l)) (.q .o7 (.q .o8 (.q .fX (.q .fX (.q .o3 .l))))))))
def Yj.v (a:R2)(b:Int)(c:Hp)(d:Int->Int->Hp->Prop):Prop:=XD.c a b c λe f g=>If (f != 0) (d 0 f g) (bF e 0 g λi=>If (((i.len:Nat):Int)==0) (bF a 0 g λk=>Ix k.a k.len b 3 λl=>aQ l 2 g λm=>bE e 1 g λo=>If (o<m) (bE e 1 g λq=>bM (q+1) λr=>bW e λs=>aR s 1 (.I r) g λt=>d 0 4 t) (bE e 1 g λv=>bM (v+m) λw=>bW e λx=>aR x 1 (.I (if 128<w then 128 else w)) g λy=>d 0 4 y)) (bF e 0 g λaa=>bM (((aa.len:Nat):Int)-1) λab=>bF e 0 g λad=>Ix ad.a ad.len ab 1 λae=>bN ae g λaf=>bF e 0 g λah=>fD ah 1 0 ab (ah.cap:Nat) λai=>bW e λaj=>aR aj 0 (.slice ai.a ai.len ai.cap) g λak=>bE e 2 ak λam=>bW e λan=>aR an 2 (.I (if ab<am then ab else am)) ak λao=>d af 0 ao))
theorem Yj.o {a b c d}(e:Yj.v a b c d):Yj.c a b c d:=Wa Tryz.func166 (x:=Yj.h) (R0 e)
def Ym.h:Hn:=.q .o2 (.q .o8 (.q (.q .o2 (.c (.q .o3 .l) .l)) (.q (.oq 15) .l)))
def Ym.v (a:R2)(b:Int)(c:Hp)(d:Int->Int->Hp->Prop):Prop:=XD.c a b c λe f g=>If (f != 0) (d 0 f g) (bE e 1 g λi=>bF a 0 g λk=>Ix k.a k.len b 3 λl=>aQ l 2 g λm=>d (if m<i then m else i) 0 g)
theorem Ym.o {a b c d}(e:Ym.v a b c d):Ym.c a b c d:=Wa Tryz.func168 (x:=Ym.h) (R0 e)
def Yi.h:Hn:=.q .o1 (.q .o8 (.q (.q .o2 .aJ) (.q .o3 (.q .o2 (.q .o4 .l)))))
def Yi.v (a:R2)(b:Int)(c:Sl)(d:Hp)(e:aN):Prop:=XD.c a b d λf g h=>If (g != 0) (e g h) (W3.c c h λi j=>Xj.c i j λk=>Xi.c f i k λl m=>e l m)
theorem Yi.o {a b c d e}(f:Yi.v a b c d e):Yi.c a b c d e:=Wa Tryz.func173 (x:=Yi.h) (R0 f)
def YV.h:Hn:=.q .o2 (.q .o8 (.q (.q .o2 (.c (.q .o3 .l) .l)) (.q (.q .o5 (.q .o2 (.c (.q .o3 .l) .l))) (.q (.q (.oq 10) .aJ) (.q .o9 (.kI [] (.q .o6 (.c .o8 .l)) (.q (.o 11) .l)))))))
def YV.v (a:R2)(b c:Int)(d:Hp)(e:Sl->Int->Hp->Prop):Prop:=XD.c a b d λf g h=>If (g != 0) (e ⟨none,0,0⟩ g h) (aV #[.I c] 3 h λi j=>Xi.c f ⟨some i,1,1⟩ j λk l=>If (k != 0) (e ⟨none,0,0⟩ k l) (bF f 0 l λn=>bE f 1 l λp=>If (((n.len:Nat):Int)<=p) (e ⟨none,0,0⟩ 0 l) (bF a 0 l λr=>Ix r.a r.len b 3 λs=>aQ s 2 l λt=>Jn [] (λu=>bF f 0 u λw=>Xr.c f (if((w.len:Nat):Int)<t then((w.len:Nat):Int)else t) u λx y=>e x 0 y) λz=>bE f 1 l λab=>If (ab<t) (bE f 1 l λad=>bM (ad+1) λae=>bW f λaf=>aR af 1 (.I ae) l λag=>z ag) (z l))))
theorem YV.o {a b c d e}(f:YV.v a b c d e):YV.c a b c d e:=Wa Tryz.func176 (x:=YV.h) (R0 f)
def Yw.h:Hn:=.q .o1 (.q (.cU (.gI false [] [(2,.one .b)] (.take 0 (.all [(1,.take 2 (.split 5 (.tk [3,5,6,7] (.all [(4,.all [(8,.tk [9,10,11] (.done))]),(8,.all [(4,.tk [9,10,11] (.done))])])) (.tk [3,4,5,6,7,8,9,10,11] (.done))))])))) .l)
def Yw.v (a:R2)(b:Hp)(c:aO):Prop:=Jn [.b] (λ(d:Bool) e=>c d e) λf=>Xu.c a b λg h=>If g (bW a λi=>(X0.c a h λj k=>aQ i 1 k λl=>f (decide (j>l)) k) ∧ (aQ i 1 h λm=>X0.c a h λn o=>f (decide (n>m)) o)) (f false h)
theorem Yw.o {a b c}(d:Yw.v a b c):Yw.c a b c:=Wa Tryz.func177 (x:=Yw.h) (R0 d)
def Xo.h:Hn:=.q .o1 (.q .o3 .l)
def Xo.v (a:R2)(b:Hp)(c:Sl->Hp->Prop):Prop:=XB.c a ⟨241,#[],#[]⟩ b λd e=>c d e
theorem Xo.o {a b c}(d:Xo.v a b c):Xo.c a b c:=Wa Tryz.func178 (x:=Xo.h) (R0 d)
def X1.h:Hn:=.q .o1 (.q .o3 .l)
def X1.v (a:R2)(b:Hp)(c:Sl->Hp->Prop):Prop:=XB.c a ⟨243,#[],#[]⟩ b λd e=>c d e
theorem X1.o {a b c}(d:X1.v a b c):X1.c a b c:=Wa Tryz.func183 (x:=X1.h) (R0 d)
def XD.h:Hn:=.q .o2 (.q (.q .o3 .aJ) (.q .o4 (.q (.q .o2 .aJ) (.q .o3 .l))))
def XD.v (a:R2)(b:Int)(c:Hp)(d:Option Addr->Int->Hp->Prop):Prop:=Xu.c a c λe f=>If (!e) (d none 5 f) (ZK.c a b f λg h=>If g.isNone (d none 1 h) (d g 0 h))
theorem XD.o {a b c d}(e:XD.v a b c d):XD.c a b c d:=Wa Tryz.func229 (x:=XD.h) (R0 e)
def Xi.h:Hn:=.q .o1 (.q (.q .o9 .aK) (.q (.o 11) .aM))
def Xi.v (a:R2)(b:Sl)(c:Hp)(d:aN):Prop:=bF a 0 c λf=>bM (((f.len:Nat):Int)+((b.len:Nat):Int)) λg=>If (g>256) (d 6 c) (bF a 0 c λi=>XA.c i c λj k=>App j 1 8 3 [.I 0] b k λl m=>bW a λn=>aR n 0 (.slice l.a l.len l.cap) m λo=>d 0 o)
theorem Xi.o {a b c d}(e:Xi.v a b c d):Xi.c a b c d:=Wa Tryz.func237 (x:=Xi.h) (R0 e)
def Xr.h:Hn:=.q .o1 (.q .o8 (.q (.o 11) (.q (.cU (.tail 13 (RI.ops 13) [.op])) .aL)))
def Xr.v (a:R2)(b:Int)(c:Hp)(d:Sl->Hp->Prop):Prop:=bF a 0 c λf=>fD f 1 0 b (f.cap:Nat) λg=>W3.c g c λh i=>bF a 0 i λk=>fD k 1 b (k.len:Nat) (k.cap:Nat) λl=>W3.c l i λm n=>bW a λo=>aR o 0 (.slice m.a m.len m.cap) n λp=>bE a 2 p λr=>bF a 0 p λt=>bW a λu=>aR u 2 (.I (if((t.len:Nat):Int)<r then((t.len:Nat):Int)else r)) p λv=>d h v
theorem Xr.o {a b c d}(e:Xr.v a b c d):Xr.c a b c d:=Wa Tryz.func239 (x:=Xr.h) (R0 e)
def XB.h:Hn:=.q .o1 (.q (.q .o3 .aK) (.q .o1 (.q (.q .o5 (.k (.loop [(5,.one .s)] (.q (.cU (.seq [.it .i64 .p,.op])) (.q (.c .l .l) (.k (.q (.cU (.seq [.it .i64 .p,.op,.op,.op,.op])) (.q (.o 12) (.q .o3 (.c .o7 .l)))))))))) (.q .o2 .aL))))
def XB.v (a:R2)(b:Fv)(c:Hp)(d:Sl->Hp->Prop):Prop:=Xu.c a c λe f=>If (!e) (d ⟨none,0,0⟩ f) (bJ a 2 f λh=>pz .i64 .p h f λi j=>X6 [.s] (λk=>k ⟨none,0,0⟩ j) λl (m:Sl) n=>oT .i64 .p i n (Qy.c m ⟨298,#[],#[]⟩ n λo=>d m o) (λp q r=>oY .i64 .p i r λs t=>bF a 0 r λv=>Ix v.a v.len s 3 λw=>aQ w 2 r λx=>VU Tryz.prog b [.pointer t,.I x] [.one .s] r λy z=>If (((y.len:Nat):Int)>0) (aV #[.I s,.slice y.a y.len y.cap] 147 z λaa ab=>App m 2 32 147 [.I 0,.slice none 0 0] ⟨some aa,1,1⟩ ab λac ad=>l ac ad) (l m z)))
theorem XB.o {a b c d}(e:XB.v a b c d):XB.c a b c d:=Wa Tryz.func240 (x:=XB.h) (R0 e)
def XN.h:Hn:=.q .o1 (.q .o9 (.kI [] (.q .o6 (.c (.o 12) .l)) (.q .o9 .aL)))
def XN.v (a:R2)(b:Int)(c:Hp)(d:Sl->Hp->Prop):Prop:=bE a 2 c λf=>bM (f+1) λg=>Nz 2<|bM (g.tdiv 2) λh=>Xr.c a h c λi j=>Jn [] (λk=>bF a 0 k λm=>bW a λn=>aR n 2 (.I ((m.len:Nat):Int)) k λo=>d i o) λp=>bE a 1 j λr=>If (r>b) (bE a 1 j λt=>bM (t-b) λu=>bW a λv=>aR v 1 (.I (if b>u then b else u)) j λw=>p w) (p j)
theorem XN.o {a b c d}(e:XN.v a b c d):XN.c a b c d:=Wa Tryz.func241 (x:=XN.h) (R0 e)
def YO.h:Hn:=.q .o1 (.q .o8 .l)
def YO.v (a:R2)(b:Int)(c:Hp)(d:Sl->Hp->Prop):Prop:=bF a 0 c λf=>Xr.c a ((f.len:Nat):Int) c λg h=>d g h
theorem YO.o {a b c d}(e:YO.v a b c d):YO.c a b c d:=Wa Tryz.func243 (x:=YO.h) (R0 e)
def ZK.h:Hn:=.q .o1 (.q (.q (.cU (.seq [.op,.op,.op,.op,.cY false 2 [.op,.op],.op,.cY false 7 (RI.ops 7)])) .aK) (.kI [] (.q .o7 (.c .o8 .l)) (.q .o7 .l)))
def ZK.v (a:R2)(b:Int)(c:Hp)(d:Option Addr->Hp->Prop):Prop:=Xu.c a c λe f=>bX (λg h=>bX (λi j=>If i (d none j) (Jn [] (λk=>bJ a 2 k λm=>Lk .i64 .p m b k λn=>d (n.getD none) k) λo=>bW a λp=>bC p 2 j λq=>Lk .i64 .p q b j λr=>If ((r.getD none).isNone) (bJ a 2 j λt=>aV #[.slice none 0 0,.I 1,.I 0] 191 j λu v=>kD .i64 .p t b (some u) v λw=>o w) (o j))) λx=>If g (x true h) (bF a 0 h λz=>x (decide (b≥((z.len:Nat):Int))) h)) λaa=>If (!e) (aa true f) (aa (decide (b<0)) f)
theorem ZK.o {a b c d}(e:ZK.v a b c d):ZK.c a b c d:=Wa Tryz.func281 (x:=ZK.h) (R0 e)
end Go.Proofs
namespace Go.Ar
open Go Go.Vc Go.Proofs
theorem cV.sub {U:Hp}{F:Rg}{s:Sl}{sz:Nat}{xs:List Value}(h:cV s sz xs U F){lo hi mx:Nat}(h1:lo<=hi)(h2:hi<=s.len)(h3:hi<=mx) :
 cV ⟨if mx=lo then s.a else s.a.map (·.add (lo*sz)),hi-lo,mx-lo⟩ sz ((xs.drop (lo*sz)).take ((hi-lo)*sz)) U F:=by
 have g:=h.1;have e1:hi*sz<=s.len*sz:=mA _ h2;have e2:(hi-lo)*sz=hi*sz-lo*sz:=Nat.sub_mul _ _ _;have i:lo*sz<=hi*sz:=mA _ h1;refine⟨by rw[zY,ky];simp only;omega,?_⟩;by_cases hm:mx=lo
 ·left;have:hi-lo=0:=by omega
  rw[this,vG,vA]
 ·rcases h.2 with h0|⟨b,o,cs,hb,ha,hq,hc⟩
  ·left;subst h0;simp
  ·refine .inr ⟨b,o+lo*sz,cs,hb,?_,hq,λj d=>?_⟩
   ·simp only[zB hm,ha,ze,add_lit]
   ·rw[zY,ky]at d;rw[wF,hc _ O,zm,lg,zC O]
inductive uL where
 | hd|dF|mp
 | li (k:Nat)
 deriving DecidableEq
structure hU where
 p:Nat
 m:Nat
 dF:Sl
 ps:List (Nat×Nat)
def jb (ps:List (Nat×Nat))(k:Nat):Option Nat:=(ps.find? λx=>x.1==k).map (·.2)
def kf (ps:List (Nat×Nat)):List (Int×Option Addr):=ps.map λx=>((x.1:Int),some ⟨x.2,0,none⟩)
def nC (s:Sl)(l:Li):List Value:=[.slice s.a s.len s.cap,.int .i64 (l.lim:Int),.int .i64 (l.low:Int)]
def jj (b:Nat)(l:Li):Hp->Rg->Prop:=λU F=>F b/\fO l/\∃s:Sl,bZ U b (nC s l)/\cV s 1 (Wy l.os) U (λq=>F q/\q≠b)/\s.len<=s.cap
def pA (b:Option Nat)(l:Option Li):Hp->Rg->Prop:=λU F=>match b,l with
 | some b,some l=>jj b l U F
 | none,some l=>l=iy
 | _,none=>True
def Ei (Y:hU)(bud:Nat):List Value:=[.slice Y.dF.a Y.dF.len Y.dF.cap,.int .i64 (bud:Int),.map (some Y.m)]
def CC (tb:List cA)(bud:Nat)(ls:List Li)(Y:hU):uL->Hp->Rg->Prop
 | .hd=>iE Y.p (Ei Y bud)
 | .dF=>cV Y.dF 3 (gH tb)
 | .mp=>jQ Y.m .i64 .p (kf Y.ps)
 | .li k=>pA (jb Y.ps k) ls[k]?
theorem jj.loc (b:Nat)(l:Li):dN (jj b l):=by
 rintro U y F G ⟨w,u,s,j,x,p⟩ r a;have i:=a b j.lt w;obtain⟨e,m⟩:=j;exact⟨i.1,u,s,⟨e,i.2.trans m⟩,cV.loc _ _ _ _ _ _ _ x r λq g d=>⟨⟨(a q g d.1).1,d.2⟩,(a q g d.1).2⟩,p⟩
theorem pA.loc (b:Option Nat)(l:Option Li):dN (pA b l):=by
 intro U σ' F G h hz hs;unfold pA at *;split at h
 ·exact jj.loc _ _ _ _ _ _ h hz hs
 ·exact h
 ·trivial
theorem CC.loc {tb:List cA}{bud:Nat}{ls:List Li}{Y:hU}:∀i,dN (CC tb bud ls Y i)
 | .hd=>iE.loc _ _
 | .dF=>cV.loc _ _ _
 | .mp=>jQ.loc _ _ _ _
 | .li k=>pA.loc _ _
structure eN (U:Hp) (F:Rg) (Y:hU) (tb:List cA) (bud:Nat) (ls:List Li):Prop where
 nQ:tb.length<=40
 ok:∀c∈tb,c.ok
 len:ls.length=tb.length
 keys:∀x∈Y.ps,x.1<tb.length
 sep:Sep (CC tb bud ls Y) U F
variable {U:Hp}{F G:Rg}{Y:hU}{tb:List cA}{bud:Nat}{ls:List Li}{b k:Nat}{l:Li}
theorem eN.loc:dN λU F=>eN U F Y tb bud ls:=λU d F G h a b=>⟨h.nQ,h.ok,h.len,h.keys,Sep.loc CC.loc _ _ _ _ h.sep a b⟩
theorem eN.bP {σ':Hp}(h:eN U F Y tb bud ls)(e:aF U σ'):eN σ' F Y tb bud ls:=dN.bP eN.loc h e
theorem eN.hd (h:eN U F Y tb bud ls):bZ U Y.p (Ei Y bud):=by
 obtain⟨G,b,a⟩:=h.sep.get .hd;exact a.2
theorem eN.jN (h:eN U F Y tb bud ls):cV Y.dF 3 (gH tb) U F:=by
 obtain⟨G,d,a⟩:=h.sep.get .dF;exact aH.mono a λb _ a=>d b a
theorem eN.pt (h:eN U F Y tb bud ls):Y.dF.len=tb.length:=by
 have:=h.jN.1;rw[UA]at this;omega
theorem eN.map (h:eN U F Y tb bud ls):dJ U Y.m .i64 .p (kf Y.ps):=by
 obtain⟨G,b,a⟩:=h.sep.get .mp;exact a.2
theorem Ej (ps:List (Nat×Nat))(k:Nat):bU (α:=Option Addr) (kf ps) (k:Int)=(jb ps k).map λb=>some ⟨b,0,none⟩:=by
 induction ps with
 | nil=>rfl
 | cons x l ih=>
  simp only[bU,kf,jb,zR,vB]at *;have e:(((x.1:Nat):Int)==(k:Int))=(x.1==k):=mg _ _;rw[e];cases x.1==k
  ·exact ih
  ·rfl
theorem IF {ps:List (Nat×Nat)}(h:jb ps k=none):∀x∈ps,x.1≠k:=by
 unfold jb at h;simp only[sW,oI,zU]at h;exact h
theorem OV {ps:List (Nat×Nat)}(h:jb ps k=none)(b:Nat):dA (α:=Option Addr) (kf ps) (k:Int) (some ⟨b,0,none⟩)=kf (ps++[(k,b)]):=by
 unfold dA;rw[zB]
 ·simp[kf]
 ·simp only[kf,List.any_map,jV,Function.comp,zU,not_exists,not_and];intro x hx e;exact IF h x hx O
theorem U7 {ps:List (Nat×Nat)}(h:jb ps k=none)(b j:Nat):jb (ps++[(k,b)]) j=if j=k then some b else jb ps j:=by
 have a:=IF h;unfold jb at *;rw[List.find?_append];by_cases hj:j=k
 ·subst hj;have:ps.find? (λx=>x.1==j)=none:=by simpa using h
  rw[this];simp
 ·rw[zB hj];cases hf:ps.find? (λx=>x.1==j)with
  | none=>
   have:(k==j)=false:=by simpa using λe=>hj e.symm
   simp[this]
  | some x=>simp
theorem JK {ps:List (Nat×Nat)}(hn:((kf ps).map (·.1)).Nodup)(h:(k,b)∈ps):jb ps k=some b:=by
 induction ps with
 | nil=>simp at h
 | cons x l ih=>
  simp only[kf,zR,zr]at hn;unfold jb;rw[vB];rcases zW.1 h with rfl|h
  ·simp
  ·have:(x.1==k)=false:=by
    have:x.1≠k:=λe=>hn.1 (zD.2 ⟨(((k:Nat):Int),some ⟨b,0,none⟩),zD.2 ⟨(k,b),h,rfl⟩,by rw[e]⟩);simpa using this
   rw[this];exact ih hn.2 h
theorem HG (h:eN U F Y tb bud ls){R:aO}(hR:R true U):Xu.c (aW Y.p) U R:=by
 refine Xu.o ?_;unfold Xu.v;exact bX.intro (cF rfl (bL (h.hd.rM rfl hR)))
theorem eN.xS (h:eN U F Y tb bud ls)(hb:jb Y.ps k=some b)(hl:ls[k]?=some l):∃G:Rg,(∀q,G q->F q)/\jj b l U G/\¬G Y.m ∧
 ∀(σ':Hp) (l':Li) (G':Rg),Ext G U σ'->(∀q,G' q->Grow G U q)->jj b l' σ' G'->Ext F U σ'/\eN σ' (λq=>F q/\q<U.size/\¬G q\/G' q) Y tb bud (ls.set k l'):=by
 have i:=(cX.1 hl).1;obtain⟨G,r,hi,d,a⟩:=h.sep.ke CC.loc (.li k);have hi:jj b l U G:=by
  simp only[CC,pA,hb,hl]at hi;exact hi
 have p:¬G Y.m:=by
  obtain⟨H,_,hd,g⟩:=d .mp (by intro e;cases e);exact hd _ g.1
 refine⟨G,r,hi,p,λσ' l' G' e u w=>⟨e.sub r,h.nQ,h.ok,by rw[oP];exact h.len,h.keys,?_⟩⟩;refine a σ' (CC tb bud (ls.set k l') Y) G' (λj s=>?_) e u ?_ (CC.loc _)
 ·cases j<;>try rfl
  rename_i m;have p:m≠k:=λe=>s (by rw[e]);simp only[CC,zh (Ne.symm p)]
 ·simp only[CC,pA,hb,zO i];exact w
theorem eN.mono (h:eN U F Y tb bud ls)(hs:∀q,q<U.size->F q->G q):eN U G Y tb bud ls:=dN.mono eN.loc h hs
theorem eN.cut (h:eN U F Y tb bud ls):eN U (Cut F U) Y tb bud ls:=dN.cut eN.loc h
theorem eN.eY {v:Hp}(h:eN v (Grow F U) Y tb bud ls)(e0:Ext F U v)(hb:jb Y.ps k=some b)(hl:ls[k]?=some l):∃G:Rg,jj b l v G ∧
 ∀(σ':Hp) (l':Li) (G':Rg),Ext G v σ'->(∀q,G' q->Grow G v q)->jj b l' σ' G'->Ext F U σ'/\eN σ' (Grow F U) Y tb bud (ls.set k l'):=by
 obtain⟨G,j,p,_,a⟩:=h.xS hb hl;refine⟨G,p,λσ' l' G' e i g=>?_⟩;obtain⟨e1,m⟩:=a σ' l' G' e i g;refine⟨e0.jB e1,m.mono λq _ d=>?_⟩;have:=e0.1;rcases d with d|d
 ·exact d.1
 ·rcases i q d with h2|h2
  ·exact j q h2
  ·exact .inr O
theorem Nm (h:eN U F Y tb bud ls)(hk:k<tb.length){R:Option Addr->Hp->Prop}(hR:∀σ' Y' b,Ext F U σ'->Y'.p=Y.p->jb Y'.ps k=some b->eN σ' (Grow F U) Y' tb bud ls->R (some ⟨b,0,none⟩) σ') :
 ZK.c (aW Y.p) (k:Int) U R:=by
 refine ZK.o ?_;unfold ZK.v;have A:k<ls.length:=by rw[h.len];exact hk
 have z:ls[k]?=some ls[k]:=cW A;generalize ls[k]=l at z;have N:=h.pt;refine HG h (bX.intro (cD rfl ?_));refine bX.intro (gA O (bL (h.hd.rS rfl ?_)));refine gA aC ?_;refine Jn.intro (bL (h.hd.rM rfl ⟨_,h.map,?_⟩));rw[Ej];cases hf:jb Y.ps k with
 | some b=>
  refine cD rfl (bL (h.hd.rM rfl ⟨_,h.map,?_⟩));rw[Ej,hf];exact hR U Y b (Ext.refl _ _) rfl hf (h.mono λq _ a=>.inl a)
 | none=>
  refine cF rfl (bL (h.hd.rM rfl (nw (cs:=[.slice none 0 0,.int .i64 1,.int .i64 0]) λv P e y=>?_)));obtain⟨G,H,i,Q,hd,hi,u,s⟩:=h.cut.sep.pF CC.loc .mp (.li k) (by intro e;cases e);have J:∀q,G q->F q:=λq a=>(i q a).1;have hi:jQ Y.m .i64 .p (kf Y.ps) U G:=hi;have u:l=iy:=by
   simp only[CC,pA,hf,z]at u;exact u
  have L:=hi.2.lt;have w:dJ v Y.m .i64 .p (kf Y.ps):=e.fV hi.2 id;refine⟨Y.m,_,rfl,w,λv2 B r=>?_⟩;rw[OV hf]at r;have e2:Ext F U v2:=(aF.to e).only B (.inl (J _ hi.1));have E:Ext (λq=>G q\/H q) U v2:=(aF.to e).only B (.inl (.inl hi.1));have C:bZ v2 U.size [.slice none 0 0,.int .i64 1,.int .i64 0]:=WE B y O;have d:eN v2 (Grow F U) {Y with ps:=Y.ps++[(k,U.size)]} tb bud ls:=by
   refine⟨h.nQ,h.ok,h.len,λx g=>?_,?_⟩
   ·rcases zK.1 g with g|g
    ·exact h.keys x g
    ·simp only[zN]at g;subst g;exact hk
   refine(Sep.loc CC.loc).mono (s v2 (CC tb bud ls {Y with ps:=Y.ps++[(k,U.size)]}) G (· = U.size) (λj D K=>?_) E (λq a=>.inl (.inl a)) (λq a=>.inr O) (λq D K=>?_) ⟨hi.1,r⟩ ?_ CC.loc) λq _ a=>?_
   ·cases j<;>first|rfl|exact absurd rfl D|skip
    rename_i m;have M:m≠k:=λe=>K (by rw[e]);simp only[CC,U7 hf,zB M]
   ·have:=(i q D).2;omega
   ·simp only[CC,U7 hf,zT,z,u,pA];exact⟨rfl,fO.nil,⟨none,0,0⟩,C,cV.nil _ _ _ _,zE _⟩
   ·rcases a with a|a|a
    ·exact .inl a.1.1
    ·exact .inl (J q a)
    ·exact .inr O
  refine bL (d.hd.rM rfl ⟨_,d.map,?_⟩);rw[Ej,U7 hf,zC rfl];exact hR v2 {Y with ps:=Y.ps++[(k,U.size)]} U.size e2 rfl (by show jb (Y.ps++[(k,U.size)]) k=_;rw[U7 hf,zC rfl]) d
theorem yZ (h:eN U F Y tb bud ls)(hk:k<tb.length){R:Option Addr->Int->Hp->Prop}(hR:∀σ' Y' b,Ext F U σ'->Y'.p=Y.p->jb Y'.ps k=some b->eN σ' (Grow F U) Y' tb bud ls->R (some ⟨b,0,none⟩) 0 σ') :
 XD.c (aW Y.p) (k:Int) U R:=by
 refine XD.o ?_;unfold XD.v;exact HG h (cD rfl (Nm h hk λσ' Y' b e d g a=>cD rfl (hR σ' Y' b e d g a)))
theorem bT.pv {s:Sl}{sz:Nat}{xs:List Value}(h:bT s sz xs U F):s.len<=s.cap:=by
 rcases h.2 with⟨q1,q2⟩|⟨_,_,_,_,_,q,_⟩
 ·omega
 ·exact q
theorem GJ (h:jj b l U G){m:Nat}(hm:m<=l.os.length){R:Sl->Hp->Prop}
 (hR:∀s z σ',Ext (· = b) U σ'->U.size<=z->bT s 1 (Wy (l.os.take m)) σ' (λq=>U.size<=q/\q<z)->jj b (gJ m l).2 σ' (λq=>q=b\/z<=q)->R s σ') :
 Xr.c (aW b) (m:Int) U R:=by
 refine Xr.o ?_;unfold Xr.v;obtain⟨X,a,s,C,E,Y⟩:=h;have V:s.len=l.os.length:=by have:=E.1;simp[Wy]at this;omega
 have A:=a.many;have L:=a.low;have j:=cV.sub E (lo:=0) (hi:=m) (mx:=s.cap) O O O;have e1:((Wy l.os).drop (0*1)).take ((m-0)*1)=Wy (l.os.take m):=by simp[Wy]
 rw[e1]at j;refine bL (C.rS rfl (jA (lo:=0) O aC aC (Gh j Uk aC λs1 M N y K=>?_)));have p:=y.bV C id;have H:=aH.bP E y;have i:=cV.sub H (lo:=m) (hi:=s.len) (mx:=s.cap) O O O;have e2:((Wy l.os).drop (m*1)).take ((s.len-m)*1)=Wy (l.os.drop m):=by
  rw[lN (by simp[Wy];omega)];simp[Wy]
 rw[e2]at i;refine bL (p.rS rfl (jA aC aC aC (Gh i Uk aC λs2 P F D w=>?_)));have J:=D.bV p id;refine bL (J.s1 (by simp[nC]) λv3 o3 d=>bL (d.rI rfl (bL (d.rS rfl (bL (d.s1 (by simp[nC]) λv4 o4 x=>?_))))));have g:Ext (· = b) P v4:=o3.ext.trans o4.ext;have Q:=C.lt;have B:=y.1;have r:s2.len=l.os.length-m:=by rw[F];simp only;omega
 refine hR s1 M.size v4 ((aF.to (y.trans D)).trans g) B ?_ ⟨.inl rfl,Ah a,s2,?_,?_,bT.pv w⟩
 ·refine aI.bS (aI.bP (aI.mono K (G:=λq=>U.size<=q/\q<M.size) λq u W=>⟨W,u⟩) D) g λq _ u S=>by omega
 ·have:(if((s2.len:Nat):Int)<(l.low:Int)then((s2.len:Nat):Int)else(l.low:Int))=((min l.low (l.os.length-m):Nat):Int):=by rw[r];split<;>omega
  rw[this]at x;exact x
 ·refine aH.mono (aH.bS w.fW g λq _ u S=>O) λq _ u=>⟨.inr u,O⟩
theorem OD (h:jj b l U G){sl:Sl}{xs:List Int}{X:Rg}(hs:cV sl 1 (Wy xs) U X)(hx:xs≠[])(hfit:l.os.length+xs.length<=256){R:aN}
 (hR:∀σ',Ext (· = b) U σ'->jj b (eJ xs l) σ' (λq=>q=b\/U.size<=q)->R 0 σ'):Xi.c (aW b) sl U R:=by
 refine Xi.o ?_;unfold Xi.v;obtain⟨H,p,s,g,d,J⟩:=h;have F:s.len=l.os.length:=by have:=d.1;simp[Wy]at this;omega
 have E:sl.len=xs.length:=by have:=hs.1;simp[Wy]at this;omega
 have x:=pY.2 hx;have z:eJ xs l = {l with os:=l.os++xs}:=by unfold eJ;rw[zB O]
 refine bL (g.rS rfl (cT (m:=l.os.length+xs.length) aC O (gA O (bL (g.rS rfl ?_)))));refine XA.o ?_;unfold XA.v;refine jA (lo:=0) aC aC aC ?_;have D:=g.lt;refine⟨Wy l.os,Wy xs,by simp[Wy];omega,by simp[Wy];omega,?_,hs.rd,Uk,?_,by simp only;omega,λi=>by simp only at i;omega,λy c u=>?_⟩
 ·by_cases h0:s.len=0
  ·have:l.os=[]:=C1.1 O;rw[this];simp only[h0,zT];cases s.a<;>simp[Rd,Wy]
  ·simp only[zB h0,vG];have:=d.rd;cases ha:s.a with
   | none=>rw[ha]at this;simpa[Rd]using this
   | some a=>rw[ha]at this;simpa[Rd,Addr.add_zero']using this
 ·simp only;have:(s.len-0+sl.len)*8<=256*8:=mD O O;omega
 ·refine nw λv K e r=>bL ((e.bV g id).s1 (by simp[nC]) λC o2 w=>?_);have A:l.os.length+xs.length<=c:=by simp only at u;omega
  refine hR C ((aF.to e).trans o2.ext) ?_;rw[z];have:=AM (xs:=xs) p;rw[z]at this;refine⟨.inl rfl,this,⟨some ⟨U.size,0,none⟩,s.len-0+sl.len,c⟩,w,⟨by simp[Wy];omega,.inr ⟨U.size,0,_,⟨.inr (zE _),O⟩,rfl,(WE o2 r O).q,λj B=>?_⟩⟩,by simp only;omega⟩;simp only[Wy,zk,zJ]at B;rw[zH,zl,←zl,zd (by simp[Wy];omega)];simp[Wy]
theorem PI (h:jj b l U G){sl:Sl}{xs:List Int}{X:Rg}(hs:cV sl 1 (Wy xs) U X)(hfit:¬l.os.length+xs.length<=256)(hxs:xs.length<=1000000){R:aN}
 (hR:R 6 U):Xi.c (aW b) sl U R:=by
 refine Xi.o ?_;unfold Xi.v;obtain⟨p,a,s,i,d,r⟩:=h;have j:s.len=l.os.length:=by have:=d.1;simp[Wy]at this;omega
 have g:sl.len=xs.length:=by have:=hs.1;simp[Wy]at this;omega
 have:=a.many;exact bL (i.rS rfl (cT (m:=l.os.length+xs.length) aC O (l9 O hR)))
end Go.Ar
namespace Go.Ar
open Go Go.Vc Go.Proofs
variable {U:Hp}{F G:Rg}{Y:hU}{tb:List cA}{bud:Nat}{ls:List Li}{b k:Nat}{l:Li}{c:cA}
theorem eN.cls (h:eN U F Y tb bud ls)(hc:tb[k]?=some c):c.ok/\k<tb.length:=⟨h.ok c (zG hc),(cX.1 hc).1⟩
theorem jj.st {v:Hp}(h:jj b l U G){s:Sl}{l':Li}(ho:Ext (· = b) U v)(hb:bZ v b (nC s l'))(hs:cV s 1 (Wy l'.os) U (λq=>G q/\q≠b))(hc:s.len<=s.cap)(ok:fO l'):jj b l' v G:=
 ⟨h.1,ok,s,hb,aH.bS hs ho λq _ d a=>d.2 a,hc⟩
theorem ly (h:eN U F Y tb bud ls)(hc:tb[k]?=some c)(hl:ls[k]?=some l){R:Int->Int->Hp->Prop}
 (hR:∀σ' Y',Ext F U σ'->Y'.p=Y.p->eN σ' (Grow F U) Y' tb bud (ls.set k (KN c l).2)->R ((KN c l).1.getD 0) (if(KN c l).1.isSome then 0 else 4) σ'):Yj.c (aW Y.p) (k:Int) U R:=by
 obtain⟨w,hk⟩:=h.cls hc;refine Yj.o ?_;unfold Yj.v;refine yZ h hk λv Y' b e hp hb V=>cD rfl ?_;obtain⟨G,hL,E⟩:=V.eY e hb hl;have A:=hL;obtain⟨N,i,s,g,D,r⟩:=hL;have J:=V.hd;rw[hp]at J;have W:s.len=l.os.length:=by have:=D.1;simp[Wy]at this;omega
 have o1:=i.low;have o2:=i.many;have o3:=i.lim;have o4:=i.nW;have a:=Ft w i;have fin:∀v' G',Ext G v v'->(∀q,G' q->Grow G v q)->jj b (KN c l).2 v' G'->R ((KN c l).1.getD 0) (if(KN c l).1.isSome then 0 else 4) v':=λv' G' S hg P=>by
  obtain⟨e2,h2⟩:=E v' _ G' S hg P;exact hR v' Y' e2 hp h2
 unfold cA.ok at w;have z:∀{v':Hp},Ext (· = b) v v'->Ext G v v':=λS=>S.sub λq y=>by rw[y];exact N
 refine bL (g.rS rfl ?_);by_cases h0:l.os=[]
 ·have e1:(KN c l).1=none:=by unfold KN;rw[h0];rfl
  have e2:(KN c l).2=if l.lim<c.batch then{l with lim:=l.lim+1}else{l with lim:=min (l.lim+c.batch) 128}:=by unfold KN;rw[h0];rfl
  rw[e1,e2]at fin;rw[e2]at a;refine cF (by simp[W,h0]) (bL (J.rS rfl (uh V.jN hc (d:=2) O ?_)));simp only[zB (show ¬(2=0) by omega),zB (show ¬(2=1) by omega)];refine bL (g.rI rfl (cN (λc1=>?_) λc1=>?_))
  ·have B:l.lim<c.batch:=by omega
   rw[zC B]at fin a;refine bL (g.rI rfl (cT (m:=l.lim+1) O O (bL (g.s1 (by simp[nC]) λv' L j=>?_))));exact fin v' G (z L.ext) (λq y=>.inl y) (A.st L.ext j D r a)
  ·have B:¬l.lim<c.batch:=by omega
   rw[zB B]at fin a;refine bL (g.rI rfl (cT (m:=l.lim+c.batch) O O (bL (g.s1 (by simp[nC]) λv' L j=>?_))));refine fin v' G (z L.ext) (λq y=>.inl y) (A.st L.ext ?_ D r a);have:(if(128:Int)<((l.lim+c.batch:Nat):Int)then(128:Int)else((l.lim+c.batch:Nat):Int))=((min (l.lim+c.batch) 128:Nat):Int):=by split<;>omega
   rw[this]at j;exact j
 ·have Z:=pY.2 h0;obtain⟨x,hx⟩:∃x,l.os[l.os.length-1]?=some x:=⟨_,cW O⟩;have M:l.os.getLast?=some x:=by rw[List.getLast?_eq_getElem?];exact hx
  have e1:(KN c l).1=some x:=by unfold KN;rw[M]
  have e2:(KN c l).2 = {l with os:=l.os.dropLast,low:=min l.low (l.os.length-1)}:=by unfold KN;rw[M]
  rw[e1,e2]at fin;rw[e2]at a;refine cD (by simp only[mX];omega) ?_;refine bL (g.rS rfl (cT (m:=l.os.length-1) aC O (bL (g.rS rfl (D.lQ hx (bL (g.rS rfl ?_)))))));have u:=cV.sub D (lo:=0) (hi:=l.os.length-1) (mx:=s.cap) O O O;have ed:((Wy l.os).drop (0*1)).take ((l.os.length-1-0)*1)=Wy l.os.dropLast:=by simp[Wy,yU]
  rw[ed]at u;refine jA (lo:=0) O aC aC (bL (g.s1 (by simp[nC]) λv1 X K=>bL (K.rI rfl (bL (K.s1 (by simp[nC]) λv2 Q H=>?_)))));have C:=X.ext.trans Q.ext;refine fin v2 G (z C) (λq y=>.inl y) (A.st C ?_ u aC a);have:(if((l.os.length-1:Nat):Int)<(l.low:Int)then((l.os.length-1:Nat):Int)else(l.low:Int))=((min l.low (l.os.length-1):Nat):Int):=by split<;>omega
  rw[this]at H;exact H
theorem Β (h:eN U F Y tb bud ls)(hc:tb[k]?=some c)(hl:ls[k]?=some l){R:Int->Int->Hp->Prop}
 (hR:∀σ' Y',Ext F U σ'->Y'.p=Y.p->eN σ' (Grow F U) Y' tb bud ls->R ((pR c l:Nat):Int) 0 σ'):Ym.c (aW Y.p) (k:Int) U R:=by
 obtain⟨u,x⟩:=h.cls hc;refine Ym.o ?_;unfold Ym.v;refine yZ h x λv Y' b e m z g=>cD rfl ?_;obtain⟨G,A,j⟩:=g.eY e z hl;obtain⟨w,y,s,i,B,r⟩:=A;have a:=g.hd;rw[m]at a;refine bL (i.rI rfl (bL (a.rS rfl (uh g.jN hc (d:=2) O ?_))));simp only[zB (show ¬(2=0) by omega),zB (show ¬(2=1) by omega)];have:(if(c.batch:Int)<(l.lim:Int)then(c.batch:Int)else(l.lim:Int))=((pR c l:Nat):Int):=by unfold pR;split<;>omega
 rw[this];exact hR v Y' e m g
theorem OW (l:List Int)(i:Nat)(h:i<l.length):l.reverse[i]?=l[l.length-1-i]? := by
 rw[List.getElem?_reverse h]
theorem MN {s:Sl}{xs:List Int}(h:bT s 1 (Wy xs) U F)(hlen:xs.length<=1000000){R:aP}(hR:∀σ',Ext F U σ'->bT s 1 (Wy xs.reverse) σ' F->R σ'):Xj.c s U R:=by
 refine Xj.o ?_;unfold Xj.v;have Q:s.len=xs.length:=by have:=h.1;simp[Wy]at this;omega
 let jm (i:Nat):List Int:=(List.range xs.length).map λj=>if j<i\/xs.length-i<=j then xs.getD (xs.length-1-j) 0 else xs.getD j 0
 have lh:∀i,(jm i).length=xs.length:=λi=>by simp[jm]
 have bU:∀i j,j<xs.length->(jm i)[j]?=some (if j<i\/xs.length-i<=j then xs.getD (xs.length-1-j) 0 else xs.getD j 0):=λi j d=>by simp[jm,d]
 have M:jm 0=xs:=by
  apply zy;intro j;by_cases d:j<xs.length
  ·rw[bU 0 j d,zB O];simp[zQ,cW d]
  ·rw[zX (by rw[lh];omega),zX O]
 have w:∀i,xs.length<=2*i+1->i<=xs.length->jm i=xs.reverse:=by
  intro i J H;apply zy;intro j;by_cases d:j<xs.length
  ·rw[bU i j d,OW xs j d,zQ,zQ,cW (show xs.length-1-j<xs.length by omega),cW d];split
   ·rfl
   ·have:xs.length-1-j=j:=by omega
    simp only[this];rfl
  ·rw[zX (by rw[lh];omega),zX aE]
 have step:∀i,2*i+1<xs.length->((jm i).set i (xs.getD (xs.length-1-i) 0)).set (xs.length-1-i) (xs.getD i 0)=jm (i+1):=by
  intro i hi;apply zy;intro j;by_cases d:j<xs.length
  ·rw[bU (i+1) j d,oa,oa];simp only[oP,lh];by_cases e1:xs.length-1-i=j
   ·subst e1;rw[zC rfl,zC O,zC O]
    congr 2;omega
   ·rw[zB e1];by_cases e2:i=j
    ·subst e2;rw[zC rfl,zC O,zC O]
    ·rw[zB e2,bU i j d];by_cases e3:j<i\/xs.length-i<=j
     ·rw[zC e3,zC O]
     ·rw[zB e3,zB O]
  ·rw[zX (by simp[lh];omega),zX (by rw[lh];omega)]
 refine vz ?_;rw[Un O O];refine UC (a:=bO) (bb:=bO) (λ(i j:Int) v=>∃n:Nat,i=(n:Int)/\j=(xs.length:Int)-1-n/\n<=xs.length/\Ext F U v/\bT s 1 (Wy (jm n)) v F) (λi _ _=>xs.length-i.toNat) ⟨0,rfl,O,O,Ext.refl _ _,by rw[M];exact h⟩ ?_;rintro i j v ⟨n,rfl,rfl,W,ev,z⟩;refine cN (λN=>?_) λS=>?_
 ·have A:2*n+1<xs.length:=by omega
  have C:(xs.length:Int)-1-n=((xs.length-1-n:Nat):Int):=by omega
  rw[C];have D:=bU n (xs.length-1-n) O;have E:=bU n n O;rw[zB O]at D E;rw[zQ]at D E;obtain⟨b,r⟩:∃b,s.a=some ⟨b,0,none⟩:=by
   rcases z.2 with⟨q1,q2⟩|⟨b,cs,_,B,_⟩
   ·omega
   ·exact⟨b,B⟩
  have g:∀u,bT s 1 (Wy (jm n)) u F->∀(j:Nat) (x:Int),(jm n)[j]?=some x->cell u (Addr.add ⟨b,0,none⟩ ((j:Int).toNat*1))=some (.int .i64 x):=λu y j x L=>by
   obtain⟨K,o,B,P⟩:=y.fW.cell (j:=j) (v:=.int .i64 x) (by simp[Wy,L]);rw[r]at B;cases B;rw[add_lit,show 0+(j:Int).toNat*1=0+j by omega];exact P
  rw[r];refine⟨λu=>bT s 1 (Wy (jm n)) u F,z,?_⟩;refine ix O O ⟨_,λu y=>g u y _ _ D,?_⟩;refine ix O O ⟨_,λu y=>g u y _ _ E,?_⟩;refine ix O O ?_;refine z.st (j:=n) (by simp[Wy,lh];omega) (λK p=>by rw[r]at p;cases p;rw[add_lit];simp) λX e1 J=>?_;refine ix O O ?_;refine J.st (j:=xs.length-1-n) (by simp[Wy,lh];omega) (λK p=>by rw[r]at p;cases p;rw[add_lit];simp) λV e2 H=>?_;refine cT (m:=n+1) O O (cT (m:=xs.length-1-n-1) O O ⟨⟨n+1,rfl,O,O,(ev.trans e1).trans e2,?_⟩,O⟩);rw[←step n A,zQ,zQ];have G:∀(l:List Int) (i:Nat) (x:Int),Wy (l.set i x)=(Wy l).set i (.int .i64 x):=λl i x=>by simp[Wy,vW]
  rw[G,G];exact H
 ·rw[w n O O]at z;exact hR v ev z
theorem LN (h:jj b l U G){sl:Sl}(hz:sl.len=0){R:aN}(hR:∀σ',Ext (· = b) U σ'->jj b l σ' G->R 0 σ'):Xi.c (aW b) sl U R:=by
 refine Xi.o ?_;unfold Xi.v;have D:=h;obtain⟨E,j,s,z,p,F⟩:=h;have A:s.len=l.os.length:=by have:=p.1;simp[Wy]at this;omega
 have r:=j.many;refine bL (z.rS rfl (cT (m:=l.os.length) aC O (gA O (bL (z.rS rfl ?_)))));refine XA.o ?_;unfold XA.v;refine jA (lo:=0) aC aC aC ?_;have d:=cV.sub p (lo:=0) (hi:=s.len) (mx:=s.len) O O O;have C:((Wy l.os).drop (0*1)).take ((s.len-0)*1)=Wy l.os:=by rw[A,lN (by simp[Wy])];simp
 rw[C]at d;have key:∀(g:Sl),cV g 1 (Wy l.os) U (λq=>G q/\q≠b)->g.len<=g.cap->bW (some ⟨b,0,none⟩) λw=>dX (w.add 0) (.slice g.a g.len g.cap) U λv2=>R 0 v2:=λg x u=>by
  refine bL (z.s1 (by simp[nC]) λv2 o2 y=>hR v2 o2.ext ?_);exact D.st (l':=l) (s:=g) o2.ext y x u j
 refine⟨Wy l.os,[],by simp[Wy];omega,by simp[hz],d.rd,by cases sl.a<;>simp[Rd],by simp,?_,by simp only;omega,λB=>?_,λi=>absurd (by simp only[hz];omega) i⟩
 ·simp only[hz];have:(s.len-0+0)*8<=256*8:=mD O O;omega
 ·simp only[hz,kC];cases ha:(if s.len=0 then s.a else s.a.map (·.add (0*1)))
  ·rw[ha]at d;exact key ⟨none,s.len-0,s.len-0⟩ d (zE _)
  ·rw[ha]at d;exact key ⟨some _,s.len-0,s.len-0⟩ d (zE _)
theorem F5 (h:jj b l U G){sl:Sl}{xs:List Int}{X:Rg}(hs:cV sl 1 (Wy xs) U X)(hfit:l.os.length+xs.length<=256){R:aN}
 (hR:∀σ',Ext (· = b) U σ'->jj b (eJ xs l) σ' (Grow G U)->R 0 σ'):Xi.c (aW b) sl U R:=by
 by_cases hx:xs=[]
 ·subst hx;have g:eJ [] l=l:=by unfold eJ;rw[zB (by simp only[kr]at hfit ⊢;omega)];simp
  refine LN h (by have:=hs.1;simp[Wy]at this;omega) λσ' e d=>hR σ' e ?_;rw[g];exact(jj.loc _ _).mono d λq _ a=>.inl a
 ·exact OD h hs hx hfit λσ' e d=>hR σ' e ((jj.loc _ _).mono d λq _ a=>a.imp (λe=>by rw[e];exact h.1) id)
theorem OB (h:eN U F Y tb bud ls)(hc:tb[k]?=some c)(hl:ls[k]?=some l){sl:Sl}{xs:List Int}{X:Rg}(hs:cV sl 1 (Wy xs) U X)(hX:∀q,X q->¬F q)(hfit:l.os.length+xs.length<=256){R:aN}
 (hR:∀σ' Y',Ext F U σ'->Y'.p=Y.p->eN σ' (Grow F U) Y' tb bud (ls.set k (eJ xs.reverse l))->R 0 σ'):Yi.c (aW Y.p) (k:Int) sl U R:=by
 obtain⟨s,w⟩:=h.cls hc;have E:sl.len=xs.length:=by have:=hs.1;simp[Wy]at this;omega
 refine Yi.o ?_;unfold Yi.v;refine yZ h w λv Y' b e y D A=>cD rfl ?_;have m:=aH.bS hs e λq _ a=>hX q a;refine Gh m Uk O λs1 H x e1 r=>?_;refine MN r O λv2 e2 j=>?_;have g:aF v v2:=Ext.fresh e1 e2 λq a=>a;obtain⟨G,u,d⟩:=(A.bP g).eY (e.trans (aF.to g)) D hl;refine F5 u j.fW aE λv3 z i=>?_;obtain⟨B,C⟩:=d v3 _ _ (z.sub λq a=>a▸u.1) (λq a=>a) i;exact hR v3 Y' B y C
theorem QQ {α:Type}{ls:List α}{k:Nat}{l:α}(h:ls[k]?=some l):ls.set k l=ls:=by
 apply zy;intro j;by_cases hj:j=k
 ·subst hj;rw[zO (cX.1 h).1,h]
 ·rw[zh (Ne.symm hj)]
theorem RM (h:eN U F Y tb bud ls)(hc:tb[k]?=some c)(hl:ls[k]?=some l)(x:Int){R:Sl->Int->Hp->Prop}
 (hR:∀σ' Y' s e (Q:Rg),Ext F U σ'->Y'.p=Y.p->(l.os.length+1<=256->e=0)->(∀q,Q q->U.size<=q)->bT s 1 (Wy (dM c x l).1) σ' Q->eN σ' (λq=>Grow F U q/\¬Q q) Y' tb bud (ls.set k (dM c x l).2)->R s e σ'):YV.c (aW Y.p) (k:Int) x U R:=by
 obtain⟨ab,hk⟩:=h.cls hc;refine YV.o ?_;unfold YV.v;refine yZ h hk λv Y' b e hp hb h'=>cD rfl ?_;have hσv:=e.1;obtain⟨G,hG,hL,_,L⟩:=h'.xS hb hl;have hblt:b<v.size:=by obtain⟨_,_,s,hbk,_⟩:=hL;exact hbk.lt
 have u:=hL.1;have aa:=hL.2.1;have hmany:=aa.many;have r:∀(σ':Hp) (l':Li) (G':Rg),Ext G v σ'->(∀q,G' q->Grow G v q)->jj b l' σ' G'->Ext F U σ'/\eN σ' (λq=>Grow F U q/\q<v.size/\¬G q\/G' q) Y' tb bud (ls.set k l'):=λσ' l' G' e' hg hL'=>by
  obtain⟨e1,h1⟩:=L σ' l' G' e' hg hL';exact⟨e.jB e1,h1⟩
 have hin:∀{G':Rg} {q:Nat},(∀q,G' q->Grow G v q)->(Grow F U q/\q<v.size/\¬G q\/G' q)->Grow F U q:=λhg a=>by
  rcases a with a|a
  ·exact a.1
  ·rcases hg _ a with H|H
   ·exact hG _ H
   ·exact .inr O
 refine nw (cs:=[.int .i64 x]) λv1 hz1 e1 hb1=>?_;have ac:=(jj.loc _ _).bP hL e1;have J:cV ⟨some ⟨v.size,0,none⟩,1,1⟩ 1 (Wy [x]) v1 (· = v.size):=hb1.fW (o:=0) rfl (by simp[Wy]) (λj hj=>by
  simp only[Wy,zR,ny,zS,kr]at hj ⊢;rw[zH])
 by_cases hfit:l.os.length+1<=256
 ·refine F5 ac J (by simpa using hfit) λv2 e2 B=>cD rfl ?_;have C:Ext G v v2:=(aF.to e1).trans (e2.sub λq a=>a▸u);have S:∀q,Grow G v1 q->Grow G v q:=λq a=>a.imp id λK=>by omega
  obtain⟨eF2,H⟩:=r v2 _ _ C S B;have i:(eJ [x] l).os=l.os++[x]/\(eJ [x] l).lim=l.lim/\(eJ [x] l).low=l.low:=by unfold eJ;rw[zB (by simp only[zS,kr];omega)];exact⟨rfl,rfl,rfl⟩
  have A:=B;obtain⟨_,ok2,s2,g,W,D⟩:=B;have hs2l:s2.len=l.os.length+1:=by have:=W.1;simp[Wy,i.1]at this;omega
  refine bL (g.rS rfl (bL (g.rI rfl ?_)));rw[i.2.1];refine cN (λc1=>?_) λc1=>?_
  ·have E:l.os.length+1<=l.lim:=by simp only at c1;omega
   have w:dM c x l=([],eJ [x] l):=by unfold dM;rw[zB O,zC E]
   refine hR v2 Y' _ 0 (λ_=>False) eF2 hp (λ_=>rfl) (λq a=>a.elim) (by rw[w];exact bT.nil _ _ _ _) ?_;rw[w];exact H.mono λq _ a=>⟨hin S a,id⟩
  ·have E:¬l.os.length+1<=l.lim:=by simp only at c1;omega
   have w:dM c x l=gJ (min c.batch (l.os.length+1)) (mN c (eJ [x] l)):=by unfold dM;rw[zB O,zB E]
   have P:=H.hd;rw[hp]at P;refine bL (P.rS rfl (uh H.jN hc (d:=2) O ?_));simp only[zB (show ¬(2=0) by omega),zB (show ¬(2=1) by omega)];refine Jn.intro ?_;have y:∀v3,Ext (· = b) v2 v3->jj b (mN c (eJ [x] l)) v3 (Grow G v1)->bW (some ⟨b,0,none⟩) λa62=>jG (a62.add 0) v3 λV=>Xr.c (aW b) (if((V.len:Nat):Int)<(c.batch:Int)then((V.len:Nat):Int)else(c.batch:Int)) v3 λt67 v4=>R t67 0 v4:=by
    intro v3 e3 hL3;have Z:=hL3;obtain⟨_,ok3,s3,ad,hs3,hcap3⟩:=hL3;have X:(mN c (eJ [x] l)).os=l.os++[x]:=by unfold mN;split<;>exact i.1
    have M:s3.len=l.os.length+1:=by have:=hs3.1;simp[Wy,X]at this;omega
    refine bL (ad.rS rfl ?_);have em:(if((s3.len:Nat):Int)<(c.batch:Int)then((s3.len:Nat):Int)else(c.batch:Int))=((min c.batch (l.os.length+1):Nat):Int):=by rw[M];split<;>omega
    rw[em];refine GJ Z (by rw[X];simp;omega) λs z v4 e4 hz hr hL4=>?_;have e24:Ext (· = b) v2 v4:=e3.trans e4;have e04:Ext G v v4:=C.trans (e24.sub λq a=>a▸u);have hs23:=e3.1;have hs02:=C.1;obtain⟨eF4,h4⟩:=r v4 _ (λq=>q=b\/z<=q) e04 (λq a=>a.imp (λ(K:q=b)=>by rw[K];exact u) λ(K:z<=q)=>O) hL4;refine hR v4 Y' s 0 (λq=>v3.size<=q/\q<z) eF4 hp (λ_=>rfl) (λq a=>O) (by rw[w];exact hr) ?_;rw[w];refine h4.mono λq _ a=>⟨?_,λhQ=>?_⟩
    ·rcases a with a|a|a
     ·exact a.1
     ·subst a;exact hG _ u
     ·exact .inr O
    ·rcases a with a|a|a<;>omega
   refine bL (g.rI rfl ?_);rw[i.2.1];refine cN (λc2=>?_) λc2=>?_
   ·have c2':l.lim<c.batch:=by omega
    have eu:mN c (eJ [x] l) = {eJ [x] l with lim:=l.lim+1}:=by unfold mN;rw[i.2.1,zC c2']
    have N:=EL ab ok2;refine bL (g.rI rfl ?_);rw[i.2.1];have hl128:=aa.lim;refine cT (m:=l.lim+1) O O (bL (g.s1 (by simp[nC]) λv3 o3 hb3=>y v3 o3.ext ?_));rw[eu]at N ⊢;exact A.st o3.ext hb3 W D N
   ·have eu:mN c (eJ [x] l)=eJ [x] l:=by unfold mN;rw[i.2.1,zB O]
    exact y v2 (Ext.refl _ _) (by rw[eu];exact A)
 ·refine PI ac J (by simpa using hfit) aA (cF rfl ?_);have w:dM c x l=([],l):=by unfold dM;rw[zC O]
  refine hR v1 Y' _ 6 (λ_=>False) (e.trans (aF.to e1)) hp (λK=>absurd K hfit) (λq a=>a.elim) (by rw[w];exact bT.nil _ _ _ _) ?_;rw[w,QQ hl];exact(h'.bP e1).mono λq _ a=>⟨a,id⟩
end Go.Ar
namespace Go.Ar
open Go Go.Vc Go.Proofs
open Go.Bu (Zz Kg Zx)
variable {U:Hp}{F:Rg}{p hs:Nat}{A:AR}{Y:Lay}{T:Nat->Hp->Rg->Prop}
theorem dK.uz (h:dK U F Y A T){k q:Nat}{c:cA}{ss:List cH}(h1:Y.fK[k]?=some q)(h2:A.tb[k]?=some c)(h3:A.cG[k]?=some ss) :
 ∃G:Rg,(∀b,G b->F b)/\(∃ps,fF U G q c ps ss)/\(∀j,∃H:Rg,(∀b,H b->F b)/\(∀b,H b->¬G b)/\T j U H)/\∀(σ':Hp) (ss':List cH) (ps':List (Nat×Nat)) (G' H:Rg),
  Ext G U σ'->(∀b,G' b->G b\/U.size<=b)->fF σ' G' q c ps' ss'->(∀b,(F b/\b<U.size/\¬G b\/G' b)->H b)->dK σ' H Y {A with cG:=A.cG.set k ss'} T:=by
 obtain⟨G,d,hi,hd,a⟩:=h.step (.cG k);have g:k<A.cG.length:=(cX.1 h3).1;refine⟨G,d,F4 h1 h2 h3 hi,λj=>hd (.cR j) (by intro e;cases e),λσ' ss' ps' G' H e p i m=>?_⟩;refine a σ' _ _ T G' H h.lay.lE h.tl RX e p ?_ m;simp only[AC];rw[h1,h2,zO g];exact⟨ps',i⟩
theorem NM (h:dK U F Y A T)(k m:Int){R:Sl->Int->Hp->Prop}(hR:∀s σ',Ext F U σ'->bT s 1 (ints (Yz A k m)) σ' (λb=>U.size<=b)->dK σ' (Cut F U) Y (YS A k m) T->R s (Kc A k m) σ') :
 WZ.c (aW Y.p) k m U R:=by
 refine WZ.o ?_;unfold WZ.v;refine U2 h k (λj=>?_) λx H w=>?_
 ·have e1:Kc A k m=1:=by unfold Kc;rw[j];rfl
  have e2:YS A k m=A:=by unfold YS;rw[e1];rfl
  have d:Yz A k m=[]:=by unfold Yz;rw[e1];rfl
  have:=hR ⟨none,0,0⟩ U (Ext.refl _ _) (by rw[d];exact bT.nil _ _ _ _) (by rw[e2];exact h.cut);rw[e1]at this;exact cF rfl this
 ·subst H;have j:A.ck (x:Int)=true:=by unfold AR.ck;simp;omega
  obtain⟨c,ss,q,t,r,B,i,z,_,_,E⟩:=h.at_ w;obtain⟨G,y,⟨K,D⟩,_,a⟩:=h.uz z B i;refine cD rfl (bL (h.hd.rS rfl (h.mq z ?_)));by_cases hm:m<0
  ·have e1:Kc A x m=1:=by unfold Kc;rw[j,zC rfl,zC hm]
   have e2:YS A x m=A:=by unfold YS;rw[e1];rfl
   have d:Yz A x m=[]:=by unfold Yz;rw[e1];rfl
   have:=hR ⟨none,0,0⟩ U (Ext.refl _ _) (by rw[d];exact bT.nil _ _ _ _) (by rw[e2];exact h.cut);rw[e1]at this;exact PV D m hm this
  ·have e1:Kc A x m=0:=by unfold Kc;rw[j,zC rfl,zB hm]
   have C:V2 A x m=KH c m.toNat ss:=by unfold V2;simp only[dG];rw[B,i]
   have e2:YS A x m = {A with cG:=A.cG.set x (KH c m.toNat ss).2}:=by unfold YS;rw[e1,zC rfl,C];rfl
   have d:Yz A x m=(KH c m.toNat ss).1:=by unfold Yz;rw[e1,zC rfl,C]
   refine MY D m O λs σ' e g u=>?_;have:=hR s σ' (e.sub y) (by rw[d];exact g) (by rw[e2];exact a σ' _ _ (Cut G U) _ e (λb J=>.inl J.1) u (IT y));rw[e1]at this;exact this
theorem RU {k:Nat}{f:gP->gP}:∀j,j≠Lb.cR k->AC {A with cR:=A.cR.modify k f} Y (cM {A with cR:=A.cR.modify k f} Y) j=AC A Y (cM A Y) j:=by
 intro j hj;cases j<;>first|rfl|skip
 rename_i k';have a:k≠k':=λe=>hj (by rw[e]);simp only[AC,cM];simp[uo,a]
theorem fA.j2 {k:Nat}{f:gP->gP}(h:fA A Y):fA {A with cR:=A.cR.modify k f} Y:=⟨h.c,h.t,h.cG,by simpa using h.cR,h.nQ,h.rz,h.n1,h.n2,h.n3,h.st,h.room,h.ok⟩
theorem dK.uk (h:dK U F Y A (cM A Y)){k q:Nat}{c:cA}{t:gP}(h1:Y.gC[k]?=some q)(h2:A.tb[k]?=some c)(h3:A.cR[k]?=some t) :
 ∃G:Rg,(∀b,G b->F b)/\iW U G q c.batch A.room t/\∀(σ':Hp) (f:gP->gP) (G' H:Rg),
  Ext G U σ'->(∀b,G' b->G b\/U.size<=b)->iW σ' G' q c.batch A.room (f t)->(∀b,(F b/\b<U.size/\¬G b\/G' b)->H b)->dK σ' H Y {A with cR:=A.cR.modify k f} (cM {A with cR:=A.cR.modify k f} Y):=by
 obtain⟨G,g,hi,hd,a⟩:=h.step (.cR k);have d:iW U G q c.batch A.room t:=by
  simp only[AC,cM]at hi;rw[h1,h2,h3]at hi;exact hi
 refine⟨G,g,d,λσ' f G' H e p i m=>?_⟩;refine a σ' _ _ _ G' H h.lay.j2 (λj=>cM.loc j) RU e p ?_ m;simp only[AC,cM];rw[h1,h2,List.getElem?_modify_eq,h3];exact i
theorem TM (h:dK U F Y A (cM A Y))(k:Int){R:Sl->Int->Hp->Prop}(hR:∀s σ',Ext F U σ'->(∀b,kY s b->F b)->cV s 1 (Wy (YP A k)) σ' (kY s)->s.len<=s.cap->dK σ' (λb=>F b/\¬kY s b) Y (Z0 A k) (cM (Z0 A k) Y)->R s (QE A k) σ') :
 WU.c (aW Y.p) k U R:=by
 refine WU.o ?_;unfold WU.v;refine U2 h k (λz=>?_) λx L D=>?_
 ·have e1:QE A k=1:=by unfold QE;rw[z];rfl
  have e2:Z0 A k=A:=by unfold Z0;rw[e1];rfl
  have j:YP A k=[]:=by unfold YP;rw[e1];rfl
  have:=hR ⟨none,0,0⟩ U (Ext.refl _ _) (λb d=>by obtain⟨a,g,_⟩:=d;cases g) (by rw[j];exact cV.nil _ _ _ _) (zE _) (by rw[e2];exact h.mono λb _ d=>⟨d,λ⟨a,g,_⟩=>by cases g⟩);rw[e1]at this;exact cF rfl this
 ·subst L;have z:A.ck (x:Int)=true:=by unfold AR.ck;simp;omega
  obtain⟨c,Q,q,t,r,N,M,P,B,H,K⟩:=h.at_ D;obtain⟨G,C,J,u⟩:=h.uk H N B;refine cD rfl (bL (h.hd.rS rfl (h.tG H ?_)));by_cases d:t.bs=[]
  ·have e1:QE A x=4:=by unfold QE;rw[z,zC rfl];simp only[dG];rw[B];simp[d]
   have e2:Z0 A x=A:=by unfold Z0;rw[e1];rfl
   have j:YP A x=[]:=by unfold YP;rw[e1];rfl
   have:=hR ⟨none,0,0⟩ U (Ext.refl _ _) (λb d=>by obtain⟨a,g,_⟩:=d;cases g) (by rw[j];exact cV.nil _ _ _ _) (zE _) (by rw[e2];exact h.mono λb _ d=>⟨d,λ⟨a,g,_⟩=>by cases g⟩);rw[e1]at this;exact T8 J d this
  ·have e1:QE A x=0:=by unfold QE;rw[z,zC rfl];simp only[dG];rw[B];simp[d]
   have e2:Z0 A x = {A with cR:=A.cR.modify x gP.rem}:=by unfold Z0;rw[e1,zC rfl];rfl
   have j:YP A x=t.bs.getLast?.getD []:=by unfold YP;rw[e1,zC rfl];simp only[dG];rw[B]
   refine OT J d λs σ' e i w m E=>?_;have y:∀b,(F b/\b<U.size/\¬G b\/G b/\¬kY s b)->F b/\¬kY s b:=λb d=>by
    rcases d with d|d
    ·exact⟨d.1,λhi=>d.2.2 (i b hi)⟩
    ·exact⟨C b d.1,d.2⟩
   have:=hR s σ' (e.sub C) (λb d=>C b (i b d)) (by rw[j];exact w) m (by rw[e2];exact u σ' _ (λb=>G b/\¬kY s b) _ e (λb d=>.inl d.1) E y);rw[e1]at this;exact this
theorem Θ (h:dK U F Y A (cM A Y))(k:Int){sl:Sl}{xs:List Int}{X:Rg}(hs:cV sl 1 (Wy xs) U X)(hi:∀x∈xs,iP x){R:Bool->Int->Hp->Prop}(hR:∀σ',Ext F U σ'->dK σ' (Grow F U) Y (KG A k xs) (cM (KG A k xs) Y)->R (VI A k xs) (HL A k xs) σ') :
 W6.c (aW Y.p) k sl U R:=by
 refine W6.o ?_;unfold W6.v;have w:sl.len=xs.length:=by have:=hs.1;simp[Wy]at this;omega
 have W:∀e:Int,e≠0->HL A k xs=e->R false e U:=λe he D=>by
  have e3:VI A k xs=false:=by unfold VI;rw[zM O];rfl
  have e2:KG A k xs=A:=by unfold KG;rw[e3];rfl
  have:=hR U (Ext.refl _ _) (by rw[e2];exact h.mono λb _ g=>.inl g);rw[D,e3]at this;exact this
 refine U2 h k (λQ=>cF rfl (W 1 aB (by unfold HL;rw[Q];rfl))) λx M aa=>?_;subst M;have Q:A.ck (x:Int)=true:=by unfold AR.ck;simp;omega
 obtain⟨c,ss,q,t,r,P,E,hq,ht,hr,V⟩:=h.at_ aa;obtain⟨G1,ps,hG1,Z⟩:=h.cG hq P E;obtain⟨G,hG,hC,J⟩:=h.uk hr P ht;have N:HL A x xs=if xs.length=c.batch then(if xs.all (λx=>eB c ss x==some true)then 0 else 8)else 1:=by unfold HL;rw[Q,zC rfl];simp only[dG];rw[P,E]
 refine cD rfl (bL (h.hd.rS rfl (h.yj (d:=2) P O ?_)));simp only[zB (show ¬(2=0) by omega),zB (show ¬(2=1) by omega)];rw[rH];refine cQ (λg=>?_) λg=>?_
 ·have:¬xs.length=c.batch:=by rw[←w];simpa using g
  exact W 1 aB (by rw[N,zB this])
 have H:xs.length=c.batch:=by rw[←w];simpa using g
 rw[zC H]at N;have h32:c.batch<=32:=V.2.2.2.2.2.2.2;refine Qv (a:=bO) (λ(i:Int) v=>∃j:Nat,i=(j:Int)/\j<=xs.length/\v=U/\∀y∈xs.take j,eB c ss y=some true) (λi _=>xs.length-i.toNat) ⟨0,rfl,O,rfl,by simp⟩ ?_;rintro i v ⟨j,rfl,hj,rfl,s⟩;refine cN (λhlt2=>?_) λhge=>?_
 ·have K:j<xs.length:=by omega
  have M:xs[j]?=some xs[j]:=cW K;have htk:xs.take (j+1)=xs.take j++[xs[j]]:=by rw[j6,M];rfl
  have u:=zt K;generalize xs[j]=y at *;have L:eB c ss y≠some true->R false 8 v:=λS=>W 8 aB (by
   rw[N,zB];intro ha;rw[ko]at ha;exact S (by simpa using ha y u))
  refine hs.lQ M (bL (h.hd.rS rfl (h.mq hq (EU Z _ (hi y u) (λb g=>?_) λg=>?_))))
  ·refine bX.intro (cD rfl ?_);cases b
   ·exact cF rfl (L (by rw[g];simp))
   ·refine cD rfl (cT (m:=j+1) O O ⟨⟨j+1,rfl,O,rfl,λz hz=>?_⟩,O⟩);rw[htk]at hz;rcases zK.1 hz with D|D
    ·exact s z D
    ·simp at D;rw[D];exact g
  ·exact bX.intro (cF rfl (cF rfl (L (by rw[g];simp))))
 ·have:j=xs.length:=by omega
  subst this;rw[lL]at s;have B:HL A x xs=0:=by
   rw[N,zC];rw[ko];intro y hy;simp[s y hy]
  have C:VI A x xs=decide (t.bs.length<A.room):=by unfold VI;rw[B];simp only[dG];rw[ht];simp
  refine bL (h.hd.rS rfl (h.tG hr (LU hC hs O (λS=>absurd H S) (λ_ hf=>?_) λ_ hf σ' e hC'=>?_)))
  ·rw[zM O]at C;have e2:KG A x xs=A:=by unfold KG;rw[C];rfl
   have:=hR v (Ext.refl _ _) (by rw[e2];exact h.mono λb _ g=>.inl g);rw[B,C]at this;exact this
  ·rw[zI O]at C;have e2:KG A x xs = {A with cR:=A.cR.modify x λt=>{t with bs:=t.bs++[xs]}}:=by unfold KG;rw[C,zC rfl];rfl
   have:=hR σ' (e.sub hG) (by rw[e2];exact J σ' (λt=>{t with bs:=t.bs++[xs]}) (Grow G v) _ e (λb g=>g) hC' (GD hG λb g=>g));rw[B,C]at this;exact this
theorem fF.κ {q:Nat}{c:cA}{ps:List (Nat×Nat)}{ss:List cH}{G:Rg}(h:fF U G q c ps ss):∀s∈ss,s.st<=1024:=by
 intro s hs;obtain⟨i,hi⟩:=zP hs;have a:=(cX.1 hi).1;have b:i<ps.length:=by rw[h.len];exact a
 have:=(h.sp _ _ _ (cW b) hi).fit;omega
theorem S3 (h:dK U F Y A T)(k:Int){sl:Sl}{xs:List Int}(hi:∀x∈xs,iP x)(hl:xs.length<=1000000)(hcap:sl.len<=sl.cap)
 (hs:(∃X:Rg,cV sl 1 (Wy xs) U X/\∀b,b<U.size->X b->¬F b)\/∃j,∀H,T j U H->cV sl 1 (Wy xs) U H)
 {R:aN} (hR:∀σ',Ext F U σ'->dK σ' (Grow F U) Y (ZY A k xs) T->R (Kw A k xs) σ') :
 Xa.c (aW Y.p) k sl U R:=by
 refine Xa.o ?_;unfold Xa.v;have no:∀e:Int,e≠0->Kw A k xs=e->R e U:=λe he Z=>by
  have e2:ZY A k xs=A:=by unfold ZY;rw[zB O]
  have:=hR U (Ext.refl _ _) (by rw[e2];exact h.mono λb _ d=>.inl d);rw[Z]at this;exact this
 refine U2 h k (λJ=>cF rfl (no 1 aB (by unfold Kw;rw[J];rfl))) λx hx P=>?_;subst hx;have J:A.ck (x:Int)=true:=by unfold AR.ck;simp;omega
 obtain⟨c,g,q,t,r,W,u,hq,_,_,hok⟩:=h.at_ P;obtain⟨G,E,⟨ps,hC⟩,hd,B⟩:=h.uz hq W u;have hX:∃X:Rg,cV sl 1 (Wy xs) U X/\∀b,X b->¬G b:=by
  rcases hs with⟨X,Z,h2⟩|⟨j,hj⟩
  ·exact⟨Cut X U,aH.cut Z,λb d hg=>h2 b d.2 d.1 (E b hg)⟩
  ·obtain⟨H,_,D,hT⟩:=hd j;exact⟨H,hj H hT,D⟩
 obtain⟨X,Q,L⟩:=hX;have N:Kw A x xs=iI c g xs:=by unfold Kw;rw[J,zC rfl];simp only[dG];rw[W,u]
 refine cD rfl (bL (h.hd.rS rfl (h.mq hq (Wnd hC Q L hi hl hcap (λD=>?_) λh0 o σ1 e1 m M=>?_))))
 ·refine cF (by simpa using D) (no _ D N)
 ·refine cD rfl ?_;have eS:ZY A x xs=UJ {A with cG:=A.cG.set x (cK (xs.foldl (fH c) g))} ((QX (xs.foldl (fH c) g)).map λs=>(s,c.aG)):=by
   unfold ZY;rw[N,zC h0];simp only[dG];rw[W,u]
  have S:=B σ1 _ _ (Cut G U) _ e1 (λb d=>.inl d.1) M (IT E);rw[Pp]at m;have C:((QX (xs.foldl (fH c) g)).map λs=>(s,c.aG)).length<=1000000/\∀r∈((QX (xs.foldl (fH c) g)).map λs=>(s,c.aG)),r.1<=1000000:=by
   have i:∀(ys:List Int) (ls:List cH),((ys.foldl (fH c) ls).map (·.st))=ls.map (·.st):=by
    intro ys
    induction ys with
    | nil=>intro ls;rfl
    | cons y ys ih=>
     intro ls;rw[re,ih];unfold fH;split
     ·rename_i j hj;split
      ·rename_i s a;split
       ·simp only[vW];apply zy;intro z;rw[oa];by_cases w:j=z
        ·subst w;rw[zC rfl];have:=(cX.1 a).1;rw[zC (by simpa using this)];simp[a,cH.put]
        ·rw[zB w]
       ·rfl
      ·rfl
     ·rfl
   have K:∀s∈QX (xs.foldl (fH c) g),s∈g.map (·.st):=by
    intro s a;rw[←i xs g];unfold QX at a;simp only[zD,zL]at a ⊢;obtain⟨z,w,rfl⟩:=a;exact⟨z,w.1,rfl⟩
   have hfew:=hC.qH;refine⟨?_,λr hr=>?_⟩
   ·have:(QX (xs.foldl (fH c) g)).length<=(xs.foldl (fH c) g).length:=by
     unfold QX;rw[zk];exact oV _ _
    have h2:(xs.foldl (fH c) g).length=g.length:=by have:=congrArg List.length (i xs g);simpa using this
    rw[zk];omega
   ·obtain⟨s,a,rfl⟩:=zD.1 hr;obtain⟨z,w,rfl⟩:=zD.1 (K s a);have:=hC.κ z w;simp only;omega
  refine I2 S m.fW (λb _ d hf=>by have:=hf.2;omega) C.1 C.2 λσ2 e2 V=>?_;have:=hR σ2 ((e1.sub E).trans (e2.sub λb d=>d.1)) ?_
  ·rw[N,h0]at this;exact this
  ·rw[eS];exact V.mono λb _ d=>by
    rcases d with d|d
    ·exact .inl d.1
    ·exact .inr (kx e1.1 d)
theorem OX (l:List (Nat×Nat))(x:Int):bU (iU l) x=(l.find? λr=>(r.1:Int)==x).map λr=>(r.2:Int):=by
 induction l with
 | nil=>rfl
 | cons r l ih=>
  have:iU (r::l)=((r.1:Int),(r.2:Int))::iU l:=rfl;rw[this,KZ,vB,ih];by_cases h:(r.1:Int)=x
  ·simp[h]
  ·have:((r.1:Int)==x)=false:=by simpa using h
   rw[this,zB h]
theorem WjD (l:List (Nat×Nat))(x:Int):cO (iU l) x=iU (l.filter λq=>!((q.1:Int)==x)):=by
 unfold cO iU;rw[wP];rfl
theorem Nb (l:List (Nat×Nat))(x m:Nat):dA (iU l) (x:Int) (m:Int)=iU (cC.mset2 l x m):=by
 unfold dA cC.mset2 iU;have e:(l.map λr=>((r.1:Int),(r.2:Int))).any (λy=>y.1==(x:Int))=l.any λr=>r.1==x:=by
  rw[List.any_map]
  congr 1
  funext r
  exact mg r.1 x
 rw[e];split
 ·rw[lM,lM];apply kA;intro r _;simp only[Function.comp_def];rw[mg];split<;>rfl
 ·simp
theorem dK.tn (h:dK U F Y A T):F Y.rn/\dJ U Y.rn .i64 bO (iU A.runs)/\∀(σ':Hp) (rs:List (Nat×Nat)),Ka U σ' Y.rn->dJ σ' Y.rn .i64 bO (iU rs)->dK σ' F Y {A with runs:=rs} T:=by
 obtain⟨G,j,⟨g,p⟩,_,a⟩:=h.step .runs;refine⟨j _ g,p,λσ' rs m r=>?_⟩;exact a σ' _ _ T G _ h.lay.r5 h.tl TQ (m.ext.sub λb d=>by subst d;exact g) (λb d=>.inl d) ⟨g,r⟩ (AY j λb d=>d)
theorem Ra (h:dK U F Y A T)(x:Int)(hf:∀r∈A.runs,r.1<=1000000){R:aN}(hR:∀σ',Ext F U σ'->dK σ' (Grow F U) Y (Kb A x) T->R (VC A x) σ') :
 Xd.c (aW Y.p) x U R:=by
 refine Xd.o ?_;unfold Xd.v;obtain⟨Q,K,g⟩:=h.tn;refine HW h (cD rfl (bL (h.hd.rM rfl ⟨_,K,?_⟩)));rw[OX];cases hr:(A.runs.find? λr=>(r.1:Int)==x)with
 | none=>
  have e1:VC A x=8:=by unfold VC qJ;rw[hr];rfl
  have e2:Kb A x=A:=by unfold Kb qJ;rw[hr]
  have:=hR U (Ext.refl _ _) (by rw[e2];exact h.mono λb _ a=>.inl a);rw[e1]at this;exact cF rfl this
 | some r=>
  have e1:VC A x=0:=by unfold VC qJ;rw[hr];rfl
  have e2:Kb A x=Ul {A with runs:=A.runs.filter λq=>!((q.1:Int)==x)} r:=by unfold Kb qJ;rw[hr]
  have H:=uH hr;have E:(r.1:Int)=x:=by simpa using ux hr
  refine cD rfl (bL (h.hd.rM rfl ⟨_,K,λs y _ B=>?_⟩));have o1:=y _ rfl;have d:dJ s Y.rn .i64 bO (cO (iU A.runs) x):=B;rw[WjD]at d;have w:=g s _ o1 d;simp only[ze,qX];refine nw (cs:=[.int .i64 x,.int .i64 (r.2:Int)]) λN L m D=>?_;have C:=w.cut.bP m;have G:cV ⟨some ⟨s.size,0,none⟩,1,1⟩ 2 (rV [r]) N (· = s.size):=by
   refine⟨rfl,.inr ⟨_,0,_,rfl,rfl,D.q,λj S=>?_⟩⟩;have:rV [r]=[.int .i64 (r.1:Int),.int .i64 (r.2:Int)]:=rfl;rw[this,E,zH]
  refine I2 C G (λb _ a M=>by have:=M.2;omega) aA (λq J=>by simp at J;subst J;exact hf _ H) λv3 P z=>?_;have u:Ext F U v3:=(o1.ext.sub λb a=>by subst a;exact Q).trans ((aF.to m).trans (P.sub λb a=>a.1));have:=hR v3 u (by
   rw[e2];exact z.mono λb _ a=>by
    rcases a with a|a
    ·exact .inl a.1
    ·exact .inr (by have:=o1.1;omega))
  rw[e1]at this;exact this
theorem VQ (rs:List (Nat×Nat)):∀A:AR,(UJ A rs).tb=A.tb/\(UJ A rs).room=A.room/\(UJ A rs).cR=A.cR/\(UJ A rs).cG=A.cG/\(UJ A rs).runs=A.runs/\(UJ A rs).n=A.n:=by
 induction rs with
 | nil=>intro A;exact⟨rfl,rfl,rfl,rfl,rfl,rfl⟩
 | cons r rs ih=>intro A;exact ih (Ul A r)
theorem UX (A:AR)(k:Int)(xs:List Int):(ZY A k xs).tb=A.tb/\(ZY A k xs).room=A.room/\(ZY A k xs).cR=A.cR/\(ZY A k xs).runs=A.runs/\(ZY A k xs).n=A.n:=by
 unfold ZY;split
 ·split
  ·exact⟨(VQ _ _).1,(VQ _ _).2.1,(VQ _ _).2.2.1,(VQ _ _).2.2.2.2.1,(VQ _ _).2.2.2.2.2⟩
  ·exact⟨rfl,rfl,rfl,rfl,rfl⟩
 ·exact⟨rfl,rfl,rfl,rfl,rfl⟩
theorem gP.qk (t:gP):∀xs∈t.tick.bs,xs∈t.bs:=λxs h=>uC h
theorem VG {α:Type}{l:List α}{k:Nat}{t:α}{f:α->α}(h:l[k]?=some t):l.modify k f=l.set k (f t):=by
 apply zy;intro i;rw[oa,uo];by_cases hi:k=i
 ·subst hi;have:=(cX.1 h).1;rw[zC rfl,zC this,h];simp
 ·simp[hi]
def D7 (A:AR)(Y:Lay)(k r:Nat)(c:cA)(t:gP)(out:Sl)(sls:List Sl)(j:Nat):Hp->Rg->Prop:=
 if j=k then λU G=>iW U G r c.batch A.room t.tick/\cV out 1 (sls.map qL) U G/\rm sls t.out U G else cM A Y j
theorem D7.loc {k r:Nat}{c:cA}{t:gP}{out:Sl}{sls:List Sl}(j:Nat):dN (D7 A Y k r c t out sls j):=by
 unfold D7;split
 ·exact λU m F G ⟨i,g,d⟩ a b=>⟨iW.loc _ _ _ _ i a b,cV.loc _ _ _ _ _ _ _ g a b,rm.loc _ _ _ _ _ _ d a b⟩
 ·exact cM.loc j
end Go.Ar
namespace Go.Bu
variable {n:Nat}{S:Nat->Bool}
theorem UD {m a k x:Nat}(h:Z4 n S m a k=some x):∃j,j<k/\m<=2^j/\a<=2^j/\(WV n S j).head?=some x/\∀i,i<j->m<=2^i->a<=2^i->WV n S i=[]:=by
 have G5:∀k,Z4 n S m a k=none->∀i,i<k->m<=2^i->a<=2^i->WV n S i=[]:=by
  intro k
  induction k with
  | zero=>intro _ i hi;omega
  | succ k ih=>
   intro hn i hi d b;rw[Z4]at hn;split at hn
   ·cases hn
   ·rename_i hn';by_cases e:i=k
    ·subst e;rw[zC ⟨d,b⟩]at hn;simpa using hn
    ·exact ih hn' i O d b
 induction k with
 | zero=>simp[Z4]at h
 | succ k ih=>
  rw[Z4]at h;split at h
  ·rename_i y hy;cases h;obtain⟨j,d,b⟩:=ih hy;exact⟨j,O,b⟩
  ·rename_i hn;split at h
   ·rename_i hc;exact⟨k,O,hc.1,hc.2,h,G5 k hn⟩
   ·cases h
theorem Hy {m a:Nat}:∀{k},Z4 n S m a k=none->∀i,i<k->m<=2^i->a<=2^i->WV n S i=[]
 | 0,_,i,hi,_,_=>by omega
 | k+1,hn,i,hi,h1,h2=>by
  rw[Z4]at hn;split at hn
  ·cases hn
  ·rename_i hn';by_cases e:i=k
   ·subst e;rw[zC ⟨h1,h2⟩]at hn;simpa using hn
   ·exact Hy hn' i O h1 h2
theorem lB (hb:Bounded S n){m a x:Nat}(h:Zx n S m a=some x):x+m<=n/\∀y,x<=y->y<x+m->S y=true:=by
 obtain⟨j,_,r,_,g,_⟩:=UD h;have b:x∈WV n S j:=List.mem_of_head? g;obtain⟨q,rfl,d⟩:=(Kq hb).1 b;have:=Qd hb (Z1.1 d).1;exact⟨O,λy p i=>Uu d (QH.2 O)⟩
end Go.Bu
namespace Go.Ar
open Go Go.Vc Go.Proofs
open Go.Bu (Zz Kg Zx)
variable {U:Hp}{F H:Rg}{p hs:Nat}{A:AR}{sp:Sp}{Y:Lay}{T:Nat->Hp->Rg->Prop}
structure W2 (U:Hp) (F H:Rg) (Y:Lay) (A:AR) (T:Nat->Hp->Rg->Prop) (sp:Sp):Prop where
 a:dK U F Y A T
 s:dP U H Y.hs sp
 d:∀b,F b->¬H b
 g:Gl U
 o:jf F
 o2:jf H
def ji (F H:Rg):Rg:=λb=>F b\/H b
theorem W2.l4 (h:W2 U F H Y A T sp){σ':Hp}{A':AR}(e:Ext F U σ')(ha:dK σ' F Y A' T):W2 σ' F H Y A' T sp:=
 ⟨ha,dN.bS dP.loc h.s e λb _ i a=>h.d b a i,h.d,h.g.bS e h.o,h.o,h.o2⟩
theorem W2.space (h:W2 U F H Y A T sp){σ':Hp}{sp':Sp}(e:Ext H U σ')(hs:dP σ' H Y.hs sp'):W2 σ' F H Y A T sp':=
 ⟨dN.bS dK.loc h.a e λb _ j i=>h.d b j i,hs,h.d,h.g.bS e h.o2,h.o,h.o2⟩
theorem W2.bP (h:W2 U F H Y A T sp){σ':Hp}(e:aF U σ'):W2 σ' F H Y A T sp:=⟨h.a.bP e,h.s.bP e,h.d,h.g.bP e,h.o,h.o2⟩
theorem W2.cut (h:W2 U F H Y A T sp):W2 U (Cut F U) (Cut H U) Y A T sp:=⟨h.a.cut,dN.cut dP.loc h.s,λb i j=>h.d b i.1 j.1,h.g,h.o.sub λb i=>i.1,h.o2.sub λb i=>i.1⟩
theorem W2.pB (h:W2 U F H Y A T sp){σ':Hp}{A':AR}(e:Ext F U σ')(ha:dK σ' (Grow F U) Y A' T):W2 σ' (Grow F U) (Cut H U) Y A' T sp:=
 ⟨ha,dN.bS dP.loc (dN.cut dP.loc h.s) e λb _ a j=>h.d b j a.1,λb a i=>by
  rcases a with a|a
  ·exact h.d b a i.1
  ·have:=i.2;omega,h.g.bS e h.o,h.o.grow h.g,h.o2.sub λb a=>a.1⟩
theorem W2.EM (h:W2 U F H Y A T sp){K:Option Addr->Prop}(hK:K (some ⟨Y.hs,0,none⟩)):fY (Addr.add ⟨Y.p,0,none⟩ 1) U K:=h.a.hd.rP rfl hK
theorem Lj (st:List Nat)(a m:Nat):Ho st a (m+1)=jh (Ho st a m) ((a+m:Nat):Int):=by
 unfold Ho;rw[qR,zj,vp];rfl
theorem TO {a m:Int}(h:fE sp a m≠0):fZ sp a m=sp:=by unfold fZ;rw[zB h]
theorem Tr {size:Nat}(h1:1<=size)(h:∀j,1<=j->j*size+size<=sp.st.length->fE sp ((j*size:Nat):Int) (size:Int)≠0):dB sp size=none:=by
 unfold dB;rw[oI];intro x hx;obtain⟨j,d,rfl⟩:=zD.1 hx;rw[zg]at d;have b:(j+1)*size<=sp.st.length:=kx (mA size d) (yH _ _);rw[zo,Nat.one_mul]at b;by_cases h0:j=0
 ·subst h0;simp
 ·have:=h j O b;have a:(fE sp ((j*size:Nat):Int) (size:Int)==0)=false:=by simpa only[mX]using this
  rw[a,uX];simp
theorem R8 {size j:Nat}(h1:1<=size)(h0:1<=j)(hf:j*size+size<=sp.st.length)(hm:fE sp ((j*size:Nat):Int) (size:Int)=0)(h:∀i,1<=i->i<j->fE sp ((i*size:Nat):Int) (size:Int)≠0):dB sp size=some (j*size):=by
 unfold dB;have m:j<sp.st.length/size:=by
  rw[Nat.lt_iff_add_one_le,Nat.le_div_iff_mul_le h1,zo,Nat.one_mul];exact hf
 have a:List.range (sp.st.length/size)=List.range j++(j::(List.range (sp.st.length/size-j-1)).map (j+1 + ·)):=by
  apply zy;intro i;rw[List.getElem?_append,AW];by_cases hi:i<j
  ·rw[zC hi,nU O,nU hi]
  ·rw[zB hi];by_cases hij:i=j
   ·subst hij;rw[pS,Ad,nU m]
   ·rw[show i-j=(i-j-1)+1 by omega,yY,zZ];by_cases hl:i<sp.st.length/size
    ·rw[nU hl,nU O];simp only[ze]
     congr 1;omega
    ·rw[zX (by rw[AW];omega),zX (by rw[AW];omega)];rfl
 rw[a,zj,List.find?_append];have b:((List.range j).map (· * size)).find? (λ(s:Nat)=>s != 0&&fE sp s size==0)=none:=by
  rw[oI];intro x hx;obtain⟨i,hi,rfl⟩:=zD.1 hx;rw[zg]at hi;by_cases h0:i=0
  ·subst h0;simp
  ·have:=h i O hi;have g:(fE sp ((i*size:Nat):Int) (size:Int)==0)=false:=by simpa only[mX]using this
   rw[g,uX];simp
 rw[b,zR,vB];have:(j*size != 0&&fE sp ((j*size:Nat):Int) (size:Int)==0)=true:=by
  rw[hm];have p:0<j*size:=Nat.mul_pos O O;have d:j*size≠0:=by omega
  simp[d]
 rw[this];rfl
theorem TF (h:W2 U F H Y A T sp){size:Nat}(h1:size=16\/size=32\/size=64){R:aO}(h0:Hm A sp size=none->∀σ',Ext (ji F H) U σ'->W2 σ' F H Y A T sp->R false σ')
 (hR:∀A' sp',Hm A sp size=some (A',sp')->∀σ',Ext (ji F H) U σ'->W2 σ' F H Y A' T sp'->R true σ'):Ze.c (aW Y.p) (size:Int) U R:=by
 refine Ze.o ?_;unfold Ze.v;have hn2:sp.st.length<=1024:=by obtain⟨q,r,l,B,hh⟩:=h.s;exact hh.n2
 have es:∀{a b:Hp},Ext H a b->Ext (ji F H) a b:=λe=>e.sub λb P=>.inr P;have ea:∀{a b:Hp},Ext F a b->Ext (ji F H) a b:=λe=>e.sub λb P=>.inl P;have d:∀j,j*size+size=(j+1)*size:=λj=>by rw[zo,Nat.one_mul]
 refine Qv (a:=bO) (λ(t:Int) v=>∃j:Nat,t=((j*size:Nat):Int)/\1<=j/\j*size<=1024+64/\Ext (ji F H) U v/\W2 v F H Y A T sp/\∀i,1<=i->i<j->i*size+size<=sp.st.length->fE sp ((i*size:Nat):Int) (size:Int)≠0) (λt _=>2000-t.toNat)
  ⟨1,O,zE _,O,Ext.refl _ _,h,λi h1 h2=>O⟩ ?_
 rintro t v ⟨j,rfl,hj,P,e,z,y⟩;refine cT (m:=j*size+size) O O (bL (z.EM (Jp z.s (cN (λhlt=>?_) λhge=>?_))))
 ·have hf:j*size+size<=sp.st.length:=by omega
  refine bL (z.EM (RO z.s z.g z.o2 _ _ λv2 e2 K=>?_));refine cQ (λV=>?_) λV=>?_
  ·have M:fE sp ((j*size:Nat):Int) (size:Int)≠0:=by simpa using V
   rw[TO M]at K;refine cT (m:=(j+1)*size) (by rw[←d];omega) (by rw[←d];omega) ⟨⟨j+1,rfl,O,by rw[←d];omega,e.trans (es e2),z.space e2 K,λi x J E=>?_⟩,by rw[←d];omega⟩;by_cases hij:i=j
   ·subst hij;exact M
   ·exact y i x O E
  ·have Q:fE sp ((j*size:Nat):Int) (size:Int)=0:=by simpa using V
   have W:=z.space e2 K;have L:∀i,i<j->i*size+size<=sp.st.length:=λi hi=>by
    have:(i+1)*size<=j*size:=mA _ hi;rw[d];omega
   have G:=R8 (sp:=sp) O hj hf Q λi x J=>y i x J (L i J);have D:Hm A sp size=some ({A with st:=Ho A.st (j*size/16) (size/16),S:=Kg A.n A.S ((j*size:Nat):Int) size},fZ sp ((j*size:Nat):Int) size):=by unfold Hm;rw[G]
   have hd16:(j*size)%16=0:=by
    rcases h1 with rfl|rfl|rfl
    ·omega
    ·omega
    ·omega
   refine nz aB (cT (m:=j*size/16) (by rw[YR O];simp) O ?_);refine Qv (a:=bO) (λ(t:Int) w=>∃i:Nat,t=((j*size/16+i:Nat):Int)/\i<=size/16/\Ext (ji F H) U w/\W2 w F H Y {A with st:=Ho A.st (j*size/16) i} T (fZ sp ((j*size:Nat):Int) size)) (λt _=>200-t.toNat)
    ⟨0,O,O,e.trans (es e2),W⟩ ?_
   rintro t w ⟨i,rfl,hi,ew,u⟩;refine cT (m:=j*size+size) O O (nz aB (cT (m:=(j*size+size)/16) (by rw[YR O];simp) O (cN (λaa=>?_) λhge2=>?_)))
   ·refine bL (u.a.hd.rP rfl (u.a.BP _ λZ t2 N C=>?_));refine cT (m:=j*size/16+(i+1)) O O ⟨⟨i+1,rfl,O,ew.trans (ea N),?_⟩,O⟩;rw[Lj];exact u.l4 N C
   ·have X:i=size/16:=by omega
    subst X;refine bL (u.a.hd.rP rfl (u.a.xB _ _ λZ t2 N C=>?_));exact hR _ _ D Z (ew.trans (ea N)) (u.l4 N C)
 ·have G:=Tr (sp:=sp) (size:=size) O λi x E=>by
   by_cases hij:i<j
   ·exact y i x hij E
   ·have:j*size<=i*size:=mA _ O;omega
  have D:Hm A sp size=none:=by unfold Hm;rw[G]
  exact h0 D v e z
theorem SF {m a:Nat}(h1:1<=m)(h2:m<=64)(ha:a=1\/a=2\/a=4\/a=8\/a=16):Go.Bu.fP (m:Int) (a:Int)=true:=by
 have b:Go.Bu.fo (a:Int)=true:=by rcases ha with rfl|rfl|rfl|rfl|rfl<;>decide
 unfold Go.Bu.fP;rw[b];simp only[wo,zF,zV];omega
theorem W2.take (h:W2 U F H Y A T sp){m a:Nat}(hok:Go.Bu.fP (m:Int) (a:Int)=true){R:Int->Int->Hp->Prop}(h0:Zx A.n A.S m a=none->∀σ',Ext F U σ'->W2 σ' F H Y A T sp->R 0 6 σ')
 (h1:∀x,Zx A.n A.S m a=some x->x+m<=A.n->∀σ',Ext F U σ'->W2 σ' F H Y {A with S:=Go.Bu.take A.S x (x+m)} T sp->R (x:Int) 0 σ'):XZ.c (aW Y.fr) (m:Int) (a:Int) U R:=by
 have b:Go.Bu.Bounded A.S A.n:=by obtain⟨r,p,i,_⟩:=h.a.free;exact i.jC
 refine h.a.wU _ _ λσ' e j=>?_;have d:=h.l4 e j;cases ht:Zx A.n A.S m a with
 | none=>
  have e1:Go.Bu.je A.n A.S (m:Int) (a:Int)=6:=by unfold Go.Bu.je;rw[hok,zC rfl];simp only[dG];rw[ht]
  have e2:Go.Bu.ja A.n A.S (m:Int) (a:Int)=0:=by unfold Go.Bu.ja;rw[hok,zC rfl];simp only[dG];rw[ht]
  have g:Go.Bu.jl A.n A.S (m:Int) (a:Int)=A.S:=by unfold Go.Bu.jl;rw[hok,zC rfl];simp only[dG];rw[ht]
  rw[e1,e2];rw[g]at d;exact h0 ht σ' e d
 | some x=>
  have e1:Go.Bu.je A.n A.S (m:Int) (a:Int)=0:=by unfold Go.Bu.je;rw[hok,zC rfl];simp only[dG];rw[ht]
  have e2:Go.Bu.ja A.n A.S (m:Int) (a:Int)=x:=by unfold Go.Bu.ja;rw[hok,zC rfl];simp only[dG];rw[ht]
  have g:Go.Bu.jl A.n A.S (m:Int) (a:Int)=Go.Bu.take A.S x (x+m):=by unfold Go.Bu.jl;rw[hok,zC rfl];simp only[dG];rw[ht]
  rw[e1,e2];rw[g]at d;exact h1 x ht (Go.Bu.lB b ht).1 σ' e d
theorem MH {size:Nat}{A':AR}{sp':Sp}(h:Hm A sp size=some (A',sp')):A'.n=A.n:=by
 unfold Hm at h;split at h
 ·cases h
 ·cases h;rfl
def Fits (U:Hp)(F H F' H':Rg):Prop:=(∀b,F' b->Grow F U b)/\∀b,H' b->H b
theorem Jf (h:W2 U F H Y A T sp){m a no:Nat}(h1:1<=m)(h2:m<=64)(ha:a=1\/a=2\/a=4\/a=8\/a=16)(hn1:1<=no)(hn2:no<=1000){R:Int->Int->Hp->Prop}
 (h0:(dC A sp m a no).1=none->∀σ',Ext (ji F H) U σ'->W2 σ' F H Y (dC A sp m a no).2.1 T (dC A sp m a no).2.2->R 0 6 σ')
 (hR:∀x,(dC A sp m a no).1=some x->x+m<=A.n->∀σ' F' H',Fits U F H F' H'->Ext (ji F H) U σ'->W2 σ' F' H' Y (dC A sp m a no).2.1 T (dC A sp m a no).2.2->R (x:Int) 0 σ') :
 YZ.c (aW Y.p) (m:Int) (a:Int) (no:Int) U R:=by
 refine YZ.o ?_;unfold YZ.v;have G:=SF h1 h2 ha;have es:∀{a b:Hp},Ext H a b->Ext (ji F H) a b:=λe=>e.sub λb j=>.inr j;have s:∀{a b:Hp},Ext F a b->Ext (ji F H) a b:=λe=>e.sub λb j=>.inl j;have fin:∀(v:Hp) (x:Nat) (A1:AR) (sp1:Sp),Ext (ji F H) U v->x+m<=A.n->W2 v F H Y {A1 with S:=Go.Bu.take A1.S x (x+m)} T sp1->dC A sp m a no=(some x,dV A1 x m no,sp1) →
  bW (some ⟨Y.p,0,none⟩) λV=>fY (V.add 3) v λN=>XU.c N (x:Int) (m:Int) v λt55 r=>bW (some ⟨Y.p,0,none⟩) λM=>fY (M.add 4) r λP=>Yx.c P (x:Int) (m:Int) (no:Int) r λt63 v3=>R (x:Int) 0 v3:=by
  intro v x A1 sp1 e hxm z y;have W:x<=1000000:=by have:=h.a.lay.n2;omega
  refine bL (z.a.hd.rP rfl (z.a.MR _ _ λr t2 e2 aa=>?_));have g:=z.l4 e2 aa;refine bL (g.a.hd.rP rfl (g.a.Set x m W hn1 hn2 λv3 t3 e3 Z=>?_));have K:=g.pB e3 Z;refine hR x (by rw[y]) hxm v3 (Grow F r) (Cut H r) ⟨λb j=>?_,λb j=>j.1⟩ ((e.trans (s e2)).trans (s e3)) (by rw[y];exact K);rcases j with j|j
  ·exact .inl j
  ·exact .inr (kx (e.trans (s e2)).1 j)
 refine bL (h.a.hd.rP rfl (h.take G (λE v e z=>?_) λx E D v e z=>?_))
 ·refine Jn.intro (cF rfl ?_);have X:(if(a:Int)>(m:Int)then(a:Int)else(m:Int))=((max m a:Nat):Int):=by
   by_cases hgt:(a:Int)>(m:Int)
   ·rw[zC hgt];omega
   ·rw[zB hgt];omega
  rw[X];refine Qv (a:=bO) (λ(t:Int) w=>w=v/\(t=16\/t=32/\16<max m a\/t=64/\32<max m a)) (λt _=>100-t.toNat) ⟨rfl,.inl rfl⟩ ?_;rintro(t:Int) w ⟨rfl,hcase⟩;have ha16:a<=16:=by omega
  refine cN (λhlt=>?_) λhge=>?_
  ·have:t=16\/t=32:=by omega
   rcases this with rfl|rfl
   ·exact ar O O ⟨⟨rfl,O⟩,by decide⟩
   ·exact ar O O ⟨⟨rfl,O⟩,by decide⟩
  ·have Q:t=((KD (max m a):Nat):Int):=by
    unfold KD;by_cases c1:max m a<=16
    ·rw[zC c1];omega
    ·rw[zB c1];by_cases c2:max m a<=32
     ·rw[zC c2];omega
     ·rw[zB c2];omega
   subst Q;have L:KD (max m a)=16\/KD (max m a)=32\/KD (max m a)=64:=by omega
   refine TF z L (λy σ' J u=>?_) λA' C y σ' J u=>?_
   ·have d:dC A sp m a no=(none,A,sp):=by unfold dC;rw[E];simp only;rw[y]
    exact cF rfl (h0 (by rw[d]) σ' ((s e).trans J) (by rw[d];exact u))
   ·refine cD rfl (bL (u.a.hd.rP rfl (u.take G (λB r e2 g=>?_) λx B D r e2 g=>?_)))
    ·have d:dC A sp m a no=(none,A',C):=by unfold dC;rw[E];simp only;rw[y];simp only;rw[B]
     exact cF rfl (h0 (by rw[d]) r (((s e).trans J).trans (s e2)) (by rw[d];exact g))
    ·have d:dC A sp m a no=(some x,dV A' x m no,C):=by unfold dC;rw[E];simp only;rw[y];simp only;rw[B]
     exact cD rfl (fin r x A' C (((s e).trans J).trans (s e2)) (by rw[←MH y];exact D) g d)
 ·have d:dC A sp m a no=(some x,dV A x m no,sp):=by unfold dC;rw[E]
  refine Jn.intro (cD rfl (cD rfl (fin v x A sp (s e) D z d)))
theorem Fits.refl:Fits U F H F H:=⟨λb a=>.inl a,λb a=>a⟩
theorem W2.mono {F' H':Rg}(h:W2 U F H Y A T sp)(hF:jf F')(hF2:∀b,b<U.size->F b->F' b)(hH:∀b,H' b->H b)(hH2:∀b,b<U.size->H b->H' b)(hd:∀b,F' b->¬H' b):W2 U F' H' Y A T sp:=
 ⟨h.a.mono hF2,dN.mono dP.loc h.s hH2,hd,h.g,hF,h.o2.sub hH⟩
theorem Mh (h:W2 U F H Y A T sp)(k:Int){R:aN}(hR:∀σ' F' H',Fits U F H F' H'->Ext (ji F H) U σ'->W2 σ' F' H' Y (cP A sp k).1 T (cP A sp k).2->R (Vy A sp k) σ') :
 Yk.c (aW Y.p) k U R:=by
 refine Yk.o ?_;unfold Yk.v;refine U2 h.a k (λD=>?_) λx hx P=>?_
 ·have e1:Vy A sp k=1:=by unfold Vy;rw[D];rfl
  have e2:cP A sp k=(A,sp):=by unfold cP;rw[D];rfl
  have:=hR U F H Fits.refl (Ext.refl _ _) (by rw[e2];exact h);rw[e1]at this;exact cF rfl this
 ·subst hx;have D:A.ck (x:Int)=true:=by unfold AR.ck;simp;omega
  obtain⟨c,S,q,t,r,J,B,Z,_,_,M⟩:=h.a.at_ P;have ht2:=h.a.lay.rz;obtain⟨_,_,_,Q,hp4,_⟩:=M;refine cD rfl (bL (h.a.hd.rS rfl (h.a.yj (d:=1) J O ?_)));simp only[zB (show ¬(1=0) by omega),zT];refine cT (m:=x+1) O O ?_;have X:Vy A sp x=match (dC A sp c.aG 1 (x+1)).1 with
   | some y=>oC c S y
   | none=>6:=by unfold Vy;rw[D,zC rfl];simp only[dG];rw[J,B];rfl
  have eS:cP A sp x=match dC A sp c.aG 1 (x+1)with
   | (some y,A',w)=>(if oC c S y=0 then{A' with cG:=A'.cG.set x (iv c S y)}else A',w)
   | (none,A',w)=>(A',w):=by unfold cP;rw[D,zC rfl];simp only[dG];rw[J,B];rfl
  refine Jf (a:=1) h Q O (.inl rfl) O O (λC σ' e u=>?_) λy C hyn σ' F' H' i e u=>?_
  ·have:=hR σ' F H Fits.refl e;rw[X,eS,C]at this;generalize dC A sp c.aG 1 (x+1)=g at *;obtain⟨g1,g2,g3⟩:=g;simp only at C;subst C;exact cF rfl (this u)
  ·have z:(dC A sp c.aG 1 (x+1)).2.1.tb=A.tb/\(dC A sp c.aG 1 (x+1)).2.1.cG=A.cG:=by
    unfold dC;split
    ·exact⟨rfl,rfl⟩
    ·split
     ·exact⟨rfl,rfl⟩
     ·rename_i A1 sp1 hga;have:A1.tb=A.tb/\A1.cG=A.cG:=by
       unfold Hm at hga;split at hga
       ·cases hga
       ·cases hga;exact⟨rfl,rfl⟩
      split
      ·exact this
      ·exact this
   have s:=λσ' F' H'=>hR σ' F' H';rw[X,eS]at s;generalize dC A sp c.aG 1 (x+1)=g at *;obtain⟨g1,A',w⟩:=g;simp only at C u z s;subst C;simp only at s;have hWc:=u;obtain⟨G,K,⟨ps,hC⟩,_,E⟩:=u.a.uz Z (by rw[z.1];exact J) (by rw[z.2];exact B);have hn2:=h.a.lay.n2;refine cD rfl (bL (u.a.hd.rS rfl (u.a.mq Z (SJ hC O (λh9 v e2=>?_) λW v ps' e2 N=>?_))))
   ·have:=s v F' H' i (e.gp e2) (by rw[h9];exact u.bP e2);rw[h9]at this;exact this
   ·have V:=E v _ _ (Grow G σ') _ e2 (λb j=>j) N (GD K λb j=>j);have L:=u.pB (e2.sub K) V;have:=s v (Grow F' σ') (Cut H' σ') ⟨λb j=>?_,λb j=>i.2 b j.1⟩ (e.dQ (e2.sub K) λb j=>?_) (by rw[W];exact L)
    ·rw[W]at this;exact this
    ·rcases j with j|j
     ·exact i.1 b j
     ·exact .inr (kx e.1 j)
    ·rcases i.1 b j with h1|h1
     ·exact .inl (.inl h1)
     ·exact .inr h1
theorem GT (A:AR)(sp:Sp)(m a no:Nat):(dC A sp m a no).2.1.tb=A.tb/\(dC A sp m a no).2.1.cG=A.cG/\(dC A sp m a no).2.1.cR=A.cR/\(dC A sp m a no).2.1.room=A.room/\(dC A sp m a no).2.1.runs=A.runs/\(dC A sp m a no).2.1.n=A.n:=by
 unfold dC;split
 ·exact⟨rfl,rfl,rfl,rfl,rfl,rfl⟩
 ·split
  ·exact⟨rfl,rfl,rfl,rfl,rfl,rfl⟩
  ·rename_i A1 sp1 hga;have:A1.tb=A.tb/\A1.cG=A.cG/\A1.cR=A.cR/\A1.room=A.room/\A1.runs=A.runs/\A1.n=A.n:=by
    unfold Hm at hga;split at hga
    ·cases hga
    ·cases hga;exact⟨rfl,rfl,rfl,rfl,rfl,rfl⟩
   split
   ·exact this
   ·exact this
theorem RG:∀a:Nat,a<17->1<=a->((bits .and .i64 (a:Int) ((a:Int)-1) != 0) = !(a==1||(a==2||(a==4||(a==8||a==16))))):=by decide
theorem Pr (h:W2 U F H Y A T sp)(m a:Int){R:Int->Int->Hp->Prop}(hR:∀σ' F' H',Fits U F H F' H'->Ext (ji F H) U σ'->W2 σ' F' H' Y (cC A sp m a).1 T (cC A sp m a).2->R ((QD A sp m a:Nat):Int) (Q3 A sp m a) σ') :
 Xb.c (aW Y.p) m a U R:=by
 refine Xb.o ?_;unfold Xb.v;have L:KY m a=false->R 0 1 U:=λu=>by
  have e1:Q3 A sp m a=1:=by unfold Q3;rw[u];rfl
  have e2:cC A sp m a=(A,sp):=by unfold cC;rw[u];rfl
  have X:QD A sp m a=0:=by unfold QD;rw[u];rfl
  have:=hR U F H Fits.refl (Ext.refl _ _) (by rw[e2];exact h);rw[e1,X]at this;exact this
 have d:¬(1<=m/\m<=64/\(a=1\/a=2\/a=4\/a=8\/a=16))->R 0 1 U:=λhn=>L (by
  rw[←sg];intro hp;unfold KY at hp;simp at hp;omega)
 refine HW h.a (cD rfl (bX.intro (cN (λW=>bX.intro (cF rfl (bX.intro (cF rfl (bX.intro (cF rfl (cF rfl (d O)))))))) λW=>?_)));refine bX.intro (cN (λc2=>bX.intro (cF rfl (bX.intro (cF rfl (cF rfl (d O)))))) λc2=>?_);refine bX.intro (cN (λc3=>bX.intro (cF rfl (cF rfl (d O)))) λc3=>?_);refine bX.intro (cN (λc4=>cF rfl (d O)) λc4=>ar O O ?_);obtain⟨y,rfl⟩:=zc (show 0<=m by omega);obtain⟨z,rfl⟩:=zc (show 0<=a by omega);rw[RG z O O];refine cQ (λM=>?_) λM=>?_
 ·refine d (λhh=>?_);simp at M;omega
 ·have hz:z=1\/z=2\/z=4\/z=8\/z=16:=by
   simp at M;omega
  have u:KY (y:Int) (z:Int)=true:=by
   unfold KY;simp;omega
  have N:Q3 A sp y z=if(dC A sp y z 41).1.isSome then 0 else 6:=by unfold Q3;rw[u,zC rfl];rfl
  have P:QD A sp y z=(dC A sp y z 41).1.getD 0:=by unfold QD;rw[u,zC rfl];rfl
  have S:cC A sp y z=match dC A sp y z 41 with
   | (some x,A',r)=>({A' with runs:=cC.mset2 A'.runs x y},r)
   | (none,A',r)=>(A',r):=by unfold cC;rw[u,zC rfl];rfl
  refine Jf (no:=41) h O O hz O O (λB σ' e w=>?_) λx B V σ' F' H' s e w=>?_
  ·have:=hR σ' F H Fits.refl e;rw[N,S,P,B]at this;generalize dC A sp y z 41=g at *;obtain⟨Z,g2,g3⟩:=g;simp only at B;subst B;exact cF rfl (this w)
  ·have j:=λσ' F' H'=>hR σ' F' H';rw[N,S,P]at j;generalize dC A sp y z 41=g at *;obtain⟨Z,A',r⟩:=g;simp only at B w j;subst B;simp only at j;obtain⟨gr,hm,D⟩:=w.a.tn;refine cD rfl (bL (w.a.hd.rM rfl ⟨_,_,rfl,hm,λv Q K=>?_⟩));have C:dJ v Y.rn .i64 bO (dA (iU A'.runs) (x:Int) (y:Int)):=K;rw[Nb]at C;have J:=D v _ Q C;have e2:Ext F' σ' v:=Q.ext.sub λb G=>by subst G;exact gr
   have E:=w.l4 e2 J;exact j v F' H' s (e.dQ e2 λb G=>by
    rcases s.1 b G with h1|h1
    ·exact .inl (.inl h1)
    ·exact .inr h1) E
end Go.Ar
namespace Go.Proofs
open Go.Vc
set_option maxRecDepth 100000
end Go.Proofs
namespace Go.Ar
open Go Go.Vc Go.Proofs
variable {U:Hp}{Q:Rg}{key:Nat->Nat}
end Go.Ar
namespace Go.Ar
open Go Go.Vc Go.Proofs
variable {U:Hp}{F:Rg}{p q:Nat}{st:List Nat}
end Go.Ar
namespace Go.Ar
open Go Go.Vc Go.Proofs
open Go.Bu (Zz Kg Zx)
variable {U:Hp}{F H:Rg}{p hs:Nat}{A:AR}{sp:Sp}{Y:Lay}{T:Nat->Hp->Rg->Prop}
theorem dK.cR (h:dK U F Y A (cM A Y)){k q:Nat}{c:cA}{t:gP}(h1:Y.gC[k]?=some q)(h2:A.tb[k]?=some c)(h3:A.cR[k]?=some t):∃G:Rg,(∀b,G b->F b)/\iW U G q c.batch A.room t:=by
 obtain⟨G,a,hi,_⟩:=h.uk h1 h2 h3;exact⟨G,a,hi⟩
def part {α:Type}(f:cA->α->Nat)(tb:List cA)(l:List α)(i:Nat):Nat:=(((tb.zip l).take i).map λx=>f x.1 x.2).sum
end Go.Ar
namespace Go.Ar
open Go Go.Vc Go.Proofs
variable {U:Hp}
theorem FJ:∀(xs:List (Int×Int×Int)),vM xs=true↔∀(i:Nat) a b,xs[i]?=some a->xs[i+1]?=some b->a.1<b.1
 | []=>by simp[vM]
 | [x]=>by simp[vM]
 | x::y::l=>by
  have ih:=FJ (y::l);show(decide (x.1<y.1)&&vM (y::l))=true↔_;rw[zF,ih,zV];constructor
  ·rintro⟨h1,h2⟩ i a b d g;cases i with
   | zero=>simp at d g;subst d;subst g;exact h1
   | succ i=>exact h2 i a b (by simpa using d) (by simpa using g)
  ·intro h;exact⟨h 0 x y rfl rfl,λi a b d g=>h (i+1) a b (by simpa using d) (by simpa using g)⟩
theorem QT (xs:List (Int×Int×Int)):QY xs=true↔1<=xs.length/\xs.length<=40/\(∀(i:Nat) t,xs[i]?=some t->U1 t.1 t.2.1 t.2.2=true)/\∀(i:Nat) a b,xs[i]?=some a->xs[i+1]?=some b->a.1<b.1:=by
 unfold QY;simp only[zF,zV,FJ,ko];constructor
 ·rintro⟨h1,h2,h3,h4⟩;exact⟨h1,h2,λi t d=>h3 t (zG d),h4⟩
 ·rintro⟨h1,h2,h3,h4⟩;exact⟨h1,h2,λt d=>by obtain⟨i,hi⟩:=zP d;exact h3 i t hi,h4⟩
theorem Ab {s:Sl}{xs:List (Int×Int×Int)}(ha:iw U s xs){R:aO}(hR:∀σ',aF U σ'->R (QY xs) σ'):ZZ.c s U R:=by
 refine ZZ.o ?_;unfold ZZ.v;have L:∀σ',aF U σ'->¬(1<=xs.length/\xs.length<=40/\(∀(i:Nat) t,xs[i]?=some t->U1 t.1 t.2.1 t.2.2=true)/\∀(i:Nat) a b,xs[i]?=some a->xs[i+1]?=some b->a.1<b.1)->R false σ':=λσ' e hn=>by
  have:=hR σ' e;have hf:QY xs=false:=by rw[←sg,QT];exact hn
  rw[hf]at this;exact this
 have X:=ha.1;refine bX.intro (cN (λc1=>cF rfl (L U (Ext.refl _ _) λh=>O)) λc1=>?_);refine cN (λc2=>L U (Ext.refl _ _) λh=>O) λc2=>?_;refine Qv (a:=bO) (λ(t:Int) v=>∃i:Nat,t=(i:Int)/\i<=xs.length/\aF U v/\(∀(j:Nat) t,j<i->xs[j]?=some t->U1 t.1 t.2.1 t.2.2=true)/\∀(j:Nat) a b,j+1<i->xs[j]?=some a->xs[j+1]?=some b->a.1<b.1) (λt _=>xs.length-t.toNat)
  ⟨0,rfl,O,Ext.refl _ _,λj t h=>O,λj a b h=>O⟩ ?_
 rintro t v ⟨i,rfl,hi,e,Z,W⟩;have N:=Qx ha e;refine cN (λhlt=>?_) λhge=>?_
 ·have M:i<xs.length:=by omega
  have B:xs[i]?=some xs[i]:=cW M;generalize xs[i]=r at B;obtain⟨x,y,z⟩:=r;refine Aq N B ?_;refine nw (cs:=[.int .i64 0,.int .i64 0,.int .i64 0]) λv2 hz2 e2 b2=>b2.s1 aA λv3 o3 b3=>b3.s1 aA λv4 o4 b4=>b4.s1 aA λv5 o5 H=>?_;have e5:aF v v5:=Ext.fresh (Ext.fresh (Ext.fresh e2 o3.ext λi hi=>O) o4.ext λi hi=>O) o5.ext λi hi=>by omega
  refine Jn.intro ⟨(· = v5),rfl,⟨x,λm G=>by rw[G,add_lit,H.cell];rfl,⟨y,λm G=>by rw[G,add_lit,H.cell];rfl,⟨z,λm G=>by rw[G,add_lit,H.cell];rfl,?_⟩⟩⟩⟩;refine IX x y z λv7 Y=>?_;have w:=(Ext.trans e e5).trans Y;have E:(U1 x y z=false\/∃a,0<i/\xs[i-1]?=some a/\x<=a.1)->R false v7:=λQ=>L v7 w λJ=>by
   rcases Q with Q|⟨a,K,hb1,hb2⟩
   ·have:=J.2.2.1 i _ B;simp only at this;rw[Q]at this;cases this
   ·have:=J.2.2.2 (i-1) a (x,y,z) hb1 (by rw[show i-1+1=i by omega];exact B);simp only at this;omega
  cases hc:U1 x y z
  ·exact cF rfl (cF rfl (E (.inl hc)))
  ·have next:(∀a,0<i->xs[i-1]?=some a->a.1<x)->Ar .i64 ((i:Int)+1) λg=>(∃i:Nat,g=(i:Int)/\i<=xs.length/\aF U v7/\(∀(j:Nat) t,j<i->xs[j]?=some t->U1 t.1 t.2.1 t.2.2=true)/\∀(j:Nat) a b,j+1<i->xs[j]?=some a->xs[j+1]?=some b->a.1<b.1)/\xs.length-g.toNat<xs.length-(i:Int).toNat:=by
    intro K;refine cT (m:=i+1) O O ⟨⟨i+1,rfl,O,w,λj t hj A=>?_,λj a b hj p d=>?_⟩,O⟩
    ·by_cases hji:j=i
     ·subst hji;rw[B]at A;cases A;exact hc
     ·exact Z j t O A
    ·by_cases hji:j+1=i
     ·subst hji;rw[B]at d;cases d;exact K a O p
     ·exact W j a b O p d
   refine cD rfl (cN (λK=>?_) λK=>cD rfl (next λa kB=>O))
   have u:xs[i-1]?=some (xs[i-1]' O):=cW _;generalize xs[i-1]' O=r at u;obtain⟨S,y',z'⟩:=r;have D:=Qx ha w;obtain⟨b,o,g1,g2,g3,g4,g5⟩:=D.2 (i-1) S y' z' u;have V:=Y.bV H id;refine cT (m:=i-1) O O ?_;rw[g1];refine ix O O ?_;have F:cell v7 ⟨b,o+(((i-1:Nat):Int)).toNat*3+0,none⟩=some (.int .i64 S):=by simpa using g3
   have fin:If (decide (x<=S)) (R false v7) (Ar .i64 ((i:Int)+1) λg=>(∃i:Nat,g=(i:Int)/\i<=xs.length/\aF U v7/\(∀(j:Nat) t,j<i->xs[j]?=some t->U1 t.1 t.2.1 t.2.2=true)/\∀(j:Nat) a b,j+1<i->xs[j]?=some a->xs[j+1]?=some b->a.1<b.1)/\xs.length-g.toNat<xs.length-(i:Int).toNat):=by
    refine cN (λP=>E (.inr ⟨_,O,u,P⟩)) λhgt=>next λa _ C=>?_
    rw[u]at C;cases C;simp only;omega
   rw[add_lit b o];exact⟨V.rI rfl (eD F fin),eD F (V.rI rfl fin)⟩
 ·have:i=xs.length:=by omega
  subst this;have J:QY xs=true:=(QT xs).2 ⟨O,O,λi t A=>Z i t (cX.1 A).1 A,λi a b p d=>W i a b (cX.1 d).1 p d⟩;have:=hR v e;rw[J]at this;exact this
end Go.Ar
namespace Go.Ar
open Go Go.Vc Go.Proofs
open Go.Bu (Zz Kg Zx)
variable {U:Hp}{F H:Rg}{p hs:Nat}{A:AR}{sp:Sp}{Y:Lay}{T:Nat->Hp->Rg->Prop}
open Classical in
theorem _root_.Go.Vc.Sep.put {L:Type}{C C':L->Hp->Rg->Prop}{U:Hp}{F G:Rg}(hC:∀i,dN (C i))(h:Sep C U F)(i:L)(hd:∀b,G b->¬F b)(hj:∀j,j≠i->C' j=C j)(hi:C' i U G)(hL:dN (C' i)):Sep C' U λb=>F b\/G b:=by
 obtain⟨ρ,h⟩:=h;refine⟨λb=>if G b then i else ρ b,λj=>?_⟩
 by_cases hji:j=i
 ·subst hji;exact hL.mono hi λb _ d=>⟨.inr d,zC d⟩
 ·rw[hj j hji];refine(hC j).mono (h j) λb _ a=>⟨.inl a.1,?_⟩;show(if G b then i else ρ b)=j
  rw[zB λg=>hd b g a.1];exact a.2
def gF (A:AR)(Y:Lay)(T:Nat->Hp->Rg->Prop)(cs:List Value):Lb->Hp->Rg->Prop
 | .hd=>iE Y.p cs
 | i=>AC A Y T i
theorem gF.loc {cs:List Value}(hT:∀k,dN (T k)):∀i,dN (gF A Y T cs i)
 | .hd=>iE.loc _ _
 | .dF=>AC.loc (A:=A) (Y:=Y) hT .dF
 | .free=>AC.loc (A:=A) (Y:=Y) hT .free
 | .oD=>AC.loc (A:=A) (Y:=Y) hT .oD
 | .own=>AC.loc (A:=A) (Y:=Y) hT .own
 | .dU=>AC.loc (A:=A) (Y:=Y) hT .dU
 | .cS=>AC.loc (A:=A) (Y:=Y) hT .cS
 | .runs=>AC.loc (A:=A) (Y:=Y) hT .runs
 | .cG k=>AC.loc (A:=A) (Y:=Y) hT (.cG k)
 | .cR k=>AC.loc (A:=A) (Y:=Y) hT (.cR k)
theorem Tf:gF A Y T (k9 Y)=AC A Y T:=by
 funext i;cases i<;>rfl
theorem Fx {cs:List Value}(hT:∀k,dN (T k))(h:Sep (gF A Y T cs) U F)(hlen:A.cG.length<=Y.fK.length)(hl:Y.fK.length<=40){vb cp ty:Nat}(hb:bZ U vb [.pointer (some ⟨cp,0,none⟩)])(hvb:¬F vb){K:Sl->Hp->Prop}
 (hK:∀s' σ',Ext F U σ'->Sep (gF A {Y with dU:=s',fK:=Y.fK++[cp]} T cs) σ' (Grow F U)->K s' σ'):App Y.dU 1 8 ty [.pointer none] ⟨some ⟨vb,0,none⟩,1,1⟩ U K:=by
 obtain⟨G,d,hi,_,a⟩:=h.ke (gF.loc hT) .dU;have hi:bT Y.dU 1 (fN Y.fK) U G:=hi;have i:Y.dU.len=Y.fK.length:=by have:=hi.1;simp[fN]at this;omega
 refine hi.app (ys:=[.pointer (some ⟨cp,0,none⟩)]) rfl rfl ?_ (by simp[dS]) aC aC nm λs' σ' m e p=>hK s' σ' (e.sub d) ?_
 ·intro j u hu;rw[add_lit,zH,hb.cell];exact hu
 refine(Sep.loc (gF.loc hT)).mono (a σ' (gF A {Y with dU:=s',fK:=Y.fK++[cp]} T cs) (Grow G U) (λj g=>?_) e (λb hb=>hb) ?_ (gF.loc hT _)) λb _ hb=>GD d (λb hb=>hb) b hb
 ·cases j<;>first|rfl|exact absurd rfl g|skip
  rename_i k;show jZ (Y.fK++[cp])[k]? A.tb[k]? A.cG[k]?=jZ Y.fK[k]? A.tb[k]? A.cG[k]?;rcases ku k Y.fK.length with h1|h1
  ·rw[zd h1]
  ·have:A.cG[k]?=none:=zX O;rw[this]
   funext U F
   unfold jZ;cases(Y.fK++[cp])[k]?<;>cases Y.fK[k]?<;>cases A.tb[k]?<;>rfl
 ·show bT s' 1 (fN (Y.fK++[cp])) σ' (Grow G U);have:fN (Y.fK++[cp])=fN Y.fK++[.pointer (some ⟨cp,0,none⟩)]:=by simp[fN]
  rw[this];exact p
theorem Who (hlen:A.cR.length<=Y.gC.length)(tp:Nat)(s':Sl):cM A {Y with cS:=s',gC:=Y.gC++[tp]}=cM A Y:=by
 funext k
 unfold cM;simp only;rcases ku k Y.gC.length with h1|h1
 ·rw[zd h1]
 ·have:A.cR[k]?=none:=zX O;rw[this]
  funext U F
  unfold lG;cases(Y.gC++[tp])[k]?<;>cases Y.gC[k]?<;>cases A.tb[k]?<;>rfl
theorem I8 {cs:List Value}(h:Sep (gF A Y (cM A Y) cs) U F)(hlen:A.cR.length<=Y.gC.length)(hl:Y.gC.length<=40){vb tp ty:Nat}(hb:bZ U vb [.pointer (some ⟨tp,0,none⟩)])(hvb:¬F vb){K:Sl->Hp->Prop}
 (hK:∀s' σ',Ext F U σ'->Sep (gF A {Y with cS:=s',gC:=Y.gC++[tp]} (cM A {Y with cS:=s',gC:=Y.gC++[tp]}) cs) σ' (Grow F U)->K s' σ'):App Y.cS 1 8 ty [.pointer none] ⟨some ⟨vb,0,none⟩,1,1⟩ U K:=by
 have d:∀k,dN (cM A Y k):=λk=>cM.loc k;obtain⟨G,g,hi,_,a⟩:=h.ke (gF.loc d) .cS;have hi:bT Y.cS 1 (fN Y.gC) U G:=hi;have r:Y.cS.len=Y.gC.length:=by have:=hi.1;simp[fN]at this;omega
 refine hi.app (ys:=[.pointer (some ⟨tp,0,none⟩)]) rfl rfl ?_ (by simp[dS]) aC aC nm λs' σ' m e p=>hK s' σ' (e.sub g) ?_
 ·intro j u hu;rw[add_lit,zH,hb.cell];exact hu
 rw[Who hlen];refine(Sep.loc (gF.loc d)).mono (a σ' (gF A {Y with cS:=s',gC:=Y.gC++[tp]} (cM A Y) cs) (Grow G U) (λj i=>?_) e (λb hb=>hb) ?_ (gF.loc d _)) λb _ hb=>GD g (λb hb=>hb) b hb
 ·cases j<;>first|rfl|exact absurd rfl i
 ·show bT s' 1 (fN (Y.gC++[tp])) σ' (Grow G U);have:fN (Y.gC++[tp])=fN Y.gC++[.pointer (some ⟨tp,0,none⟩)]:=by simp[fN]
  rw[this];exact p
theorem JV {cs:List Value}(hT:∀k,dN (T k))(h:Sep (gF A Y T cs) U F){i:Nat}{v:Value}(hi:i<cs.length){K:aP}(hK:∀σ',Ext F U σ'->Sep (gF A Y T (cs.set i v)) σ' F->K σ'):dX (Addr.add ⟨Y.p,0,none⟩ i) v U K:=by
 obtain⟨G,m,d,_,g⟩:=h.ke (gF.loc hT) .hd;have d:iE Y.p cs U G:=d;refine d.2.s1 O λσ' o b=>hK σ' (o.ext.sub λb a=>by subst a;exact m _ d.1) ?_;rw[zH]at b;refine(Sep.loc (gF.loc hT)).mono (g σ' (gF A Y T (cs.set i v)) G (λj r=>?_) (o.ext.sub λb a=>by subst a;exact d.1) (λb a=>.inl a) ⟨d.1,b⟩ (gF.loc hT _)) λb _ a=>AY m (λb a=>a) b a;cases j<;>first|rfl|exact absurd rfl r
theorem m6 {cs:List Value}(h:Sep (gF A Y T cs) U F):bZ U Y.p cs/\F Y.p:=by
 obtain⟨G,b,a,d⟩:=h.get .hd;exact⟨d,b _ a⟩
theorem ξ {cs:List Value}{i cp tp:Nat}{c:cA}{ss:List cH}{t:gP}{ps:List (Nat×Nat)}{Gc Gt:Rg}(h:Sep (gF A Y (cM A Y) cs) U F)(hlc:A.cG.length=i)(hlt:A.cR.length=i)(hcp:Y.fK[i]?=some cp)(htp:Y.gC[i]?=some tp)(hc:A.tb[i]?=some c)
 (hC:fF U Gc cp c ps ss) (hTf:iW U Gt tp c.batch A.room t) (d1:∀b,Gc b->¬F b) (d2:∀b,Gt b->¬F b) (d3:∀b,Gc b->¬Gt b) :
 Sep (gF {A with cG:=A.cG++[ss],cR:=A.cR++[t]} Y (cM {A with cG:=A.cG++[ss],cR:=A.cR++[t]} Y) cs) U λb=>(F b\/Gc b)\/Gt b:=by
 have r:∀k,dN (cM A Y k):=λk=>cM.loc k;have u:Sep (gF {A with cG:=A.cG++[ss]} Y (cM A Y) cs) U λb=>F b\/Gc b:=by
  refine h.put (gF.loc r) (.cG i) d1 (λj p=>?_) ?_ (gF.loc r _)
  ·cases j<;>first|rfl|skip
   rename_i k;have m:k≠i:=λe=>p (by rw[e]);show jZ Y.fK[k]? A.tb[k]? (A.cG++[ss])[k]?=jZ Y.fK[k]? A.tb[k]? A.cG[k]?;rcases ku k i with h2|h2
   ·rw[zd O]
   ·have d:(A.cG++[ss])[k]?=none:=zX (by rw[zJ,qP];omega);have g:A.cG[k]?=none:=zX O;rw[d,g]
  ·show jZ Y.fK[i]? A.tb[i]? (A.cG++[ss])[i]? U Gc;rw[hcp,hc,zp O,hlc,pS];exact⟨ps,hC⟩
 refine u.put (gF.loc r) (.cR i) (λb s a=>?_) (λj p=>?_) ?_ (gF.loc (λk=>cM.loc k) _)
 ·rcases a with a|a
  ·exact d2 b s a
  ·exact d3 b a s
 ·cases j<;>first|rfl|skip
  rename_i k;have m:k≠i:=λe=>p (by rw[e]);show lG Y.gC[k]? A.tb[k]? A.room (A.cR++[t])[k]?=lG Y.gC[k]? A.tb[k]? A.room A.cR[k]?;rcases ku k i with h2|h2
  ·rw[zd O]
  ·have d:(A.cR++[t])[k]?=none:=zX (by rw[zJ,qP];omega);have g:A.cR[k]?=none:=zX O;rw[d,g]
 ·show lG Y.gC[i]? A.tb[i]? A.room (A.cR++[t])[i]? U Gt;rw[htp,hc,zp O,hlt,pS];exact hTf
open Classical in
noncomputable def jJ {L:Type}(C:L->Hp->Rg->Prop)(S:L->Prop)(i:L):Hp->Rg->Prop:=if S i then C i else Ae
theorem jJ.loc {L:Type}{C:L->Hp->Rg->Prop}{S:L->Prop}(hC:∀i,dN (C i))(i:L):dN (jJ C S i):=by
 unfold jJ;split
 ·exact hC i
 ·exact Ae.loc
theorem jJ.put {L:Type}{C:L->Hp->Rg->Prop}{S:L->Prop}{F G:Rg}(hC:∀i,dN (C i))(h:Sep (jJ C S) U F)(i:L)(hd:∀b,G b->¬F b)(hi:C i U G):Sep (jJ C λj=>S j\/j=i) U λb=>F b\/G b:=by
 refine h.put (jJ.loc hC) i hd (λj a=>?_) ?_ (jJ.loc hC i)
 ·unfold jJ;by_cases hS:S j
  ·rw[zC (.inl hS),zC hS]
  ·rw[zB (λh=>hS (h.resolve_right a)),zB hS]
 ·unfold jJ;rw[zC (.inr rfl)];exact hi
theorem jJ.all {L:Type}{C:L->Hp->Rg->Prop}{S:L->Prop}{F:Rg}(h:Sep (jJ C S) U F)(hS:∀i,S i):Sep C U F:=by
 have:jJ C S=C:=by
  funext i;unfold jJ;rw[zC (hS i)]
 rw[this]at h;exact h
theorem jJ.one {L:Type}{C:L->Hp->Rg->Prop}(S:L->Prop)(l:L)(h:∀i,S i->C i U λ_=>False):Sep (jJ C S) U λ_=>False:=by
 refine⟨λ_=>l,λi=>?_⟩;have:(λ(b:Nat)=>False/\l=i)=λ_=>False:=by funext b;simp
 rw[this];unfold jJ;by_cases hS:S i
 ·rw[zC hS];exact h i hS
 ·rw[zB hS];trivial
theorem Sh {tb:List cA}:∀v∈gH tb,dS v=true:=by
 intro v hv;simp only[gH,List.mem_flatMap]at hv;obtain⟨c,_,a⟩:=hv;simp at a;rcases a with rfl|rfl|rfl<;>rfl
theorem HR {s:Sl}{xs:List (Int×Int×Int)}(ha:iw U s xs)(hv:QY xs=true){i:Nat}{c:cA}(hc:(xs.map QI)[i]?=some c):xs[i]?=some ((c.size:Int),(c.aG:Int),(c.batch:Int))/\c.ok:=by
 rw[zZ,oz]at hc;obtain⟨⟨x,y,z⟩,g,rfl⟩:=hc;obtain⟨c,a,m,b,d,j⟩:=AP (((QT xs).1 hv).2.2.1 i _ g);simp only at b d j;rw[m,g,b,d,j];exact⟨rfl,a⟩
theorem UB {s:Sl}{xs:List (Int×Int×Int)}(ha:iw U s xs)(hv:QY xs=true){R:Sl->Hp->Prop}(hR:∀s' σ',aF U σ'->cV s' 3 (gH (xs.map QI)) σ' (λb=>U.size<=b)->R s' σ'):Wo.c s U R:=by
 refine Wo.o ?_;unfold Wo.v;have K:=(QT xs).1 hv;have z:=ha.1;have x:0<(xs.map QI).length:=by rw[zk];omega
 have A:(xs.map QI)[0]?=some (xs.map QI)[0]:=cW x;obtain⟨L,d,a,_⟩:=ha.2 0 _ _ _ (HR ha hv A).1;refine cD (by rw[a];rfl) (nw (cs:=[]) λv G e1 C=>?_);have p:=Qx ha e1;refine(bT.nil v (λb=>U.size<=b) 3 (some ⟨U.size,0,none⟩)).app (ys:=gH (xs.map QI)) rfl (by rw[UA,zk];omega) ?_ Sh aC aC O λs' F D E m=>hR s' F (Ext.fresh e1 E λi hi=>hi) ?_
 ·rw[a];intro j u hu;have r:=(cX.1 hu).1;rw[UA,zk]at r;have hi:j/3<(xs.map QI).length:=by rw[zk];omega
  have w:(xs.map QI)[j/3]?=some (xs.map QI)[j/3]:=cW hi;generalize (xs.map QI)[j/3]=c at w;have g:=AD w;obtain⟨b,o,y,_,H,B,J⟩:=p.2 (j/3) _ _ _ (HR ha hv w).1;rw[a]at y;cases y;rw[add_lit];rcases(by omega:j=3*(j/3)\/j=3*(j/3)+1\/j=3*(j/3)+2)with hj|hj|hj
  ·rw[hj]at hu;rw[g.1]at hu;cases hu;rw[show d+j=d+j/3*3 by omega];exact H
  ·rw[hj]at hu;rw[g.2.1]at hu;cases hu;rw[show d+j=d+j/3*3+1 by omega];exact B
  ·rw[hj]at hu;rw[g.2.2]at hu;cases hu;rw[show d+j=d+j/3*3+2 by omega];exact J
 ·rw[sN]at m;refine aH.mono m.fW λb _ g=>?_;rcases g with h|h
  ·exact h
  ·omega
def fC (n room:Nat)(tb:List cA):AR:={n:=n,room:=room,tb:=tb,S:=Go.Bu.iB,st:=List.replicate n 0,ow:=λ_=>0,cG:=List.replicate tb.length [],cR:=List.replicate tb.length ⟨0,[]⟩,runs:=[]}
def jt (n room:Nat)(tb:List cA)(i:Nat):AR:={fC n room tb with cG:=List.replicate i [],cR:=List.replicate i ⟨0,[]⟩}
def lF (xs:List (Int×Int×Int))(n:Nat)(room:Int):Int:=if QY xs then(if 32<=n/\n%16=0/\0<=room/\room<=8 then 0 else 1)else 2
def S0:Lb->Prop
 | .dU | .cS | .cG _ | .cR _=>True
 | _=>False
theorem FH {i cp tp:Nat}{c:cA}{ss:List cH}{t:gP}{ps:List (Nat×Nat)}{Gc Gt:Rg}{dU cS:Sl}(hpos:Y.fK.length=i/\Y.gC.length=i)
 (h:Sep (gF A {Y with dU:=dU,cS:=cS,fK:=Y.fK++[cp],gC:=Y.gC++[tp]} (cM A {Y with dU:=dU,cS:=cS,fK:=Y.fK++[cp],gC:=Y.gC++[tp]}) (k9 Y)) U F)
 (hlc:A.cG.length=i) (hlt:A.cR.length=i) (hc:A.tb[i]?=some c) (hC:fF U Gc cp c ps ss) (hTf:iW U Gt tp c.batch A.room t) (d1:∀b,Gc b->¬F b) (d2:∀b,Gt b->¬F b) (d3:∀b,Gc b->¬Gt b) {K:aP}
 (hK:∀σ' Y',Ext F U σ'->Y'.p=Y.p->Y'.hs=Y.hs->Y'.fK.length=i+1->Y'.gC.length=i+1->Sep (gF {A with cG:=A.cG++[ss],cR:=A.cR++[t]} Y' (cM {A with cG:=A.cG++[ss],cR:=A.cR++[t]} Y') (k9 Y')) σ' (λb=>(F b\/Gc b)\/Gt b)->K σ') :
 bW (some ⟨Y.p,0,none⟩) λa93=>dX (a93.add 5) (.slice dU.a dU.len dU.cap) U λv25=>bW (some ⟨Y.p,0,none⟩) λa95=>dX (a95.add 6) (.slice cS.a cS.len cS.cap) v25 K:=by
 have r:∀k,dN (cM A {Y with dU:=dU,cS:=cS,fK:=Y.fK++[cp],gC:=Y.gC++[tp]} k):=λk=>cM.loc k;refine bL (JV (Y:={Y with dU:=dU,cS:=cS,fK:=Y.fK++[cp],gC:=Y.gC++[tp]}) r h (i:=5) (by simp[k9]) λy e1 w=>bL (JV (Y:={Y with dU:=dU,cS:=cS,fK:=Y.fK++[cp],gC:=Y.gC++[tp]}) r w (i:=6) (by simp[k9]) λx e2 u=>?_));have j:=(fF.loc (c:=c) (ps:=ps) (ss:=ss) (p:=cp)).bS ((fF.loc (c:=c) (ps:=ps) (ss:=ss) (p:=cp)).bS hC e1 λb _ d g=>d1 b d g) e2 λb _ d g=>d1 b d g;have m:=(iW.loc (p:=tp) (batch:=c.batch) (room:=A.room) (t:=t)).bS ((iW.loc (p:=tp) (batch:=c.batch) (room:=A.room) (t:=t)).bS hTf e1 λb _ d g=>d2 b d g) e2 λb _ d g=>d2 b d g;have s:=ξ (cp:=cp) (tp:=tp) u hlc hlt (by simp only;rw[zp O,hpos.1,pS];rfl) (by simp only;rw[zp O,hpos.2,pS];rfl) hc j m d1 d2 d3;exact hK x {Y with dU:=dU,cS:=cS,fK:=Y.fK++[cp],gC:=Y.gC++[tp]} (e1.trans e2) rfl rfl (by simp[hpos.1]) (by simp[hpos.2]) s
theorem rD {cs:List Value}{σ':Hp}(hT:∀k,dN (T k))(h:Sep (gF A Y T cs) U F)(e:aF U σ'):Sep (gF A Y T cs) σ' F:=(Sep.loc (gF.loc hT)).bP h e
theorem JL {cs:List Value}(hT:∀k,dN (T k))(h:Sep (gF A Y T cs) U F):Sep (gF A Y T cs) U (Cut F U):=(Sep.loc (gF.loc hT)).cut h
theorem OO (n room:Nat)(tb:List cA)(i:Nat):({jt n room tb i with cG:=(jt n room tb i).cG++[[]],cR:=(jt n room tb i).cR++[⟨0,[]⟩]}:AR)=jt n room tb (i+1):=by
 unfold jt;simp only[←Bs]
theorem Wk7 (n room:Nat)(tb:List cA):jt n room tb tb.length=fC n room tb:=rfl
theorem Oe {i cp tp:Nat}{c:cA}{ss:List cH}{t:gP}{ps:List (Nat×Nat)}{Gc Gt:Rg}{z:Nat}(hF:∀b,F b->z<=b/\b<U.size)(hpos:Y.fK.length=i/\Y.gC.length=i)(hi:i<40)
 (h:Sep (gF A Y (cM A Y) (k9 Y)) U F) (hlc:A.cG.length=i) (hlt:A.cR.length=i) (hc:A.tb[i]?=some c) (hC:fF U Gc cp c ps ss) (hTf:iW U Gt tp c.batch A.room t) (d1:∀b,Gc b->¬F b/\z<=b/\b<U.size) (d2:∀b,Gt b->¬F b/\z<=b/\b<U.size) (d3:∀b,Gc b->¬Gt b) {J4:aP}
 (hK:∀σ' Y',Ext F U σ'->Y'.p=Y.p->Y'.hs=Y.hs->Y'.fK.length=i+1->Y'.gC.length=i+1->Sep (gF {A with cG:=A.cG++[ss],cR:=A.cR++[t]} Y' (cM {A with cG:=A.cG++[ss],cR:=A.cR++[t]} Y') (k9 Y')) σ' (λb=>z<=b)->J4 σ') :
 dY U λS=>bW (some ⟨Y.p,0,none⟩) λa80=>gG S .s (a80.add 5) λ(t82:Sl)=>bW (some ⟨Y.p,0,none⟩) λa87=>gG S .s (a87.add 6) λ(t89:Sl)=>
  (Nw (.cells #[.pointer (some ⟨cp,0,none⟩)] 202 (0,0)) U λn84 v21=>And (S v21) <|
   (App t82 1 8 202 [.pointer none] ⟨some n84,1,1⟩ v21 λt85 v22=>And (S v22)<|Nw (.cells #[.pointer (some ⟨tp,0,none⟩)] 204 (0,0)) v22 λn91 v23=>And (S v23)<|App t89 1 8 204 [.pointer none] ⟨some n91,1,1⟩ v23 λt92 v24=>And (S v24) <|
   bW (some ⟨Y.p,0,none⟩) λa93=>dX (a93.add 5) (.slice t85.a t85.len t85.cap) v24 λv25=>bW (some ⟨Y.p,0,none⟩) λa95=>dX (a95.add 6) (.slice t92.a t92.len t92.cap) v25 λv26=>J4 v26) ∧
   (Nw (.cells #[.pointer (some ⟨tp,0,none⟩)] 204 (0,0)) v21 λn911 v27=>And (S v27)<|App t82 1 8 202 [.pointer none] ⟨some n84,1,1⟩ v27 λt851 v28=>And (S v28)<|App t89 1 8 204 [.pointer none] ⟨some n911,1,1⟩ v28 λt921 v29=>And (S v29) <|
   bW (some ⟨Y.p,0,none⟩) λa931=>dX (a931.add 5) (.slice t851.a t851.len t851.cap) v29 λv30=>bW (some ⟨Y.p,0,none⟩) λa951=>dX (a951.add 6) (.slice t921.a t921.len t921.cap) v30 λv31=>J4 v31)) ∧
  (Nw (.cells #[.pointer (some ⟨tp,0,none⟩)] 204 (0,0)) U λn912 v32=>And (S v32)<|Nw (.cells #[.pointer (some ⟨cp,0,none⟩)] 202 (0,0)) v32 λn841 v33=>And (S v33) <|
  App t82 1 8 202 [.pointer none] ⟨some n841,1,1⟩ v33 λt852 v34=>And (S v34)<|App t89 1 8 204 [.pointer none] ⟨some n912,1,1⟩ v34 λt922 v35=>And (S v35) <|
  bW (some ⟨Y.p,0,none⟩) λa932=>dX (a932.add 5) (.slice t852.a t852.len t852.cap) v35 λv36=>bW (some ⟨Y.p,0,none⟩) λa952=>dX (a952.add 6) (.slice t922.a t922.len t922.cap) v36 λv37=>J4 v37):=by
 have E:∀k,dN (cM A Y k):=λk=>cM.loc k;have ae:=fF.loc (c:=c) (ps:=ps) (ss:=ss) (p:=cp);have X:=iW.loc (p:=tp) (batch:=c.batch) (room:=A.room) (t:=t);refine⟨λm=>bZ m Y.p (k9 Y),(m6 h).1,bL ⟨Y.dU,λm hm=>by rw[add_lit,hm.cell];rfl,bL ⟨Y.cS,λm hm=>by rw[add_lit,hm.cell];rfl,?_⟩⟩⟩;have D:∀(w:Hp) (F1:Rg) (b1 b2:Nat),aF U w->(∀b,F1 b->F b)->Sep (gF A Y (cM A Y) (k9 Y)) w F1->bZ w b1 [.pointer (some ⟨cp,0,none⟩)]->bZ w b2 [.pointer (some ⟨tp,0,none⟩)]->U.size<=b1->U.size<=b2 →
  App Y.dU 1 8 202 [.pointer none] ⟨some ⟨b1,0,none⟩,1,1⟩ w λt85 v28=>And (bZ v28 Y.p (k9 Y))<|App Y.cS 1 8 204 [.pointer none] ⟨some ⟨b2,0,none⟩,1,1⟩ v28 λt92 v29=>And (bZ v29 Y.p (k9 Y)) <|
   bW (some ⟨Y.p,0,none⟩) λa93=>dX (a93.add 5) (.slice t85.a t85.len t85.cap) v29 λv30=>bW (some ⟨Y.p,0,none⟩) λa95=>dX (a95.add 6) (.slice t92.a t92.len t92.cap) v30 λv31=>J4 v31:=by
  intro w F1 b1 b2 ew hF1 hw hb1 hb2 hz1 hz2;have x:∀b,F1 b->z<=b/\b<U.size:=λb d=>hF b (hF1 b d);have hsw:=ew.1;refine Fx E hw O O hb1 (λg=>by have:=x _ g;omega) λs1 v28 J Q=>?_;have N:=(m6 Q).1;have af:Sep (gF A {Y with dU:=s1,fK:=Y.fK++[cp]} (cM A {Y with dU:=s1,fK:=Y.fK++[cp]}) (k9 Y)) v28 (Grow F1 w):=Q;refine⟨N,?_⟩;have c28:Sep (gF A {Y with dU:=s1,fK:=Y.fK++[cp]} (cM A {Y with dU:=s1,fK:=Y.fK++[cp]}) (k9 Y)) v28 (λb=>F1 b\/w.size<=b):=af;have ab:=J.bV hb2 λg=>by have:=x _ g;omega
  have hb2lt:=hb2.lt;refine I8 c28 aC aC ab (λg=>by
   rcases g with g|g
   ·have:=x _ g;omega
   ·omega) λs2 v29 e29 L=>?_
  refine⟨(m6 L).1,?_⟩;have G:∀b,(F1 b\/w.size<=b)->F b\/U.size<=b:=λb d=>by
   rcases d with d|d
   ·exact .inl (hF1 b d)
   ·exact .inr O
  have j:Ext F U v29:=((aF.to ew).trans (J.sub hF1)).dQ e29 G;have P:=ae.bS hC j λb _ d g=>(d1 b d).1 g;have Z:=X.bS hTf j λb _ d g=>(d2 b d).1 g;have hs28:=J.1;refine FH (F:=Grow (λb=>F1 b\/w.size<=b) v28) hpos L hlc hlt hc P Z (λb d g=>?_) (λb d g=>?_) d3 λw2 Y' e2 p1 p2 p3 p4 h2=>?_
  ·have:=d1 b d;rcases g with(g|g)|g
   ·exact this.1 (hF1 b g)
   ·omega
   ·omega
  ·have:=d2 b d;rcases g with(g|g)|g
   ·exact this.1 (hF1 b g)
   ·omega
   ·omega
  ·refine hK w2 Y' (j.dQ e2 λb d=>?_) p1 p2 p3 p4 ((Sep.loc (gF.loc (λk=>cM.loc k))).mono h2 λb _ d=>?_)
   ·rcases d with(d|d)|d
    ·exact .inl (hF1 b d)
    ·exact .inr O
    ·exact .inr O
   ·have hz0:z<=U.size:=by have:=(d1 _ hC.fp);omega
    rcases d with(((d|d)|d)|d)|d
    ·exact(x b d).1
    ·omega
    ·omega
    ·exact(d1 b d).2.1
    ·exact(d2 b d).2.1
 have S0:∀{w:Hp},aF U w->bZ w Y.p (k9 Y):=λe=>e.bV (m6 h).1 id;refine⟨nw (cs:=[.pointer (some ⟨cp,0,none⟩)]) λv21 z21 u R=>⟨S0 u,?_,?_⟩,nw (cs:=[.pointer (some ⟨tp,0,none⟩)]) λv32 z32 y b32=>⟨S0 y,nw (cs:=[.pointer (some ⟨cp,0,none⟩)]) λv33 z33 B b33=>⟨S0 (Ext.trans y B),?_⟩⟩⟩
 ·-- row,box,row
  have h21:=rD E h u;refine Fx E h21 O O R (λg=>by have:=hF _ g;omega) λs1 v22 ad K=>⟨(m6 K).1,?_⟩;have W:Sep (gF A {Y with dU:=s1,fK:=Y.fK++[cp]} (cM A {Y with dU:=s1,fK:=Y.fK++[cp]}) (k9 Y)) v22 (Grow F v21):=K;have c22:=JL (λk=>cM.loc k) W;refine nw (cs:=[.pointer (some ⟨tp,0,none⟩)]) λv23 z23 H b23=>?_;have aa:=rD (λk=>cM.loc k) c22 H;refine⟨(m6 aa).1,I8 aa aC aC b23 (λg=>by have:=g.2;omega) λs2 v24 e24 ac=>⟨(m6 ac).1,?_⟩⟩;have hs22:=ad.1;have hs23:=H.1;have r:∀b,Cut (Grow F v21) v22 b->F b\/U.size<=b:=λb d=>by
   rcases d.1 with h|h
   ·exact .inl h
   ·exact .inr O
  have j:Ext F U v24:=((((aF.to u).trans ad).gp H)).dQ e24 r;have V:=ae.bS hC j λb _ d g=>(d1 b d).1 g;have M:=X.bS hTf j λb _ d g=>(d2 b d).1 g;refine FH (F:=Grow (Cut (Grow F v21) v22) v23) hpos ac hlc hlt hc V M (λb d g=>?_) (λb d g=>?_) d3 λw2 Y' e2 p1 p2 p3 p4 h2=>?_
  ·have:=d1 b d;rcases g with g|g
   ·rcases g.1 with g|g
    ·exact this.1 g
    ·omega
   ·omega
  ·have:=d2 b d;rcases g with g|g
   ·rcases g.1 with g|g
    ·exact this.1 g
    ·omega
   ·omega
  ·refine hK w2 Y' (j.dQ e2 λb d=>?_) p1 p2 p3 p4 ((Sep.loc (gF.loc (λk=>cM.loc k))).mono h2 λb _ d=>?_)
   ·rcases d with d|d
    ·exact r b d
    ·exact .inr O
   ·have hz0:z<=U.size:=by have:=(d1 _ hC.fp);omega
    rcases d with((d|d)|d)|d
    ·rcases r b d with h|h
     ·exact(hF b h).1
     ·omega
    ·omega
    ·exact(d1 b d).2.1
    ·exact(d2 b d).2.1
 ·-- box,row,row
  refine nw (cs:=[.pointer (some ⟨tp,0,none⟩)]) λv27 z27 C b27=>⟨S0 (Ext.trans u C),?_⟩;exact D v27 F U.size v21.size (Ext.trans u C) (λb d=>d) (rD E (rD E h u) C) (C.bV R id) b27 (zE _) O
 ·exact D v33 F v32.size U.size (Ext.trans y B) (λb d=>d) (rD E (rD E h y) B) b33 (B.bV b32 id) O (zE _)
theorem AZ {P:Hp->Rg->Prop}(hl:dN P){a:Nat}(h:P U λb=>a<=b):P U λb=>a<=b/\b<U.size:=hl.mono h λb g d=>⟨d,g⟩
theorem RS {n room:Nat}{tb:List cA}(h1:32<=n)(h2:n<=1024)(h3:n%16=0)(h4:room<=8)(h5:1<=tb.length)(h6:tb.length<=40)(h7:∀c∈tb,c.ok)(hc:Y.fK.length=tb.length)(ht:Y.gC.length=tb.length):fA (fC n room tb) Y:=
 ⟨hc,ht,by simp[fC],by simp[fC],h5,h6,h1,h2,h3,by simp[fC],h4,h7⟩
theorem Md {s:Sl}{xs:List (Int×Int×Int)}(ha:iw U s xs)(hS:dP U H hs sp)(room:Int){R:Option Addr->Int->Hp->Prop}
 (h0:lF xs sp.st.length room≠0->∀σ',aF U σ'->R none (lF xs sp.st.length room) σ')
 (h1:lF xs sp.st.length room=0->∀σ' Y,aF U σ'->Y.hs=hs->dK σ' (λb=>U.size<=b) Y (fC sp.st.length room.toNat (xs.map QI)) (cM (fC sp.st.length room.toNat (xs.map QI)) Y)->R (some ⟨Y.p,0,none⟩) 0 σ') :
 Ky.c s (some ⟨hs,0,none⟩) room U R:=by
 refine Ky.o ?_;unfold Ky.v;have hn2:sp.st.length<=1024:=by obtain⟨q,r,l,B,h⟩:=hS;exact h.n2
 refine Ab ha λv e=>?_;cases hv:QY xs
 ·have e1:lF xs sp.st.length room=2:=by unfold lF;rw[hv];rfl
  have:=h0 (by rw[e1];decide) v e;rw[e1]at this;exact cF rfl this
 have X:lF xs sp.st.length room=if 32<=sp.st.length/\sp.st.length%16=0/\0<=room/\room<=8 then 0 else 1:=by unfold lF;rw[hv,zC rfl]
 refine cD rfl (Jp (hS.bP e) ?_);have E:¬(32<=sp.st.length/\sp.st.length%16=0/\0<=room/\room<=8)->R none 1 v:=λhn=>by
  rw[zB hn]at X;have:=h0 (by rw[X];decide) v e;rw[X]at this;exact this
 have tm:(((sp.st.length:Nat):Int).tmod 16)=((sp.st.length%16:Nat):Int):=by rw[Kj O];simp
 refine bX.intro (cN (λc1=>bX.intro (cF rfl (bX.intro (cF rfl (cF rfl (E O)))))) λc1=>nz aB ?_);rw[tm,MC];refine bX.intro (cQ (λc2=>bX.intro (cF rfl (cF rfl (E (λh=>by have:=h.2.1;simp[this]at c2))))) λc2=>?_);have ac:sp.st.length%16=0:=by simpa using c2
 refine bX.intro (cN (λc3=>cF rfl (E O)) λc3=>cN (λc4=>E O) λc4=>?_);obtain⟨W,rfl⟩:=zc (show 0<=room by omega);rw[zC O]at X;have h1:=h1 X;simp only[dG]at h1;have hva:=(QT xs).1 hv;have N:=Qx ha e;have hn1:32<=sp.st.length:=by omega
 generalize sp.st.length=n at *;have hlen:s.len=(xs.map QI).length:=by rw[zk];exact ha.1
 have ak:∀{σ':Hp} {i:Nat} {c:cA},iw σ' s xs->(xs.map QI)[i]?=some c->xs[i]?=some ((c.size:Int),(c.aG:Int),(c.batch:Int))/\c.ok:=λh K=>HR h hv K;have J:1<=(xs.map QI).length/\(xs.map QI).length<=40:=by rw[zk];omega
 refine UB N hv λdF v5 e5 al=>P9 λV op e6 hop hP=>uW λA z7 e7 hm=>?_;generalize htbd:xs.map QI=tb at *;refine nw (cs:=[.slice dF.a dF.len dF.cap,.pointer (some ⟨hs,0,none⟩),.pointer none,.pointer none,.pointer (some ⟨op,0,none⟩),.slice none 0 0,.slice none 0 0,.map (some V.size)]) λv8 z8 e8 b8=>?_;refine Go.Bu.uP _ (λg=>absurd ⟨O,O⟩ g) λn' hn' _ _ v9 sb ms e9 hB hfp=>?_;have hnn:n=n':=by omega
 subst hnn;have b9:=e9.bV b8 id;refine bL (b9.s1 aA λaf fX b10=>SE O O ac λL tp tq M htp htq hTk=>bL ((M.bV b10 id).s1 aA λv12 P b12=>?_));have s5:=e5.1;have s6:=e6.1;have s9:=e9.1;have s10:=fX.1;have s11:=M.1;have s12:=P.1;have hb8:=b8.lt;have x9:Ext (· = A.size) v9 v12:=(fX.ext.trans (aF.to M)).trans P.ext;have x5:Ext (· = A.size) v5 v12:=(aF.to (Ext.trans (Ext.trans (Ext.trans e6 e7) e8) e9)).trans x9;have x6:Ext (· = A.size) V v12:=(aF.to (Ext.trans (Ext.trans e7 e8) e9)).trans x9;have x7:Ext (· = A.size) A v12:=(aF.to (Ext.trans e8 e9)).trans x9;have x11:Ext (· = A.size) L v12:=P.ext;have p1:=aH.bS (AZ aH al) x5 λb _ g d=>by omega
 have p2:=(jn.loc (p:=op) (ow:=λ_=>0)).bS (AZ jn.loc hP) x6 λb _ g d=>by omega
 have p3:dJ v12 V.size .i64 bO []:=x7.fV (hm _ _) O;have p5:ug v8.size n Go.Bu.iB v12 (λb=>v8.size<=b/\b<v9.size):=(ug.loc _ _ _).bS (AZ (ug.loc _ _ _) ⟨sb,ms,hB,hfp⟩) x9 λb _ g d=>by omega
 have p6:mJ tp (List.replicate n 0) v12 (λb=>af.size<=b/\b<L.size):=(mJ.loc _ _).bS (AZ (mJ.loc _ _) ⟨tq,hTk,htp,htq⟩) x11 λb _ g d=>by omega
 let Y0:Lay:={p:=A.size,hs:=hs,fr:=v8.size,tr:=tp,op:=op,rn:=V.size,dF:=dF,dU:=⟨none,0,0⟩,cS:=⟨none,0,0⟩,fK:=[],gC:=[]}
 have ai:bZ v12 A.size (k9 Y0):=b12
 let Cf:=gF (jt n W tb 0) Y0 (cM (jt n W tb 0) Y0) (k9 Y0)
 have u:∀i,dN (Cf i):=gF.loc λk=>cM.loc k;have q0:Sep (jJ Cf S0) v12 λ_=>False:=jJ.one S0 .hd λi hi=>by
  cases i<;>first|exact hi.elim|exact bT.nil _ _ _ _|exact trivial
 have q1:=jJ.put u q0 .dF (G:=λb=>v.size<=b/\b<v5.size) (λb g d=>d) p1;have q2:=jJ.put u q1 .own (G:=λb=>v5.size<=b/\b<V.size) (λb g d=>by
  rcases d with d|d
  ·exact d
  ·omega) p2
 have q3:=jJ.put u q2 .runs (G:=λb=>b=V.size) (λb g d=>by
  rcases d with(d|d)|d
  ·exact d
  ·omega
  ·omega) ⟨rfl,p3⟩
 have q4:=jJ.put u q3 .hd (G:=λb=>b=A.size) (λb g d=>by
  rcases d with((d|d)|d)|d
  ·exact d
  ·omega
  ·omega
  ·omega) ⟨rfl,ai⟩
 have q5:=jJ.put u q4 .free (G:=λb=>v8.size<=b/\b<v9.size) (λb g d=>by
  rcases d with(((d|d)|d)|d)|d
  ·exact d
  ·omega
  ·omega
  ·omega
  ·omega) p5
 have q6:=jJ.put u q5 .oD (G:=λb=>af.size<=b/\b<L.size) (λb g d=>by
  rcases d with((((d|d)|d)|d)|d)|d
  ·exact d
  ·omega
  ·omega
  ·omega
  ·omega
  ·omega) p6
 have q7:Sep Cf v12 λb=>v.size<=b:=by
  refine(Sep.loc u).mono (jJ.all q6 λi=>?_) λb _ d=>?_
  ·cases i<;>simp[S0]
  ·rcases d with(((((d|d)|d)|d)|d)|d)|d
   ·exact d.elim
   ·omega
   ·omega
   ·omega
   ·omega
   ·omega
   ·omega
 have e12:aF v v12:=Ext.fresh e5 x5 λi hi=>by omega
 have szv:=e.1;refine Qv (a:=bO) (λ(t:Int) w=>∃(i:Nat) (Y:Lay),t=(i:Int)/\i<=tb.length/\Y.p=A.size/\Y.hs=hs/\Y.fK.length=i/\Y.gC.length=i/\aF v w/\Sep (gF (jt n W tb i) Y (cM (jt n W tb i) Y) (k9 Y)) w (λb=>v.size<=b)) (λt _=>tb.length-t.toNat)
  ⟨0,Y0,rfl,O,rfl,rfl,rfl,rfl,e12,q7⟩ ?_
 rintro t w ⟨i,Y,rfl,hi,ag,ab,Z,aa,ew,y⟩;refine cN (λhlt=>?_) λhge=>?_
 ·have hi':i<tb.length:=by omega
  have K:tb[i]?=some tb[i]:=cW hi';generalize tb[i]=c at K;have ah:=Qx N ew;obtain⟨hxi,aj⟩:=ak ah K;refine Aq ah hxi ?_;refine nw (cs:=[.int .i64 0,.int .i64 0,.int .i64 0]) λv14 hz14 e14 b14=>b14.s1 aA λv15 o15 b15=>b15.s1 aA λv16 o16 b16=>b16.s1 aA λv17 o17 b17=>?_;have S:aF w v17:=Ext.fresh (Ext.fresh (Ext.fresh e14 o15.ext λi hi=>O) o16.ext λi hi=>O) o17.ext λi hi=>by omega
  have x:bZ v17 w.size [.int .i64 (c.size:Int),.int .i64 (c.aG:Int),.int .i64 (c.batch:Int)]:=b17;refine x.rI rfl (x.rI rfl (x.rI rfl (O8 aj λv18 cp C hcp1 hcp2 hCe=>?_)));have b18:=C.bV x id;obtain⟨_,_,_,_,_,_,ad,ae⟩:=id aj;refine b18.rI rfl (WlR ad ae O λv19 tp2 D htp1 htp2 hTf=>Jn.intro ?_);have s14:=S.1;have s18:=C.1;have s19:=D.1;have sw:=ew.1;have hT:∀k,dN (cM (jt n W tb i) Y k):=λk=>cM.loc k;have h19:=rD hT (rD hT (rD hT (JL hT y) S) C) D;have Q:=hCe.bP D;rw[←ag];refine Oe (F:=Cut (λb=>v.size<=b) w) (z:=v.size) (ss:=[]) (t:=⟨0,[]⟩) (λb g=>⟨g.1,by have:=g.2;omega⟩) ⟨Z,aa⟩ O h19 (by simp[jt]) (by simp[jt]) K Q hTf (λb g=>?_) (λb g=>?_) (λb g hb2=>O) λw2 Y' e2 y1 y2 y3 y4 h2=>?_
  ·subst g;exact⟨λd=>by have:=d.2;omega,O,O⟩
  ·subst g;exact⟨λd=>by have:=d.2;omega,O,O⟩
  ·rw[OO]at h2;exact cT (m:=i+1) O O ⟨⟨i+1,Y',rfl,O,y1,y2.trans ab,y3,y4,Ext.fresh (Ext.trans (Ext.trans (Ext.trans ew S) C) D) e2 λb g=>g.1,h2⟩,O⟩
 ·have:i=tb.length:=by omega
  subst this;rw[Wk7,Tf]at y;have hl:fA (fC n W tb) Y:=RS hn1 hn2 ac O J.1 J.2 (λc K=>by
   obtain⟨j,hj⟩:=zP K;exact(ak N hj).2) Z aa
  have:=h1 w Y (Ext.trans e ew) ab ⟨hl,λk=>cM.loc k,(Sep.loc (AC.loc λk=>cM.loc k)).mono y λb _ g=>kx szv g⟩;rw[ag]at this;exact this
end Go.Ar
namespace Go.Vc
open Go
variable {U:Hp}{F:Rg}{s:Sl}{sz:Nat}{xs:List Value}
def dL (s:Sl)(sz:Nat)(xs:List Value):Hp->Rg->Prop:=λh F=>xs.length=s.len*sz/\(s.len=0/\s.cap=0\/∃b o cs,F b/\s.a=some ⟨b,o,none⟩/\bZ h b cs/\s.len<=s.cap/\cs.length=o+s.cap*sz/\(cs.drop o).take xs.length=xs)
theorem dL.loc (s:Sl)(sz:Nat)(xs:List Value):dN (dL s sz xs):=λU d F G h g a=>by
 refine⟨h.1,h.2.imp id ?_⟩;rintro⟨b,o,cs,hq,ha,⟨e,he⟩,r⟩;have:=a b (bZ.lt ⟨e,he⟩) hq;exact⟨b,o,cs,this.1,ha,⟨e,this.2.trans he⟩,r⟩
theorem dL.nil (h:Hp)(F:Rg)(sz:Nat)(a:Option Addr):dL ⟨a,0,0⟩ sz [] h F:=⟨by simp,.inl ⟨rfl,rfl⟩⟩
theorem bT.o (h:bT s sz xs U F):dL s sz xs U F:=⟨h.1,h.2.imp id λ⟨b,j,d,g,m,a,i,p⟩=>⟨b,0,j,d,g,m,a,O,by simpa using p⟩⟩
theorem dL.fW (h:dL s sz xs U F):cV s sz xs U F:=by
 refine⟨h.1,?_⟩;rcases h.2 with⟨hl,_⟩|⟨b,o,cs,hq,ha,hb,_,_,ht⟩
 ·left;have:=h.1;rw[hl]at this;simpa using this
 ·refine .inr ⟨b,o,cs,hq,ha,hb.q,λj a=>?_⟩;rw[←ht,zm,lg,zC a]
theorem dL.cap (h:dL s sz xs U F):s.len<=s.cap:=by
 rcases h.2 with⟨q1,q2⟩|⟨_,_,_,_,_,_,q,_⟩
 ·omega
 ·exact q
theorem dL.app {x:Sl}{bytes e:Nat}{zs ys:List Value}{K:Sl->Hp->Prop}(ho:dL s sz xs U F)(hz:zs.length=sz)
 (hy:ys.length=x.len*sz) (hr:Rd U x.a ys) (h1:∀v∈ys,dS v=true) (hb:(s.len+x.len)*bytes<=2^46) (hc:s.len+x.len<=2^62)
 (hx:0<x.len) (hK:∀s' h',s'.len=s.len+x.len->Ext F U h'->dL s' sz (xs++ys) h' (Grow F U)->K s' h'):App s sz bytes e zs x U K:=by
 refine⟨xs,ys,ho.1,hy,ho.fW.rd,hr,h1,hb,hc,λg=>?_,λr c i=>?_⟩
 ·rcases ho.2 with⟨hl,hcap⟩|⟨b,o,cs,hQ,ha,hk,hle,hcl,ht⟩
  ·omega
  ·rw[ha];simp only;rw[add_lit];have u:(s.len+x.len)*sz<=s.cap*sz:=mA _ g;rw[zo]at u;have d:=ho.1;refine V9 hk O λh' p j=>hK _ h' rfl (Ext.eU p hQ) ⟨?_,.inr ⟨b,o,_,.inl hQ,rfl,j,g,?_,?_⟩⟩
   ·simp[d,hy,zo]
   ·simp;omega
   ·rw[zJ,d,kC];have e1:(cs.take (o+s.len*sz)++ys++cs.drop (o+s.len*sz+ys.length)).drop o=(cs.drop o).take (s.len*sz)++(ys++cs.drop (o+s.len*sz+ys.length)):=by
     rw[zl,List.drop_append_of_le_length (by rw[zY];omega),List.drop_take]
     congr 2;omega
    have m:(cs.drop o).take (s.len*sz)=xs:=by rw[←d];exact ht
    rw[e1,m,←zl,pN aE,lN aE]
 ·refine hK _ _ rfl (Ext.push _ _ _) ⟨by simp[ho.1,hy,zo],.inr ⟨U.size,0,xs++ys++(List.replicate (c-(s.len+x.len)) zs).flatten,.inr (zE _),rfl,⟨e,by simp⟩,i,?_,?_⟩⟩
  ·simp only[zJ,xr,vV,yx,ho.1,hy,hz,←zo];rw[zH];congr 1;omega
  ·rw[yT,pN aA,lN aA]
theorem dL.BR {x:Sl}{bytes e:Nat}{zs:List Value}{K:Sl->Hp->Prop}(ho:dL s sz xs U F)(hx:x.len=0)(hb:s.len*bytes<=2^46)(hc:s.len<=2^62)(hK:dL ⟨s.a,s.len,s.cap⟩ sz xs U F->K ⟨s.a,s.len,s.cap⟩ U):App s sz bytes e zs x U K:=by
 have d:=ho.cap;refine⟨xs,[],ho.1,by simp[hx],ho.fW.rd,by cases x.a<;>simp[Rd],by simp,by rw[hx];exact hb,O,λg=>?_,λb=>absurd O b⟩
 rw[hx];have:=hK ho;cases ha:s.a<;>(rw[ha]at this;exact this)
theorem dL.from (h:dL s sz xs U F){lo:Nat}(h1:lo<=s.len):dL ⟨if s.cap=lo then s.a else s.a.map (·.add (lo*sz)),s.len-lo,s.cap-lo⟩ sz (xs.drop (lo*sz)) U F:=by
 have d:=h.1;refine⟨by rw[ky,d,Nat.sub_mul],?_⟩;rcases h.2 with⟨q1,q2⟩|⟨b,o,cs,hq,ha,hb,hle,hcl,ht⟩
 ·left;simp only;omega
 ·by_cases hm:s.cap=lo
  ·left;simp only;omega
  ·refine .inr ⟨b,o+lo*sz,cs,hq,by simp only[zB hm,ha,ze,add_lit],hb,by simp only;omega,?_,?_⟩
   ·have:lo*sz<=s.cap*sz:=mA _ O;rw[hcl,Nat.sub_mul];omega
   ·rw[ky]
    conv=>rhs;rw[←ht]
    rw[List.drop_take,List.drop_drop]
end Go.Vc
namespace Go.Ar
open Go Go.Vc Go.Proofs
variable {U:Hp}{F G:Rg}{Y:hU}{tb:List cA}{bud:Nat}{ls:List Li}{b k:Nat}{l:Li}{c:cA}
theorem Px {s:Sl}{xs:List (Int×Int×Int)}(ha:iw U s xs)(dD:Int){R:Option Addr->Int->Hp->Prop}(h0:QY xs=false->∀σ',aF U σ'->R none 2 σ')
 (h1:QY xs=true->¬(0<=dD/\dD<=65536)->∀σ',aF U σ'->R none 1 σ')
 (h2:QY xs=true->0<=dD->dD<=65536->∀σ' Y,aF U σ'->eN σ' (λq=>U.size<=q) Y (xs.map QI) dD.toNat (List.replicate (xs.map QI).length iy)->R (some ⟨Y.p,0,none⟩) 0 σ') :
 KB.c s dD U R:=by
 refine KB.o ?_;unfold KB.v;refine Ab ha λv e=>?_;cases hv:QY xs
 ·exact cF rfl (h0 hv v e)
 refine cD rfl (bX.intro (cN (λw=>cF rfl (h1 hv O v e)) λw=>cN (λy=>h1 hv O v e) λy=>?_));have d:=Qx ha e;have A:=(QT xs).1 hv;refine UB d hv λdF b e1 j=>uW λg D e2 B=>nw (cs:=[.slice dF.a dF.len dF.cap,.int .i64 dD,.map (some b.size)]) λv3 E m z=>?_;have s1:=e1.1;have s0:=e.1;refine h2 hv O O v3 ⟨g.size,b.size,dF,[]⟩ (((e.trans e1).trans e2).trans m) ⟨by rw[zk];omega,λc x=>?_,by simp,by simp,?_⟩
 ·obtain⟨i,hi⟩:=zP x;exact(HR d hv hi).2
 ·refine⟨λq=>if q=g.size then .hd else if q=b.size then .mp else .dF,λi=>?_⟩
  cases i with
  | hd=>
   refine⟨⟨by show U.size<=g.size;omega,by simp⟩,?_⟩;have:((dD.toNat:Nat):Int)=dD:=by omega
   simp only[Ei,this];exact z
  | mp=>
   refine⟨⟨by show U.size<=b.size;omega,?_⟩,m.fV (B .i64 .p) id⟩;show(if b.size=g.size then uL.hd else if b.size=b.size then uL.mp else uL.dF)=.mp
   rw[zB O,zC rfl]
  | dF=>
   have u:=aH.bP (aH.bP (aH.mono j (G:=λq=>v.size<=q/\q<b.size) λq r C=>⟨C,r⟩) e2) m;refine aH.mono u λq _ r=>⟨O,?_⟩;show(if q=g.size then uL.hd else if q=b.size then uL.mp else uL.dF)=.dF
   rw[zB O,zB O]
  | li k=>
   simp only[CC,pA,jb,List.find?_nil,Option.map_none];cases hk:(List.replicate (xs.map QI).length iy)[k]? with
   | none=>trivial
   | some l=>simp only[mS]at hk;split at hk<;>simp_all
def kE (f:Nat->Nat)(l:List (Int×Option Addr)):Nat:=(l.map λx=>f x.1.toNat).sum
theorem J8 (f:Nat->Nat):∀{l:List (Int×Option Addr)} {n:Int} {x:Option Addr},(l.map (·.1)).Nodup->(n,x)∈l->kE f l=f n.toNat+kE f (l.filter λy=>!(y.1==n))
 | [],_,_,_,h=>by simp at h
 | y::l,n,x,hn,h=>by
  simp only[zR,zr]at hn;rcases zW.1 h with h1|h1
  ·subst h1;have:l.filter (λy=>!(y.1==n))=l:=by
    rw[qU];intro z hz;have:z.1≠n:=λe=>hn.1 (zD.2 ⟨z,hz,e⟩);simpa using this
   rw[vj aA,this];simp[kE]
  ·have a:y.1≠n:=λe=>hn.1 (zD.2 ⟨_,h1,e.symm⟩);rw[vS (by simpa using a)];have:=J8 f hn.2 h1;simp only[kE,zR,oE]at *;omega
theorem M6 (n a v:Nat):((List.range n).map λj=>if j=a then v else 0).sum=if a<n then v else 0:=by
 induction n with
 | zero=>simp
 | succ n ih=>
  rw[qR,zj,List.sum_append,ih];by_cases h:a=n
  ·subst h;simp
  ·by_cases h2:a<n
   ·rw[zC h2,zC O];simp[Ne.symm h]
   ·rw[zB h2,zB O];simp[Ne.symm h]
theorem Of (l:List Nat)(f g:Nat->Nat):(l.map λj=>f j+g j).sum=(l.map f).sum+(l.map g).sum:=by
 induction l with
 | nil=>rfl
 | cons x l ih=>simp only[zR,oE,ih];omega
theorem IP (f:Nat->Nat)(n:Nat):∀(ps:List (Nat×Nat)),(ps.map (·.1)).Nodup->(∀x∈ps,x.1<n)->(ps.map λx=>f x.1).sum=((List.range n).map λj=>if j∈ps.map (·.1)then f j else 0).sum
 | [],_,_=>by
  have:((List.range n).map λj=>if j∈([]:List (Nat×Nat)).map (·.1)then f j else 0)=(List.range n).map λ_=>0:=by simp
  rw[this]
  induction n with
  | zero=>rfl
  | succ n a=>rw[qR,zj,List.sum_append];simp at *;exact a
 | x::ps,hn,hl=>by
  simp only[zR,zr]at hn;have a:=IP f n ps hn.2 λy b=>hl y (by simp[b]);rw[zR,oE,a];have e:((List.range n).map λj=>if j∈(x::ps).map (·.1)then f j else 0)=(List.range n).map λj=>(if j=x.1 then f x.1 else 0)+(if j∈ps.map (·.1)then f j else 0):=by
   apply kA;intro j _;by_cases hj:j=x.1
   ·subst hj;rw[zC aA,zC rfl,zB hn.1];rfl
   ·rw[zB hj,zH];by_cases hm:j∈ps.map (·.1)
    ·rw[zC hm,zC (by simp only[zR,zW];exact .inr hm)]
    ·rw[zB hm,zB (by simp only[zR,zW,not_or];exact⟨hj,hm⟩)]
  rw[e,Of,M6,zC (hl x aA)]
def qC (tb:List cA)(ls:List Li)(k:Nat):Nat:=match tb[k]?,ls[k]? with
 | some c,some l=>c.size*l.os.length
 | _,_=>0
theorem Lt:∀(tb:List cA) (ls:List Li),ls.length=tb.length->KC tb ls=((List.range tb.length).map (qC tb ls)).sum
 | [],[],_=>rfl
 | c::tb,l::ls,h=>by
  have ih:=Lt tb ls (by simpa using h);simp only[KC]at ih;simp only[KC,List.zip_cons_cons,zR,oE,zS,ih,List.range_succ_eq_map,lM];rfl
 | [],_::_,h=>by simp at h
 | _::_,[],h=>by simp at h
theorem eN.nil (h:eN U F Y tb bud ls)(hf:jb Y.ps k=none)(hl:ls[k]?=some l):l=iy:=by
 obtain⟨G,_,hi⟩:=h.sep.get (.li k);simp only[CC,pA,hf,hl]at hi;exact hi
theorem eN.wY (h:eN U F Y tb bud ls):(Y.ps.map (·.1)).Nodup:=by
 have:=h.map.nodup;have e:(kf Y.ps).map (·.1)=(Y.ps.map (·.1)).map λ(n:Nat)=>(n:Int):=by simp[kf]
 rw[e]at this;exact List.Pairwise.of_map (λ(n:Nat)=>(n:Int)) (λa b d e=>d (by rw[e])) this
theorem eN.bytes (h:eN U F Y tb bud ls):kE (qC tb ls) (kf Y.ps)=KC tb ls:=by
 have e1:kE (qC tb ls) (kf Y.ps)=(Y.ps.map λx=>qC tb ls x.1).sum:=by simp[kE,kf,Function.comp_def]
 rw[e1,IP _ tb.length _ h.wY h.keys,Lt _ _ h.len]
 congr 1
 apply kA;intro j hj;have a:=zg.1 hj;by_cases hm:j∈Y.ps.map (·.1)
 ·rw[zC hm]
 ·rw[zB hm];have g:jb Y.ps j=none:=by
   unfold jb;simp only[sW,oI,zU];exact λx d e=>hm (zD.2 ⟨x,d,e⟩)
  have b:ls[j]?=some (ls[j]'(by rw[h.len];exact a)):=cW _;have:=h.nil g b;unfold qC;rw[cW a,b,this];rfl
theorem Fh:∀(tb:List cA) (ls:List Li),(∀c∈tb,c.ok)->(∀l∈ls,fO l)->KC tb ls<=tb.length*131072
 | [],_,_,_=>by simp[KC]
 | _::_,[],_,_=>by simp[KC]
 | c::tb,l::ls,h1,h2=>by
  have ih:=Fh tb ls (λc a=>h1 c (by simp[a])) (λl d=>h2 l (by simp[d]));simp only[KC]at ih;simp only[KC,List.zip_cons_cons,zR,oE,zS];have a:=h1 c aA;unfold cA.ok at a;have b:=(h2 l aA).many;have g:c.size*l.os.length<=512*256:=mD O b;omega
theorem LJ (h:eN U F Y tb bud ls)(hok:∀l∈ls,fO l):KC tb ls<=5242880:=by
 have a:=Fh tb ls h.ok hok;have b:=h.nQ;omega
theorem eN.lok (h:eN U F Y tb bud ls):∀l∈ls,fO l:=by
 intro l hl;obtain⟨k,a⟩:=zP hl;cases hf:jb Y.ps k with
 | none=>rw[h.nil hf a];exact fO.nil
 | some b=>
  obtain⟨G,_,d,_⟩:=h.xS hf a;exact d.2.1
theorem FD (h:eN U F Y tb bud ls){R:aN}(hR:∀σ',aF U σ'->R ((KC tb ls:Nat):Int) σ'):X0.c (aW Y.p) U R:=by
 refine X0.o ?_;unfold X0.v;have hle:=LJ h h.lok;have hT:=h.bytes;refine HG h (cD rfl (bL (h.hd.rM rfl ?_)));refine xJ (a:=bO) h.map (λg (z:Int) v=>∃n:Nat,z=(n:Int)/\n+kE (qC tb ls) g=KC tb ls/\(∀e∈g,e∈kf Y.ps)/\(g.map (·.1)).Nodup/\aF U v) ?_ ?_ ?_
 ·intro v hz e;exact⟨0,rfl,by rw[hT];omega,λe he=>he,h.map.nodup,e⟩
 ·rintro z v ⟨n,rfl,H,_,_,e⟩;simp only[kE,ny,List.sum_nil,kC]at H;rw[H];exact hR v e
 ·rintro g n x z v v' J ⟨m,rfl,H,r,D,e⟩ V ho hlt hJ;have Z:aF U v':=e.only ho (.inr (zE _));have Q:=h.bP Z;have u:=r _ V;simp only[kf,zD,Prod.mk.injEq]at u;obtain⟨⟨k,b⟩,w,A,C⟩:=u;simp only at A C;subst A;subst C;have E:=h.keys _ w;simp only at E;have N:tb[k]?=some tb[k]:=cW E;have L:ls[k]?=some (ls[k]'(by rw[h.len];exact E)):=cW _;generalize tb[k]=c at N;generalize (ls[k]'(by rw[h.len];exact E))=l at L;have P:jb Y.ps k=some b:=JK h.map.nodup w;obtain⟨G,hG,hL,_⟩:=Q.xS P L;obtain⟨_,hok,s,M,K,W⟩:=hL;have S:s.len=l.os.length:=by have:=K.1;simp[Wy]at this;omega
  have hb:qC tb ls k=c.size*l.os.length:=by unfold qC;rw[N,L]
  have j:=J8 (qC tb ls) D V;simp only[dG]at j;refine bL (Q.hd.rS rfl (uh Q.jN N (d:=0) O ?_));simp only[zT];refine bL (M.rS rfl ?_);have B:m+c.size*l.os.length+kE (qC tb ls) (List.filter (λy=>!(y.1==(k:Int))) g)=KC tb ls:=by
   have X:=j;rw[hb]at X;rw[←H,X,wF]
  refine cT (m:=c.size*l.os.length) (by simp only[S];simp) O (cT (m:=m+c.size*l.os.length) O O (hJ _ v' rfl rfl ⟨_,rfl,B,λy hy=>r y (zL.1 hy).1,D.sublist (List.filter_sublist.map _),Z⟩))
theorem Wm1 (h:eN U F Y tb bud ls){R:aO}(hR:∀σ',aF U σ'->R (decide (bud<KC tb ls)) σ'):Yw.c (aW Y.p) U R:=by
 refine Yw.o ?_;unfold Yw.v;have e:decide (((KC tb ls:Nat):Int)>(bud:Int))=decide (bud<KC tb ls):=by rw[decide_eq_decide];omega
 refine Jn.intro (HG h (cF rfl (bL ⟨FD h λσ' a=>(a.bV h.hd id).rI rfl ?_,h.hd.rI rfl (FD h λσ' a=>?_)⟩)))
 ·rw[e];exact hR σ' a
 ·rw[e];exact hR σ' a
def D4 (f:cA->Li->List Int×Li)(fn:Nat):Prop:=∀{U:Hp} {G:Rg} {b:Nat} {l:Li} {c:cA},jj b l U G->c.ok->∀{R:Sl->Hp->Prop},
 (∀s z σ',Ext (· = b) U σ'->U.size<=z->bT s 1 (Wy (f c l).1) σ' (λq=>U.size<=q/\q<z)->jj b (f c l).2 σ' (λq=>q=b\/z<=q)->R s σ') →
 VU Tryz.prog ⟨fn,#[],#[]⟩ [.pointer (some ⟨b,0,none⟩),.int .i64 (c.batch:Int)] [.one .s] U R
theorem OZ:D4 Qe 243:=by
 intro U G b l c h hc R hR;refine G8 (all := #[.pointer (some ⟨b,0,none⟩),.int .i64 (c.batch:Int)]) (by kernel_rfl) aA ?_;refine YO.o ?_;unfold YO.v;have m:=h;obtain⟨_,j,s,g,a,i⟩:=h;have d:s.len=l.os.length:=by have:=a.1;simp[Wy]at this;omega
 refine bL (g.rS rfl ?_);simp only[d];exact GJ m (zE _) hR
theorem Sd:D4 Vv 241:=by
 intro U G b l c h hc R hR;refine G8 (all := #[.pointer (some ⟨b,0,none⟩),.int .i64 (c.batch:Int)]) (by kernel_rfl) aA ?_;refine XN.o ?_;unfold XN.v;have P:=h;obtain⟨_,g,s,x,M,J⟩:=h;have o1:=g.low;have o2:=g.many;have o3:=g.lim;have w:=Er hc g;unfold cA.ok at hc;refine bL (x.rI rfl (cT (m:=l.low+1) O O (nz aB (cT (m:=(l.low+1)/2) (by rw[YR O];omega) O ?_))));refine GJ P O λout z v e S Q y=>?_;have H:=y;obtain⟨_,V,s1,d,u,C⟩:=y;have r:s1.len=(gJ ((l.low+1)/2) l).2.os.length:=by have:=u.1;simp[Wy]at this;omega
 refine Jn.intro ?_;have i:∀(j:Hp) (lim:Nat),Ext (· = b) v j->lim=(if l.lim>c.batch then max (l.lim-c.batch) c.batch else l.lim)->bZ j b (nC s1 {(gJ ((l.low+1)/2) l).2 with lim:=lim}) →
  bW (some ⟨b,0,none⟩) λF=>jG (F.add 0) j λD=>bW (some ⟨b,0,none⟩) λE=>dX (E.add 2) (.int .i64 ((D.len:Nat):Int)) j λv2=>R out v2:=by
  intro j lim e1 hlim a;refine bL (a.rS rfl (bL (a.s1 (by simp[nC]) λv2 o2 A=>?_)));have e2:=e1.trans o2.ext;have N:=d.lt;refine hR out z v2 (e.trans e2) S (aI.bS Q e2 λq _ L K=>?_) ?_
  ·have:=x.lt;omega
  ·refine⟨.inl rfl,w,s1,?_,aH.bS u e2 λq _ L K=>L.2 K,C⟩;simp only[r]at A;subst hlim;exact A
 refine bL (d.rI rfl ?_);refine cN (λB=>?_) λB=>?_
 ·have p:l.lim>c.batch:=by simp only[gJ]at B;omega
  refine bL (d.rI rfl (cT (m:=l.lim-c.batch) (by simp only[gJ];omega) O (bL (d.s1 (by simp[nC]) λj o1 a=>i j (max (l.lim-c.batch) c.batch) o1.ext (by rw[zC p]) ?_))));have:(if(c.batch:Int)>((l.lim-c.batch:Nat):Int)then(c.batch:Int)else((l.lim-c.batch:Nat):Int))=((max (l.lim-c.batch) c.batch:Nat):Int):=by split<;>omega
  rw[this]at a;exact a
 ·have p:¬l.lim>c.batch:=by simp only[gJ]at B;omega
  exact i v l.lim (Ext.refl _ _) (by rw[zB p]) d
def oh (x:Nat×Sl):List Value:=[.int .i64 (x.1:Int),.slice x.2.a x.2.len x.2.cap]
def fJ (l:List (Nat×Sl)):List Value:=l.flatMap oh
theorem Vn (l:List (Nat×Sl)):(fJ l).length=l.length*2:=by
 induction l with
 | nil=>rfl
 | cons x l ih=>
  have e:fJ (x::l)=oh x++fJ l:=rfl;have e2:(oh x).length=2:=rfl;rw[e,zJ,ih,e2,zS];omega
theorem HB (a b:List (Nat×Sl)):fJ (a++b)=fJ a++fJ b:=by simp[fJ]
theorem HO {l:List (Nat×Sl)}:∀v∈fJ l,dS v=true:=by
 intro v hv;obtain⟨p,_,a⟩:=List.mem_flatMap.1 hv;simp only[oh,zW,Bf,or_false]at a;rcases a with rfl|rfl<;>rfl
theorem Wlu {l:List (Nat×Sl)}{i:Nat}{p:Nat×Sl}(h:l[i]?=some p){d:Nat}(hd:d<2):(fJ l)[2*i+d]?=(oh p)[d]? := by
 induction l generalizing i with
 | nil=>simp at h
 | cons x l ih=>
  have e:fJ (x::l)=oh x++fJ l:=rfl;have e2:(oh x).length=2:=rfl;rw[e];cases i with
  | zero=>
   simp at h;subst h;rw[zd O];congr 1;omega
  | succ i=>
   rw[zp O,e2,show 2*(i+1)+d-2=2*i+d by omega];exact ih (by simpa using h)
def kT (ps:List (Nat×Sl))(bs:List Bt)(U:Hp)(D:Rg):Prop:=ps.length=bs.length/\∀(i:Nat) p x,ps[i]?=some p->bs[i]?=some x->p.1=x.1/\cV p.2 1 (Wy x.2) U D/\p.2.len<=p.2.cap
theorem kT.loc (ps:List (Nat×Sl))(bs:List Bt):dN (kT ps bs):=λU j F G h d g=>⟨h.1,λi p x b a=>⟨(h.2 i p x b a).1,cV.loc _ _ _ _ _ _ _ (h.2 i p x b a).2.1 d g,(h.2 i p x b a).2.2⟩⟩
def vJ (ps:List (Nat×Sl)):Prop:=ps.Pairwise λp q=>∀a a',p.2.a=some a->q.2.a=some a'->a.block≠a'.block
theorem vJ.snoc {ps:List (Nat×Sl)}{bs:List Bt}{U v:Hp}{D X:Rg}{s:Sl}{xs:List Int}(h:vJ ps)(hB:kT ps bs U D)(hne:∀x∈bs,x.2≠[])(hs:cV s 1 (Wy xs) v X)(hx:xs≠[])(hd:∀b,b<U.size->D b->¬X b)(k:Nat):vJ (ps++[(k,s)]):=by
 refine qx.2 ⟨h,List.pairwise_singleton _ _,λp u q r=>?_⟩;rw[zN]at r;subst r;intro a a' h1 h2 e;obtain⟨i,hi⟩:=zP u;have d:=(cX.1 hi).1;have m:bs[i]?=some (bs[i]'(by rw[←hB.1];exact d)):=cW _;generalize (bs[i]'(by rw[←hB.1];exact d))=y at m;obtain⟨_,g,_⟩:=hB.2 i p y hi m;have j:=g.bV (by simpa[Wy]using hne y (zG m)) ⟨a,h1,rfl⟩;have w:=hs.bV (by simpa[Wy]using hx) ⟨a',h2,rfl⟩;rw[e]at j;exact hd _ j.2 j.1 w.1
def iD (s:Sl)(bs:List Bt):Hp->Rg->Prop:=λU F=>∃(ps:List (Nat×Sl)) (D:Rg),dL s 2 (fJ ps) U (λq=>F q/\¬D q)/\kT ps bs U D/\(∀q,D q->F q)/\vJ ps/\∀x∈bs,x.2≠[]
theorem iD.loc (s:Sl)(bs:List Bt):dN (iD s bs):=λU u F G ⟨p,D,m,r,i,j⟩ g b=>
 ⟨p,λq=>D q/\q<U.size,dL.loc _ _ _ _ _ _ _ m g λq a d=>⟨⟨(b q a d.1).1,λhd=>d.2 hd.1⟩,(b q a d.1).2⟩,kT.loc _ _ _ _ _ _ r g λq a hd=>⟨⟨hd,a⟩,(b q a (i q hd)).2⟩,λq a=>(b q a.2 (i q a.1)).1,j⟩
theorem iD.nil (U:Hp)(F:Rg)(a:Option Addr):iD ⟨a,0,0⟩ [] U F:=⟨[],λ_=>False,dL.nil _ _ _ _,⟨rfl,λi p x h=>by simp at h⟩,λq h=>h.elim,List.Pairwise.nil,by simp⟩
theorem iD.len {s:Sl}{bs:List Bt}(h:iD s bs U F):s.len=bs.length:=by
 obtain⟨d,D,b,a,_⟩:=h;have:=b.1;rw[Vn]at this;have:=a.1;omega
theorem iD.cap {s:Sl}{bs:List Bt}(h:iD s bs U F):s.len<=s.cap:=by
 obtain⟨b,D,a,_⟩:=h;exact a.cap
def oL:Prop:=∀{U:Hp} {F:Rg} {s:Sl} {xs:List (Nat×Sl)},bT s 2 (fJ xs) U F->(∀x∈xs,x.1<64)->xs.length<=1000->∀{R:aP},
 (∀xs' σ',xs'.Perm xs->xs'.Pairwise (λa b=>a.1<=b.1)->Ext F U σ'->bT s 2 (fJ xs') σ' F->R σ')->Qy.c s ⟨298,#[],#[]⟩ U R
theorem LC:∀{a b:List Nat},a.Pairwise (· < ·)->b.Pairwise (· < ·)->(∀x,x∈a↔x∈b)->a=b
 | [],[],_,_,_=>rfl
 | [],y::b,_,_,h=>by have:=(h y).2 aA;simp at this
 | x::a,[],_,_,h=>by have:=(h x).1 aA;simp at this
 | x::a,y::b,ha,hb,h=>by
  rw[tC]at ha hb;have e:x=y:=by
   rcases zW.1 ((h x).1 aA)with h1|h1
   ·exact h1
   ·rcases zW.1 ((h y).2 aA)with h2|h2
    ·exact h2.symm
    ·have:=ha.1 y h2;have:=hb.1 x h1;omega
  subst e
  congr 1
  refine LC ha.2 hb.2 λz=>?_;have d:=h z;simp only[zW]at d;constructor
  ·intro hza;have:=ha.1 z hza;rcases d.1 (.inr hza)with h1|h1
   ·omega
   ·exact h1
  ·intro hzb;have:=hb.1 z hzb;rcases d.2 (.inr hzb)with h1|h1
   ·omega
   ·exact h1
theorem HZ {f:cA->Li->List Int×Li}{x:Bt}:x∈KO f tb ls↔∃c l,tb[x.1]?=some c/\ls[x.1]?=some l/\x.2=(f c l).1/\x.2≠[]:=by
 unfold KO;rw[wX];constructor
 ·rintro⟨k,hk,h⟩;split at h
  ·rename_i c l hc hl;split at h
   ·cases h
   ·rename_i hne;cases h;exact⟨c,l,hc,hl,rfl,hne⟩
  ·cases h
 ·rintro⟨c,l,hc,hl,e,hne⟩;refine⟨x.1,zg.2 (cX.1 hc).1,?_⟩;rw[hc,hl];simp only;rw[zB (by rw[←e];exact hne),←e]
theorem SG {f:cA->Li->List Int×Li}:((KO f tb ls).map (·.1)).Pairwise (· < ·):=by
 unfold KO;have key:∀(n:Nat),(((List.range n).filterMap λk=>match tb[k]?,ls[k]? with
  | some c,some l=>if(f c l).1=[]then none else some ((k,(f c l).1):Bt)
  | _,_=>none).map (·.1)).Pairwise (· < ·)/\∀x∈((List.range n).filterMap λk=>match tb[k]?,ls[k]? with
  | some c,some l=>if(f c l).1=[]then none else some ((k,(f c l).1):Bt)
  | _,_=>none),x.1<n:=by
  intro n
  induction n with
  | zero=>simp
  | succ n ih=>
   rw[qR,xI,zj];refine⟨qx.2 ⟨ih.1,?_,?_⟩,?_⟩
   ·simp only[CD,List.filterMap_nil];split<;>simp
   ·intro a ha b hb;obtain⟨x,i,rfl⟩:=zD.1 ha;obtain⟨y,g,rfl⟩:=zD.1 hb;have p:=ih.2 x i;obtain⟨m,j,d⟩:=wX.1 g;clear g hb ha;simp only[zN]at j;subst j;split at d
    ·split at d
     ·cases d
     ·cases d;exact p
    ·cases d
   ·intro x i;rcases zK.1 i with i|i
    ·have:=ih.2 x i;omega
    ·obtain⟨m,j,g⟩:=wX.1 i;simp only[zN]at j;subst j;split at g
     ·split at g
      ·cases g
      ·cases g;omega
     ·cases g
 exact(key tb.length).1
def nA (todo:List (Int×Option Addr))(k:Nat):Prop:=((k:Nat):Int)∈todo.map (·.1)
instance (todo:List (Int×Option Addr)) (k:Nat):Decidable (nA todo k):=by unfold nA;infer_instance
theorem GH {todo:List (Int×Option Addr)}{m k:Nat}:nA (todo.filter λy=>!(y.1==(m:Int))) k↔nA todo k/\k≠m:=by
 unfold nA;simp only[zD,zL,mO,mX];constructor
 ·rintro⟨y,⟨h1,h2⟩,h3⟩;exact⟨⟨y,h1,h3⟩,λe=>h2 O⟩
 ·rintro⟨⟨y,h1,h3⟩,h2⟩;exact⟨y,⟨h1,λe=>h2 O⟩,h3⟩
structure Ak (f:cA->Li->List Int×Li) (tb:List cA) (ls:List Li) (todo:List (Int×Option Addr)) (ls':List Li) (outs:List Bt):Prop where
 l:∀k c l,tb[k]?=some c->ls[k]?=some l->ls'[k]?=some (if nA todo k then l else(f c l).2)
 n:(outs.map (·.1)).Nodup
 o:∀x:Bt,x∈outs↔∃c l,tb[x.1]?=some c/\ls[x.1]?=some l/\¬nA todo x.1/\x.2=(f c l).1/\x.2≠[]
theorem Ak.step {f:cA->Li->List Int×Li}{todo:List (Int×Option Addr)}{ls':List Li}{outs:List Bt}(h:Ak f tb ls todo ls' outs)(hc:tb[k]?=some c)(hl:ls[k]?=some l)(hk:nA todo k) :
 Ak f tb ls (todo.filter λy=>!(y.1==(k:Int))) (ls'.set k (f c l).2) (if(f c l).1=[]then outs else outs++[(k,(f c l).1)]):=by
 have s:=h.l k c l hc hl;have z:=(cX.1 s).1;have w:∀x∈outs,x.1≠k:=λx g e=>by
  obtain⟨_,_,_,_,A,_⟩:=(h.o x).1 g;rw[e]at A;exact A hk
 refine⟨λj d m hd p=>?_,?_,λx=>?_⟩
 ·by_cases hj:j=k
  ·subst hj;rw[hc]at hd;cases hd;rw[hl]at p;cases p;rw[zO z,zB (by rw[GH];exact λg=>g.2 rfl)]
  ·rw[zh (Ne.symm hj),h.l j d m hd p]
   congr 1
   by_cases hi:nA todo j
   ·rw[zC hi,zC (GH.2 ⟨hi,hj⟩)]
   ·rw[zB hi,zB λg=>hi (GH.1 g).1]
 ·split
  ·exact h.n
  ·rw[zj,nB];refine⟨h.n,by simp,λa C b B e=>?_⟩;simp only[zR,ny,zN]at B;subst B;obtain⟨x,g,e2⟩:=zD.1 C;exact w x g (e2.trans e)
 ·have u:(∃d m,tb[x.1]?=some d/\ls[x.1]?=some m/\¬nA (todo.filter λy=>!(y.1==(k:Int))) x.1/\x.2=(f d m).1/\x.2≠[])↔x∈outs\/(x=(k,(f c l).1)/\(f c l).1≠[]):=by
   constructor
   ·rintro⟨d,m,hd,p,hi,e,i⟩;by_cases hj:x.1=k
    ·right;rw[hj]at hd p;rw[hc]at hd;cases hd;rw[hl]at p;cases p;exact⟨Prod.ext hj e,by rw[←e];exact i⟩
    ·left;exact(h.o x).2 ⟨d,m,hd,p,λg=>hi (GH.2 ⟨g,hj⟩),e,i⟩
   ·rintro(g|⟨rfl,i⟩)
    ·obtain⟨d,m,hd,p,hi,e,i⟩:=(h.o x).1 g;exact⟨d,m,hd,p,λr=>hi (GH.1 r).1,e,i⟩
    ·exact⟨c,l,hc,hl,λr=>(GH.1 r).2 rfl,rfl,i⟩
  rw[u];split
  ·rename_i he;constructor
   ·exact .inl
   ·rintro(g|⟨_,i⟩)
    ·exact g
    ·exact absurd he i
  ·rename_i he;rw[zK,zN];constructor
   ·rintro(g|g)
    ·exact .inl g
    ·exact .inr ⟨g,he⟩
   ·rintro(g|g)
    ·exact .inl g
    ·exact .inr g.1
set_option maxRecDepth 4000 in
theorem FL (hso:oL){f:cA->Li->List Int×Li}{fn:Nat}(hf:D4 f fn)(hnil:∀c,c.ok->f c iy=([],iy))(h:eN U F Y tb bud ls){R:Sl->Hp->Prop}
 (hR:∀σ' s (Q:Rg),Ext F U σ'->(∀q,Q q->U.size<=q)->eN σ' (λq=>Grow F U q/\¬Q q) Y tb bud (KI f tb ls)->iD s (KO f tb ls) σ' Q->R s σ') :
 XB.c (aW Y.p) ⟨fn,#[],#[]⟩ U R:=by
 refine XB.o ?_;unfold XB.v;refine HG h (cD rfl (bL (h.hd.rM rfl ?_)));have htb:=h.nQ;refine xJ (a:=.s) h.map (λC (out:Sl) v=>∃(ls':List Li) (w:List Bt) (Q D:Rg) (ps:List (Nat×Sl)),Ext F U v/\(∀q,Q q->U.size<q)/\eN v (λq=>(Cut F U q\/U.size<q)/\¬Q q) Y tb bud ls' ∧
  bT out 2 (fJ ps) v (λq=>Q q/\¬D q)/\kT ps w v D/\(∀q,D q->Q q)/\Ak f tb ls C ls' w/\(∀e∈C,e∈kf Y.ps)/\(C.map (·.1)).Nodup/\vJ ps) ?_ ?_ ?_
 ·intro v hz e;refine⟨ls,[],λ_=>False,λ_=>False,[],aF.to e,λq g=>g.elim,((eN.loc.bP h.cut e).mono λq _ g=>⟨.inl g,id⟩),bT.nil _ _ _ _,⟨rfl,λi p x K=>by simp at K⟩,λq g=>g.elim,⟨λk c l E N=>?_,by simp,λx=>?_⟩,λe P=>P,h.map.nodup,List.Pairwise.nil⟩
  ·by_cases hi:nA (kf Y.ps) k
   ·rw[zC hi,N]
   ·rw[zB hi];have hf0:jb Y.ps k=none:=by
     unfold jb;simp only[sW,oI,zU];exact λx r e=>hi (zD.2 ⟨((x.1:Int),some ⟨x.2,0,none⟩),zD.2 ⟨x,r,rfl⟩,by rw[e]⟩)
    have:=h.nil hf0 N;rw[N,this,hnil c (h.ok c (zG E))]
  ·simp only[Bf,false_iff];rintro⟨c,l,E,N,hi,e,hne⟩;have hf0:jb Y.ps x.1=none:=by
    unfold jb;simp only[sW,oI,zU];exact λy X e=>hi (zD.2 ⟨((y.1:Int),some ⟨y.2,0,none⟩),zD.2 ⟨y,X,rfl⟩,by rw[e]⟩)
   have:=h.nil hf0 N;rw[this,hnil c (h.ok c (zG E))]at e;exact hne e
 ·rintro out v ⟨ls',w,Q,D,ps,e,hQ,hC,W,hB,hD,hI,_,_,S⟩;have hno:∀k,¬nA [] k:=λk hk=>by simp[nA]at hk
  have hls:ls'=KI f tb ls:=by
   apply zy;intro k;by_cases hk:k<tb.length
   ·have E:tb[k]?=some tb[k]:=cW hk;have N:ls[k]?=some (ls[k]'(by rw[h.len];exact hk)):=cW _;rw[hI.l k _ _ E N,zB (hno k)];simp[KI,BC,E,N]
   ·rw[zX (by rw[hC.len];omega),zX (by simp[KI,h.len];omega)]
  subst hls;have hk1:∀(i:Nat) p,ps[i]?=some p->∃x,w[i]?=some x/\p.1=x.1/\cV p.2 1 (Wy x.2) v D/\p.2.len<=p.2.cap:=λi p K=>by
   have hi:=(cX.1 K).1;have r:w[i]?=some (w[i]'(by rw[←hB.1];exact hi)):=cW _;exact⟨_,r,hB.2 i p _ K r⟩
  have B:ps.map (·.1)=w.map (·.1):=by
   apply zy;intro i;simp only[zZ];cases K:ps[i]? with
   | none=>
    have:w[i]?=none:=by
     rw[List.getElem?_eq_none_iff]at K ⊢;rw[←hB.1];exact K
    rw[this];rfl
   | some p=>
    obtain⟨x,r,e1,_⟩:=hk1 i p K;rw[r];simp[e1]
  have Z:∀x∈w,x.1<40:=λx r=>by
   obtain⟨c,l,E,_⟩:=(hI.o x).1 r;have:=(cX.1 E).1;omega
  have hlen:ps.length<=40:=by
   have hn:=hI.n;rw[←B]at hn;have:=hn.length_le_of_subset (l₂:=List.range 40) λj S=>by
    rw[B]at S;obtain⟨x,r,rfl⟩:=zD.1 S;exact zg.2 (Z x r)
   simpa using this
  refine hso W (λp K=>?_) O λps' v' L hsort e' hrow'=>?_
  ·have:p.1∈w.map (·.1):=by rw[←B];exact zD.2 ⟨p,K,rfl⟩
   obtain⟨x,r,e1⟩:=zD.1 this;have:=Z x r;omega
  ·have hnd:(ps'.map (·.1)).Nodup:=(L.map _).nodup_iff.2 (by rw[B];exact hI.n);have hinc:(ps'.map (·.1)).Pairwise (· < ·):=by
    refine List.Pairwise.map (R:=λa b:Nat×Sl=>a.1<b.1) _ (λa b ab=>ab) ?_;have A:ps'.Pairwise λa b=>a.1≠b.1:=q9.1 hnd;exact(hsort.and A).imp λ{a b} ab=>by have:=ab.1;have:=ab.2;omega
   have hkk:ps'.map (·.1)=(KO f tb ls).map (·.1):=by
    refine LC hinc SG λj=>?_;rw[(L.map _).mem_iff,B];constructor
    ·intro S;obtain⟨x,r,rfl⟩:=zD.1 S;obtain⟨c,l,E,N,_,e1,e2⟩:=(hI.o x).1 r;exact zD.2 ⟨x,HZ.2 ⟨c,l,E,N,e1,e2⟩,rfl⟩
    ·intro S;obtain⟨x,r,rfl⟩:=zD.1 S;obtain⟨c,l,E,N,e1,e2⟩:=HZ.1 r;exact zD.2 ⟨x,(hI.o x).2 ⟨c,l,E,N,hno _,e1,e2⟩,rfl⟩
   have eQ:Ext F U v':=e.dQ e' λq g=>.inr (r9 (hQ q g.1));refine hR v' out Q eQ (λq g=>r9 (hQ q g)) ?_ ⟨ps',D,hrow'.o,⟨?_,λi p x K r=>?_⟩,hD,(L.pairwise_iff λ{a b} ab x y A h2 e=>ab y x h2 A e.symm).2 S,λx r=>by
    obtain⟨_,_,_,_,_,h2⟩:=HZ.1 r;exact h2⟩
   ·refine(eN.loc.bS hC e' λq _ g hq2=>g.2 hq2.1).mono λq _ g=>⟨?_,g.2⟩;rcases g.1 with r|r
    ·exact .inl r.1
    ·exact .inr (r9 r)
   ·have:=congrArg List.length hkk;simpa using this
   ·have e1:p.1=x.1:=by
     have:=congrArg (λl=>l[i]?) hkk;simp only[zZ,K,r,ze,Option.some.injEq]at this;exact this
    obtain⟨j,S⟩:=zP (L.mem_iff.1 (zG K));obtain⟨y,X,e2,hs,hcap⟩:=hk1 j p S;have e3:x.2=y.2:=by
     obtain⟨c,l,E,N,_,A,_⟩:=(hI.o y).1 (zG X);obtain⟨c',l',hc',hl',h2,_⟩:=HZ.1 (zG r);rw[←e1,e2,E]at hc';cases hc';rw[←e1,e2,N]at hl';cases hl';rw[A,h2]
    rw[e3];exact⟨e1,aH.bS hs e' λq _ g hq2=>hq2.2 g,hcap⟩
 ·rintro C n x out v v' J ⟨ls',w,Q,D,ps,e,hQ,hC,W,hB,hD,hI,hsub,hnd,S⟩ r ho hlt hJ;have e1:Ext F U v':=e.only ho (.inr (zE _));have V:eN v' (λq=>(Cut F U q\/U.size<q)/\¬Q q) Y tb bud ls':=eN.loc.bS hC ho.ext λq _ g P=>by
   rcases g.1 with A|A
   ·have:=A.2;omega
   ·omega
  have hrow1:bT out 2 (fJ ps) v' (λq=>(Q q/\¬D q)/\q<v'.size):=aI.cut (aI.bS W ho.ext λq _ g P=>by have:=hQ q g.1;omega);have hB1:kT ps w v' (λq=>D q/\q<v'.size):=(kT.loc _ _).cut ((kT.loc _ _).bS hB ho.ext λq _ g P=>by have:=hQ q (hD q g);omega);have hmem:=hsub _ r;simp only[kf,zD,Prod.mk.injEq]at hmem;obtain⟨⟨k,b⟩,hkb,hk1,hx1⟩:=hmem;simp only at hk1 hx1;subst hk1;subst hx1;have hk:=h.keys _ hkb;simp only at hk;have E:tb[k]?=some tb[k]:=cW hk;have N:ls[k]?=some (ls[k]'(by rw[h.len];exact hk)):=cW _;generalize tb[k]=c at E;generalize (ls[k]'(by rw[h.len];exact hk))=l at N;have hcok:=h.ok c (zG E);have hlk:jb Y.ps k=some b:=JK h.map.nodup hkb;have hin:nA C k:=zD.2 ⟨_,r,rfl⟩;have hl':ls'[k]?=some l:=by rw[hI.l k c l E N,zC hin]
  have M:=hI.step E N hin;have hmF:(λq=>(Cut F U q\/U.size<q)/\¬Q q) Y.m:=by
   obtain⟨H,hH,hm⟩:=V.sep.get .mp;exact hH _ hm.1
  obtain⟨G,hG,hL,hGm,hput⟩:=V.xS hlk hl';have aa:=hG b hL.1;have hbm:b≠Y.m:=λe=>hGm (e▸hL.1);have hbs:b≠U.size:=λe=>by
   subst e;rcases aa.1 with A|A
   ·have:=A.2;omega
   ·omega
  have hblt:b<v'.size:=by obtain⟨_,_,s,hbk,_⟩:=hL;exact hbk.lt
  have hsz1:=ho.1;refine bL (V.hd.rS rfl (uh V.jN E (d:=2) O ?_));simp only[zB (show ¬(2=0) by omega),zB (show ¬(2=1) by omega)];refine hf hL hcok λs z v5 e5 hz hr hL5=>?_;have hs5:=e5.1;obtain⟨eF,h5⟩:=hput v5 _ (λq=>q=b\/z<=q) (e5.sub λq g=>by rw[g];exact hL.1) (λq g=>g.imp (λ(r:q=b)=>by rw[r];exact hL.1) λ(r:z<=q)=>O) hL5;have h5:=h5.cut;have eF5:Ext F U v5:=e1.dQ eF λq g=>by
   rcases g.1 with A|A
   ·exact .inl A.1
   ·exact .inr (r9 A)
  have hnb:∀q,Q q->q≠b:=λq g hqb=>aa.2 (hqb▸g);have hrow5:=aI.bS hrow1 e5 λq _ g P=>hnb q g.1.1 P;have hB5:=(kT.loc _ _).bS hB1 e5 λq _ g P=>hnb q (hD q g.1) P;have hsl:s.len=(f c l).1.length:=by have:=hr.1;simp[Wy]at this;omega
  have hsub':∀y∈C.filter (λy=>!(y.1==(k:Int))),y∈kf Y.ps:=λy X=>hsub y (zL.1 X).1;have hnd':((C.filter λy=>!(y.1==(k:Int))).map (·.1)).Nodup:=hnd.sublist (List.filter_sublist.map _);by_cases hemp:(f c l).1=[]
  ·rw[zC hemp]at M;refine gA (by rw[hsl,hemp];simp) (hJ out v5 (e5.2 _ O λP=>hbs P.symm) (e5.2 _ V.map.lt λP=>hbm P.symm) ?_);refine⟨_,w,λq=>Q q/\q<v'.size,λq=>D q/\q<v'.size,ps,eF5,λq g=>hQ q g.1,h5.mono λq _ g=>?_,aI.mono hrow5 λq _ g=>⟨⟨g.1.1,g.2⟩,λhd=>g.1.2 hd.1⟩,hB5,λq g=>⟨hD q g.1,g.2⟩,M,hsub',hnd',S⟩;rcases g.1 with A|A|A
   ·exact⟨A.1.1,λr=>A.1.2 r.1⟩
   ·subst A;exact⟨aa.1,λr=>aa.2 r.1⟩
   ·exact⟨.inr O,λr=>O⟩
  ·rw[zB hemp]at M;have hpos:=pY.2 hemp;refine l9 (by rw[hsl];omega) (nw (cs:=oh (k,s)) λv6 hz6 e6 hb6=>?_);have hrow6:=aI.bP hrow5 e6;have hB6:=(kT.loc _ _).bP hB5 e6;have hr6:=aI.bP (aI.cut hr) e6;have hpl:out.len=ps.length:=by have:=W.1;rw[Vn]at this;omega
   have hol:ps.length<=40:=by
    have B:w.map (·.1)⊆List.range 40:=λj S=>by
     obtain⟨x,r,rfl⟩:=zD.1 S;obtain⟨c,l,E,_⟩:=(hI.o x).1 r;have:=(cX.1 E).1;exact zg.2 O
    have:=hI.n.length_le_of_subset B;rw[hB.1];simpa using this
   refine hrow6.app (ys:=oh (k,s)) rfl rfl ?_ (λv hv=>HO (l:=[(k,s)]) v (by simpa[fJ]using hv)) ?_ ?_ nm λs' v7 hl7 e7 hr7=>?_
   ·intro j u hu;rw[add_lit,zH,hb6.cell];exact hu
   ·simp only;have:(out.len+1)*32<=41*32:=mD O O;omega
   ·simp only;omega
   have hs7:=e7.1;have e57:Ext (λq=>(Q q/\¬D q)/\q<v'.size) v5 v7:=(aF.to e6).trans e7;refine hJ s' v7 ?_ ?_ ?_
   ·rw[e57.2 _ O λr=>by have:=hQ _ r.1.1;omega];exact e5.2 _ O λP=>hbs P.symm
   ·rw[e57.2 _ (by have:=V.map.lt;omega) λr=>hmF.2 r.1.1];exact e5.2 _ V.map.lt λP=>hbm P.symm
   refine⟨_,_,λq=>Q q/\q<v'.size\/(v'.size<=q/\q<z)\/v5.size<=q,λq=>D q/\q<v'.size\/(v'.size<=q/\q<z)/\q<v5.size,ps++[(k,s)],eF5.dQ e57 λq g=>.inr (r9 (hQ q g.1.1)),λq g=>?_,(eN.loc.bS h5 e57 λq hq5 g r=>?_).mono λq _ g=>?_,?_,⟨?_,λi p y K X=>?_⟩,λq g=>?_,M,hsub',hnd',S.snoc hB1 (λx r=>by
    obtain⟨_,_,_,_,_,_,h2⟩:=(hI.o x).1 r;exact h2) hr.fW hemp (λb hb r X=>by have:=r.2;have:=X.1;omega) k⟩
   ·rcases g with g|g|g
    ·exact hQ q g.1
    ·omega
    ·omega
   ·rcases g.1 with A|A|A
    ·exact A.1.2 r.1.1
    ·exact hnb q r.1.1 A
    ·have:=r.2;omega
   ·have hq5:=g.2;rcases g.1 with A|A|A
    ·exact⟨A.1.1,λr=>by
      rcases r with r|r|r
      ·exact A.1.2 r.1
      ·have:=A.2.1;omega
      ·omega⟩
    ·subst A;exact⟨aa.1,λr=>by
      rcases r with r|r|r
      ·exact aa.2 r.1
      ·omega
      ·omega⟩
    ·exact⟨.inr O,λr=>by
      rcases r with r|r|r<;>omega⟩
   ·rw[HB];have:fJ [(k,s)]=oh (k,s):=by simp[fJ]
    rw[this];refine aI.mono hr7 λq _ g=>?_;rcases g with g|g
    ·exact⟨.inl ⟨g.1.1,g.2⟩,λhd=>by
      rcases hd with hd|hd
      ·exact g.1.2 hd.1
      ·omega⟩
    ·exact⟨.inr (.inr O),λhd=>by
      rcases hd with hd|hd<;>omega⟩
   ·rw[zJ,zJ,hB.1];rfl
   ·rcases ku i ps.length with hi|hi
    ·rw[zd hi]at K;rw[zd (by rw[←hB.1];exact hi)]at X;obtain⟨a1,a2,a3⟩:=hB6.2 i p y K X;exact⟨a1,aH.mono (aH.bS a2 e7 λq _ g r=>r.1.2 g.1) λq _ g=>.inl g,a3⟩
    ·rw[zp hi]at K;rw[zp (by rw[←hB.1];exact hi)]at X;have hi0:i-ps.length=0:=by
      have:=(cX.1 K).1;simp at this;omega
     rw[hi0]at K;rw[show i-w.length=0 by rw[←hB.1];exact hi0]at X;simp at K X;subst K;subst X;exact⟨rfl,aH.mono (aH.bS hr6.fW e7 λq _ g r=>by have:=r.2;have:=g.1;omega) λq _ g=>.inr g,bT.pv hr⟩
   ·rcases g with g|g
    ·exact .inl ⟨hD q g.1,g.2⟩
    ·exact .inr (.inl g.1)
theorem Pq (hso:oL)(h:eN U F Y tb bud ls){R:Sl->Hp->Prop}
 (hR:∀σ' s (Q:Rg),Ext F U σ'->(∀q,Q q->U.size<=q)->eN σ' (λq=>Grow F U q/\¬Q q) Y tb bud (KI Qe tb ls)->iD s (KO Qe tb ls) σ' Q->R s σ'):X1.c (aW Y.p) U R:=by
 refine X1.o ?_;unfold X1.v;exact FL hso OZ (λc _=>Nf c) h hR
theorem SA (hso:oL)(h:eN U F Y tb bud ls){R:Sl->Hp->Prop}
 (hR:∀σ' s (Q:Rg),Ext F U σ'->(∀q,Q q->U.size<=q)->eN σ' (λq=>Grow F U q/\¬Q q) Y tb bud (KI Vv tb ls)->iD s (KO Vv tb ls) σ' Q->R s σ'):Xo.c (aW Y.p) U R:=by
 refine Xo.o ?_;unfold Xo.v;exact FL hso Sd RR h hR
end Go.Ar