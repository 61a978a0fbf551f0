/- Texts joined. -/
import Derived.Test.YtoeidadjhkkioaaGreatDoorU3
set_option linter.unusedVariables false
set_option linter.unusedSimpArgs false
namespace Go.Vc
open Go
def yl (h:Hp)(it r:Nat):Nat:=
 match h[it]?,h[r]? with
 | some (.mapIter _ _ seen _),some (.map es _)=>(es.toList.filter λe=>!seen.contains e.born).length
 | _,_=>0
variable {U:Hp}{k:IntKind}{c:CK}{l todo:List (Int×c.T)}{cur:Option (Int×c.T)}{r it:Nat}
theorem It.num {h:Hp}(hi:It h it k c (some r) l todo cur):yl h it r=todo.length:=by
 obtain⟨s,g,a,b,d,u,w,j,m,i,p⟩:=hi;unfold yl;rw[b,d];have:=congrArg List.length i;simpa using this
theorem It.bS {h h':Hp}(hi:It h it k c (some r) l todo cur)(h1:h'[it]?=h[it]?)(h2:h'[r]?=h[r]?):It h' it k c (some r) l todo cur:=by
 obtain⟨j,d,b,i,g,a⟩:=hi;exact⟨j,d,b,h1.trans i,h2.trans g,a⟩
theorem C6 {A:aP}{body:Int->c.T->Hp->(Hp->Prop)->Prop}(hm:dK U r k c l)(I:List (Int×c.T)->Hp->Prop)
 (h0:∀v,v.size=U.size+1->aF U v->I l v)
 (hend:∀v,I [] v->A v)
 (hstep:∀todo n x v v' (J:aP),I todo v->(n,x)∈todo->Kb v v' U.size->U.size<v.size->(∀w,w[U.size]?=v'[U.size]?->w[r]?=v'[r]?->I (todo.filter λy=>!(y.1==n)) w->J w)->body n x v' J) :
 oU k c (some r) U λit v3=>Yf [] (λI=>I v3) λJ1 v4=>pC k c it v4 (A v4) λ_ _ v5=>oP k c it v5 λkey1 val1=>body key1 val1 v5 J1:=by
 refine⟨l,hm,λv N M hi=>?_⟩;have H:aF U v:=⟨O,λb s _=>M b s⟩;refine Jd (λw=>∃todo a,It w U.size k c (some r) l todo a/\I todo w/\U.size<w.size) (λw=>yl w U.size r) ⟨l,none,hi,h0 v N H,O⟩ ?_;rintro w ⟨todo,a,i,B,p⟩;refine⟨rfl,some r,l,todo,a,i,λK=>?_,λn x C L E g=>?_⟩
 ·subst K;exact hend w B
 ·refine⟨rfl,some r,l,_,n,x,g,hstep todo n x w L _ B C E p λu j z m=>?_⟩;have d:=g.bS j z;refine⟨⟨_,_,d,m,?_⟩,?_⟩
  ·obtain⟨P,G,D,F,_⟩:=d;exact(kg.1 F).1
  ·rw[d.num,i.num];exact C8.2 ⟨(n,x),C,by simp⟩
theorem yd {a:CK}{x0:a.T}{A:a.T->Hp->Prop}{body:Int->c.T->a.T->Hp->(a.T->Hp->Prop)->Prop}(hm:dK U r k c l)(I:List (Int×c.T)->a.T->Hp->Prop)
 (h0:∀v,v.size=U.size+1->aF U v->I l x0 v)
 (hend:∀z v,I [] z v->A z v)
 (hstep:∀todo n x z v v' (J:a.T->Hp->Prop),I todo z v->(n,x)∈todo->Kb v v' U.size->U.size<v.size->(∀z' w,w[U.size]?=v'[U.size]?->w[r]?=v'[r]?->I (todo.filter λy=>!(y.1==n)) z' w->J z' w)->body n x z v' J) :
 oU k c (some r) U λit v3=>Yf [a] (λI=>I x0 v3) λJ1 z v4=>pC k c it v4 (A z v4) λ_ _ v5=>oP k c it v5 λkey1 val1=>body key1 val1 z v5 J1:=by
 refine⟨l,hm,λv Q P hi=>?_⟩;have L:aF U v:=⟨O,λb B _=>P b B⟩;refine Qz (a:=a) (λz w=>∃todo d,It w U.size k c (some r) l todo d/\I todo z w/\U.size<w.size) (λ_ w=>yl w U.size r) ⟨l,none,hi,h0 v Q L,O⟩ ?_;rintro z w ⟨todo,d,j,D,s⟩;refine⟨rfl,some r,l,todo,d,j,λM=>?_,λn x E N G i=>?_⟩
 ·subst M;exact hend z w D
 ·refine⟨rfl,some r,l,_,n,x,i,hstep todo n x z w N _ D E G s λz' u m C p=>?_⟩;have g:=i.bS m C;refine⟨⟨_,_,g,p,?_⟩,?_⟩
  ·obtain⟨R,K,F,H,_⟩:=g;exact(kg.1 H).1
  ·rw[g.num,j.num];exact C8.2 ⟨(n,x),E,by simp⟩
end Go.Vc
namespace Go.Ar
open Go Go.Vc Go.Proofs
open Go.Bu (ZH)
variable {U:Hp}{F:Rg}{p q r:Nat}{sp:Sp}{l:List (Int×Sl)}{B:Nat->Nat}
theorem Qe {α:Type}{l:List (Int×α)}(hn:(l.map (·.1)).Nodup){n:Int}{x:α}(h:(n,x)∈l):bU l n=some x:=by
 induction l with
 | nil=>simp at h
 | cons y l ih=>
  rw[KT];simp only[zR,zj]at hn;rcases zW.1 h with h1|h1
  ·subst h1;rw[zC rfl]
  ·have:¬y.1=n:=λe=>hn.1 (zE.2 ⟨_,h1,e.symm⟩);rw[zB this];exact ih hn.2 h1
end Go.Ar
namespace Go.Bu
open Go Go.Vc Go.Proofs
variable {U:Hp}{p n sb:Nat}{S:Nat->Bool}{ms:List Nat}
def kN (ms:List Nat):List Value:=ms.map λm=>Value.map (some m)
structure Part (B:Nat) (h:Hp) (p n:Nat) (j:Nat) (s:Sl) (ms:List Nat):Prop where
 len:ms.length=j
 sl:s.len=j
 hd:bY h p [.int .i64 n,.slice s.a s.len s.cap]
 own:Go.Vc.Own (λb=>B<=b/\b≠p/\b∉ms) h s 1 (kN ms)
 new:∀m∈ms,B<=m/\m≠p/\m<h.size
 nd:ms.Nodup
theorem Part.done {B:Nat}{h:Hp}{j:Nat}{s:Sl}(hp:Part B h p n j s ms)(hB:B<=p)(hj:0<j)(n1:1<=n)(n2:n<=1024)(lo:2^j<=2*n)(hi:n<2^j)(jD:Bounded S n)
 (maps:∀k m,ms[k]?=some m->∃B:List (Int×Bool),dK h m .i64 .b B/\Keys S k B):∃sb,BH h p n S sb ms/\∀b,fp p sb ms b->B<=b:=by
 rcases hp.own.2 with⟨_,hl,_⟩|⟨sb,cs,⟨hq,hqp,hqm⟩,ha,hb,hle,hcl,ht⟩
 ·have:=hp.sl;omega
 ·refine⟨sb,⟨?_,?_,maps,?_,n1,n2,?_,?_,jD⟩,?_⟩
  ·refine⟨s.cap,?_⟩;have:=hp.hd;rw[ha,hp.sl,←hp.len]at this;exact this
  ·refine⟨cs.drop (kN ms).length,?_⟩;have:kN ms++cs.drop (kN ms).length=cs:=by
    conv=>lhs;lhs;rw[←ht]
    exact ot _ _
   show bY h sb (kN ms++_);rw[this];exact hb
  ·simp only[zj,zW,not_or];exact⟨⟨λe=>hqp e.symm,λa=>(hp.new p a).2.1 rfl⟩,hqm,hp.nd⟩
  ·rw[hp.len];exact lo
  ·rw[hp.len];exact hi
  ·intro b hb;simp only[fp,zW]at hb;rcases hb with rfl|rfl|h
   ·exact hB
   ·exact hq
   ·exact(hp.new b h).1
theorem Part.Ti {B:Nat}{h:Hp}{j:Nat}{s:Sl}(hp:Part B h p n j s ms):cell h ⟨p,1,none⟩=some (.slice s.a s.len s.cap):=by rw[hp.hd.cell];rfl
theorem Part.bP {B:Nat}{h h':Hp}{j:Nat}{s:Sl}(hp:Part B h p n j s ms)(e:aF h h'):Part B h' p n j s ms:=
 ⟨hp.len,hp.sl,e.bV hp.hd id,hp.own.bP e,λm a=>⟨(hp.new m a).1,(hp.new m a).2.1,wy (hp.new m a).2.2 e.1⟩,hp.nd⟩
theorem Part.step {B:Nat}{h:Hp}{j m e t bytes:Nat}{s:Sl}{zs:List Value}{K:Sl->Hp->Prop}(hp:Part B h p n j s ms)(hj:j<=1000)(hbt:bytes<=1000)(hz:zs.length=1)(hm:B<=m)(hmp:m≠p)(hml:m<h.size)(hmn:m∉ms)(hms:¬Gf s m)
 (hpB:p<h.size) (hBh:B<=h.size)
 (hgo:∀s' h',Ext (Gf s) h h'->s'.len=j+1->bY h' p [.int .i64 n,.slice s.a s.len s.cap] →
  (∀h2,Kb h' h2 p->bY h2 p [.int .i64 n,.slice s'.a s'.len s'.cap]->Part B h2 p n (j+1) s' (ms++[m]))->K s' h') :
 App s 1 bytes e zs ⟨some ⟨h.size,0,none⟩,1,1⟩ (h.push (.cells #[.map (some m)] t (0,0))) K:=by
 have M:=hp.sl;have w:Go.Vc.Own (λb=>B<=b/\b≠p/\b∉ms++[m]) (h.push (.cells #[.map (some m)] t (0,0))) s 1 (kN ms):=by
  have g:=hp.own;have h2:Go.Vc.Own (λb=>B<=b/\b≠p/\b∉ms++[m]) h s 1 (kN ms):=by
   refine⟨g.1,g.2.imp id ?_⟩;rintro⟨b,cs,⟨q1,q2,q3⟩,ha,r⟩;refine⟨b,cs,⟨q1,q2,?_⟩,ha,r⟩;simp only[zM,zN,not_or];exact⟨q3,λe=>hms ⟨0,by rw[ha,e]⟩⟩
  exact h2.bP (HW _ _)
 have C:(h.push (.cells #[.map (some m)] t (0,0))).size=h.size+1:=by simp
 refine w.app (ys:=[.map (some m)]) ?_ hz rfl NL (by simp[dV]) ?_ ?_ nh λs' h' D H L G=>?_
 ·intro b i;rw[C]at i;refine⟨O,O,?_⟩;simp only[zM,zN,not_or];exact⟨λu=>by have:=(hp.new b u).2.2;omega,O⟩
 ·simp only;have:(s.len+1)*bytes<=1001*1000:=mu O hbt;omega
 ·simp only;omega
 ·simp only at D;have d:Ext (Gf s) h h':=(HW h _).to.trans H;have A:¬Gf s p:=λi=>(hp.own.jB i).1.2.1 rfl;refine hgo s' h' d O (d.bV hp.hd A) λh2 y z=>⟨by simp[hp.len],O,z,?_,?_,?_⟩
  ·have:kN (ms++[m])=kN ms++[.map (some m)]:=by simp[kN]
   rw[this];exact L.bS (Ext.eU (F:=(· = p)) y rfl) (λb E _ N=>E.2.1 N)
  ·intro x hx;have J:h2.size=h'.size:=y.1;have:=d.1;rcases zM.1 hx with g|g
   ·have:=hp.new x g;exact⟨this.1,this.2.1,O⟩
   ·simp at g;subst g;exact⟨hm,hmp,O⟩
  ·rw[nf];refine⟨hp.nd,by simp,?_⟩;intro a ha b i;simp at i;subst i;rintro rfl;exact hmn ha
def iB:Nat->Bool:=λ_=>false
theorem κ (k:Nat):Keys iB k []:=by
 refine⟨by simp,λq a=>?_⟩;have:=UB a (Vs k q);simp[iB]at this
theorem uw (aG:Int){R:Option Addr->Int->Hp->Prop}(hbad:¬(1<=aG/\aG<=1024)->R none 1 U)
 (hR:∀(n:Nat),aG=(n:Int)->1<=n->n<=1024->∀σ' sb ms,aF U σ'->BH σ' U.size n iB sb ms->(∀b,fp U.size sb ms b->U.size<=b)->R (some ⟨U.size,0,none⟩) 0 σ'):Kx.c aG U R:=by
 refine Kx.o ?_;unfold Kx.v;refine bX.intro (cP (λg=>cE rfl (hbad O)) λg=>?_);refine cP (λh2=>hbad O) λh2=>?_;obtain⟨n,rfl⟩:=zc (show 0<=aG by omega);have L:1<=n:=by omega
 have M:n<=1024:=by omega
 unfold Nw;have e0:=HW U (.cells #[.int .i64 (n:Int),.slice none 0 0] 52 (0,0));refine Qz (a:=bO) (λt h=>∃(j:Nat) (s:Sl) (ms:List Nat),t=((2^j:Nat):Int)/\2^j<=2*n/\aF U h/\U.size<h.size/\Part U.size h U.size n j s ms/\∀m∈ms,dK h m .i64 .b []) (λt _=>2*n+1-t.toNat)
  ⟨0,⟨none,0,0⟩,[],rfl,by simp;omega,Ext.push _ _ _,by simp,⟨rfl,rfl,bY.push _ _ _,Own.nil _ _ _,by simp,by simp⟩,by simp⟩ ?_
 rintro t h ⟨j,s,ms,rfl,A,K,ab,d,y⟩;have hj:j<=11:=by
  apply Classical.byContradiction;intro hc;have:2^12<=2^j:=qk aB O;omega
 have aa:=k5 j;refine cP (λY=>?_) (λC=>?_)
 ·refine bL ?_;rw[add_lit,zH];refine oB d.Ti ?_;have e1:=HW h (.map #[] 0);have P:(h.push (.map #[] 0)).size=h.size+1:=by simp
  have J:=d.bP e1;refine J.step (m:=h.size) O O rfl O O O (λw=>by have:=(d.new _ w).2.2;omega) (λu=>by have:=(d.own.jB u).2;omega) O O λV h' D hl u r=>?_;refine bL (u.Mt aA λh2 z G=>?_);have E:=r h2 z G;have H:aF U h2:=by
   refine Ext.fresh (Ext.fresh (K.trans e1) D λi hi=>(d.own.jB hi).1.1) (Ext.eU (F:=(· = U.size)) z rfl) λi hi=>?_;rw[hi];exact zD _
  refine cT (m:=2^(j+1)) (by rw[mH];omega) (by rw[mH];omega) ⟨⟨j+1,V,ms++[h.size],rfl,by rw[mH];omega,H,?_,E,?_⟩,by rw[mH];omega⟩
  ·have:=z.1;have:=D.1;omega
  ·intro m w;have pI:∀{m:Nat},dK (h.push (.map #[] 0)) m .i64 .b []->¬Gf s m->m≠U.size->dK h2 m .i64 .b []:=λQ Z B=>HX z (D.fV Q Z) B;rcases zM.1 w with g|g
   ·exact pI (e1.fV (y m g) id) (λu=>(d.own.jB u).1.2.2 g) (d.new m g).2.1
   ·simp at g;subst g;exact pI (dK.push _ _ _) (λu=>by have:=(d.own.jB u).2;omega) O
 ·have p:0<j:=by
   rcases Cz j with e|e
   ·subst e;simp at C;omega
   ·exact e
  obtain⟨sb,X,N⟩:=d.done (S:=iB) (zD _) p L M A O (λx W=>by simp[iB]at W) λk m w=>⟨[],y m (zG w),κ k⟩;exact hR n rfl L M h sb ms K X N
end Go.Bu
namespace Go.Proofs
open Go.Vc
set_option maxRecDepth 100000
def Xw.h:Hn:=.q .o1 (.q (.cU (.seq [.op,.op,.op,.cX true 5 (RI.ops 5),.op])) .l)
def Xw.v (a:R2)(b:Hp)(c:aO):Prop:=bX (λd e=>c d e) λf=>If (!a.isNone) (bG a 1 b λh=>f (!h.isNone) b) (f false b)
theorem Xw.o {a b c}(d:Xw.v a b c):Xw.c a b c:=Wa Tryz.func133 (x:=Xw.h) (R0 d)
def Kz.h:Hn:=.q .o2 (.q (.q .o3 .aJ) (.q .o3 (.q (.q (.cU (.seq [.op,.op,.op,.cX false 3 (RI.ops 3),.op,.cX false 2 [.op,.op],.op,.cX false 2 [.op,.op]])) .aJ) (.q .o8 (.q .o9 (.q .o9 (.q (.q .o3 (.k (.loop [(61,.I)] (.q .o1 (.q (.c .l .l) (.q (.k (.q .o4 (.q .o7 (.q .o9 (.cU (.gN true [18,21] [] (.tk [0,1,2,3,4,5,6,9,10,11,12,13] (.all [(7,.all [(8,.all [(14,.all [(15,.take 16 (.take 17 (.all [(18,.take 19 (.take 20 (.all [(21,.done)])))])))])]),(14,.all [(8,.all [(15,.take 16 (.take 17 (.all [(18,.take 19 (.take 20 (.all [(21,.done)])))])))])])]),(14,.all [(7,.all [(8,.all [(15,.take 16 (.take 17 (.all [(18,.take 19 (.take 20 (.all [(21,.done)])))])))])])])])))))))) .o2)))))) (.q .o3 .l))))))))
def Kz.v (a:Sl)(b:R2)(c:Int)(d:Hp)(e:Option Addr->Int->Hp->Prop):Prop:=Z0.c a d λf g=>If (!f) (e none 2 g) (X5.c b g λh i=>bX (λj k=>bX (λl m=>bX (λn o=>If n (e none 1 o) (Wo.c a o λp q=>QN.c q λr s=>Nw (.map #[] 0) s λt u=>aV #[.slice p.a p.len p.cap,.pointer b,.pointer none,.pointer none,.pointer r,.slice none 0 0,.slice none 0 0,.map (some t.block)] 199 u λv w=>Kx.c h w λx y z=>bW (some v) λaa=>aR aa 2 (.pointer x) z λab=>Vk.c h ab λac ad ae=>bW (some v) λaf=>aR af 3 (.pointer ac) ae λag=>Yf [bO] (λah=>ah 0 ag) λai (aj:Int) ak=>If (aj<((a.len:Nat):Int)) (Ix a.a a.len aj 3 λal=>aQ al 0 ak λam=>aQ al 1 ak λan=>aQ al 2 ak λao=>aV #[.I 0,.I 0,.I 0] 149 ak λap aq=>aR ap 0 (.I am) aq λar=>aR ap 1 (.I an) ar λau=>aR ap 2 (.I ao) au λav=>aQ ap 0 av λaw=>aQ ap 1 av λax=>aQ ap 2 av λay=>QK.c aw ax ay av λaz a0 a1=>aQ ap 2 a1 λa2=>Qp.c a2 c a1 λa3 a4 a5=>Jn [] (λa6=>bM (aj+1) λa7=>ai a7 a6) λa8=>dY a5 λa9=>bW (some v) λba=>aT a9 ba 5 λbb=>bW (some v) λbc=>aT a9 bc 6 λbd=>(aV #[.pointer az] 202 a5 λbe bf=>And (a9 bf) <| (App bb 1 8 202 [.pointer none] ⟨some be,1,1⟩ bf λbg bh=>And (a9 bh) <| aV #[.pointer a3] 204 bh λbi bj=>And (a9 bj) <| App bd 1 8 204 [.pointer none] ⟨some bi,1,1⟩ bj λbk bl=>And (a9 bl) <|
 bW (some v) λbm=>aR bm 5 (.slice bg.a bg.len bg.cap) bl λbn=>bW (some v) λbo=>aR bo 6 (.slice bk.a bk.len bk.cap) bn λbp=>a8 bp) ∧ (aV #[.pointer a3] 204 bf λbq br=>And (a9 br) <| App bb 1 8 202 [.pointer none] ⟨some be,1,1⟩ br λbs bt=>And (a9 bt) <| App bd 1 8 204 [.pointer none] ⟨some bq,1,1⟩ bt λbu bv=>And (a9 bv) <| bW (some v) λbw=>aR bw 5 (.slice bs.a bs.len bs.cap) bv λbx=>bW (some v) λbz=>aR bz 6 (.slice bu.a bu.len bu.cap) bx λb0=>a8 b0)) ∧ (aV #[.pointer a3] 204 a5 λb1 b2=>And (a9 b2) <| aV #[.pointer az] 202 b2 λb3 b4=>And (a9 b4) <| App bb 1 8 202 [.pointer none] ⟨some b3,1,1⟩ b4 λb5 b6=>And (a9 b6) <| App bd 1 8 204 [.pointer none] ⟨some b1,1,1⟩ b6 λb7 b8=>And (a9 b8) <| bW (some v) λb9=>aR b9 5 (.slice b5.a b5.len b5.cap) b8 λca=>bW (some v) λcb=>aR cb 6 (.slice b7.a b7.len b7.cap) ca λcc=>a8 cc)) (e (some v) 0 ak))) λcd=>If l (cd true m) (cd (decide (c>8)) m)) λce=>If j (ce true k) (ce (decide (c<0)) k)) λcf=>If (h<32) (cf true i) (Nz 16 <| cf ((h.tmod 16) != 0) i))
theorem Kz.o {a b c d e}(f:Kz.v a b c d e):Kz.c a b c d e:=Wa Tryz.func154 (x:=Kz.h) (R0 f)
def WT.h:Hn:=.q .o2 (.q (.q .o4 (.q .o2 (.c (.q .o3 .l) .l))) (.q (.o 12) .l))
def WT.v (a:R2)(b:Int)(c:Hp)(d:Sl->Int->Hp->Prop):Prop:=Xf.c a b c λe f=>If (e != 0) (d ⟨none,0,0⟩ e f) (bF a 6 f λh=>Ix h.a h.len b 1 λi=>fX i f λj=>WU.c j f λk l m=>d k l m)
theorem WT.o {a b c d}(e:WT.v a b c d):WT.c a b c d:=Wa Tryz.func169 (x:=WT.h) (R0 e)
def WZ.h:Hn:=.q .o2 (.q (.q .o4 (.q .o2 (.c (.q .o3 .l) .l))) (.q (.o 13) .l))
def WZ.v (a:R2)(b c:Int)(d:Hp)(e:Sl->Int->Hp->Prop):Prop:=Xf.c a b d λf g=>If (f != 0) (e ⟨none,0,0⟩ f g) (bF a 5 g λi=>Ix i.a i.len b 1 λj=>fX j g λk=>Xu.c k c g λl m n=>e l m n)
theorem WZ.o {a b c d e}(f:WZ.v a b c d e):WZ.c a b c d e:=Wa Tryz.func171 (x:=WZ.h) (R0 f)
def Yi.h:Hn:=.q .o1 (.q (.q .o4 (.q .o2 .aJ)) (.q (.o 17) (.q (.q .o2 .aJ) (.q .gA .l))))
def Yi.v (a:R2)(b:Int)(c:Hp)(d:aN):Prop:=Xf.c a b c λe f=>If (e != 0) (d e f) (bF a 0 f λh=>Ix h.a h.len b 3 λi=>aQ i 1 f λj=>bM (b+1) λk=>Y1.c a j 1 k f λl m n=>If (m != 0) (d m n) (bF a 5 n λp=>Ix p.a p.len b 1 λq=>fX q n λr=>Y8.c r l n λs t=>d s t))
theorem Yi.o {a b c d}(e:Yi.v a b c d):Yi.c a b c d:=Wa Tryz.func172 (x:=Yi.h) (R0 e)
def Xe.h:Hn:=.q .o2 (.q (.k (.q .o4 (.c .aL (.q (.cU (.seq [.op,.op,.op,.cX false 2 [.op,.op],.op,.cX false 2 [.op,.op],.op,.cX false 2 [.op,.op],.op,.cX false 5 (RI.ops 5),.op])) .aJ)))) (.q .o9 (.q (.q .o2 (.c (.q .o3 .l) .l)) (.q .o7 (.q .o3 .l)))))
def Xe.v (a:R2)(b c:Int)(d:Hp)(e:Int->Int->Hp->Prop):Prop:=Xw.c a d λf g=>If (!f) (e 0 5 g) (bX (λh i=>bX (λj k=>bX (λl m=>bX (λn o=>If n (e 0 1 o) (Y1.c a b c 41 o λp q r=>If (q != 0) (e 0 q r) (bJ a 7 r λt=>kQ .i64 bO t p b r λu=>e p 0 u))) λv=>If l (v true m) (bM (c-1) λw=>v ((bits .and .i64 c w) != 0) m)) λx=>If j (x true k) (x (decide (c>16)) k)) λy=>If h (y true i) (y (decide (c<1)) i)) λz=>If (b<1) (z true g) (z (decide (b>64)) g))
theorem Xe.o {a b c d e}(f:Xe.v a b c d e):Xe.c a b c d e:=Wa Tryz.func174 (x:=Xe.h) (R0 f)
def Xd.h:Hn:=.q .o1 (.q (.q .o3 .aK) (.q (.o 11) (.q (.q .o2 .aK) (.q .o6 (.q .o6 .aM)))))
def Xd.v (a:R2)(b:Int)(c:Hp)(d:aN):Prop:=Xw.c a c λe f=>If (!e) (d 5 f) (bJ a 7 f λh=>Lk .i64 bO h b f λi=>If (!i.isSome) (d 8 f) (bJ a 7 f λk=>mj .i64 bO k b f λl=>aV #[.I b,.I (i.getD 0)] 268 l λm n=>Yz.c a ⟨some m,1,1⟩ n λo=>d 0 o))
theorem Xd.o {a b c d}(e:Xd.v a b c d):Xd.c a b c d:=Wa Tryz.func182 (x:=Xd.h) (R0 e)
def Yz.h:Hn:=.q .o3 (.k (.loop [(8,.I)] (.q .o1 (.q (.c .l .l) (.q (.k (.q .o4 (.q (.cU (.tail 8 (RI.ops 8) [.op])) (.q (.cU (.tail 8 (RI.ops 8) [.op])) (.cU (.tail 8 (RI.ops 8) [.op])))))) .o2)))))
def Yz.v (a:R2)(b:Sl)(c:Hp)(d:aP):Prop:=Yf [bO] (λe=>e 0 c) λf (g:Int) h=>If (g<((b.len:Nat):Int)) (Ix b.a b.len g 2 λi=>aQ i 0 h λj=>aQ i 1 h λk=>aV #[.I 0,.I 0] 268 h λl m=>aR l 0 (.I j) m λn=>aR l 1 (.I k) n λo=>bG a 4 o λq=>aQ l 0 o λr=>aQ l 1 o λs=>X0.c q r s o λt u=>bG a 3 u λw=>aQ l 0 u λx=>aQ l 1 u λy=>XN.c w x y u λz aa=>bG a 2 aa λac=>aQ l 0 aa λad=>aQ l 1 aa λae=>Yy.c ac ad ae aa λaf ag=>bM (g+1) λah=>f ah ag) (d h)
theorem Yz.o {a b c d}(e:Yz.v a b c d):Yz.c a b c d:=Wa Tryz.func184 (x:=Yz.h) (R0 e)
def Xc.h:Hn:=.q .o1 (.q (.q .o4 (.q .o2 .aJ)) (.q (.o 14) (.q (.q .o2 .aJ) (.q .o3 .aM))))
def Xc.v (a:R2)(b:Int)(c:Sl)(d:Hp)(e:aN):Prop:=Xf.c a b d λf g=>If (f != 0) (e f g) (bF a 5 g λi=>Ix i.a i.len b 1 λj=>fX j g λk=>Zb.c k c g λl m n=>If (m != 0) (e m n) (Yz.c a l n λo=>e 0 o))
theorem Xc.o {a b c d e}(f:Xc.v a b c d e):Xc.c a b c d e:=Wa Tryz.func194 (x:=Xc.h) (R0 f)
def Xf.h:Hn:=.q .o1 (.q (.k (.q .o4 (.c .aM (.q (.cU (.seq [.op,.op,.op,.cX false 7 (RI.ops 7),.op])) .aK)))) .aM)
def Xf.v (a:R2)(b:Int)(c:Hp)(d:aN):Prop:=Xw.c a c λe f=>If (!e) (d 5 f) (bX (λg h=>If g (d 1 h) (d 0 h)) λi=>If (b<0) (i true f) (bF a 0 f λk=>i (decide (b≥((k.len:Nat):Int))) f))
theorem Xf.o {a b c d}(e:Xf.v a b c d):Xf.c a b c d:=Wa Tryz.func231 (x:=Xf.h) (R0 e)
def Y1.h:Hn:=.q .o2 (.q (.o 12) (.kO [(10,.I),(11,.I)] (.q .o2 (.c (.q .o1 (.q (.k (.loop [(12,.I)] (.q (.q .o5 (.c .l .l)) (.k .o3)))) (.q (.q .o4 .aJ) (.o 12)))) .l)) (.q (.q .o2 (.c (.q .o3 .l) .l)) (.q .o7 (.q .o8 (.q .o3 .l))))))
def Y1.v (a:R2)(b c d:Int)(e:Hp)(f:Int->Int->Hp->Prop):Prop:=bG a 2 e λh=>XZ.c h b c e λi j k=>Jn [bO,bO] (λ(l:Int) (m:Int) n=>If (m != 0) (f 0 m n) (bG a 3 n λp=>XV.c p l b n λq r=>bG a 4 r λt=>YA.c t l b d r λu v=>f l 0 v)) λw=>If (j==6) (Yf [bO] (λx=>x 16 k) λy (z:Int) aa=>If (z<(if c>b then c else b)) (bM (z*2) λab=>y ab aa) (Zg.c a z aa λac ad=>If (!ac) (f 0 6 ad) (bG a 2 ad λaf=>XZ.c af b c ad λag ah ai=>w ag ah ai))) (w i j k)
theorem Y1.o {a b c d e f}(g:Y1.v a b c d e f):Y1.c a b c d e f:=Wa Tryz.func234 (x:=Y1.h) (R0 g)
def Za.h:Hn:=.q .o3 (.q (.q .o3 (.c (.q .o3 .l) .l)) (.q (.q .o2 (.c (.q .o3 .l) .l)) (.q .o8 (.q (.q .o2 (.c (.q .o3 .l) .l)) (.kO [] (.q .o2 (.c (.q .o5 (.k (.loop [] (.q (.cU (.seq [.it .i64 bO,.op])) (.q (.c .l .l) (.k (.q (.cU (.seq [.it .i64 bO,.op,.op,.op,.op])) (.q .o3 (.q (.cU (.seq [.op,.op,.op,.op,.cX true 5 (RI.ops 5)])) (.c (.q .o5 .l) .l)))))))))) .l)) (.q (.o 15) (.q (.q .o2 (.c (.q .o4 .l) .l)) (.q .o6 .l))))))))
def Za.v (a:R2)(b:Int)(c:Hp)(d:Int->Int->Int->Hp->Prop):Prop:=Xw.c a c λe f=>If (!e) (d 0 0 5 f) (If (b<0) (d 0 0 8 f) (bG a 4 f λh=>Nz 256<|bM (b.tdiv 256) λi=>Zq.c h i f λj k=>If (j==0) (d 0 0 8 k) (Jn [] (λl=>bF a 5 l λn=>bM (j-1) λo=>Ix n.a n.len o 1 λp=>fX p l λq=>YO.c q b l λr s t=>If (s != 0) (d 0 0 s t) (bM (j-1) λu=>d u r 0 t)) λv=>If (j==41) (bJ a 7 k λx=>oU .i64 bO x k λy z=>Yf [] (λaa=>aa z) λab ac=>pC .i64 bO y ac (v ac) (λad ae af=>oP .i64 bO y af λag ah=>Nz 256<|bM (b.tdiv 256) λai=>bX (λaj ak=>If aj (bM (ag*256) λal=>d (-1) al 0 ak) (ab ak)) λam=>If (ag<=ai) (bM (ag+ah) λan=>am (decide (ai<an)) af) (am false af))) (v k))))
theorem Za.o {a b c d}(e:Za.v a b c d):Za.c a b c d:=Wa Tryz.func238 (x:=Za.h) (R0 e)
def W6.h:Hn:=.q .o2 (.q (.q .o4 (.q .o2 (.c (.q .o3 .l) .l))) (.q (.q (.o 11) .aJ) (.q (.q .o3 (.k (.loop [(32,.I)] (.q .o1 (.q (.c .l .l) (.q (.k (.q .o3 (.q (.o 14) (.q (.cU (.seq [.op,.op,.op,.cX false 2 [.op,.op]])) .aJ)))) .o2)))))) (.q (.o 13) .l))))
def W6.v (a:R2)(b:Int)(c:Sl)(d:Hp)(e:Bool->Int->Hp->Prop):Prop:=Xf.c a b d λf g=>If (f != 0) (e false f g) (bF a 0 g λi=>Ix i.a i.len b 3 λj=>aQ j 2 g λk=>If (((c.len:Nat):Int) != k) (e false 1 g) (Yf [bO] (λl=>l 0 g) λm (n:Int) o=>If (n<((c.len:Nat):Int)) (Ix c.a c.len n 1 λp=>bN p o λq=>bF a 5 o λs=>Ix s.a s.len b 1 λt=>fX t o λu=>Xp.c u q o λv w x=>bX (λy z=>If y (e false 8 z) (bM (n+1) λaa=>m aa z)) λab=>If (w != 0) (ab true x) (ab (!v) x)) (bF a 6 o λad=>Ix ad.a ad.len b 1 λae=>fX ae o λaf=>Xs.c af c o λag ah ai=>e ag ah ai)))
theorem W6.o {a b c d e}(f:W6.v a b c d e):W6.c a b c d e:=Wa Tryz.func242 (x:=W6.h) (R0 f)
def Y5.h:Hn:=.q .o1 (.q (.cU (.seq [.op,.op,.op,.cX true 7 (RI.ops 7),.op])) .l)
def Y5.v (a:R2)(b:Int)(c:Hp)(d:aO):Prop:=Xw.c a c λe f=>bX (λg h=>d g h) λi=>If e (bG a 3 f λk=>Yc.c k b f λl m=>i (decide (l>0)) m) (i false f)
theorem Y5.o {a b c d}(e:Y5.v a b c d):Y5.c a b c d:=Wa Tryz.func284 (x:=Y5.h) (R0 e)
def Zg.h:Hn:=.q .o1 (.q (.q .o2 (.k (.loop [(5,.I)] (.q (.q .o9 (.c .l .l)) (.q (.k (.q (.q .o8 (.c .l .l)) (.q (.q .o3 (.k (.loop [(6,.I)] (.q (.q .o6 (.c .l .l)) (.q (.k .o6) .o3))))) (.q .o7 .aM)))) .o4))))) .aM)
def Zg.v (a:R2)(b:Int)(c:Hp)(d:aO):Prop:=Yf [bO] (λe=>e b c) λf (g:Int) h=>bM (g+b) λi=>bG a 1 h λk=>X5.c k h λl m=>If (i<=l) (bG a 1 m λo=>ZA.c o g b m λp q=>If (p != 0) (bM (g+b) λr=>f r q) (Nz 16<|bM (g.tdiv 16) λs=>Yf [bO] (λt=>t s q) λu (v:Int) w=>bM (g+b) λx=>Nz 16<|bM (x.tdiv 16) λy=>If (v<y) (bG a 3 w λaa=>Yw.c aa v w λab ac=>bM (v+1) λad=>u ad ac) (bG a 2 w λaf=>Yy.c af g b w λag ah=>d true ah))) (d false m)
theorem Zg.o {a b c d}(e:Zg.v a b c d):Zg.c a b c d:=Wa Tryz.func287 (x:=Zg.h) (R0 e)
end Go.Proofs
namespace Go.Ar
open Go Go.Vc Go.Proofs
open Go.Bu (ZH Ki ZD)
inductive Lb where
 | hd|dF|free|od|own|dS|cS|runs
 | cG (k:Nat)
 | cR (k:Nat)
 deriving DecidableEq
structure Lay where
 p:Nat
 hs:Nat
 fr:Nat
 tr:Nat
 op:Nat
 rn:Nat
 dF:Sl
 dS:Sl
 cS:Sl
 fM:List Nat
 gC:List Nat
def k8 (Y:Lay):List Value:=[.slice Y.dF.a Y.dF.len Y.dF.cap,.pointer (some ⟨Y.hs,0,none⟩),.pointer (some ⟨Y.fr,0,none⟩),.pointer (some ⟨Y.tr,0,none⟩),.pointer (some ⟨Y.op,0,none⟩),.slice Y.dS.a Y.dS.len Y.dS.cap,.slice Y.cS.a Y.cS.len Y.cS.cap,.map (some Y.rn)]
def gH (tb:List cA):List Value:=tb.flatMap λc=>[.int .i64 (c.size:Int),.int .i64 (c.aG:Int),.int .i64 (c.batch:Int)]
def fO (l:List Nat):List Value:=l.map λb=>.pointer (some ⟨b,0,none⟩)
def iQ (l:List (Nat×Nat)):List (Int×Int):=l.map λr=>((r.1:Int),(r.2:Int))
def ug (p n:Nat)(S:Nat->Bool):Hp->Rg->Prop:=λU F=>∃sb ms,Go.Bu.BH U p n S sb ms/\∀b,Go.Bu.fp p sb ms b->F b
def mT (p:Nat)(st:List Nat):Hp->Rg->Prop:=λU F=>∃q,il U p q st/\F p/\F q
def j6 (p:Option Nat)(c:Option cA)(ss:Option (List cH)):Hp->Rg->Prop:=λU F=>match p,c,ss with
 | some p,some c,some ss=>∃ps,fI U F p c ps ss
 | _,_,_=>True
def lF (p:Option Nat)(c:Option cA)(room:Nat)(t:Option gR):Hp->Rg->Prop:=λU F=>match p,c,t with
 | some p,some c,some t=>iU U F p c.batch room t
 | _,_,_=>True
def AC (A:AR)(Y:Lay)(T:Nat->Hp->Rg->Prop):Lb->Hp->Rg->Prop
 | .hd=>iy Y.p (k8 Y)
 | .dF=>cV Y.dF 3 (gH A.tb)
 | .free=>ug Y.fr A.n A.S
 | .od=>mT Y.tr A.st
 | .own=>λU F=>jl U F Y.op A.ow
 | .dS=>bT Y.dS 1 (fO Y.fM)
 | .cS=>bT Y.cS 1 (fO Y.gC)
 | .runs=>jM Y.rn .i64 bO (iQ A.runs)
 | .cG k=>j6 Y.fM[k]? A.tb[k]? A.cG[k]?
 | .cR k=>T k
def cM (A:AR)(Y:Lay)(k:Nat):Hp->Rg->Prop:=lF Y.gC[k]? A.tb[k]? A.room A.cR[k]?
theorem ug.loc (p n:Nat)(S:Nat->Bool):dN (ug p n S):=by
 rintro U σ' F G ⟨d,i,h,s⟩ u r;have j:∀b,Go.Bu.fp p d i b->b<U.size:=λb a=>by
  unfold Go.Bu.fp at a;rcases zW.1 a with h1|h1
  ·obtain⟨c,m⟩:=h.hd;rw[h1];exact m.lt
  rcases zW.1 h1 with h2|h2
  ·obtain⟨c,m⟩:=h.row;rw[h2];exact m.lt
  ·obtain⟨k,w⟩:=zP h2;obtain⟨B,y,_⟩:=h.maps k b w;exact y.lt
 have e:Ext (λb=>¬Go.Bu.fp p d i b) U σ':=⟨u,λb a g=>(r b a (s b (Classical.not_not.1 g))).2⟩;exact⟨d,i,h.bS e λb a x=>x a,λb a=>(r b (j b a) (s b a)).1⟩
theorem mT.loc (p:Nat)(st:List Nat):dN (mT p st):=by
 rintro U σ' F G ⟨q,h,j,i⟩ r a;have e:Ext (λb=>b≠p/\b≠q) U σ':=⟨r,λb m s=>by
  by_cases h1:b=p
  ·subst h1;exact(a b m j).2
  ·have g:b=q:=Classical.byContradiction λg=>s ⟨h1,g⟩;subst g;exact(a b m i).2⟩
 exact⟨q,h.bS e (λd=>d.1 rfl) (λd=>d.2 rfl),(a p h.lt.1 j).1,(a q h.lt.2 i).1⟩
theorem j6.loc (p:Option Nat)(c:Option cA)(ss:Option (List cH)):dN (j6 p c ss):=by
 rintro U g F G h b a;unfold j6 at *;split
 ·simp only at h;obtain⟨d,h⟩:=h;exact⟨d,fI.loc _ _ _ _ h b a⟩
 ·trivial
theorem lF.loc (p:Option Nat)(c:Option cA)(room:Nat)(t:Option gR):dN (lF p c room t):=by
 rintro U d F G h b a;unfold lF at *;split
 ·exact iU.loc _ _ _ _ h b a
 ·trivial
theorem AC.loc {A:AR}{Y:Lay}{T:Nat->Hp->Rg->Prop}(hT:∀k,dN (T k)):∀i,dN (AC A Y T i)
 | .hd=>iy.loc _ _
 | .dF=>cV.loc _ _ _
 | .free=>ug.loc _ _ _
 | .od=>mT.loc _ _
 | .own=>jl.loc
 | .dS=>bT.loc _ _ _
 | .cS=>bT.loc _ _ _
 | .runs=>jM.loc _ _ _ _
 | .cG k=>j6.loc _ _ _
 | .cR k=>hT k
theorem cM.loc {A:AR}{Y:Lay}(k:Nat):dN (cM A Y k):=lF.loc _ _ _ _
structure fB (A:AR) (Y:Lay):Prop where
 c:Y.fM.length=A.tb.length
 t:Y.gC.length=A.tb.length
 cG:A.cG.length=A.tb.length
 cR:A.cR.length=A.tb.length
 nN:1<=A.tb.length
 sj:A.tb.length<=40
 n1:32<=A.n
 n2:A.n<=1024
 n3:A.n%16=0
 st:A.st.length=A.n
 room:A.room<=8
 ok:∀c∈A.tb,c.ok
structure dJ (U:Hp) (F:Rg) (Y:Lay) (A:AR) (T:Nat->Hp->Rg->Prop):Prop where
 lay:fB A Y
 tl:∀k,dN (T k)
 sep:Sep (AC A Y T) U F
def AH (U:Hp)(F:Rg)(p hs:Nat)(A:AR):Prop:=∃Y:Lay,Y.p=p/\Y.hs=hs/\dJ U F Y A (cM A Y)
variable {U:Hp}{F:Rg}{p hs:Nat}{A:AR}{Y:Lay}{T:Nat->Hp->Rg->Prop}
theorem dJ.loc:dN λU F=>dJ U F Y A T:=λU d F G h b a=>⟨h.lay,h.tl,Sep.loc (AC.loc h.tl) _ _ _ _ h.sep b a⟩
theorem AH.loc:dN λU F=>AH U F p hs A:=λU g F G ⟨Y,a,b,h⟩ d hs=>⟨Y,a,b,dJ.loc _ _ _ _ h d hs⟩
theorem dJ.bP {σ':Hp}(h:dJ U F Y A T)(e:aF U σ'):dJ σ' F Y A T:=dN.bP dJ.loc h e
theorem AH.bP {σ':Hp}(h:AH U F p hs A)(e:aF U σ'):AH σ' F p hs A:=dN.bP AH.loc h e
theorem dJ.hd (h:dJ U F Y A T):bY U Y.p (k8 Y):=by
 obtain⟨G,b,d,a⟩:=h.sep.get .hd;exact a
theorem Ux (tb:List cA):(gH tb).length=tb.length*3:=by
 induction tb with
 | nil=>rfl
 | cons x l ih=>simp only[gH,nY,zK,zS,lf]at *;omega
theorem yZ {tb:List cA}{i:Nat}{c:cA}(h:tb[i]?=some c):(gH tb)[3*i]?=some (.int .i64 (c.size:Int))/\(gH tb)[3*i+1]?=some (.int .i64 (c.aG:Int))/\(gH tb)[3*i+2]?=some (.int .i64 (c.batch:Int)):=by
 induction tb generalizing i with
 | nil=>simp at h
 | cons x l ih=>
  have e:gH (x::l)=[.int .i64 (x.size:Int),.int .i64 (x.aG:Int),.int .i64 (x.batch:Int)]++gH l:=by simp[gH]
  rw[e];cases i with
  | zero=>simp at h;subst h;simp
  | succ i=>
   have:=ih (i:=i) (by simpa using h);rw[show 3*(i+1)=3*i+3 by omega];simpa using this
theorem dJ.pt (h:dJ U F Y A T):Y.dF.len=A.tb.length:=by
 obtain⟨G,b,a⟩:=h.sep.get .dF;have:=a.1;rw[Ux]at this;omega
theorem ue {s:Sl}{tb:List cA}(h:cV s 3 (gH tb) U F){k d:Nat}{c:cA}(hc:tb[k]?=some c)(hd:d<3){K:Int->Prop}(hK:K (if d=0 then c.size else if d=1 then c.aG else c.batch:Nat)) :
 Ix s.a s.len (k:Int) 3 λa=>gI .i64 (a.add d) U K:=by
 have i:=yZ hc;have j:(gH tb)[3*k+d]?=some (.int .i64 ((if d=0 then c.size else if d=1 then c.aG else c.batch:Nat):Int)):=by
  match d,hd with
  | 0,_=>exact i.1
  | 1,_=>exact i.2.1
  | 2,_=>exact i.2.2
 have r:=(cY.1 hc).1;obtain⟨b,o,p,g⟩:=h.cell j;have m:=h.1;rw[Ux]at m;rw[p];refine ix O O ?_;rw[add_lit,add_lit];refine oD ?_ hK;rw[show o+(k:Int).toNat*3+d=o+(3*k+d) by omega];exact g
theorem dJ.yo (h:dJ U F Y A T){k d:Nat}{c:cA}(hc:A.tb[k]?=some c)(hd:d<3){K:Int->Prop}(hK:K (if d=0 then c.size else if d=1 then c.aG else c.batch:Nat)) :
 Ix Y.dF.a Y.dF.len (k:Int) 3 λa=>gI .i64 (a.add d) U K:=by
 obtain⟨G,g,b⟩:=h.sep.get .dF;exact ue b hc hd hK
theorem Ds {s:Sl}{l:List Nat}(h:cV s 1 (fO l) U F){k q:Nat}(hq:l[k]?=some q){K:Option Addr->Prop}(hK:K (some ⟨q,0,none⟩)):Ix s.a s.len (k:Int) 1 λa=>fX a U K:=by
 have m:=(cY.1 hq).1;obtain⟨b,o,i,d⟩:=h.cell (j:=k) (v:=.pointer (some ⟨q,0,none⟩)) (by simp[fO,hq]);have g:=h.1;simp[fO]at g;rw[i];refine ix O O ?_;rw[add_lit];exact vX (by rw[show o+(k:Int).toNat*1=o+k by omega];exact d) hK
theorem dJ.ma (h:dJ U F Y A T){k q:Nat}(hq:Y.fM[k]?=some q){K:Option Addr->Prop}(hK:K (some ⟨q,0,none⟩)):Ix Y.dS.a Y.dS.len (k:Int) 1 λa=>fX a U K:=by
 obtain⟨G,d,b⟩:=h.sep.get .dS;exact Ds (bT.fW b) hq hK
theorem dJ.sU (h:dJ U F Y A T){k q:Nat}(hq:Y.gC[k]?=some q){K:Option Addr->Prop}(hK:K (some ⟨q,0,none⟩)):Ix Y.cS.a Y.cS.len (k:Int) 1 λa=>fX a U K:=by
 obtain⟨G,d,b⟩:=h.sep.get .cS;exact Ds (bT.fW b) hq hK
theorem dJ.at_ (h:dJ U F Y A T){k:Nat}(hk:k<A.tb.length):∃c ss q t r,A.tb[k]?=some c/\A.cG[k]?=some ss/\Y.fM[k]?=some q/\A.cR[k]?=some t/\Y.gC[k]?=some r/\c.ok:=by
 have d:=h.lay.c;have g:=h.lay.t;have b:=h.lay.cG;have a:=h.lay.cR;exact⟨A.tb[k],A.cG[k],Y.fM[k],A.cR[k],Y.gC[k],by simp,by simp,by simp,by simp,by simp,h.lay.ok _ (kD hk)⟩
theorem IB {k q:Nat}{c:cA}{ss:List cH}{G:Rg}(h1:Y.fM[k]?=some q)(h2:A.tb[k]?=some c)(h3:A.cG[k]?=some ss)(h:AC A Y T (.cG k) U G):∃ps,fI U G q c ps ss:=by
 simp only[AC]at h;rw[h1,h2,h3]at h;exact h
theorem dJ.cG (h:dJ U F Y A T){k q:Nat}{c:cA}{ss:List cH}(h1:Y.fM[k]?=some q)(h2:A.tb[k]?=some c)(h3:A.cG[k]?=some ss):∃G ps,(∀b,G b->F b)/\fI U G q c ps ss:=by
 obtain⟨G,a,d⟩:=h.sep.get (.cG k);obtain⟨ps,g⟩:=IB h1 h2 h3 d;exact⟨G,ps,a,g⟩
theorem HM (h:dJ U F Y A T){R:aO}(hR:R true U):Xw.c (aW Y.p) U R:=by
 refine Xw.o ?_;unfold Xw.v;exact bX.intro (cE rfl (bL (h.hd.rP rfl hR)))
theorem UT (h:dJ U F Y A T)(k:Int){R:aN}(h1:A.ck k=false->R 1 U)(h0:∀x:Nat,k=x->x<A.tb.length->R 0 U):Xf.c (aW Y.p) k U R:=by
 refine Xf.o ?_;unfold Xf.v;have i:=h.pt;have a:¬(0<=k/\k<A.tb.length)->R 1 U:=λd=>h1 (by unfold AR.ck;rw[←vW];exact zL d);refine HM h (cD rfl (bX.intro (cP (λg=>cE rfl (a O)) λg=>bL (h.hd.rS rfl (cP (λb=>?_) λb=>?_)))))
 ·simp only at b;exact a O
 ·simp only at b;exact h0 k.toNat O O
theorem TT (h:dJ U F Y A T)(x:Int){R:aO}(hR:R (pU A x) U):Y5.c (aW Y.p) x U R:=by
 refine Y5.o ?_;unfold Y5.v;obtain⟨G,b,q,a,_⟩:=h.sep.get .od;refine HM h (bX.intro (cE rfl (bL (h.hd.rP rfl (Ι a x ?_)))));have:decide (yI A.st x>0)=pU A x:=by
  unfold yI pU;by_cases hx:0<=x
  ·by_cases hl:x<A.st.length
   ·rw[zC ⟨hx,hl⟩,zI hx,qT,decide_eq_decide];omega
   ·rw[zB O,zI hx,qT,zQ,zX O];rfl
  ·rw[zB O,zL hx];rfl
 rw[this];exact hR
structure iO (A:AR):Prop where
 uB:∀r∈A.runs,∀s∈A.runs,∀x,r.1<=x->x<r.1+r.2->s.1<=x->x<s.1+s.2->r=s
 y5:∀x,x<1024->A.ow x=41->(sL A x).isSome=true
 cls:∀x,x<1024->A.ow x≠0->A.ow x≠41->A.ow x<=A.tb.length
 fit:∀r∈A.runs,r.1+r.2<=1024
theorem Dg (h:iO A){x:Nat}{r:Nat×Nat}(hr:r∈A.runs)(h1:r.1<=x)(h2:x<r.1+r.2):sL A x=some r:=by
 cases hf:sL A x with
 | none=>
  unfold sL at hf;rw[oJ]at hf;have:=hf r hr;simp[h1,h2]at this
 | some s=>
  unfold sL at hf;have b:=uu hf;have a:=uR hf;simp at a;rw[h.uB r hr s b x h1 h2 a.1 a.2]
theorem TK (h:dJ U F Y A T)(hr:iO A)(x:Int)(hx:iN x){R:Int->Int->Int->Hp->Prop}(h1:∀σ' k a,aF U σ'->Hy A x=some (k,a)->R k (a:Int) 0 σ')(h0:∀σ',aF U σ'->Hy A x=none->R 0 0 8 σ') :
 Za.c (aW Y.p) x U R:=by
 refine Za.o ?_;unfold Za.v;refine HM h (cD rfl (cP (λc1=>h0 U (Ext.refl _ _) (by unfold Hy;rw[zC c1])) λc1=>bL (h.hd.rP rfl (nz aB ?_))));obtain⟨y,rfl⟩:=zc (show 0<=x by omega);have hy:y<=9223372036854775807:=by unfold iN at hx;omega
 have W:((y:Int).tdiv 256)=((y/256:Nat):Int):=by rw[Ye O];simp
 refine ar (by rw[W];omega) (by rw[W];omega) ?_;rw[W];obtain⟨G,hG,hP⟩:=h.sep.get .own;refine Rt hP _ ?_;have eo:qY A.ow ((y/256:Nat):Int)=if y/256<1024 then A.ow (y/256)else 0:=by
  unfold qY;by_cases hl:y/256<1024
  ·rw[zC O,zC hl];rfl
  ·rw[zB O,zB hl]
 have g:Hy A (y:Int)=(let no:=if y/256<1024 then A.ow (y/256)else 0
  if no=0 then none else if no=41 then(sL A (y/256)).map λr=>(-1,r.1*256)else
  match A.tb[no-1]?,A.cG[no-1]? with
  | some c,some ss=>(rK c ss (y:Int)).map λa=>(((no-1:Nat):Int),a)
  | _,_=>none):=by
  unfold Hy;rw[zB c1];rfl
 rw[eo];generalize hno:(if y/256<1024 then A.ow (y/256)else 0)=no at *
 simp only at g;rw[yp];refine cO (λe0=>h0 U (Ext.refl _ _) (by rw[g,zC (by simpa using e0)])) λe0=>?_;have C:no≠0:=by simpa using e0
 rw[zB C]at g;have E:y/256<1024:=by
  rcases kv (y/256) 1024 with h|h
  ·exact h
  ·rw[zB O]at hno;exact absurd hno.symm C
 rw[zC E]at hno;refine Jn.intro ?_;have X:(((no:Nat):Int)==41)=(no==41):=lX no 41;rw[X];refine cO (λc2=>?_) λc2=>?_
 ·have w:no=41:=by simpa using c2
  subst w;rw[zC rfl]at g;obtain⟨r,K⟩:=pc.1 (hr.y5 _ E hno);have j:=uu K;have D:=uR K;simp at D;obtain⟨G,hG,L⟩:=h.sep.get .runs;refine bL (h.hd.rM rfl ?_);refine C6 L.2 (λd v=>aF U v/\(∀z∈d,z∈iQ A.runs)/\((r.1:Int),(r.2:Int))∈d) (λv hz e=>⟨e,λz hz=>hz,zE.2 ⟨r,j,rfl⟩⟩) (λv hv=>absurd hv.2.2 aA) ?_;rintro d n z v v' J ⟨e,b,B⟩ hm ho hlt2 hJ;have Q:aF U v':=Ext.fresh e ho.ext λi hi=>by omega
  obtain⟨s,P,V⟩:=zE.1 (b _ hm);cases V;have hfit:=hr.fit s P;refine nz aB (ar O O ?_);refine bX.intro (cP (λc3=>ar O O (cP (λc4=>?_) λc4=>?_)) λc3=>cD rfl ?_)
  ·have hsr:=Dg hr P (x:=y/256) O O;refine ar O O ?_;have:=h1 v' (-1) (s.1*256) Q (by rw[g,hsr];rfl);simpa using this
  ·refine hJ v' rfl rfl ⟨Q,λu S=>b u (zJ.1 S).1,zJ.2 ⟨B,?_⟩⟩;have:¬(r.1:Int)=(s.1:Int):=λe=>by
    have:=Dg hr j D.1 D.2;have e1:r.1=s.1:=by omega
    by_cases h2:r.2=0
    ·omega
    by_cases h3:s.2=0
    ·have:=L.2.nodup;have M:=Qe this (zE.2 ⟨r,j,rfl⟩);have N:=Qe this (zE.2 ⟨s,P,rfl⟩);rw[e1,N]at M;have:s.2=r.2:=by
      have:(s.2:Int)=(r.2:Int):=Option.some.inj M;omega
     omega
    ·have:=hr.uB r j s P r.1 O O O O;subst this;omega
   simpa using this
  ·refine hJ v' rfl rfl ⟨Q,λu S=>b u (zJ.1 S).1,zJ.2 ⟨B,?_⟩⟩;have:¬(r.1:Int)=(s.1:Int):=λe=>by omega
   simpa using this
 ·have w:no≠41:=by simpa using c2
  rw[zB w]at g;have Z:=hr.cls _ E (by rw[hno];exact C) (by rw[hno];exact w);rw[hno]at Z;obtain⟨c,ss,q,t,r,hc,H,hq,_,_,hok⟩:=h.at_ (k:=no-1) O;obtain⟨G,ps,hG,hC⟩:=h.cG hq hc H;rw[hc,H]at g;simp only at g;refine bL (h.hd.rS rfl (cT (m:=no-1) O (by have:=h.lay.sj;omega) (h.ma hq (Tw hC _ hx (λa ha=>?_) λha=>?_))))
  ·refine cD rfl (cT (m:=no-1) O (by have:=h.lay.sj;omega) (h1 U _ a (Ext.refl _ _) ?_));rw[g,ha];rfl
  ·refine cE rfl (h0 U (Ext.refl _ _) ?_);rw[g,ha];rfl
end Go.Ar
namespace Go.Ar
open Go Go.Vc Go.Proofs
open Go.Bu (ZH Ki ZD)
open Classical in
theorem _root_.Go.Vc.Sep.j5 {L:Type}{C:L->Hp->Rg->Prop}{U:Hp}{F:Rg}(hC:∀i,dN (C i))(h:Sep C U F)(i:L):∃G:Rg,(∀b,G b->F b)/\C i U G/\(∀j,j≠i->∃H:Rg,(∀b,H b->F b)/\(∀b,H b->¬G b)/\C j U H)/\∀(σ':Hp) (C':L->Hp->Rg->Prop) (G':Rg),
 (∀j,j≠i->C' j=C j)->Ext G U σ'->(∀b,G' b->G b\/U.size<=b)->C' i σ' G'->dN (C' i)->Sep C' σ' λb=>F b/\b<U.size/\¬G b\/G' b:=by
 obtain⟨ρ,h⟩:=h;refine⟨_,λb a=>a.1,h i,λj r=>⟨_,λb a=>a.1,λb m w=>r (m.2.symm.trans w.2),h j⟩,λσ' C' G' r e x hi u=>⟨λb=>if G' b then i else ρ b,λj=>?_⟩⟩
 by_cases hji:j=i
 ·subst hji;exact u.mono hi λb _ a=>⟨.inr a,zC a⟩
 ·rw[r j hji];refine hC j _ _ _ _ (h j) e.1 λb a s=>?_;have d:¬(F b/\ρ b=i):=λp=>hji (s.2.symm.trans p.2);have g:¬G' b:=λp=>by
   rcases x b p with m|m
   ·exact d m
   ·omega
  exact⟨⟨.inl ⟨s.1,a,d⟩,(zB g).trans s.2⟩,e.2 b a d⟩
variable {U:Hp}{F:Rg}{p hs:Nat}{A:AR}{Y:Lay}{T:Nat->Hp->Rg->Prop}
theorem dJ.step (h:dJ U F Y A T)(i:Lb):∃G:Rg,(∀b,G b->F b)/\AC A Y T i U G/\(∀j,j≠i->∃H:Rg,(∀b,H b->F b)/\(∀b,H b->¬G b)/\AC A Y T j U H)/\∀(σ':Hp) (A':AR) (Y':Lay) (T':Nat->Hp->Rg->Prop) (G' H:Rg),
 fB A' Y'->(∀k,dN (T' k))->(∀j,j≠i->AC A' Y' T' j=AC A Y T j)->Ext G U σ'->(∀b,G' b->G b\/U.size<=b)->AC A' Y' T' i σ' G'->(∀b,(F b/\b<U.size/\¬G b\/G' b)->H b)->dJ σ' H Y' A' T':=by
 obtain⟨G,p,hi,hd,a⟩:=h.sep.j5 (AC.loc h.tl) i;refine⟨G,p,hi,hd,λσ' A' Y' T' G' H m d r e s g u=>⟨m,d,?_⟩⟩;exact(Sep.loc (AC.loc d)).mono (a σ' _ G' r e s g (AC.loc d i)) λb _ w=>u b w
theorem GC {U:Hp}{F G G':Rg}(hG:∀b,G b->F b)(hg:∀b,G' b->G b\/U.size<=b):∀b,(F b/\b<U.size/\¬G b\/G' b)->Grow F U b:=λb a=>by
 rcases a with a|a
 ·exact .inl a.1
 ·exact(hg b a).imp (hG b) id
theorem A3 {U:Hp}{F G G':Rg}(hG:∀b,G b->F b)(hg:∀b,G' b->G b):∀b,(F b/\b<U.size/\¬G b\/G' b)->F b:=λb a=>by
 rcases a with a|a
 ·exact a.1
 ·exact hG b (hg b a)
theorem EA {U:Hp}{F G:Rg}(hG:∀b,G b->F b):∀b,(F b/\b<U.size/\¬G b\/Cut G U b)->Cut F U b:=λb a=>by
 rcases a with a|a
 ·exact⟨a.1,a.2.1⟩
 ·exact⟨hG b a.1,a.2⟩
theorem EN {ow:Nat->Nat}:∀j,j≠Lb.own->AC {A with ow:=ow} Y T j=AC A Y T j:=by
 intro j hj;cases j<;>first|rfl|exact absurd rfl hj
theorem Ρ {st:List Nat}:∀j,j≠Lb.od->AC {A with st:=st} Y T j=AC A Y T j:=by
 intro j hj;cases j<;>first|rfl|exact absurd rfl hj
theorem Du {S:Nat->Bool}:∀j,j≠Lb.free->AC {A with S:=S} Y T j=AC A Y T j:=by
 intro j hj;cases j<;>first|rfl|exact absurd rfl hj
theorem NN {rs:List (Nat×Nat)}:∀j,j≠Lb.runs->AC {A with runs:=rs} Y T j=AC A Y T j:=by
 intro j hj;cases j<;>first|rfl|exact absurd rfl hj
theorem S7 {k:Nat}{ss:List cH}:∀j,j≠Lb.cG k->AC {A with cG:=A.cG.set k ss} Y T j=AC A Y T j:=by
 intro j hj;cases j<;>first|rfl|skip
 rename_i k';have a:k≠k':=λe=>hj (by rw[e]);simp only[AC];rw[zh a]
theorem fB.ow {ow:Nat->Nat}(h:fB A Y):fB {A with ow:=ow} Y:=⟨h.c,h.t,h.cG,h.cR,h.nN,h.sj,h.n1,h.n2,h.n3,h.st,h.room,h.ok⟩
theorem fB.BF {S:Nat->Bool}(h:fB A Y):fB {A with S:=S} Y:=⟨h.c,h.t,h.cG,h.cR,h.nN,h.sj,h.n1,h.n2,h.n3,h.st,h.room,h.ok⟩
theorem fB.q9 {rs:List (Nat×Nat)}(h:fB A Y):fB {A with runs:=rs} Y:=⟨h.c,h.t,h.cG,h.cR,h.nN,h.sj,h.n1,h.n2,h.n3,h.st,h.room,h.ok⟩
theorem fB.xV {st:List Nat}(h:fB A Y)(hl:st.length=A.st.length):fB {A with st:=st} Y:=⟨h.c,h.t,h.cG,h.cR,h.nN,h.sj,h.n1,h.n2,h.n3,hl.trans h.st,h.room,h.ok⟩
theorem fB.lu {k:Nat}{ss:List cH}(h:fB A Y):fB {A with cG:=A.cG.set k ss} Y:=⟨h.c,h.t,by simpa using h.cG,h.cR,h.nN,h.sj,h.n1,h.n2,h.n3,h.st,h.room,h.ok⟩
theorem EM (st:List Nat)(a m:Int)(v:Nat)(fr:List Nat):(UQ st a m v fr).length=st.length:=by
 unfold UQ;split<;>simp[Vo]
theorem Sv (st:List Nat)(k:Int):(jb st k).length=st.length:=by
 unfold jb;split<;>simp[Vo]
theorem dJ.Clear (h:dJ U F Y A T)(a m:Nat)(ha:a<=1000000){R:aN}(hR:∀σ' t,Ext F U σ'->dJ σ' (Grow F U) Y {A with ow:=jN A.ow a m 0} T->R t σ'):X0.c (aW Y.op) a m U R:=by
 obtain⟨G,i,hi,_,d⟩:=h.step .own;refine Ng hi a m ha λσ' e j=>hR σ' _ (e.sub i) ?_;exact d σ' _ _ T (Grow G U) _ h.lay.ow h.tl EN e (λb g=>g) j (GC i λb g=>g)
theorem dJ.Set (h:dJ U F Y A T)(a m:Nat)(ha:a<=1000000){no:Nat}(h1:1<=no)(h2:no<=1000){R:aN}(hR:∀σ' t,Ext F U σ'->dJ σ' (Grow F U) Y {A with ow:=jN A.ow a m no} T->R t σ'):YA.c (aW Y.op) a m no U R:=by
 obtain⟨G,i,hi,_,d⟩:=h.step .own;refine T4 hi a m ha h1 h2 λσ' e j=>hR σ' _ (e.sub i) ?_;exact d σ' _ _ T (Grow G U) _ h.lay.ow h.tl EN e (λb g=>g) j (GC i λb g=>g)
theorem dJ.od (h:dJ U F Y A T):∃G:Rg,(∀b,G b->F b)/\∃q,il U Y.tr q A.st/\F q/\∀(σ':Hp) (st:List Nat),st.length=A.st.length->Ext (· = q) U σ'->il σ' Y.tr q st->Ext F U σ'/\dJ σ' F Y {A with st:=st} T:=by
 obtain⟨G,g,⟨q,p,r,i⟩,_,d⟩:=h.step .od;refine⟨G,g,q,p,g _ i,λσ' st m e j=>⟨e.sub λb a=>by subst a;exact g _ i,?_⟩⟩;exact d σ' _ _ T G _ (h.lay.xV m) h.tl Ρ (e.sub λb a=>by subst a;exact i) (λb a=>.inl a) ⟨q,j,r,i⟩ (A3 g λb a=>a)
theorem dJ.xT (h:dJ U F Y A T)(a m:Int){R:aN}(hR:∀σ' t,Ext F U σ'->dJ σ' F Y {A with st:=UQ A.st a m 2 [1]} T->R t σ'):XN.c (aW Y.tr) a m U R:=by
 obtain⟨G,i,q,g,_,b⟩:=h.od;refine MC g a m λσ' e d=>?_;have:=b σ' _ (EM _ _ _ _ _) e d;exact hR σ' _ this.1 this.2
theorem dJ.ξ (h:dJ U F Y A T)(a m:Int){R:aN}(hR:∀σ' t,Ext F U σ'->dJ σ' F Y {A with st:=UQ A.st a m 1 [2,3]} T->R t σ'):XV.c (aW Y.tr) a m U R:=by
 obtain⟨G,i,q,g,_,b⟩:=h.od;refine Woe g a m λσ' e d=>?_;have:=b σ' _ (EM _ _ _ _ _) e d;exact hR σ' _ this.1 this.2
theorem dJ.BJ (h:dJ U F Y A T)(k:Int){R:aN}(hR:∀σ' t,Ext F U σ'->dJ σ' F Y {A with st:=jb A.st k} T->R t σ'):Yw.c (aW Y.tr) k U R:=by
 obtain⟨G,g,q,d,_,a⟩:=h.od;refine PM d k λσ' e b=>?_;have:=a σ' _ (Sv _ _) e b;exact hR σ' _ this.1 this.2
theorem dJ.free (h:dJ U F Y A T):∃sb ms,Go.Bu.BH U Y.fr A.n A.S sb ms/\∀(σ':Hp) (S:Nat->Bool),Ext (· ∈ ms) U σ'->Go.Bu.BH σ' Y.fr A.n S sb ms->Ext F U σ'/\dJ σ' F Y {A with S:=S} T:=by
 obtain⟨G,g,⟨sb,ms,p,j⟩,_,d⟩:=h.step .free;have i:∀b,b∈ms->G b:=λb a=>j b (by unfold Go.Bu.fp;simp[a]);refine⟨sb,ms,p,λσ' S e m=>⟨e.sub λb a=>g b (i b a),?_⟩⟩;exact d σ' _ _ T G _ h.lay.BF h.tl Du (e.sub i) (λb a=>.inl a) ⟨sb,ms,m,j⟩ (A3 g λb a=>a)
theorem dJ.xr (h:dJ U F Y A T)(a m:Int){R:aN}(hR:∀σ' t,Ext F U σ'->dJ σ' F Y {A with S:=Ki A.n A.S a m} T->R t σ'):Yy.c (aW Y.fr) a m U R:=by
 obtain⟨i,j,d,b⟩:=h.free;refine Go.Bu.qZ d a m λσ' e g=>?_;have:=b σ' _ e g;exact hR σ' _ this.1 this.2
theorem dJ.xf (h:dJ U F Y A T)(a m:Int){R:Int->Int->Hp->Prop}(hR:∀σ',Ext F U σ'->dJ σ' F Y {A with S:=Go.Bu.ji A.n A.S a m} T->R ((Go.Bu.jj A.n A.S a m:Nat):Int) (Go.Bu.iW A.n A.S a m) σ'):XZ.c (aW Y.fr) a m U R:=by
 obtain⟨i,j,d,b⟩:=h.free;refine Go.Bu.ld d a m λσ' e g=>?_;have:=b σ' _ e g;exact hR σ' this.1 this.2
def rV (rs:List (Nat×Nat)):List Value:=rs.flatMap λr=>[.int .i64 (r.1:Int),.int .i64 (r.2:Int)]
theorem I7 (rs:List (Nat×Nat)):(rV rs).length=rs.length*2:=by
 induction rs with
 | nil=>rfl
 | cons x l ih=>simp only[rV,nY,zK,zS,lf]at *;omega
theorem RO {l:List (Nat×Nat)}{i:Nat}{r:Nat×Nat}(h:l[i]?=some r):(rV l)[2*i]?=some (.int .i64 (r.1:Int))/\(rV l)[2*i+1]?=some (.int .i64 (r.2:Int)):=by
 induction l generalizing i with
 | nil=>simp at h
 | cons x l ih=>
  have e:rV (x::l)=[.int .i64 (x.1:Int),.int .i64 (x.2:Int)]++rV l:=by simp[rV]
  rw[e];cases i with
  | zero=>simp at h;subst h;simp
  | succ i=>
   have:=ih (i:=i) (by simpa using h);rw[show 2*(i+1)=2*i+2 by omega];simpa using this
theorem T0 (c:cA)(l:List Nat):iP c l=rV (l.map λs=>(s,c.aG)):=by
 simp[iP,rV,List.flatMap_map]
theorem S9 {s:Sl}{rs:List (Nat×Nat)}(h:cV s 2 (rV rs) U F){i:Nat}{r:Nat×Nat}(hr:rs[i]?=some r){K:Int->Int->Prop}(hK:K (r.1:Int) (r.2:Int)) :
 Ix s.a s.len (i:Int) 2 λa=>gI .i64 (a.add 0) U λu=>gI .i64 (a.add 1) U λw=>K u w:=by
 have j:=RO hr;have hi:=(cY.1 hr).1;obtain⟨b,o,m,p⟩:=h.cell j.1;obtain⟨y,o1,d,g⟩:=h.cell j.2;rw[m]at d;cases d;have x:=h.1;rw[I7]at x;rw[m];refine ix O O ?_;rw[add_lit];refine oD ?_ (oD ?_ hK)<;>rw[add_lit]
 ·rw[show o+(i:Int).toNat*2+0=o+2*i by omega];exact p
 ·rw[show o+(i:Int).toNat*2+1=o+(2*i+1) by omega];exact g
theorem dJ.mono {G:Rg}(h:dJ U F Y A T)(hs:∀b,b<U.size->F b->G b):dJ U G Y A T:=dN.mono dJ.loc h hs
theorem dJ.cut (h:dJ U F Y A T):dJ U (Cut F U) Y A T:=dN.cut dJ.loc h
theorem Np (A:AR)(rs:List (Nat×Nat))(r:Nat×Nat):UH A (rs++[r])=Ul (UH A rs) r:=by simp[UH]
theorem Fs (h:dJ U F Y A T){sl:Sl}{rs:List (Nat×Nat)}{X:Rg}(hs:cV sl 2 (rV rs) U X)(hX:∀b,b<U.size->X b->¬F b)(hl:rs.length<=1000000)(hb:∀r∈rs,r.1<=1000000){R:aP}
 (hR:∀σ',Ext F U σ'->dJ σ' (Grow F U) Y (UH A rs) T->R σ'):Yz.c (aW Y.p) sl U R:=by
 refine Yz.o ?_;unfold Yz.v;have P:sl.len=rs.length:=by have:=hs.1;rw[I7]at this;omega
 have J:cV sl 2 (rV rs) U (Cut X U):=aH.cut hs;refine Qz (a:=bO) (λ(t:Int) v=>∃i:Nat,t=(i:Int)/\i<=rs.length/\Ext F U v/\dJ v (Grow F U) Y (UH A (rs.take i)) T) (λt _=>rs.length-t.toNat) ⟨0,rfl,O,Ext.refl _ _,by simpa[UH]using h.mono λb _ hb=>.inl hb⟩ ?_;rintro t v ⟨i,rfl,hi,e,B⟩;refine cP (λhlt=>?_) λaa=>?_
 ·have w:i<rs.length:=by omega
  have y:rs[i]?=some rs[i]:=cW w;have N:=hb _ (kD w);have z:=aH.bS J e λb L y x=>hX b L y.1 x;refine S9 z y ?_;have M:rs.take (i+1)=rs.take i++[rs[i]]:=by rw[kC,y];rfl
  generalize rs[i]=r at *;refine nw (cs:=[.int .i64 0,.int .i64 0]) λv4 ab e4 E=>E.s1 aA λv5 o5 b5=>b5.s1 aA λv6 o6 Q=>?_;have s:aF v v6:=Ext.fresh (Ext.fresh e4 o5.ext λi hi=>O) o6.ext λi hi=>by omega
  have u:=B.cut.bP s;have W:¬Cut (Grow F U) v v.size:=λx=>by have:=x.2;omega
  have g:bY v6 v.size [.int .i64 (r.1:Int),.int .i64 (r.2:Int)]:=Q;have z6:v.size<v6.size:=Q.lt;refine bL (u.hd.rP rfl (g.rI rfl (g.rI rfl (u.Clear r.1 r.2 N λv7 t7 S H=>?_))));have C:=S.bV g W;have d:=H.mono (G:=λb=>Cut (Grow F U) v b\/v.size<b) λb _ hb=>by
   rcases hb with hb|hb
   ·exact .inl hb
   ·exact .inr O
  have K:¬(Cut (Grow F U) v v.size\/v.size<v.size):=λx=>by
   rcases x with h|h
   ·exact W h
   ·omega
  refine bL (d.hd.rP rfl (C.rI rfl (C.rI rfl (d.xT _ _ λv8 t8 Z j=>?_))));have V:=Z.bV C K;refine bL (j.hd.rP rfl (V.rI rfl (V.rI rfl (j.xr _ _ λv9 t9 e9 D=>?_))));have sub:∀b,(Cut (Grow F U) v b\/v.size<b)->Grow F U b:=λb hb=>by
   rcases hb with hb|hb
   ·exact hb.1
   ·exact .inr (by have:=e.1;omega)
  have ee:Ext F U v9:=((((e.trans (aF.to s)).jC (S.sub λb hb=>hb.1))).jC (Z.sub sub)).jC (e9.sub sub);refine cT (m:=i+1) O O ⟨⟨i+1,rfl,O,ee,?_⟩,O⟩;rw[M,Np];exact D.mono λb _ hb=>sub b hb
 ·have:i=rs.length:=by omega
  subst this;rw[lV]at B;exact hR v e B
end Go.Ar
namespace Go.Proofs
open Go.Vc
set_option maxRecDepth 100000
def XX.h:Hn:=.q .o1 (.q (.q .o3 .aK) (.q .o1 (.q (.q .o5 (.k (.loop [(3,.I)] (.q (.cU (.seq [.it .i64 .p,.op])) (.q (.c .l .l) (.k (.q (.cU (.seq [.it .i64 .p,.op,.op,.op,.op])) (.oq 17)))))))) .aL)))
def XX.v (a:R2)(b:Hp)(c:aN):Prop:=Xv.c a b λd e=>If (!d) (c 0 e) (bJ a 2 e λg=>oU .i64 .p g e λh i=>Yf [bO] (λj=>j 0 i) λk (l:Int) m=>pC .i64 .p h m (c l m) (λn o p=>oP .i64 .p h p λq r=>bF a 0 p λt=>Ix t.a t.len q 3 λu=>aQ u 0 p λv=>bF r 0 p λx=>bM (v*((x.len:Nat):Int)) λy=>bM (l+y) λz=>k z p))
theorem XX.o {a b c}(d:XX.v a b c):XX.c a b c:=Wa Tryz.func90 (x:=XX.h) (R0 d)
def Xv.h:Hn:=.q .o1 (.q (.cU (.seq [.op,.op,.op,.cX true 5 (RI.ops 5),.op])) .l)
def Xv.v (a:R2)(b:Hp)(c:aO):Prop:=bX (λd e=>c d e) λf=>If (!a.isNone) (bJ a 2 b λh=>f (!h.isNone) b) (f false b)
theorem Xv.o {a b c}(d:Xv.v a b c):Xv.c a b c:=Wa Tryz.func132 (x:=Xv.h) (R0 d)
def Ky.h:Hn:=.q .o2 (.q (.k (.q .o4 (.c .aL (.q (.cU (.seq [.op,.op,.op,.cX false 2 [.op,.op],.op])) .aJ)))) (.q .o8 .l))
def Ky.v (a:Sl)(b:Int)(c:Hp)(d:Option Addr->Int->Hp->Prop):Prop:=Z0.c a c λe f=>If (!e) (d none 2 f) (bX (λg h=>If g (d none 1 h) (Wo.c a h λi j=>Nw (.map #[] 0) j λk l=>aV #[.slice i.a i.len i.cap,.I b,.map (some k.block)] 188 l λm n=>d (some m) 0 n)) λo=>If (b<0) (o true f) (o (decide (b>65536)) f))
theorem Ky.o {a b c d}(e:Ky.v a b c d):Ky.c a b c d:=Wa Tryz.func155 (x:=Ky.h) (R0 e)
def Ym.h:Hn:=.q .o2 (.q .o8 (.q (.q .o2 (.c (.q .o3 .l) .l)) (.q (.q .o6 (.c (.q (.q .o9 (.q .o6 (.c .o8 (.o 11)))) .aL) .l)) (.q .o7 (.q .o8 (.q .gA (.q .gA (.q .o3 .l))))))))
def Ym.v (a:R2)(b:Int)(c:Hp)(d:Int->Int->Hp->Prop):Prop:=XH.c a b c λe f g=>If (f != 0) (d 0 f g) (bF e 0 g λi=>If (((i.len:Nat):Int)==0) (bF a 0 g λk=>Ix k.a k.len b 3 λl=>aQ l 2 g λm=>bE e 1 g λo=>If (o<m) (bE e 1 g λq=>bM (q+1) λr=>bW e λs=>aR s 1 (.I r) g λt=>d 0 4 t) (bE e 1 g λv=>bM (v+m) λw=>bW e λx=>aR x 1 (.I (if 128<w then 128 else w)) g λy=>d 0 4 y)) (bF e 0 g λaa=>bM (((aa.len:Nat):Int)-1) λab=>bF e 0 g λad=>Ix ad.a ad.len ab 1 λae=>bN ae g λaf=>bF e 0 g λah=>fH ah 1 0 ab (ah.cap:Nat) λai=>bW e λaj=>aR aj 0 (.slice ai.a ai.len ai.cap) g λak=>bE e 2 ak λam=>bW e λan=>aR an 2 (.I (if ab<am then ab else am)) ak λao=>d af 0 ao))
theorem Ym.o {a b c d}(e:Ym.v a b c d):Ym.c a b c d:=Wa Tryz.func166 (x:=Ym.h) (R0 e)
def Yj.h:Hn:=.q .o2 (.q .o8 (.q (.q .o2 (.c (.q .o3 .l) .l)) (.q (.oq 15) .l)))
def Yj.v (a:R2)(b:Int)(c:Hp)(d:Int->Int->Hp->Prop):Prop:=XH.c a b c λe f g=>If (f != 0) (d 0 f g) (bE e 1 g λi=>bF a 0 g λk=>Ix k.a k.len b 3 λl=>aQ l 2 g λm=>d (if m<i then m else i) 0 g)
theorem Yj.o {a b c d}(e:Yj.v a b c d):Yj.c a b c d:=Wa Tryz.func168 (x:=Yj.h) (R0 e)
def Yu.h:Hn:=.q .o1 (.q .o8 (.q (.q .o2 .aJ) (.q .o3 (.q .o2 (.q .o4 .l)))))
def Yu.v (a:R2)(b:Int)(c:Sl)(d:Hp)(e:aN):Prop:=XH.c a b d λf g h=>If (g != 0) (e g h) (W4.c c h λi j=>Xk.c i j λk=>Xj.c f i k λl m=>e l m)
theorem Yu.o {a b c d e}(f:Yu.v a b c d e):Yu.c a b c d e:=Wa Tryz.func173 (x:=Yu.h) (R0 f)
def YY.h:Hn:=.q .o2 (.q .o8 (.q (.q .o2 (.c (.q .o3 .l) .l)) (.q (.q .o5 (.q .o2 (.c (.q .o3 .l) .l))) (.q (.q (.oq 10) .aJ) (.q .o9 (.kO [] (.q .o6 (.c .o8 .l)) (.q (.o 11) .l)))))))
def YY.v (a:R2)(b c:Int)(d:Hp)(e:Sl->Int->Hp->Prop):Prop:=XH.c a b d λf g h=>If (g != 0) (e ⟨none,0,0⟩ g h) (aV #[.I c] 3 h λi j=>Xj.c f ⟨some i,1,1⟩ j λk l=>If (k != 0) (e ⟨none,0,0⟩ k l) (bF f 0 l λn=>bE f 1 l λp=>If (((n.len:Nat):Int)<=p) (e ⟨none,0,0⟩ 0 l) (bF a 0 l λr=>Ix r.a r.len b 3 λs=>aQ s 2 l λt=>Jn [] (λu=>bF f 0 u λw=>Xt.c f (if((w.len:Nat):Int)<t then((w.len:Nat):Int)else t) u λx y=>e x 0 y) λz=>bE f 1 l λab=>If (ab<t) (bE f 1 l λad=>bM (ad+1) λae=>bW f λaf=>aR af 1 (.I ae) l λag=>z ag) (z l))))
theorem YY.o {a b c d e}(f:YY.v a b c d e):YY.c a b c d e:=Wa Tryz.func176 (x:=YY.h) (R0 f)
def Yv.h:Hn:=.q .o1 (.q (.cU (.gN false [] [(2,.one .b)] (.take 0 (.all [(1,.take 2 (.split 5 (.tk [3,5,6,7] (.all [(4,.all [(8,.tk [9,10,11] (.done))]),(8,.all [(4,.tk [9,10,11] (.done))])])) (.tk [3,4,5,6,7,8,9,10,11] (.done))))])))) .l)
def Yv.v (a:R2)(b:Hp)(c:aO):Prop:=Jn [.b] (λ(d:Bool) e=>c d e) λf=>Xv.c a b λg h=>If g (bW a λi=>(XX.c a h λj k=>aQ i 1 k λl=>f (decide (j>l)) k) ∧ (aQ i 1 h λm=>XX.c a h λn o=>f (decide (n>m)) o)) (f false h)
theorem Yv.o {a b c}(d:Yv.v a b c):Yv.c a b c:=Wa Tryz.func177 (x:=Yv.h) (R0 d)
def Xo.h:Hn:=.q .o1 (.q .o3 .l)
def Xo.v (a:R2)(b:Hp)(c:Sl->Hp->Prop):Prop:=XB.c a ⟨241,#[],#[]⟩ b λd e=>c d e
theorem Xo.o {a b c}(d:Xo.v a b c):Xo.c a b c:=Wa Tryz.func178 (x:=Xo.h) (R0 d)
def X2.h:Hn:=.q .o1 (.q .o3 .l)
def X2.v (a:R2)(b:Hp)(c:Sl->Hp->Prop):Prop:=XB.c a ⟨243,#[],#[]⟩ b λd e=>c d e
theorem X2.o {a b c}(d:X2.v a b c):X2.c a b c:=Wa Tryz.func183 (x:=X2.h) (R0 d)
def XH.h:Hn:=.q .o2 (.q (.q .o3 .aJ) (.q .o4 (.q (.q .o2 .aJ) (.q .o3 .l))))
def XH.v (a:R2)(b:Int)(c:Hp)(d:Option Addr->Int->Hp->Prop):Prop:=Xv.c a c λe f=>If (!e) (d none 5 f) (ZO.c a b f λg h=>If g.isNone (d none 1 h) (d g 0 h))
theorem XH.o {a b c d}(e:XH.v a b c d):XH.c a b c d:=Wa Tryz.func229 (x:=XH.h) (R0 e)
def Xj.h:Hn:=.q .o1 (.q (.q .o9 .aK) (.q (.o 11) .aM))
def Xj.v (a:R2)(b:Sl)(c:Hp)(d:aN):Prop:=bF a 0 c λf=>bM (((f.len:Nat):Int)+((b.len:Nat):Int)) λg=>If (g>256) (d 6 c) (bF a 0 c λi=>XA.c i c λj k=>App j 1 8 3 [.I 0] b k λl m=>bW a λn=>aR n 0 (.slice l.a l.len l.cap) m λo=>d 0 o)
theorem Xj.o {a b c d}(e:Xj.v a b c d):Xj.c a b c d:=Wa Tryz.func237 (x:=Xj.h) (R0 e)
def Xt.h:Hn:=.q .o1 (.q .o8 (.q (.o 11) (.q (.cU (.tail 13 (RI.ops 13) [.op])) .aL)))
def Xt.v (a:R2)(b:Int)(c:Hp)(d:Sl->Hp->Prop):Prop:=bF a 0 c λf=>fH f 1 0 b (f.cap:Nat) λg=>W4.c g c λh i=>bF a 0 i λk=>fH k 1 b (k.len:Nat) (k.cap:Nat) λl=>W4.c l i λm n=>bW a λo=>aR o 0 (.slice m.a m.len m.cap) n λp=>bE a 2 p λr=>bF a 0 p λt=>bW a λu=>aR u 2 (.I (if((t.len:Nat):Int)<r then((t.len:Nat):Int)else r)) p λv=>d h v
theorem Xt.o {a b c d}(e:Xt.v a b c d):Xt.c a b c d:=Wa Tryz.func239 (x:=Xt.h) (R0 e)
def XB.h:Hn:=.q .o1 (.q (.q .o3 .aK) (.q .o1 (.q (.q .o5 (.k (.loop [(5,.one .s)] (.q (.cU (.seq [.it .i64 .p,.op])) (.q (.c .l .l) (.k (.q (.cU (.seq [.it .i64 .p,.op,.op,.op,.op])) (.q (.o 12) (.q .o3 (.c .o7 .l)))))))))) (.q .o2 .aL))))
def XB.v (a:R2)(b:Fv)(c:Hp)(d:Sl->Hp->Prop):Prop:=Xv.c a c λe f=>If (!e) (d ⟨none,0,0⟩ f) (bJ a 2 f λh=>oU .i64 .p h f λi j=>Yf [.s] (λk=>k ⟨none,0,0⟩ j) λl (m:Sl) n=>pC .i64 .p i n (Qx.c m ⟨298,#[],#[]⟩ n λo=>d m o) (λp q r=>oP .i64 .p i r λs t=>bF a 0 r λv=>Ix v.a v.len s 3 λw=>aQ w 2 r λx=>VJ Tryz.prog b [.pointer t,.I x] [.one .s] r λy z=>If (((y.len:Nat):Int)>0) (aV #[.I s,.slice y.a y.len y.cap] 147 z λaa ab=>App m 2 32 147 [.I 0,.slice none 0 0] ⟨some aa,1,1⟩ ab λac ad=>l ac ad) (l m z)))
theorem XB.o {a b c d}(e:XB.v a b c d):XB.c a b c d:=Wa Tryz.func240 (x:=XB.h) (R0 e)
def XI.h:Hn:=.q .o1 (.q .o9 (.kO [] (.q .o6 (.c (.o 12) .l)) (.q .o9 .aL)))
def XI.v (a:R2)(b:Int)(c:Hp)(d:Sl->Hp->Prop):Prop:=bE a 2 c λf=>bM (f+1) λg=>Nz 2<|bM (g.tdiv 2) λh=>Xt.c a h c λi j=>Jn [] (λk=>bF a 0 k λm=>bW a λn=>aR n 2 (.I ((m.len:Nat):Int)) k λo=>d i o) λp=>bE a 1 j λr=>If (r>b) (bE a 1 j λt=>bM (t-b) λu=>bW a λv=>aR v 1 (.I (if b>u then b else u)) j λw=>p w) (p j)
theorem XI.o {a b c d}(e:XI.v a b c d):XI.c a b c d:=Wa Tryz.func241 (x:=XI.h) (R0 e)
def YQ.h:Hn:=.q .o1 (.q .o8 .l)
def YQ.v (a:R2)(b:Int)(c:Hp)(d:Sl->Hp->Prop):Prop:=bF a 0 c λf=>Xt.c a ((f.len:Nat):Int) c λg h=>d g h
theorem YQ.o {a b c d}(e:YQ.v a b c d):YQ.c a b c d:=Wa Tryz.func243 (x:=YQ.h) (R0 e)
def ZO.h:Hn:=.q .o1 (.q (.q (.cU (.seq [.op,.op,.op,.op,.cX false 2 [.op,.op],.op,.cX false 7 (RI.ops 7)])) .aK) (.kO [] (.q .o7 (.c .o8 .l)) (.q .o7 .l)))
def ZO.v (a:R2)(b:Int)(c:Hp)(d:Option Addr->Hp->Prop):Prop:=Xv.c a c λe f=>bX (λg h=>bX (λi j=>If i (d none j) (Jn [] (λk=>bJ a 2 k λm=>Lk .i64 .p m b k λn=>d (n.getD none) k) λo=>bW a λp=>bC p 2 j λq=>Lk .i64 .p q b j λr=>If ((r.getD none).isNone) (bJ a 2 j λt=>aV #[.slice none 0 0,.I 1,.I 0] 191 j λu v=>kQ .i64 .p t b (some u) v λw=>o w) (o j))) λx=>If g (x true h) (bF a 0 h λz=>x (decide (b≥((z.len:Nat):Int))) h)) λaa=>If (!e) (aa true f) (aa (decide (b<0)) f)
theorem ZO.o {a b c d}(e:ZO.v a b c d):ZO.c a b c d:=Wa Tryz.func281 (x:=ZO.h) (R0 e)
end Go.Proofs
namespace Go.Ar
open Go Go.Vc Go.Proofs
theorem cV.sub {U:Hp}{F:Rg}{s:Sl}{sz:Nat}{xs:List Value}(h:cV s sz xs U F){lo hi mx:Nat}(h1:lo<=hi)(h2:hi<=s.len)(h3:hi<=mx) :
 cV ⟨if mx=lo then s.a else s.a.map (·.add (lo*sz)),hi-lo,mx-lo⟩ sz ((xs.drop (lo*sz)).take ((hi-lo)*sz)) U F:=by
 have i:=h.1;have e1:hi*sz<=s.len*sz:=mD _ h2;have e2:(hi-lo)*sz=hi*sz-lo*sz:=Nat.sub_mul _ _ _;have g:lo*sz<=hi*sz:=mD _ h1;refine⟨by rw[zY,kB];simp only;omega,?_⟩;by_cases hm:mx=lo
 ·left;have:hi-lo=0:=by omega
  rw[this,vO,wk]
 ·rcases h.2 with h0|⟨b,o,cs,hb,ha,hq,hc⟩
  ·left;subst h0;simp
  ·refine .inr ⟨b,o+lo*sz,cs,hb,?_,hq,λj d=>?_⟩
   ·simp only[zB hm,ha,zg,add_lit]
   ·rw[zY,kB]at d;rw[ym,hc _ O,zm,lB,zC O]
inductive ud where
 | hd|dF|mp
 | li (k:Nat)
 deriving DecidableEq
structure hU where
 p:Nat
 m:Nat
 dF:Sl
 ps:List (Nat×Nat)
def ja (ps:List (Nat×Nat))(k:Nat):Option Nat:=(ps.find? λx=>x.1==k).map (·.2)
def j3 (ps:List (Nat×Nat)):List (Int×Option Addr):=ps.map λx=>((x.1:Int),some ⟨x.2,0,none⟩)
def ni (s:Sl)(l:Li):List Value:=[.slice s.a s.len s.cap,.int .i64 (l.lim:Int),.int .i64 (l.low:Int)]
def jf (b:Nat)(l:Li):Hp->Rg->Prop:=λU F=>F b/\fP l/\∃s:Sl,bY U b (ni s l)/\cV s 1 (Wy l.os) U (λq=>F q/\q≠b)/\s.len<=s.cap
def pa (b:Option Nat)(l:Option Li):Hp->Rg->Prop:=λU F=>match b,l with
 | some b,some l=>jf b l U F
 | none,some l=>l=ir
 | _,none=>True
def DW (Y:hU)(bud:Nat):List Value:=[.slice Y.dF.a Y.dF.len Y.dF.cap,.int .i64 (bud:Int),.map (some Y.m)]
def CC (tb:List cA)(bud:Nat)(ls:List Li)(Y:hU):ud->Hp->Rg->Prop
 | .hd=>iy Y.p (DW Y bud)
 | .dF=>cV Y.dF 3 (gH tb)
 | .mp=>jM Y.m .i64 .p (j3 Y.ps)
 | .li k=>pa (ja Y.ps k) ls[k]?
theorem jf.loc (b:Nat)(l:Li):dN (jf b l):=by
 rintro U y F G ⟨p,u,s,j,m,r⟩ x a;have i:=a b j.lt p;obtain⟨e,w⟩:=j;exact⟨i.1,u,s,⟨e,i.2.trans w⟩,cV.loc _ _ _ _ _ _ _ m x λq g d=>⟨⟨(a q g d.1).1,d.2⟩,(a q g d.1).2⟩,r⟩
theorem pa.loc (b:Option Nat)(l:Option Li):dN (pa b l):=by
 intro U σ' F G h hz hs;unfold pa at *;split at h
 ·exact jf.loc _ _ _ _ _ _ h hz hs
 ·exact h
 ·trivial
theorem CC.loc {tb:List cA}{bud:Nat}{ls:List Li}{Y:hU}:∀i,dN (CC tb bud ls Y i)
 | .hd=>iy.loc _ _
 | .dF=>cV.loc _ _ _
 | .mp=>jM.loc _ _ _ _
 | .li k=>pa.loc _ _
structure eN (U:Hp) (F:Rg) (Y:hU) (tb:List cA) (bud:Nat) (ls:List Li):Prop where
 nN:tb.length<=40
 ok:∀c∈tb,c.ok
 len:ls.length=tb.length
 keys:∀x∈Y.ps,x.1<tb.length
 sep:Sep (CC tb bud ls Y) U F
variable {U:Hp}{F G:Rg}{Y:hU}{tb:List cA}{bud:Nat}{ls:List Li}{b k:Nat}{l:Li}
theorem eN.loc:dN λU F=>eN U F Y tb bud ls:=λU d F G h b a=>⟨h.nN,h.ok,h.len,h.keys,Sep.loc CC.loc _ _ _ _ h.sep b a⟩
theorem eN.bP {σ':Hp}(h:eN U F Y tb bud ls)(e:aF U σ'):eN σ' F Y tb bud ls:=dN.bP eN.loc h e
theorem eN.hd (h:eN U F Y tb bud ls):bY U Y.p (DW Y bud):=by
 obtain⟨G,b,a⟩:=h.sep.get .hd;exact a.2
theorem eN.jS (h:eN U F Y tb bud ls):cV Y.dF 3 (gH tb) U F:=by
 obtain⟨G,d,a⟩:=h.sep.get .dF;exact aH.mono a λb _ a=>d b a
theorem eN.pt (h:eN U F Y tb bud ls):Y.dF.len=tb.length:=by
 have:=h.jS.1;rw[Ux]at this;omega
theorem eN.map (h:eN U F Y tb bud ls):dK U Y.m .i64 .p (j3 Y.ps):=by
 obtain⟨G,b,a⟩:=h.sep.get .mp;exact a.2
theorem Dx (ps:List (Nat×Nat))(k:Nat):bU (α:=Option Addr) (j3 ps) (k:Int)=(ja ps k).map λb=>some ⟨b,0,none⟩:=by
 induction ps with
 | nil=>rfl
 | cons x l ih=>
  simp only[bU,j3,ja,zR,vR]at *;have e:(((x.1:Nat):Int)==(k:Int))=(x.1==k):=lX _ _;rw[e];cases x.1==k
  ·exact ih
  ·rfl
theorem LI {ps:List (Nat×Nat)}(h:ja ps k=none):∀x∈ps,x.1≠k:=by
 unfold ja at h;simp only[tf,oJ,zU]at h;exact h
theorem Ν {ps:List (Nat×Nat)}(h:ja ps k=none)(b:Nat):dA (α:=Option Addr) (j3 ps) (k:Int) (some ⟨b,0,none⟩)=j3 (ps++[(k,b)]):=by
 unfold dA;rw[zB]
 ·simp[j3]
 ·simp only[j3,List.any_map,zy,Function.comp,zU,not_exists,not_and];intro x hx e;exact LI h x hx O
theorem U6 {ps:List (Nat×Nat)}(h:ja ps k=none)(b j:Nat):ja (ps++[(k,b)]) j=if j=k then some b else ja ps j:=by
 have a:=LI h;unfold ja at *;rw[List.find?_append];by_cases hj:j=k
 ·subst hj;have:ps.find? (λx=>x.1==j)=none:=by simpa using h
  rw[this];simp
 ·rw[zB hj];cases hf:ps.find? (λx=>x.1==j)with
  | none=>
   have:(k==j)=false:=by simpa using λe=>hj e.symm
   simp[this]
  | some x=>simp
theorem J5 {ps:List (Nat×Nat)}(hn:((j3 ps).map (·.1)).Nodup)(h:(k,b)∈ps):ja ps k=some b:=by
 induction ps with
 | nil=>simp at h
 | cons x l ih=>
  simp only[j3,zR,zj]at hn;unfold ja;rw[vR];rcases zW.1 h with rfl|h
  ·simp
  ·have:(x.1==k)=false:=by
    have:x.1≠k:=λe=>hn.1 (zE.2 ⟨(((k:Nat):Int),some ⟨b,0,none⟩),zE.2 ⟨(k,b),h,rfl⟩,by rw[e]⟩);simpa using this
   rw[this];exact ih hn.2 h
theorem HY (h:eN U F Y tb bud ls){R:aO}(hR:R true U):Xv.c (aW Y.p) U R:=by
 refine Xv.o ?_;unfold Xv.v;exact bX.intro (cE rfl (bL (h.hd.rM rfl hR)))
theorem eN.wL (h:eN U F Y tb bud ls)(hb:ja Y.ps k=some b)(hl:ls[k]?=some l):∃G:Rg,(∀q,G q->F q)/\jf b l U G/\¬G Y.m ∧
 ∀(σ':Hp) (l':Li) (G':Rg),Ext G U σ'->(∀q,G' q->Grow G U q)->jf b l' σ' G'->Ext F U σ'/\eN σ' (λq=>F q/\q<U.size/\¬G q\/G' q) Y tb bud (ls.set k l'):=by
 have g:=(cY.1 hl).1;obtain⟨G,r,hi,a,d⟩:=h.sep.j5 CC.loc (.li k);have hi:jf b l U G:=by
  simp only[CC,pa,hb,hl]at hi;exact hi
 have i:¬G Y.m:=by
  obtain⟨H,_,hd,p⟩:=a .mp (by intro e;cases e);exact hd _ p.1
 refine⟨G,r,hi,i,λσ' l' G' e w s=>⟨e.sub r,h.nN,h.ok,by rw[oW];exact h.len,h.keys,?_⟩⟩;refine d σ' (CC tb bud (ls.set k l') Y) G' (λj u=>?_) e w ?_ (CC.loc _)
 ·cases j<;>try rfl
  rename_i m;have i:m≠k:=λe=>u (by rw[e]);simp only[CC,zh (Ne.symm i)]
 ·simp only[CC,pa,hb,zO g];exact s
theorem eN.mono (h:eN U F Y tb bud ls)(hs:∀q,q<U.size->F q->G q):eN U G Y tb bud ls:=dN.mono eN.loc h hs
theorem eN.cut (h:eN U F Y tb bud ls):eN U (Cut F U) Y tb bud ls:=dN.cut eN.loc h
theorem eN.eV {v:Hp}(h:eN v (Grow F U) Y tb bud ls)(e0:Ext F U v)(hb:ja Y.ps k=some b)(hl:ls[k]?=some l):∃G:Rg,jf b l v G ∧
 ∀(σ':Hp) (l':Li) (G':Rg),Ext G v σ'->(∀q,G' q->Grow G v q)->jf b l' σ' G'->Ext F U σ'/\eN σ' (Grow F U) Y tb bud (ls.set k l'):=by
 obtain⟨G,j,p,_,a⟩:=h.wL hb hl;refine⟨G,p,λσ' l' G' e i g=>?_⟩;obtain⟨e1,m⟩:=a σ' l' G' e i g;refine⟨e0.jC e1,m.mono λq _ d=>?_⟩;have:=e0.1;rcases d with d|d
 ·exact d.1
 ·rcases i q d with h2|h2
  ·exact j q h2
  ·exact .inr O
theorem Sq (h:eN U F Y tb bud ls)(hk:k<tb.length){R:Option Addr->Hp->Prop}(hR:∀σ' Y' b,Ext F U σ'->Y'.p=Y.p->ja Y'.ps k=some b->eN σ' (Grow F U) Y' tb bud ls->R (some ⟨b,0,none⟩) σ') :
 ZO.c (aW Y.p) (k:Int) U R:=by
 refine ZO.o ?_;unfold ZO.v;have D:k<ls.length:=by rw[h.len];exact hk
 have E:ls[k]?=some ls[k]:=cW D;generalize ls[k]=l at E;have M:=h.pt;refine HY h (bX.intro (cD rfl ?_));refine bX.intro (fZ O (bL (h.hd.rS rfl ?_)));refine fZ aC ?_;refine Jn.intro (bL (h.hd.rM rfl ⟨_,h.map,?_⟩));rw[Dx];cases hf:ja Y.ps k with
 | some b=>
  refine cD rfl (bL (h.hd.rM rfl ⟨_,h.map,?_⟩));rw[Dx,hf];exact hR U Y b (Ext.refl _ _) rfl hf (h.mono λq _ a=>.inl a)
 | none=>
  refine cE rfl (bL (h.hd.rM rfl (nw (cs:=[.slice none 0 0,.int .i64 1,.int .i64 0]) λv Q e y=>?_)));obtain⟨G,H,s,P,hd,hi,u,i⟩:=h.cut.sep.oM CC.loc .mp (.li k) (by intro e;cases e);have K:∀q,G q->F q:=λq a=>(s q a).1;have hi:jM Y.m .i64 .p (j3 Y.ps) U G:=hi;have u:l=ir:=by
   simp only[CC,pa,hf,E]at u;exact u
  have J:=hi.2.lt;have B:dK v Y.m .i64 .p (j3 Y.ps):=e.fV hi.2 id;refine⟨Y.m,_,rfl,B,λv2 z r=>?_⟩;rw[Ν hf]at r;have e2:Ext F U v2:=(aF.to e).only z (.inl (K _ hi.1));have w:Ext (λq=>G q\/H q) U v2:=(aF.to e).only z (.inl (.inl hi.1));have A:bY v2 U.size [.slice none 0 0,.int .i64 1,.int .i64 0]:=WF z y O;have d:eN v2 (Grow F U) {Y with ps:=Y.ps++[(k,U.size)]} tb bud ls:=by
   refine⟨h.nN,h.ok,h.len,λx g=>?_,?_⟩
   ·rcases zM.1 g with g|g
    ·exact h.keys x g
    ·simp only[zN]at g;subst g;exact hk
   refine(Sep.loc CC.loc).mono (i v2 (CC tb bud ls {Y with ps:=Y.ps++[(k,U.size)]}) G (· = U.size) (λj C L=>?_) w (λq a=>.inl (.inl a)) (λq a=>.inr O) (λq C L=>?_) ⟨hi.1,r⟩ ?_ CC.loc) λq _ a=>?_
   ·cases j<;>first|rfl|exact absurd rfl C|skip
    rename_i m;have N:m≠k:=λe=>L (by rw[e]);simp only[CC,U6 hf,zB N]
   ·have:=(s q C).2;omega
   ·simp only[CC,U6 hf,zT,E,u,pa];exact⟨rfl,fP.nil,⟨none,0,0⟩,A,cV.nil _ _ _ _,zD _⟩
   ·rcases a with a|a|a
    ·exact .inl a.1.1
    ·exact .inl (K q a)
    ·exact .inr O
  refine bL (d.hd.rM rfl ⟨_,d.map,?_⟩);rw[Dx,U6 hf,zC rfl];exact hR v2 {Y with ps:=Y.ps++[(k,U.size)]} U.size e2 rfl (by show ja (Y.ps++[(k,U.size)]) k=_;rw[U6 hf,zC rfl]) d
theorem Aj (h:eN U F Y tb bud ls)(hk:k<tb.length){R:Option Addr->Int->Hp->Prop}(hR:∀σ' Y' b,Ext F U σ'->Y'.p=Y.p->ja Y'.ps k=some b->eN σ' (Grow F U) Y' tb bud ls->R (some ⟨b,0,none⟩) 0 σ') :
 XH.c (aW Y.p) (k:Int) U R:=by
 refine XH.o ?_;unfold XH.v;exact HY h (cD rfl (Sq h hk λσ' Y' b e a g d=>cD rfl (hR σ' Y' b e a g d)))
theorem bT.pW {s:Sl}{sz:Nat}{xs:List Value}(h:bT s sz xs U F):s.len<=s.cap:=by
 rcases h.2 with⟨q1,q2⟩|⟨_,_,_,_,_,q,_⟩
 ·omega
 ·exact q
theorem GX (h:jf b l U G){m:Nat}(hm:m<=l.os.length){R:Sl->Hp->Prop}
 (hR:∀s z σ',Ext (· = b) U σ'->U.size<=z->bT s 1 (Wy (l.os.take m)) σ' (λq=>U.size<=q/\q<z)->jf b (gL m l).2 σ' (λq=>q=b\/z<=q)->R s σ') :
 Xt.c (aW b) (m:Int) U R:=by
 refine Xt.o ?_;unfold Xt.v;obtain⟨X,g,s,K,C,Y⟩:=h;have S:s.len=l.os.length:=by have:=C.1;simp[Wy]at this;omega
 have B:=g.many;have M:=g.low;have j:=cV.sub C (lo:=0) (hi:=m) (mx:=s.cap) O O O;have e1:((Wy l.os).drop (0*1)).take ((m-0)*1)=Wy (l.os.take m):=by simp[Wy]
 rw[e1]at j;refine bL (K.rS rfl (jy (lo:=0) O aC aC (H8 j Ug aC λs1 L Q y A=>?_)));have x:=y.bV K id;have H:=aH.bP C y;have r:=cV.sub H (lo:=m) (hi:=s.len) (mx:=s.cap) O O O;have e2:((Wy l.os).drop (m*1)).take ((s.len-m)*1)=Wy (l.os.drop m):=by
  rw[lI (by simp[Wy];omega)];simp[Wy]
 rw[e2]at r;refine bL (x.rS rfl (jy aC aC aC (H8 r Ug aC λs2 N D E i=>?_)));have F:=E.bV x id;refine bL (F.s1 (by simp[ni]) λv3 o3 a=>bL (a.rI rfl (bL (a.rS rfl (bL (a.s1 (by simp[ni]) λv4 o4 u=>?_))))));have d:Ext (· = b) N v4:=o3.ext.trans o4.ext;have W:=K.lt;have J:=y.1;have w:s2.len=l.os.length-m:=by rw[D];simp only;omega
 refine hR s1 L.size v4 ((aF.to (y.trans E)).trans d) J ?_ ⟨.inl rfl,y7 g,s2,?_,?_,bT.pW i⟩
 ·refine aI.bS (aI.bP (aI.mono A (G:=λq=>U.size<=q/\q<L.size) λq p V=>⟨V,p⟩) E) d λq _ p P=>by omega
 ·have:(if((s2.len:Nat):Int)<(l.low:Int)then((s2.len:Nat):Int)else(l.low:Int))=((min l.low (l.os.length-m):Nat):Int):=by rw[w];split<;>omega
  rw[this]at u;exact u
 ·refine aH.mono (aH.bS i.fW d λq _ p P=>O) λq _ p=>⟨.inr p,O⟩
theorem Tb (h:jf b l U G){sl:Sl}{xs:List Int}{X:Rg}(hs:cV sl 1 (Wy xs) U X)(hx:xs≠[])(hfit:l.os.length+xs.length<=256){R:aN}
 (hR:∀σ',Ext (· = b) U σ'->jf b (eO xs l) σ' (λq=>q=b\/U.size<=q)->R 0 σ'):Xj.c (aW b) sl U R:=by
 refine Xj.o ?_;unfold Xj.v;obtain⟨H,u,s,g,d,J⟩:=h;have E:s.len=l.os.length:=by have:=d.1;simp[Wy]at this;omega
 have A:sl.len=xs.length:=by have:=hs.1;simp[Wy]at this;omega
 have y:=oa.2 hx;have x:eO xs l = {l with os:=l.os++xs}:=by unfold eO;rw[zB O]
 refine bL (g.rS rfl (cT (m:=l.os.length+xs.length) aC O (fZ O (bL (g.rS rfl ?_)))));refine XA.o ?_;unfold XA.v;refine jy (lo:=0) aC aC aC ?_;have F:=g.lt;refine⟨Wy l.os,Wy xs,by simp[Wy];omega,by simp[Wy];omega,?_,hs.rd,Ug,?_,by simp only;omega,λi=>by simp only at i;omega,λz c p=>?_⟩
 ·by_cases h0:s.len=0
  ·have:l.os=[]:=Dt.1 O;rw[this];simp only[h0,zT];cases s.a<;>simp[Rd,Wy]
  ·simp only[zB h0,vO];have:=d.rd;cases ha:s.a with
   | none=>rw[ha]at this;simpa[Rd]using this
   | some a=>rw[ha]at this;simpa[Rd,Addr.add_zero']using this
 ·simp only;have:(s.len-0+sl.len)*8<=256*8:=mu O O;omega
 ·refine nw λv K e w=>bL ((e.bV g id).s1 (by simp[ni]) λB o2 r=>?_);have C:l.os.length+xs.length<=c:=by simp only at p;omega
  refine hR B ((aF.to e).trans o2.ext) ?_;rw[x];have:=yF (xs:=xs) u;rw[x]at this;refine⟨.inl rfl,this,⟨some ⟨U.size,0,none⟩,s.len-0+sl.len,c⟩,r,⟨by simp[Wy];omega,.inr ⟨U.size,0,_,⟨.inr (zD _),O⟩,rfl,(WF o2 w O).q,λj D=>?_⟩⟩,by simp only;omega⟩;simp only[Wy,zk,zK]at D;rw[zH,zl,←zl,zd (by simp[Wy];omega)];simp[Wy]
theorem TC (h:jf b l U G){sl:Sl}{xs:List Int}{X:Rg}(hs:cV sl 1 (Wy xs) U X)(hfit:¬l.os.length+xs.length<=256)(hxs:xs.length<=1000000){R:aN}
 (hR:R 6 U):Xj.c (aW b) sl U R:=by
 refine Xj.o ?_;unfold Xj.v;obtain⟨p,d,s,j,a,r⟩:=h;have g:s.len=l.os.length:=by have:=a.1;simp[Wy]at this;omega
 have i:sl.len=xs.length:=by have:=hs.1;simp[Wy]at this;omega
 have:=d.many;exact bL (j.rS rfl (cT (m:=l.os.length+xs.length) aC O (mr O hR)))
end Go.Ar
namespace Go.Ar
open Go Go.Vc Go.Proofs
variable {U:Hp}{F G:Rg}{Y:hU}{tb:List cA}{bud:Nat}{ls:List Li}{b k:Nat}{l:Li}{c:cA}
theorem eN.cls (h:eN U F Y tb bud ls)(hc:tb[k]?=some c):c.ok/\k<tb.length:=⟨h.ok c (zG hc),(cY.1 hc).1⟩
theorem jf.st {v:Hp}(h:jf b l U G){s:Sl}{l':Li}(ho:Ext (· = b) U v)(hb:bY v b (ni s l'))(hs:cV s 1 (Wy l'.os) U (λq=>G q/\q≠b))(hc:s.len<=s.cap)(ok:fP l'):jf b l' v G:=
 ⟨h.1,ok,s,hb,aH.bS hs ho λq _ a d=>a.2 d,hc⟩
theorem ld (h:eN U F Y tb bud ls)(hc:tb[k]?=some c)(hl:ls[k]?=some l){R:Int->Int->Hp->Prop}
 (hR:∀σ' Y',Ext F U σ'->Y'.p=Y.p->eN σ' (Grow F U) Y' tb bud (ls.set k (KM c l).2)->R ((KM c l).1.getD 0) (if(KM c l).1.isSome then 0 else 4) σ'):Ym.c (aW Y.p) (k:Int) U R:=by
 obtain⟨r,hk⟩:=h.cls hc;refine Ym.o ?_;unfold Ym.v;refine Aj h hk λv Y' b e hp hb W=>cD rfl ?_;obtain⟨G,hL,D⟩:=W.eV e hb hl;have A:=hL;obtain⟨S,i,s,g,C,w⟩:=hL;have L:=W.hd;rw[hp]at L;have V:s.len=l.os.length:=by have:=C.1;simp[Wy]at this;omega
 have o1:=i.low;have o2:=i.many;have o3:=i.lim;have o4:=i.nC;have a:=Fo r i;have fin:∀v' G',Ext G v v'->(∀q,G' q->Grow G v q)->jf b (KM c l).2 v' G'->R ((KM c l).1.getD 0) (if(KM c l).1.isSome then 0 else 4) v':=λv' G' P hg Q=>by
  obtain⟨e2,h2⟩:=D v' _ G' P hg Q;exact hR v' Y' e2 hp h2
 unfold cA.ok at r;have B:∀{v':Hp},Ext (· = b) v v'->Ext G v v':=λP=>P.sub λq y=>by rw[y];exact S
 refine bL (g.rS rfl ?_);by_cases h0:l.os=[]
 ·have e1:(KM c l).1=none:=by unfold KM;rw[h0];rfl
  have e2:(KM c l).2=if l.lim<c.batch then{l with lim:=l.lim+1}else{l with lim:=min (l.lim+c.batch) 128}:=by unfold KM;rw[h0];rfl
  rw[e1,e2]at fin;rw[e2]at a;refine cE (by simp[V,h0]) (bL (L.rS rfl (ue W.jS hc (d:=2) O ?_)));simp only[zB (show ¬(2=0) by omega),zB (show ¬(2=1) by omega)];refine bL (g.rI rfl (cP (λc1=>?_) λc1=>?_))
  ·have z:l.lim<c.batch:=by omega
   rw[zC z]at fin a;refine bL (g.rI rfl (cT (m:=l.lim+1) O O (bL (g.s1 (by simp[ni]) λv' E j=>?_))));exact fin v' G (B E.ext) (λq y=>.inl y) (A.st E.ext j C w a)
  ·have z:¬l.lim<c.batch:=by omega
   rw[zB z]at fin a;refine bL (g.rI rfl (cT (m:=l.lim+c.batch) O O (bL (g.s1 (by simp[ni]) λv' E j=>?_))));refine fin v' G (B E.ext) (λq y=>.inl y) (A.st E.ext ?_ C w a);have:(if(128:Int)<((l.lim+c.batch:Nat):Int)then(128:Int)else((l.lim+c.batch:Nat):Int))=((min (l.lim+c.batch) 128:Nat):Int):=by split<;>omega
   rw[this]at j;exact j
 ·have Z:=oa.2 h0;obtain⟨x,hx⟩:∃x,l.os[l.os.length-1]?=some x:=⟨_,cW O⟩;have J:l.os.getLast?=some x:=by rw[List.getLast?_eq_getElem?];exact hx
  have e1:(KM c l).1=some x:=by unfold KM;rw[J]
  have e2:(KM c l).2 = {l with os:=l.os.dropLast,low:=min l.low (l.os.length-1)}:=by unfold KM;rw[J]
  rw[e1,e2]at fin;rw[e2]at a;refine cD (by simp only[mP];omega) ?_;refine bL (g.rS rfl (cT (m:=l.os.length-1) aC O (bL (g.rS rfl (C.lL hx (bL (g.rS rfl ?_)))))));have u:=cV.sub C (lo:=0) (hi:=l.os.length-1) (mx:=s.cap) O O O;have ed:((Wy l.os).drop (0*1)).take ((l.os.length-1-0)*1)=Wy l.os.dropLast:=by simp[Wy,yC]
  rw[ed]at u;refine jy (lo:=0) O aC aC (bL (g.s1 (by simp[ni]) λv1 X H=>bL (H.rI rfl (bL (H.s1 (by simp[ni]) λv2 N K=>?_)))));have M:=X.ext.trans N.ext;refine fin v2 G (B M) (λq y=>.inl y) (A.st M ?_ u aC a);have:(if((l.os.length-1:Nat):Int)<(l.low:Int)then((l.os.length-1:Nat):Int)else(l.low:Int))=((min l.low (l.os.length-1):Nat):Int):=by split<;>omega
  rw[this]at K;exact K
theorem ON (h:eN U F Y tb bud ls)(hc:tb[k]?=some c)(hl:ls[k]?=some l){R:Int->Int->Hp->Prop}
 (hR:∀σ' Y',Ext F U σ'->Y'.p=Y.p->eN σ' (Grow F U) Y' tb bud ls->R ((qp c l:Nat):Int) 0 σ'):Yj.c (aW Y.p) (k:Int) U R:=by
 obtain⟨j,y⟩:=h.cls hc;refine Yj.o ?_;unfold Yj.v;refine Aj h y λv Y' b e r A g=>cD rfl ?_;obtain⟨G,x,u⟩:=g.eV e A hl;obtain⟨w,z,s,i,B,m⟩:=x;have a:=g.hd;rw[r]at a;refine bL (i.rI rfl (bL (a.rS rfl (ue g.jS hc (d:=2) O ?_))));simp only[zB (show ¬(2=0) by omega),zB (show ¬(2=1) by omega)];have:(if(c.batch:Int)<(l.lim:Int)then(c.batch:Int)else(l.lim:Int))=((qp c l:Nat):Int):=by unfold qp;split<;>omega
 rw[this];exact hR v Y' e r g
theorem Oj (l:List Int)(i:Nat)(h:i<l.length):l.reverse[i]?=l[l.length-1-i]? := by
 rw[List.getElem?_reverse h]
theorem NF {s:Sl}{xs:List Int}(h:bT s 1 (Wy xs) U F)(hlen:xs.length<=1000000){R:aP}(hR:∀σ',Ext F U σ'->bT s 1 (Wy xs.reverse) σ' F->R σ'):Xk.c s U R:=by
 refine Xk.o ?_;unfold Xk.v;have P:s.len=xs.length:=by have:=h.1;simp[Wy]at this;omega
 let jm (i:Nat):List Int:=(List.range xs.length).map λj=>if j<i\/xs.length-i<=j then xs.getD (xs.length-1-j) 0 else xs.getD j 0
 have lA:∀i,(jm i).length=xs.length:=λi=>by simp[jm]
 have bU:∀i j,j<xs.length->(jm i)[j]?=some (if j<i\/xs.length-i<=j then xs.getD (xs.length-1-j) 0 else xs.getD j 0):=λi j d=>by simp[jm,d]
 have M:jm 0=xs:=by
  apply zt;intro j;by_cases d:j<xs.length
  ·rw[bU 0 j d,zB O];simp[zQ,cW d]
  ·rw[zX (by rw[lA];omega),zX O]
 have w:∀i,xs.length<=2*i+1->i<=xs.length->jm i=xs.reverse:=by
  intro i J K;apply zt;intro j;by_cases d:j<xs.length
  ·rw[bU i j d,Oj xs j d,zQ,zQ,cW (show xs.length-1-j<xs.length by omega),cW d];split
   ·rfl
   ·have:xs.length-1-j=j:=by omega
    simp only[this];rfl
  ·rw[zX (by rw[lA];omega),zX aE]
 have step:∀i,2*i+1<xs.length->((jm i).set i (xs.getD (xs.length-1-i) 0)).set (xs.length-1-i) (xs.getD i 0)=jm (i+1):=by
  intro i hi;apply zt;intro j;by_cases d:j<xs.length
  ·rw[bU (i+1) j d,nG,nG];simp only[oW,lA];by_cases e1:xs.length-1-i=j
   ·subst e1;rw[zC rfl,zC O,zC O]
    congr 2;omega
   ·rw[zB e1];by_cases e2:i=j
    ·subst e2;rw[zC rfl,zC O,zC O]
    ·rw[zB e2,bU i j d];by_cases e3:j<i\/xs.length-i<=j
     ·rw[zC e3,zC O]
     ·rw[zB e3,zB O]
  ·rw[zX (by simp[lA];omega),zX (by rw[lA];omega)]
 refine vI ?_;rw[Us O O];refine UI (a:=bO) (bb:=bO) (λ(i j:Int) v=>∃n:Nat,i=(n:Int)/\j=(xs.length:Int)-1-n/\n<=xs.length/\Ext F U v/\bT s 1 (Wy (jm n)) v F) (λi _ _=>xs.length-i.toNat) ⟨0,rfl,O,O,Ext.refl _ _,by rw[M];exact h⟩ ?_;rintro i j v ⟨n,rfl,rfl,W,ev,y⟩;refine cP (λQ=>?_) λN=>?_
 ·have A:2*n+1<xs.length:=by omega
  have D:(xs.length:Int)-1-n=((xs.length-1-n:Nat):Int):=by omega
  rw[D];have C:=bU n (xs.length-1-n) O;have E:=bU n n O;rw[zB O]at C E;rw[zQ]at C E;obtain⟨b,r⟩:∃b,s.a=some ⟨b,0,none⟩:=by
   rcases y.2 with⟨q1,q2⟩|⟨b,cs,_,B,_⟩
   ·omega
   ·exact⟨b,B⟩
  have g:∀u,bT s 1 (Wy (jm n)) u F->∀(j:Nat) (x:Int),(jm n)[j]?=some x->cell u (Addr.add ⟨b,0,none⟩ ((j:Int).toNat*1))=some (.int .i64 x):=λu z j x L=>by
   obtain⟨H,o,B,S⟩:=z.fW.cell (j:=j) (v:=.int .i64 x) (by simp[Wy,L]);rw[r]at B;cases B;rw[add_lit,show 0+(j:Int).toNat*1=0+j by omega];exact S
  rw[r];refine⟨λu=>bT s 1 (Wy (jm n)) u F,y,?_⟩;refine ix O O ⟨_,λu z=>g u z _ _ C,?_⟩;refine ix O O ⟨_,λu z=>g u z _ _ E,?_⟩;refine ix O O ?_;refine y.st (j:=n) (by simp[Wy,lA];omega) (λH p=>by rw[r]at p;cases p;rw[add_lit];simp) λX e1 J=>?_;refine ix O O ?_;refine J.st (j:=xs.length-1-n) (by simp[Wy,lA];omega) (λH p=>by rw[r]at p;cases p;rw[add_lit];simp) λV e2 K=>?_;refine cT (m:=n+1) O O (cT (m:=xs.length-1-n-1) O O ⟨⟨n+1,rfl,O,O,(ev.trans e1).trans e2,?_⟩,O⟩);rw[←step n A,zQ,zQ];have G:∀(l:List Int) (i:Nat) (x:Int),Wy (l.set i x)=(Wy l).set i (.int .i64 x):=λl i x=>by simp[Wy,wz]
  rw[G,G];exact K
 ·rw[w n O O]at y;exact hR v ev y
theorem NW (h:jf b l U G){sl:Sl}(hz:sl.len=0){R:aN}(hR:∀σ',Ext (· = b) U σ'->jf b l σ' G->R 0 σ'):Xj.c (aW b) sl U R:=by
 refine Xj.o ?_;unfold Xj.v;have B:=h;obtain⟨E,p,s,z,i,F⟩:=h;have y:s.len=l.os.length:=by have:=i.1;simp[Wy]at this;omega
 have r:=p.many;refine bL (z.rS rfl (cT (m:=l.os.length) aC O (fZ O (bL (z.rS rfl ?_)))));refine XA.o ?_;unfold XA.v;refine jy (lo:=0) aC aC aC ?_;have d:=cV.sub i (lo:=0) (hi:=s.len) (mx:=s.len) O O O;have C:((Wy l.os).drop (0*1)).take ((s.len-0)*1)=Wy l.os:=by rw[y,lI (by simp[Wy])];simp
 rw[C]at d;have key:∀(g:Sl),cV g 1 (Wy l.os) U (λq=>G q/\q≠b)->g.len<=g.cap->bW (some ⟨b,0,none⟩) λA=>dQ (A.add 0) (.slice g.a g.len g.cap) U λv2=>R 0 v2:=λg w x=>by
  refine bL (z.s1 (by simp[ni]) λv2 o2 u=>hR v2 o2.ext ?_);exact B.st (l':=l) (s:=g) o2.ext u w x p
 refine⟨Wy l.os,[],by simp[Wy];omega,by simp[hz],d.rd,by cases sl.a<;>simp[Rd],by simp,?_,by simp only;omega,λD=>?_,λj=>absurd (by simp only[hz];omega) j⟩
 ·simp only[hz];have:(s.len-0+0)*8<=256*8:=mu O O;omega
 ·simp only[hz,kA];cases ha:(if s.len=0 then s.a else s.a.map (·.add (0*1)))
  ·rw[ha]at d;exact key ⟨none,s.len-0,s.len-0⟩ d (zD _)
  ·rw[ha]at d;exact key ⟨some _,s.len-0,s.len-0⟩ d (zD _)
theorem EC (h:jf b l U G){sl:Sl}{xs:List Int}{X:Rg}(hs:cV sl 1 (Wy xs) U X)(hfit:l.os.length+xs.length<=256){R:aN}
 (hR:∀σ',Ext (· = b) U σ'->jf b (eO xs l) σ' (Grow G U)->R 0 σ'):Xj.c (aW b) sl U R:=by
 by_cases hx:xs=[]
 ·subst hx;have g:eO [] l=l:=by unfold eO;rw[zB (by simp only[lf]at hfit ⊢;omega)];simp
  refine NW h (by have:=hs.1;simp[Wy]at this;omega) λσ' e a=>hR σ' e ?_;rw[g];exact(jf.loc _ _).mono a λq _ d=>.inl d
 ·exact Tb h hs hx hfit λσ' e a=>hR σ' e ((jf.loc _ _).mono a λq _ d=>d.imp (λe=>by rw[e];exact h.1) id)
theorem TF (h:eN U F Y tb bud ls)(hc:tb[k]?=some c)(hl:ls[k]?=some l){sl:Sl}{xs:List Int}{X:Rg}(hs:cV sl 1 (Wy xs) U X)(hX:∀q,X q->¬F q)(hfit:l.os.length+xs.length<=256){R:aN}
 (hR:∀σ' Y',Ext F U σ'->Y'.p=Y.p->eN σ' (Grow F U) Y' tb bud (ls.set k (eO xs.reverse l))->R 0 σ'):Yu.c (aW Y.p) (k:Int) sl U R:=by
 obtain⟨s,z⟩:=h.cls hc;have A:sl.len=xs.length:=by have:=hs.1;simp[Wy]at this;omega
 refine Yu.o ?_;unfold Yu.v;refine Aj h z λv Y' b e B E C=>cD rfl ?_;have r:=aH.bS hs e λq _ a=>hX q a;refine H8 r Ug O λs1 H x e1 j=>?_;refine NF j O λv2 e2 m=>?_;have d:aF v v2:=Ext.fresh e1 e2 λq a=>a;obtain⟨G,u,g⟩:=(C.bP d).eV (e.trans (aF.to d)) E hl;refine EC u m.fW aE λv3 w i=>?_;obtain⟨D,y⟩:=g v3 _ _ (w.sub λq a=>a▸u.1) (λq a=>a) i;exact hR v3 Y' D B y
theorem QQ {α:Type}{ls:List α}{k:Nat}{l:α}(h:ls[k]?=some l):ls.set k l=ls:=by
 apply zt;intro j;by_cases hj:j=k
 ·subst hj;rw[zO (cY.1 h).1,h]
 ·rw[zh (Ne.symm hj)]
theorem S5 (h:eN U F Y tb bud ls)(hc:tb[k]?=some c)(hl:ls[k]?=some l)(x:Int){R:Sl->Int->Hp->Prop}
 (hR:∀σ' Y' s e (Q:Rg),Ext F U σ'->Y'.p=Y.p->(l.os.length+1<=256->e=0)->(∀q,Q q->U.size<=q)->bT s 1 (Wy (dM c x l).1) σ' Q->eN σ' (λq=>Grow F U q/\¬Q q) Y' tb bud (ls.set k (dM c x l).2)->R s e σ'):YY.c (aW Y.p) (k:Int) x U R:=by
 obtain⟨P,hk⟩:=h.cls hc;refine YY.o ?_;unfold YY.v;refine Aj h hk λv Y' b e hp hb h'=>cD rfl ?_;have hσv:=e.1;obtain⟨G,hG,hL,_,N⟩:=h'.wL hb hl;have hblt:b<v.size:=by obtain⟨_,_,s,hbk,_⟩:=hL;exact hbk.lt
 have u:=hL.1;have V:=hL.2.1;have hmany:=V.many;have r:∀(σ':Hp) (l':Li) (G':Rg),Ext G v σ'->(∀q,G' q->Grow G v q)->jf b l' σ' G'->Ext F U σ'/\eN σ' (λq=>Grow F U q/\q<v.size/\¬G q\/G' q) Y' tb bud (ls.set k l'):=λσ' l' G' e' hg hL'=>by
  obtain⟨e1,h1⟩:=N σ' l' G' e' hg hL';exact⟨e.jC e1,h1⟩
 have hin:∀{G':Rg} {q:Nat},(∀q,G' q->Grow G v q)->(Grow F U q/\q<v.size/\¬G q\/G' q)->Grow F U q:=λhg a=>by
  rcases a with a|a
  ·exact a.1
  ·rcases hg _ a with H|H
   ·exact hG _ H
   ·exact .inr O
 refine nw (cs:=[.int .i64 x]) λv1 hz1 e1 hb1=>?_;have K:=(jf.loc _ _).bP hL e1;have W:cV ⟨some ⟨v.size,0,none⟩,1,1⟩ 1 (Wy [x]) v1 (· = v.size):=hb1.fW (o:=0) rfl (by simp[Wy]) (λj hj=>by
  simp only[Wy,zR,oL,zS,lf]at hj ⊢;rw[zH])
 by_cases hfit:l.os.length+1<=256
 ·refine EC K W (by simpa using hfit) λv2 e2 D=>cD rfl ?_;have B:Ext G v v2:=(aF.to e1).trans (e2.sub λq a=>a▸u);have aa:∀q,Grow G v1 q->Grow G v q:=λq a=>a.imp id λX=>by omega
  obtain⟨eF2,H⟩:=r v2 _ _ B aa D;have i:(eO [x] l).os=l.os++[x]/\(eO [x] l).lim=l.lim/\(eO [x] l).low=l.low:=by unfold eO;rw[zB (by simp only[zS,lf];omega)];exact⟨rfl,rfl,rfl⟩
  have A:=D;obtain⟨_,ok2,s2,g,Z,E⟩:=D;have hs2l:s2.len=l.os.length+1:=by have:=Z.1;simp[Wy,i.1]at this;omega
  refine bL (g.rS rfl (bL (g.rI rfl ?_)));rw[i.2.1];refine cP (λc1=>?_) λc1=>?_
  ·have C:l.os.length+1<=l.lim:=by simp only at c1;omega
   have y:dM c x l=([],eO [x] l):=by unfold dM;rw[zB O,zC C]
   refine hR v2 Y' _ 0 (λ_=>False) eF2 hp (λ_=>rfl) (λq a=>a.elim) (by rw[y];exact bT.nil _ _ _ _) ?_;rw[y];exact H.mono λq _ a=>⟨hin aa a,id⟩
  ·have C:¬l.os.length+1<=l.lim:=by simp only at c1;omega
   have y:dM c x l=gL (min c.batch (l.os.length+1)) (mG c (eO [x] l)):=by unfold dM;rw[zB O,zB C]
   have ac:=H.hd;rw[hp]at ac;refine bL (ac.rS rfl (ue H.jS hc (d:=2) O ?_));simp only[zB (show ¬(2=0) by omega),zB (show ¬(2=1) by omega)];refine Jn.intro ?_;have w:∀v3,Ext (· = b) v2 v3->jf b (mG c (eO [x] l)) v3 (Grow G v1)->bW (some ⟨b,0,none⟩) λa62=>jH (a62.add 0) v3 λS=>Xt.c (aW b) (if((S.len:Nat):Int)<(c.batch:Int)then((S.len:Nat):Int)else(c.batch:Int)) v3 λt67 v4=>R t67 0 v4:=by
    intro v3 e3 hL3;have ab:=hL3;obtain⟨_,ok3,s3,L,hs3,hcap3⟩:=hL3;have J:(mG c (eO [x] l)).os=l.os++[x]:=by unfold mG;split<;>exact i.1
    have M:s3.len=l.os.length+1:=by have:=hs3.1;simp[Wy,J]at this;omega
    refine bL (L.rS rfl ?_);have em:(if((s3.len:Nat):Int)<(c.batch:Int)then((s3.len:Nat):Int)else(c.batch:Int))=((min c.batch (l.os.length+1):Nat):Int):=by rw[M];split<;>omega
    rw[em];refine GX ab (by rw[J];simp;omega) λs z v4 e4 hz hr hL4=>?_;have e24:Ext (· = b) v2 v4:=e3.trans e4;have e04:Ext G v v4:=B.trans (e24.sub λq a=>a▸u);have hs23:=e3.1;have hs02:=B.1;obtain⟨eF4,h4⟩:=r v4 _ (λq=>q=b\/z<=q) e04 (λq a=>a.imp (λ(X:q=b)=>by rw[X];exact u) λ(X:z<=q)=>O) hL4;refine hR v4 Y' s 0 (λq=>v3.size<=q/\q<z) eF4 hp (λ_=>rfl) (λq a=>O) (by rw[y];exact hr) ?_;rw[y];refine h4.mono λq _ a=>⟨?_,λhQ=>?_⟩
    ·rcases a with a|a|a
     ·exact a.1
     ·subst a;exact hG _ u
     ·exact .inr O
    ·rcases a with a|a|a<;>omega
   refine bL (g.rI rfl ?_);rw[i.2.1];refine cP (λc2=>?_) λc2=>?_
   ·have c2':l.lim<c.batch:=by omega
    have eu:mG c (eO [x] l) = {eO [x] l with lim:=l.lim+1}:=by unfold mG;rw[i.2.1,zC c2']
    have ad:=Jr P ok2;refine bL (g.rI rfl ?_);rw[i.2.1];have hl128:=V.lim;refine cT (m:=l.lim+1) O O (bL (g.s1 (by simp[ni]) λv3 o3 hb3=>w v3 o3.ext ?_));rw[eu]at ad ⊢;exact A.st o3.ext hb3 Z E ad
   ·have eu:mG c (eO [x] l)=eO [x] l:=by unfold mG;rw[i.2.1,zB O]
    exact w v2 (Ext.refl _ _) (by rw[eu];exact A)
 ·refine TC K W (by simpa using hfit) aA (cE rfl ?_);have y:dM c x l=([],l):=by unfold dM;rw[zC O]
  refine hR v1 Y' _ 6 (λ_=>False) (e.trans (aF.to e1)) hp (λX=>absurd X hfit) (λq a=>a.elim) (by rw[y];exact bT.nil _ _ _ _) ?_;rw[y,QQ hl];exact(h'.bP e1).mono λq _ a=>⟨a,id⟩
end Go.Ar
namespace Go.Ar
open Go Go.Vc Go.Proofs
open Go.Bu (ZH Ki ZD)
variable {U:Hp}{F:Rg}{p hs:Nat}{A:AR}{Y:Lay}{T:Nat->Hp->Rg->Prop}
theorem dJ.uM (h:dJ U F Y A T){k q:Nat}{c:cA}{ss:List cH}(h1:Y.fM[k]?=some q)(h2:A.tb[k]?=some c)(h3:A.cG[k]?=some ss) :
 ∃G:Rg,(∀b,G b->F b)/\(∃ps,fI U G q c ps ss)/\(∀j,∃H:Rg,(∀b,H b->F b)/\(∀b,H b->¬G b)/\T j U H)/\∀(σ':Hp) (ss':List cH) (ps':List (Nat×Nat)) (G' H:Rg),
  Ext G U σ'->(∀b,G' b->G b\/U.size<=b)->fI σ' G' q c ps' ss'->(∀b,(F b/\b<U.size/\¬G b\/G' b)->H b)->dJ σ' H Y {A with cG:=A.cG.set k ss'} T:=by
 obtain⟨G,d,hi,hd,a⟩:=h.step (.cG k);have m:k<A.cG.length:=(cY.1 h3).1;refine⟨G,d,IB h1 h2 h3 hi,λj=>hd (.cR j) (by intro e;cases e),λσ' ss' ps' G' H e g p i=>?_⟩;refine a σ' _ _ T G' H h.lay.lu h.tl S7 e g ?_ i;simp only[AC];rw[h1,h2,zO m];exact⟨ps',p⟩
theorem Ts (h:dJ U F Y A T)(k m:Int){R:Sl->Int->Hp->Prop}(hR:∀s σ',Ext F U σ'->bT s 1 (ints (YB A k m)) σ' (λb=>U.size<=b)->dJ σ' (Cut F U) Y (YT A k m) T->R s (Kd A k m) σ') :
 WZ.c (aW Y.p) k m U R:=by
 refine WZ.o ?_;unfold WZ.v;refine UT h k (λj=>?_) λx E u=>?_
 ·have e1:Kd A k m=1:=by unfold Kd;rw[j];rfl
  have e2:YT A k m=A:=by unfold YT;rw[e1];rfl
  have d:YB A k m=[]:=by unfold YB;rw[e1];rfl
  have:=hR ⟨none,0,0⟩ U (Ext.refl _ _) (by rw[d];exact bT.nil _ _ _ _) (by rw[e2];exact h.cut);rw[e1]at this;exact cE rfl this
 ·subst E;have j:A.ck (x:Int)=true:=by unfold AR.ck;simp;omega
  obtain⟨c,ss,q,t,r,D,a,z,_,_,H⟩:=h.at_ u;obtain⟨G,C,⟨K,B⟩,_,i⟩:=h.uM z D a;refine cD rfl (bL (h.hd.rS rfl (h.ma z ?_)));by_cases hm:m<0
  ·have e1:Kd A x m=1:=by unfold Kd;rw[j,zC rfl,zC hm]
   have e2:YT A x m=A:=by unfold YT;rw[e1];rfl
   have d:YB A x m=[]:=by unfold YB;rw[e1];rfl
   have:=hR ⟨none,0,0⟩ U (Ext.refl _ _) (by rw[d];exact bT.nil _ _ _ _) (by rw[e2];exact h.cut);rw[e1]at this;exact Pk B m hm this
  ·have e1:Kd A x m=0:=by unfold Kd;rw[j,zC rfl,zB hm]
   have y:VX A x m=KI c m.toNat ss:=by unfold VX;simp only[dH];rw[D,a]
   have e2:YT A x m = {A with cG:=A.cG.set x (KI c m.toNat ss).2}:=by unfold YT;rw[e1,zC rfl,y];rfl
   have d:YB A x m=(KI c m.toNat ss).1:=by unfold YB;rw[e1,zC rfl,y]
   refine Pq B m O λs σ' e g w=>?_;have:=hR s σ' (e.sub C) (by rw[d];exact g) (by rw[e2];exact i σ' _ _ (Cut G U) _ e (λb J=>.inl J.1) w (EA C));rw[e1]at this;exact this
theorem PU {k:Nat}{f:gR->gR}:∀j,j≠Lb.cR k->AC {A with cR:=A.cR.modify k f} Y (cM {A with cR:=A.cR.modify k f} Y) j=AC A Y (cM A Y) j:=by
 intro j hj;cases j<;>first|rfl|skip
 rename_i k';have a:k≠k':=λe=>hj (by rw[e]);simp only[AC,cM];simp[tN,a]
theorem fB.kc {k:Nat}{f:gR->gR}(h:fB A Y):fB {A with cR:=A.cR.modify k f} Y:=⟨h.c,h.t,h.cG,by simpa using h.cR,h.nN,h.sj,h.n1,h.n2,h.n3,h.st,h.room,h.ok⟩
theorem dJ.uE (h:dJ U F Y A (cM A Y)){k q:Nat}{c:cA}{t:gR}(h1:Y.gC[k]?=some q)(h2:A.tb[k]?=some c)(h3:A.cR[k]?=some t) :
 ∃G:Rg,(∀b,G b->F b)/\iU U G q c.batch A.room t/\∀(σ':Hp) (f:gR->gR) (G' H:Rg),
  Ext G U σ'->(∀b,G' b->G b\/U.size<=b)->iU σ' G' q c.batch A.room (f t)->(∀b,(F b/\b<U.size/\¬G b\/G' b)->H b)->dJ σ' H Y {A with cR:=A.cR.modify k f} (cM {A with cR:=A.cR.modify k f} Y):=by
 obtain⟨G,g,hi,hd,a⟩:=h.step (.cR k);have d:iU U G q c.batch A.room t:=by
  simp only[AC,cM]at hi;rw[h1,h2,h3]at hi;exact hi
 refine⟨G,g,d,λσ' f G' H e i p m=>?_⟩;refine a σ' _ _ _ G' H h.lay.kc (λj=>cM.loc j) PU e i ?_ m;simp only[AC,cM];rw[h1,h2,List.getElem?_modify_eq,h3];exact p
theorem NY (h:dJ U F Y A (cM A Y))(k:Int){R:Sl->Int->Hp->Prop}(hR:∀s σ',Ext F U σ'->(∀b,kV s b->F b)->cV s 1 (Wy (YR A k)) σ' (kV s)->s.len<=s.cap->dJ σ' (λb=>F b/\¬kV s b) Y (Z1 A k) (cM (Z1 A k) Y)->R s (QF A k) σ') :
 WT.c (aW Y.p) k U R:=by
 refine WT.o ?_;unfold WT.v;refine UT h k (λz=>?_) λx L D=>?_
 ·have e1:QF A k=1:=by unfold QF;rw[z];rfl
  have e2:Z1 A k=A:=by unfold Z1;rw[e1];rfl
  have u:YR A k=[]:=by unfold YR;rw[e1];rfl
  have:=hR ⟨none,0,0⟩ U (Ext.refl _ _) (λb d=>by obtain⟨a,g,_⟩:=d;cases g) (by rw[u];exact cV.nil _ _ _ _) (zD _) (by rw[e2];exact h.mono λb _ d=>⟨d,λ⟨a,g,_⟩=>by cases g⟩);rw[e1]at this;exact cE rfl this
 ·subst L;have z:A.ck (x:Int)=true:=by unfold AR.ck;simp;omega
  obtain⟨c,Q,q,t,r,M,K,P,B,H,N⟩:=h.at_ D;obtain⟨G,C,J,j⟩:=h.uE H M B;refine cD rfl (bL (h.hd.rS rfl (h.sU H ?_)));by_cases d:t.bs=[]
  ·have e1:QF A x=4:=by unfold QF;rw[z,zC rfl];simp only[dH];rw[B];simp[d]
   have e2:Z1 A x=A:=by unfold Z1;rw[e1];rfl
   have u:YR A x=[]:=by unfold YR;rw[e1];rfl
   have:=hR ⟨none,0,0⟩ U (Ext.refl _ _) (λb d=>by obtain⟨a,g,_⟩:=d;cases g) (by rw[u];exact cV.nil _ _ _ _) (zD _) (by rw[e2];exact h.mono λb _ d=>⟨d,λ⟨a,g,_⟩=>by cases g⟩);rw[e1]at this;exact WeN J d this
  ·have e1:QF A x=0:=by unfold QF;rw[z,zC rfl];simp only[dH];rw[B];simp[d]
   have e2:Z1 A x = {A with cR:=A.cR.modify x gR.rem}:=by unfold Z1;rw[e1,zC rfl];rfl
   have u:YR A x=t.bs.getLast?.getD []:=by unfold YR;rw[e1,zC rfl];simp only[dH];rw[B]
   refine Wh1 J d λs σ' e m w i E=>?_;have y:∀b,(F b/\b<U.size/\¬G b\/G b/\¬kV s b)->F b/\¬kV s b:=λb d=>by
    rcases d with d|d
    ·exact⟨d.1,λhi=>d.2.2 (m b hi)⟩
    ·exact⟨C b d.1,d.2⟩
   have:=hR s σ' (e.sub C) (λb d=>C b (m b d)) (by rw[u];exact w) i (by rw[e2];exact j σ' _ (λb=>G b/\¬kV s b) _ e (λb d=>.inl d.1) E y);rw[e1]at this;exact this
theorem υ (h:dJ U F Y A (cM A Y))(k:Int){sl:Sl}{xs:List Int}{X:Rg}(hs:cV sl 1 (Wy xs) U X)(hi:∀x∈xs,iN x){R:Bool->Int->Hp->Prop}(hR:∀σ',Ext F U σ'->dJ σ' (Grow F U) Y (KG A k xs) (cM (KG A k xs) Y)->R (VG A k xs) (HT A k xs) σ') :
 W6.c (aW Y.p) k sl U R:=by
 refine W6.o ?_;unfold W6.v;have w:sl.len=xs.length:=by have:=hs.1;simp[Wy]at this;omega
 have S:∀e:Int,e≠0->HT A k xs=e->R false e U:=λe he D=>by
  have e3:VG A k xs=false:=by unfold VG;rw[zL O];rfl
  have e2:KG A k xs=A:=by unfold KG;rw[e3];rfl
  have:=hR U (Ext.refl _ _) (by rw[e2];exact h.mono λb _ g=>.inl g);rw[D,e3]at this;exact this
 refine UT h k (λQ=>cE rfl (S 1 aB (by unfold HT;rw[Q];rfl))) λx M Z=>?_;subst M;have Q:A.ck (x:Int)=true:=by unfold AR.ck;simp;omega
 obtain⟨c,ss,q,t,r,P,E,hq,ht,hr,W⟩:=h.at_ Z;obtain⟨G1,ps,hG1,V⟩:=h.cG hq P E;obtain⟨G,hG,hC,H⟩:=h.uE hr P ht;have N:HT A x xs=if xs.length=c.batch then(if xs.all (λx=>eH c ss x==some true)then 0 else 8)else 1:=by unfold HT;rw[Q,zC rfl];simp only[dH];rw[P,E]
 refine cD rfl (bL (h.hd.rS rfl (h.yo (d:=2) P O ?_)));simp only[zB (show ¬(2=0) by omega),zB (show ¬(2=1) by omega)];rw[sv];refine cO (λg=>?_) λg=>?_
 ·have:¬xs.length=c.batch:=by rw[←w];simpa using g
  exact S 1 aB (by rw[N,zB this])
 have L:xs.length=c.batch:=by rw[←w];simpa using g
 rw[zC L]at N;have h32:c.batch<=32:=W.2.2.2.2.2.2.2;refine Qz (a:=bO) (λ(i:Int) v=>∃j:Nat,i=(j:Int)/\j<=xs.length/\v=U/\∀y∈xs.take j,eH c ss y=some true) (λi _=>xs.length-i.toNat) ⟨0,rfl,O,rfl,by simp⟩ ?_;rintro i v ⟨j,rfl,hj,rfl,s⟩;refine cP (λhlt2=>?_) λhge=>?_
 ·have K:j<xs.length:=by omega
  have M:xs[j]?=some xs[j]:=cW K;have htk:xs.take (j+1)=xs.take j++[xs[j]]:=by rw[kC,M];rfl
  have u:=kD K;generalize xs[j]=y at *;have J:eH c ss y≠some true->R false 8 v:=λhn=>S 8 aB (by
   rw[N,zB];intro ha;rw[kx]at ha;exact hn (by simpa using ha y u))
  refine hs.lL M (bL (h.hd.rS rfl (h.ma hq (Ii V _ (hi y u) (λb g=>?_) λg=>?_))))
  ·refine bX.intro (cD rfl ?_);cases b
   ·exact cE rfl (J (by rw[g];simp))
   ·refine cD rfl (cT (m:=j+1) O O ⟨⟨j+1,rfl,O,rfl,λz hz=>?_⟩,O⟩);rw[htk]at hz;rcases zM.1 hz with D|D
    ·exact s z D
    ·simp at D;rw[D];exact g
  ·exact bX.intro (cE rfl (cE rfl (J (by rw[g];simp))))
 ·have:j=xs.length:=by omega
  subst this;rw[lV]at s;have B:HT A x xs=0:=by
   rw[N,zC];rw[kx];intro y hy;simp[s y hy]
  have C:VG A x xs=decide (t.bs.length<A.room):=by unfold VG;rw[B];simp only[dH];rw[ht];simp
  refine bL (h.hd.rS rfl (h.sU hr (M8 hC hs O (λhn=>absurd L hn) (λ_ hf=>?_) λ_ hf σ' e hC'=>?_)))
  ·rw[zL O]at C;have e2:KG A x xs=A:=by unfold KG;rw[C];rfl
   have:=hR v (Ext.refl _ _) (by rw[e2];exact h.mono λb _ g=>.inl g);rw[B,C]at this;exact this
  ·rw[zI O]at C;have e2:KG A x xs = {A with cR:=A.cR.modify x λt=>{t with bs:=t.bs++[xs]}}:=by unfold KG;rw[C,zC rfl];rfl
   have:=hR σ' (e.sub hG) (by rw[e2];exact H σ' (λt=>{t with bs:=t.bs++[xs]}) (Grow G v) _ e (λb g=>g) hC' (GC hG λb g=>g));rw[B,C]at this;exact this
theorem fI.N7 {q:Nat}{c:cA}{ps:List (Nat×Nat)}{ss:List cH}{G:Rg}(h:fI U G q c ps ss):∀s∈ss,s.st<=1024:=by
 intro s hs;obtain⟨i,hi⟩:=zP hs;have a:=(cY.1 hi).1;have b:i<ps.length:=by rw[h.len];exact a
 have:=(h.sp _ _ _ (cW b) hi).fit;omega
theorem Ov (h:dJ U F Y A T)(k:Int){sl:Sl}{xs:List Int}(hi:∀x∈xs,iN x)(hl:xs.length<=1000000)(hcap:sl.len<=sl.cap)
 (hs:(∃X:Rg,cV sl 1 (Wy xs) U X/\∀b,b<U.size->X b->¬F b)\/∃j,∀H,T j U H->cV sl 1 (Wy xs) U H)
 {R:aN} (hR:∀σ',Ext F U σ'->dJ σ' (Grow F U) Y (ZZ A k xs) T->R (Kv A k xs) σ') :
 Xc.c (aW Y.p) k sl U R:=by
 refine Xc.o ?_;unfold Xc.v;have no:∀e:Int,e≠0->Kv A k xs=e->R e U:=λe he V=>by
  have e2:ZZ A k xs=A:=by unfold ZZ;rw[zB O]
  have:=hR U (Ext.refl _ _) (by rw[e2];exact h.mono λb _ d=>.inl d);rw[V]at this;exact this
 refine UT h k (λJ=>cE rfl (no 1 aB (by unfold Kv;rw[J];rfl))) λx hx W=>?_;subst hx;have J:A.ck (x:Int)=true:=by unfold AR.ck;simp;omega
 obtain⟨c,g,q,t,r,hc,u,hq,_,_,hok⟩:=h.at_ W;obtain⟨G,N,⟨ps,K⟩,hd,B⟩:=h.uM hq hc u;have hX:∃X:Rg,cV sl 1 (Wy xs) U X/\∀b,X b->¬G b:=by
  rcases hs with⟨X,V,h2⟩|⟨j,hj⟩
  ·exact⟨Cut X U,aH.cut V,λb d hg=>h2 b d.2 d.1 (N b hg)⟩
  ·obtain⟨H,_,D,hT⟩:=hd j;exact⟨H,hj H hT,D⟩
 obtain⟨X,L,E⟩:=hX;have Q:Kv A x xs=iJ c g xs:=by unfold Kv;rw[J,zC rfl];simp only[dH];rw[hc,u]
 refine cD rfl (bL (h.hd.rS rfl (h.ma hq (OW K L E hi hl hcap (λD=>?_) λh0 o σ1 e1 m Z=>?_))))
 ·refine cE (by simpa using D) (no _ D Q)
 ·refine cD rfl ?_;have eS:ZZ A x xs=UH {A with cG:=A.cG.set x (cK (xs.foldl (fK c) g))} ((QX (xs.foldl (fK c) g)).map λs=>(s,c.aG)):=by
   unfold ZZ;rw[Q,zC h0];simp only[dH];rw[hc,u]
  have S:=B σ1 _ _ (Cut G U) _ e1 (λb d=>.inl d.1) Z (EA N);rw[T0]at m;have C:((QX (xs.foldl (fK c) g)).map λs=>(s,c.aG)).length<=1000000/\∀r∈((QX (xs.foldl (fK c) g)).map λs=>(s,c.aG)),r.1<=1000000:=by
   have i:∀(ys:List Int) (ls:List cH),((ys.foldl (fK c) ls).map (·.st))=ls.map (·.st):=by
    intro ys
    induction ys with
    | nil=>intro ls;rfl
    | cons y ys ih=>
     intro ls;rw[ru,ih];unfold fK;split
     ·rename_i j hj;split
      ·rename_i s a;split
       ·simp only[wz];apply zt;intro z;rw[nG];by_cases w:j=z
        ·subst w;rw[zC rfl];have:=(cY.1 a).1;rw[zC (by simpa using this)];simp[a,cH.put]
        ·rw[zB w]
       ·rfl
      ·rfl
     ·rfl
   have P:∀s∈QX (xs.foldl (fK c) g),s∈g.map (·.st):=by
    intro s a;rw[←i xs g];unfold QX at a;simp only[zE,zJ]at a ⊢;obtain⟨z,w,rfl⟩:=a;exact⟨z,w.1,rfl⟩
   have hfew:=K.qt;refine⟨?_,λr hr=>?_⟩
   ·have:(QX (xs.foldl (fK c) g)).length<=(xs.foldl (fK c) g).length:=by
     unfold QX;rw[zk];exact pM _ _
    have h2:(xs.foldl (fK c) g).length=g.length:=by have:=congrArg List.length (i xs g);simpa using this
    rw[zk];omega
   ·obtain⟨s,a,rfl⟩:=zE.1 hr;obtain⟨z,w,rfl⟩:=zE.1 (P s a);have:=K.N7 z w;simp only;omega
  refine Fs S m.fW (λb _ d hf=>by have:=hf.2;omega) C.1 C.2 λσ2 e2 M=>?_;have:=hR σ2 ((e1.sub N).trans (e2.sub λb d=>d.1)) ?_
  ·rw[Q,h0]at this;exact this
  ·rw[eS];exact M.mono λb _ d=>by
    rcases d with d|d
    ·exact .inl d.1
    ·exact .inr (ky e1.1 d)
theorem SP (l:List (Nat×Nat))(x:Int):bU (iQ l) x=(l.find? λr=>(r.1:Int)==x).map λr=>(r.2:Int):=by
 induction l with
 | nil=>rfl
 | cons r l ih=>
  have:iQ (r::l)=((r.1:Int),(r.2:Int))::iQ l:=rfl;rw[this,KT,vR,ih];by_cases h:(r.1:Int)=x
  ·simp[h]
  ·have:((r.1:Int)==x)=false:=by simpa using h
   rw[this,zB h]
theorem Wk9 (l:List (Nat×Nat))(x:Int):cN (iQ l) x=iQ (l.filter λq=>!((q.1:Int)==x)):=by
 unfold cN iQ;rw[wO];rfl
theorem Β (l:List (Nat×Nat))(x m:Nat):dA (iQ l) (x:Int) (m:Int)=iQ (cC.mset2 l x m):=by
 unfold dA cC.mset2 iQ;have e:(l.map λr=>((r.1:Int),(r.2:Int))).any (λy=>y.1==(x:Int))=l.any λr=>r.1==x:=by
  rw[List.any_map]
  congr 1
  funext r
  exact lX r.1 x
 rw[e];split
 ·rw[lO,lO];apply ku;intro r _;simp only[Function.comp_def];rw[lX];split<;>rfl
 ·simp
theorem dJ.sY (h:dJ U F Y A T):F Y.rn/\dK U Y.rn .i64 bO (iQ A.runs)/\∀(σ':Hp) (rs:List (Nat×Nat)),Kb U σ' Y.rn->dK σ' Y.rn .i64 bO (iQ rs)->dJ σ' F Y {A with runs:=rs} T:=by
 obtain⟨G,j,⟨g,r⟩,_,a⟩:=h.step .runs;refine⟨j _ g,r,λσ' rs p m=>?_⟩;exact a σ' _ _ T G _ h.lay.q9 h.tl NN (p.ext.sub λb d=>by subst d;exact g) (λb d=>.inl d) ⟨g,m⟩ (A3 j λb d=>d)
theorem N3 (h:dJ U F Y A T)(x:Int)(hf:∀r∈A.runs,r.1<=1000000){R:aN}(hR:∀σ',Ext F U σ'->dJ σ' (Grow F U) Y (Kc A x) T->R (VA A x) σ') :
 Xd.c (aW Y.p) x U R:=by
 refine Xd.o ?_;unfold Xd.v;obtain⟨N,K,m⟩:=h.sY;refine HM h (cD rfl (bL (h.hd.rM rfl ⟨_,K,?_⟩)));rw[SP];cases hr:(A.runs.find? λr=>(r.1:Int)==x)with
 | none=>
  have e1:VA A x=8:=by unfold VA qC;rw[hr];rfl
  have e2:Kc A x=A:=by unfold Kc qC;rw[hr]
  have:=hR U (Ext.refl _ _) (by rw[e2];exact h.mono λb _ a=>.inl a);rw[e1]at this;exact cE rfl this
 | some r=>
  have e1:VA A x=0:=by unfold VA qC;rw[hr];rfl
  have e2:Kc A x=Ul {A with runs:=A.runs.filter λq=>!((q.1:Int)==x)} r:=by unfold Kc qC;rw[hr]
  have H:=uu hr;have u:(r.1:Int)=x:=by simpa using uR hr
  refine cD rfl (bL (h.hd.rM rfl ⟨_,K,λs G _ D=>?_⟩));have o1:=G _ rfl;have d:dK s Y.rn .i64 bO (cN (iQ A.runs) x):=D;rw[Wk9]at d;have w:=m s _ o1 d;simp only[zg,qG];refine nw (cs:=[.int .i64 x,.int .i64 (r.2:Int)]) λL Q g y=>?_;have B:=w.cut.bP g;have C:cV ⟨some ⟨s.size,0,none⟩,1,1⟩ 2 (rV [r]) L (· = s.size):=by
   refine⟨rfl,.inr ⟨_,0,_,rfl,rfl,y.q,λj S=>?_⟩⟩;have:rV [r]=[.int .i64 (r.1:Int),.int .i64 (r.2:Int)]:=rfl;rw[this,u,zH]
  refine Fs B C (λb _ a P=>by have:=P.2;omega) aA (λq J=>by simp at J;subst J;exact hf _ H) λv3 M E=>?_;have z:Ext F U v3:=(o1.ext.sub λb a=>by subst a;exact N).trans ((aF.to g).trans (M.sub λb a=>a.1));have:=hR v3 z (by
   rw[e2];exact E.mono λb _ a=>by
    rcases a with a|a
    ·exact .inl a.1
    ·exact .inr (by have:=o1.1;omega))
  rw[e1]at this;exact this
theorem VQ (rs:List (Nat×Nat)):∀A:AR,(UH A rs).tb=A.tb/\(UH A rs).room=A.room/\(UH A rs).cR=A.cR/\(UH A rs).cG=A.cG/\(UH A rs).runs=A.runs/\(UH A rs).n=A.n:=by
 induction rs with
 | nil=>intro A;exact⟨rfl,rfl,rfl,rfl,rfl,rfl⟩
 | cons r rs ih=>intro A;exact ih (Ul A r)
theorem UN (A:AR)(k:Int)(xs:List Int):(ZZ A k xs).tb=A.tb/\(ZZ A k xs).room=A.room/\(ZZ A k xs).cR=A.cR/\(ZZ A k xs).runs=A.runs/\(ZZ A k xs).n=A.n:=by
 unfold ZZ;split
 ·split
  ·exact⟨(VQ _ _).1,(VQ _ _).2.1,(VQ _ _).2.2.1,(VQ _ _).2.2.2.2.1,(VQ _ _).2.2.2.2.2⟩
  ·exact⟨rfl,rfl,rfl,rfl,rfl⟩
 ·exact⟨rfl,rfl,rfl,rfl,rfl⟩
theorem gR.qc (t:gR):∀xs∈t.tick.bs,xs∈t.bs:=λxs h=>tW h
theorem VE {α:Type}{l:List α}{k:Nat}{t:α}{f:α->α}(h:l[k]?=some t):l.modify k f=l.set k (f t):=by
 apply zt;intro i;rw[nG,tN];by_cases hi:k=i
 ·subst hi;have:=(cY.1 h).1;rw[zC rfl,zC this,h];simp
 ·simp[hi]
def Ei (A:AR)(Y:Lay)(k r:Nat)(c:cA)(t:gR)(out:Sl)(sls:List Sl)(j:Nat):Hp->Rg->Prop:=
 if j=k then λU G=>iU U G r c.batch A.room t.tick/\cV out 1 (sls.map qN) U G/\qU sls t.out U G else cM A Y j
theorem Ei.loc {k r:Nat}{c:cA}{t:gR}{out:Sl}{sls:List Sl}(j:Nat):dN (Ei A Y k r c t out sls j):=by
 unfold Ei;split
 ·exact λU m F G ⟨d,g,i⟩ b a=>⟨iU.loc _ _ _ _ d b a,cV.loc _ _ _ _ _ _ _ g b a,qU.loc _ _ _ _ _ _ i b a⟩
 ·exact cM.loc j
end Go.Ar
namespace Go.Bu
variable {n:Nat}{S:Nat->Bool}
theorem Up {m a k x:Nat}(h:Z5 n S m a k=some x):∃j,j<k/\m<=2^j/\a<=2^j/\(WW n S j).head?=some x/\∀i,i<j->m<=2^i->a<=2^i->WW n S i=[]:=by
 have xD:∀k,Z5 n S m a k=none->∀i,i<k->m<=2^i->a<=2^i->WW n S i=[]:=by
  intro k
  induction k with
  | zero=>intro _ i hi;omega
  | succ k ih=>
   intro hn i hi d b;rw[Z5]at hn;split at hn
   ·cases hn
   ·rename_i hn';by_cases e:i=k
    ·subst e;rw[zC ⟨d,b⟩]at hn;simpa using hn
    ·exact ih hn' i O d b
 induction k with
 | zero=>simp[Z5]at h
 | succ k ih=>
  rw[Z5]at h;split at h
  ·rename_i y hy;cases h;obtain⟨j,d,b⟩:=ih hy;exact⟨j,O,b⟩
  ·rename_i hn;split at h
   ·rename_i hc;exact⟨k,O,hc.1,hc.2,h,xD k hn⟩
   ·cases h
theorem HA {m a:Nat}:∀{k},Z5 n S m a k=none->∀i,i<k->m<=2^i->a<=2^i->WW n S i=[]
 | 0,_,i,hi,_,_=>by omega
 | k+1,hn,i,hi,h1,h2=>by
  rw[Z5]at hn;split at hn
  ·cases hn
  ·rename_i hn';by_cases e:i=k
   ·subst e;rw[zC ⟨h1,h2⟩]at hn;simpa using hn
   ·exact HA hn' i O h1 h2
theorem ly (hb:Bounded S n){m a x:Nat}(h:ZD n S m a=some x):x+m<=n/\∀y,x<=y->y<x+m->S y=true:=by
 obtain⟨j,_,r,_,g,_⟩:=Up h;have b:x∈WW n S j:=List.mem_of_head? g;obtain⟨q,rfl,d⟩:=(Ks hb).1 b;have:=Qd hb (Z2.1 d).1;exact⟨O,λy i p=>UB d (QJ.2 O)⟩
end Go.Bu
namespace Go.Ar
open Go Go.Vc Go.Proofs
open Go.Bu (ZH Ki ZD)
variable {U:Hp}{F H:Rg}{p hs:Nat}{A:AR}{sp:Sp}{Y:Lay}{T:Nat->Hp->Rg->Prop}
structure W2 (U:Hp) (F H:Rg) (Y:Lay) (A:AR) (T:Nat->Hp->Rg->Prop) (sp:Sp):Prop where
 a:dJ U F Y A T
 s:dO U H Y.hs sp
 d:∀b,F b->¬H b
 g:Gl U
 o:jd F
 o2:jd H
def iV (F H:Rg):Rg:=λb=>F b\/H b
theorem W2.l5 (h:W2 U F H Y A T sp){σ':Hp}{A':AR}(e:Ext F U σ')(ha:dJ σ' F Y A' T):W2 σ' F H Y A' T sp:=
 ⟨ha,dN.bS dO.loc h.s e λb _ a i=>h.d b i a,h.d,h.g.bS e h.o,h.o,h.o2⟩
theorem W2.space (h:W2 U F H Y A T sp){σ':Hp}{sp':Sp}(e:Ext H U σ')(hs:dO σ' H Y.hs sp'):W2 σ' F H Y A T sp':=
 ⟨dN.bS dJ.loc h.a e λb _ i j=>h.d b i j,hs,h.d,h.g.bS e h.o2,h.o,h.o2⟩
theorem W2.bP (h:W2 U F H Y A T sp){σ':Hp}(e:aF U σ'):W2 σ' F H Y A T sp:=⟨h.a.bP e,h.s.bP e,h.d,h.g.bP e,h.o,h.o2⟩
theorem W2.cut (h:W2 U F H Y A T sp):W2 U (Cut F U) (Cut H U) Y A T sp:=⟨h.a.cut,dN.cut dO.loc h.s,λb i j=>h.d b i.1 j.1,h.g,h.o.sub λb i=>i.1,h.o2.sub λb i=>i.1⟩
theorem W2.pE (h:W2 U F H Y A T sp){σ':Hp}{A':AR}(e:Ext F U σ')(ha:dJ σ' (Grow F U) Y A' T):W2 σ' (Grow F U) (Cut H U) Y A' T sp:=
 ⟨ha,dN.bS dO.loc (dN.cut dO.loc h.s) e λb _ a j=>h.d b j a.1,λb a i=>by
  rcases a with a|a
  ·exact h.d b a i.1
  ·have:=i.2;omega,h.g.bS e h.o,h.o.grow h.g,h.o2.sub λb a=>a.1⟩
theorem W2.JF (h:W2 U F H Y A T sp){K:Option Addr->Prop}(hK:K (some ⟨Y.hs,0,none⟩)):fX (Addr.add ⟨Y.p,0,none⟩ 1) U K:=h.a.hd.rP rfl hK
theorem J7 (st:List Nat)(a m:Nat):Hm st a (m+1)=jb (Hm st a m) ((a+m:Nat):Int):=by
 unfold Hm;rw[qQ,zo,vK];rfl
theorem MF {a m:Int}(h:fF sp a m≠0):gp sp a m=sp:=by unfold gp;rw[zB h]
theorem Sa {size:Nat}(h1:1<=size)(h:∀j,1<=j->j*size+size<=sp.st.length->fF sp ((j*size:Nat):Int) (size:Int)≠0):dB sp size=none:=by
 unfold dB;rw[oJ];intro x hx;obtain⟨j,b,rfl⟩:=zE.1 hx;rw[ze]at b;have d:(j+1)*size<=sp.st.length:=ky (mD size b) (AI _ _);rw[zp,Nat.one_mul]at d;by_cases h0:j=0
 ·subst h0;simp
 ·have:=h j O d;have a:(fF sp ((j*size:Nat):Int) (size:Int)==0)=false:=by simpa only[mP]using this
  rw[a,uC];simp
theorem RL {size j:Nat}(h1:1<=size)(h0:1<=j)(hf:j*size+size<=sp.st.length)(hm:fF sp ((j*size:Nat):Int) (size:Int)=0)(h:∀i,1<=i->i<j->fF sp ((i*size:Nat):Int) (size:Int)≠0):dB sp size=some (j*size):=by
 unfold dB;have m:j<sp.st.length/size:=by
  rw[Nat.lt_iff_add_one_le,Nat.le_div_iff_mul_le h1,zp,Nat.one_mul];exact hf
 have a:List.range (sp.st.length/size)=List.range j++(j::(List.range (sp.st.length/size-j-1)).map (j+1 + ·)):=by
  apply zt;intro i;rw[List.getElem?_append,yL];by_cases hi:i<j
  ·rw[zC hi,nD O,nD hi]
  ·rw[zB hi];by_cases hij:i=j
   ·subst hij;rw[pK,Bd,nD m]
   ·rw[show i-j=(i-j-1)+1 by omega,AD,zZ];by_cases hl:i<sp.st.length/size
    ·rw[nD hl,nD O];simp only[zg]
     congr 1;omega
    ·rw[zX (by rw[yL];omega),zX (by rw[yL];omega)];rfl
 rw[a,zo,List.find?_append];have b:((List.range j).map (· * size)).find? (λ(s:Nat)=>s != 0&&fF sp s size==0)=none:=by
  rw[oJ];intro x hx;obtain⟨i,hi,rfl⟩:=zE.1 hx;rw[ze]at hi;by_cases h0:i=0
  ·subst h0;simp
  ·have:=h i O hi;have d:(fF sp ((i*size:Nat):Int) (size:Int)==0)=false:=by simpa only[mP]using this
   rw[d,uC];simp
 rw[b,zR,vR];have:(j*size != 0&&fF sp ((j*size:Nat):Int) (size:Int)==0)=true:=by
  rw[hm];have p:0<j*size:=Nat.mul_pos O O;have g:j*size≠0:=by omega
  simp[g]
 rw[this];rfl
theorem M9 (h:W2 U F H Y A T sp){size:Nat}(h1:size=16\/size=32\/size=64){R:aO}(h0:Hk A sp size=none->∀σ',Ext (iV F H) U σ'->W2 σ' F H Y A T sp->R false σ')
 (hR:∀A' sp',Hk A sp size=some (A',sp')->∀σ',Ext (iV F H) U σ'->W2 σ' F H Y A' T sp'->R true σ'):Zg.c (aW Y.p) (size:Int) U R:=by
 refine Zg.o ?_;unfold Zg.v;have hn2:sp.st.length<=1024:=by obtain⟨q,r,l,B,hh⟩:=h.s;exact hh.n2
 have es:∀{a b:Hp},Ext H a b->Ext (iV F H) a b:=λe=>e.sub λb P=>.inr P;have ea:∀{a b:Hp},Ext F a b->Ext (iV F H) a b:=λe=>e.sub λb P=>.inl P;have d:∀j,j*size+size=(j+1)*size:=λj=>by rw[zp,Nat.one_mul]
 refine Qz (a:=bO) (λ(t:Int) v=>∃j:Nat,t=((j*size:Nat):Int)/\1<=j/\j*size<=1024+64/\Ext (iV F H) U v/\W2 v F H Y A T sp/\∀i,1<=i->i<j->i*size+size<=sp.st.length->fF sp ((i*size:Nat):Int) (size:Int)≠0) (λt _=>2000-t.toNat)
  ⟨1,O,zD _,O,Ext.refl _ _,h,λi h1 h2=>O⟩ ?_
 rintro t v ⟨j,rfl,hj,P,e,z,y⟩;refine cT (m:=j*size+size) O O (bL (z.JF (Lr z.s (cP (λhlt=>?_) λhge=>?_))))
 ·have hf:j*size+size<=sp.st.length:=by omega
  refine bL (z.JF (Pt z.s z.g z.o2 _ _ λv2 e2 C=>?_));refine cO (λQ=>?_) λQ=>?_
  ·have L:fF sp ((j*size:Nat):Int) (size:Int)≠0:=by simpa using Q
   rw[MF L]at C;refine cT (m:=(j+1)*size) (by rw[←d];omega) (by rw[←d];omega) ⟨⟨j+1,rfl,O,by rw[←d];omega,e.trans (es e2),z.space e2 C,λi x K G=>?_⟩,by rw[←d];omega⟩;by_cases hij:i=j
   ·subst hij;exact L
   ·exact y i x O G
  ·have X:fF sp ((j*size:Nat):Int) (size:Int)=0:=by simpa using Q
   have V:=z.space e2 C;have M:∀i,i<j->i*size+size<=sp.st.length:=λi hi=>by
    have:(i+1)*size<=j*size:=mD _ hi;rw[d];omega
   have J:=RL (sp:=sp) O hj hf X λi x K=>y i x K (M i K);have E:Hk A sp size=some ({A with st:=Hm A.st (j*size/16) (size/16),S:=Ki A.n A.S ((j*size:Nat):Int) size},gp sp ((j*size:Nat):Int) size):=by unfold Hk;rw[J]
   have hd16:(j*size)%16=0:=by
    rcases h1 with rfl|rfl|rfl
    ·omega
    ·omega
    ·omega
   refine nz aB (cT (m:=j*size/16) (by rw[Ye O];simp) O ?_);refine Qz (a:=bO) (λ(t:Int) w=>∃i:Nat,t=((j*size/16+i:Nat):Int)/\i<=size/16/\Ext (iV F H) U w/\W2 w F H Y {A with st:=Hm A.st (j*size/16) i} T (gp sp ((j*size:Nat):Int) size)) (λt _=>200-t.toNat)
    ⟨0,O,O,e.trans (es e2),V⟩ ?_
   rintro t w ⟨i,rfl,hi,ew,u⟩;refine cT (m:=j*size+size) O O (nz aB (cT (m:=(j*size+size)/16) (by rw[Ye O];simp) O (cP (λhlt2=>?_) λhge2=>?_)))
   ·refine bL (u.a.hd.rP rfl (u.a.BJ _ λZ t2 N D=>?_));refine cT (m:=j*size/16+(i+1)) O O ⟨⟨i+1,rfl,O,ew.trans (ea N),?_⟩,O⟩;rw[J7];exact u.l5 N D
   ·have W:i=size/16:=by omega
    subst W;refine bL (u.a.hd.rP rfl (u.a.xr _ _ λZ t2 N D=>?_));exact hR _ _ E Z (ew.trans (ea N)) (u.l5 N D)
 ·have J:=Sa (sp:=sp) (size:=size) O λi x G=>by
   by_cases hij:i<j
   ·exact y i x hij G
   ·have:j*size<=i*size:=mD _ O;omega
  have E:Hk A sp size=none:=by unfold Hk;rw[J]
  exact h0 E v e z
theorem PX {m a:Nat}(h1:1<=m)(h2:m<=64)(ha:a=1\/a=2\/a=4\/a=8\/a=16):Go.Bu.fQ (m:Int) (a:Int)=true:=by
 have b:Go.Bu.fA (a:Int)=true:=by rcases ha with rfl|rfl|rfl|rfl|rfl<;>decide
 unfold Go.Bu.fQ;rw[b];simp only[we,zF,zV];omega
theorem W2.take (h:W2 U F H Y A T sp){m a:Nat}(hok:Go.Bu.fQ (m:Int) (a:Int)=true){R:Int->Int->Hp->Prop}(h0:ZD A.n A.S m a=none->∀σ',Ext F U σ'->W2 σ' F H Y A T sp->R 0 6 σ')
 (h1:∀x,ZD A.n A.S m a=some x->x+m<=A.n->∀σ',Ext F U σ'->W2 σ' F H Y {A with S:=Go.Bu.take A.S x (x+m)} T sp->R (x:Int) 0 σ'):XZ.c (aW Y.fr) (m:Int) (a:Int) U R:=by
 have b:Go.Bu.Bounded A.S A.n:=by obtain⟨p,r,i,_⟩:=h.a.free;exact i.jD
 refine h.a.xf _ _ λσ' e j=>?_;have d:=h.l5 e j;cases ht:ZD A.n A.S m a with
 | none=>
  have e1:Go.Bu.iW A.n A.S (m:Int) (a:Int)=6:=by unfold Go.Bu.iW;rw[hok,zC rfl];simp only[dH];rw[ht]
  have e2:Go.Bu.jj A.n A.S (m:Int) (a:Int)=0:=by unfold Go.Bu.jj;rw[hok,zC rfl];simp only[dH];rw[ht]
  have g:Go.Bu.ji A.n A.S (m:Int) (a:Int)=A.S:=by unfold Go.Bu.ji;rw[hok,zC rfl];simp only[dH];rw[ht]
  rw[e1,e2];rw[g]at d;exact h0 ht σ' e d
 | some x=>
  have e1:Go.Bu.iW A.n A.S (m:Int) (a:Int)=0:=by unfold Go.Bu.iW;rw[hok,zC rfl];simp only[dH];rw[ht]
  have e2:Go.Bu.jj A.n A.S (m:Int) (a:Int)=x:=by unfold Go.Bu.jj;rw[hok,zC rfl];simp only[dH];rw[ht]
  have g:Go.Bu.ji A.n A.S (m:Int) (a:Int)=Go.Bu.take A.S x (x+m):=by unfold Go.Bu.ji;rw[hok,zC rfl];simp only[dH];rw[ht]
  rw[e1,e2];rw[g]at d;exact h1 x ht (Go.Bu.ly b ht).1 σ' e d
theorem Wm0 {size:Nat}{A':AR}{sp':Sp}(h:Hk A sp size=some (A',sp')):A'.n=A.n:=by
 unfold Hk at h;split at h
 ·cases h
 ·cases h;rfl
def Fits (U:Hp)(F H F' H':Rg):Prop:=(∀b,F' b->Grow F U b)/\∀b,H' b->H b
theorem LK (h:W2 U F H Y A T sp){m a no:Nat}(h1:1<=m)(h2:m<=64)(ha:a=1\/a=2\/a=4\/a=8\/a=16)(hn1:1<=no)(hn2:no<=1000){R:Int->Int->Hp->Prop}
 (h0:(dC A sp m a no).1=none->∀σ',Ext (iV F H) U σ'->W2 σ' F H Y (dC A sp m a no).2.1 T (dC A sp m a no).2.2->R 0 6 σ')
 (hR:∀x,(dC A sp m a no).1=some x->x+m<=A.n->∀σ' F' H',Fits U F H F' H'->Ext (iV F H) U σ'->W2 σ' F' H' Y (dC A sp m a no).2.1 T (dC A sp m a no).2.2->R (x:Int) 0 σ') :
 Y1.c (aW Y.p) (m:Int) (a:Int) (no:Int) U R:=by
 refine Y1.o ?_;unfold Y1.v;have G:=PX h1 h2 ha;have es:∀{a b:Hp},Ext H a b->Ext (iV F H) a b:=λe=>e.sub λb j=>.inr j;have s:∀{a b:Hp},Ext F a b->Ext (iV F H) a b:=λe=>e.sub λb j=>.inl j;have fin:∀(v:Hp) (x:Nat) (A1:AR) (sp1:Sp),Ext (iV F H) U v->x+m<=A.n->W2 v F H Y {A1 with S:=Go.Bu.take A1.S x (x+m)} T sp1->dC A sp m a no=(some x,dT A1 x m no,sp1) →
  bW (some ⟨Y.p,0,none⟩) λW=>fX (W.add 3) v λX=>XV.c X (x:Int) (m:Int) v λt55 r=>bW (some ⟨Y.p,0,none⟩) λV=>fX (V.add 4) r λQ=>YA.c Q (x:Int) (m:Int) (no:Int) r λt63 v3=>R (x:Int) 0 v3:=by
  intro v x A1 sp1 e hxm z y;have L:x<=1000000:=by have:=h.a.lay.n2;omega
  refine bL (z.a.hd.rP rfl (z.a.ξ _ _ λr t2 e2 N=>?_));have g:=z.l5 e2 N;refine bL (g.a.hd.rP rfl (g.a.Set x m L hn1 hn2 λv3 t3 e3 Z=>?_));have P:=g.pE e3 Z;refine hR x (by rw[y]) hxm v3 (Grow F r) (Cut H r) ⟨λb j=>?_,λb j=>j.1⟩ ((e.trans (s e2)).trans (s e3)) (by rw[y];exact P);rcases j with j|j
  ·exact .inl j
  ·exact .inr (ky (e.trans (s e2)).1 j)
 refine bL (h.a.hd.rP rfl (h.take G (λE v e z=>?_) λx E B v e z=>?_))
 ·refine Jn.intro (cE rfl ?_);have M:(if(a:Int)>(m:Int)then(a:Int)else(m:Int))=((max m a:Nat):Int):=by
   by_cases hgt:(a:Int)>(m:Int)
   ·rw[zC hgt];omega
   ·rw[zB hgt];omega
  rw[M];refine Qz (a:=bO) (λ(t:Int) w=>w=v/\(t=16\/t=32/\16<max m a\/t=64/\32<max m a)) (λt _=>100-t.toNat) ⟨rfl,.inl rfl⟩ ?_;rintro(t:Int) w ⟨rfl,hcase⟩;have ab:a<=16:=by omega
  refine cP (λhlt=>?_) λhge=>?_
  ·have:t=16\/t=32:=by omega
   rcases this with rfl|rfl
   ·exact ar O O ⟨⟨rfl,O⟩,by decide⟩
   ·exact ar O O ⟨⟨rfl,O⟩,by decide⟩
  ·have K:t=((KB (max m a):Nat):Int):=by
    unfold KB;by_cases c1:max m a<=16
    ·rw[zC c1];omega
    ·rw[zB c1];by_cases c2:max m a<=32
     ·rw[zC c2];omega
     ·rw[zB c2];omega
   subst K;have aa:KB (max m a)=16\/KB (max m a)=32\/KB (max m a)=64:=by omega
   refine M9 z aa (λy σ' J u=>?_) λA' C y σ' J u=>?_
   ·have d:dC A sp m a no=(none,A,sp):=by unfold dC;rw[E];simp only;rw[y]
    exact cE rfl (h0 (by rw[d]) σ' ((s e).trans J) (by rw[d];exact u))
   ·refine cD rfl (bL (u.a.hd.rP rfl (u.take G (λD r e2 g=>?_) λx D B r e2 g=>?_)))
    ·have d:dC A sp m a no=(none,A',C):=by unfold dC;rw[E];simp only;rw[y];simp only;rw[D]
     exact cE rfl (h0 (by rw[d]) r (((s e).trans J).trans (s e2)) (by rw[d];exact g))
    ·have d:dC A sp m a no=(some x,dT A' x m no,C):=by unfold dC;rw[E];simp only;rw[y];simp only;rw[D]
     exact cD rfl (fin r x A' C (((s e).trans J).trans (s e2)) (by rw[←Wm0 y];exact B) g d)
 ·have d:dC A sp m a no=(some x,dT A x m no,sp):=by unfold dC;rw[E]
  refine Jn.intro (cD rfl (cD rfl (fin v x A sp (s e) B z d)))
theorem Fits.refl:Fits U F H F H:=⟨λb a=>.inl a,λb a=>a⟩
theorem W2.mono {F' H':Rg}(h:W2 U F H Y A T sp)(hF:jd F')(hF2:∀b,b<U.size->F b->F' b)(hH:∀b,H' b->H b)(hH2:∀b,b<U.size->H b->H' b)(hd:∀b,F' b->¬H' b):W2 U F' H' Y A T sp:=
 ⟨h.a.mono hF2,dN.mono dO.loc h.s hH2,hd,h.g,hF,h.o2.sub hH⟩
theorem Tn (h:W2 U F H Y A T sp)(k:Int){R:aN}(hR:∀σ' F' H',Fits U F H F' H'->Ext (iV F H) U σ'->W2 σ' F' H' Y (cQ A sp k).1 T (cQ A sp k).2->R (Vu A sp k) σ') :
 Yi.c (aW Y.p) k U R:=by
 refine Yi.o ?_;unfold Yi.v;refine UT h.a k (λD=>?_) λx hx Q=>?_
 ·have e1:Vu A sp k=1:=by unfold Vu;rw[D];rfl
  have e2:cQ A sp k=(A,sp):=by unfold cQ;rw[D];rfl
  have:=hR U F H Fits.refl (Ext.refl _ _) (by rw[e2];exact h);rw[e1]at this;exact cE rfl this
 ·subst hx;have D:A.ck (x:Int)=true:=by unfold AR.ck;simp;omega
  obtain⟨c,S,q,t,r,J,z,X,_,_,V⟩:=h.a.at_ Q;have ht2:=h.a.lay.sj;obtain⟨_,_,_,N,hp4,_⟩:=V;refine cD rfl (bL (h.a.hd.rS rfl (h.a.yo (d:=1) J O ?_)));simp only[zB (show ¬(1=0) by omega),zT];refine cT (m:=x+1) O O ?_;have Z:Vu A sp x=match (dC A sp c.aG 1 (x+1)).1 with
   | some y=>oe c S y
   | none=>6:=by unfold Vu;rw[D,zC rfl];simp only[dH];rw[J,z];rfl
  have eS:cQ A sp x=match dC A sp c.aG 1 (x+1)with
   | (some y,A',w)=>(if oe c S y=0 then{A' with cG:=A'.cG.set x (iv c S y)}else A',w)
   | (none,A',w)=>(A',w):=by unfold cQ;rw[D,zC rfl];simp only[dH];rw[J,z];rfl
  refine LK (a:=1) h N O (.inl rfl) O O (λC σ' e u=>?_) λy C hyn σ' F' H' i e u=>?_
  ·have:=hR σ' F H Fits.refl e;rw[Z,eS,C]at this;generalize dC A sp c.aG 1 (x+1)=g at *;obtain⟨g1,g2,g3⟩:=g;simp only at C;subst C;exact cE rfl (this u)
  ·have B:(dC A sp c.aG 1 (x+1)).2.1.tb=A.tb/\(dC A sp c.aG 1 (x+1)).2.1.cG=A.cG:=by
    unfold dC;split
    ·exact⟨rfl,rfl⟩
    ·split
     ·exact⟨rfl,rfl⟩
     ·rename_i A1 sp1 hga;have:A1.tb=A.tb/\A1.cG=A.cG:=by
       unfold Hk at hga;split at hga
       ·cases hga
       ·cases hga;exact⟨rfl,rfl⟩
      split
      ·exact this
      ·exact this
   have s:=λσ' F' H'=>hR σ' F' H';rw[Z,eS]at s;generalize dC A sp c.aG 1 (x+1)=g at *;obtain⟨g1,A',w⟩:=g;simp only at C u B s;subst C;simp only at s;have hWc:=u;obtain⟨G,M,⟨ps,hC⟩,_,E⟩:=u.a.uM X (by rw[B.1];exact J) (by rw[B.2];exact z);have hn2:=h.a.lay.n2;refine cD rfl (bL (u.a.hd.rS rfl (u.a.ma X (WmO hC O (λh9 v e2=>?_) λW v ps' e2 P=>?_))))
   ·have:=s v F' H' i (e.fY e2) (by rw[h9];exact u.bP e2);rw[h9]at this;exact this
   ·have L:=E v _ _ (Grow G σ') _ e2 (λb j=>j) P (GC M λb j=>j);have K:=u.pE (e2.sub M) L;have:=s v (Grow F' σ') (Cut H' σ') ⟨λb j=>?_,λb j=>i.2 b j.1⟩ (e.dW (e2.sub M) λb j=>?_) (by rw[W];exact K)
    ·rw[W]at this;exact this
    ·rcases j with j|j
     ·exact i.1 b j
     ·exact .inr (ky e.1 j)
    ·rcases i.1 b j with h1|h1
     ·exact .inl (.inl h1)
     ·exact .inr h1
theorem Gj (A:AR)(sp:Sp)(m a no:Nat):(dC A sp m a no).2.1.tb=A.tb/\(dC A sp m a no).2.1.cG=A.cG/\(dC A sp m a no).2.1.cR=A.cR/\(dC A sp m a no).2.1.room=A.room/\(dC A sp m a no).2.1.runs=A.runs/\(dC A sp m a no).2.1.n=A.n:=by
 unfold dC;split
 ·exact⟨rfl,rfl,rfl,rfl,rfl,rfl⟩
 ·split
  ·exact⟨rfl,rfl,rfl,rfl,rfl,rfl⟩
  ·rename_i A1 sp1 hga;have:A1.tb=A.tb/\A1.cG=A.cG/\A1.cR=A.cR/\A1.room=A.room/\A1.runs=A.runs/\A1.n=A.n:=by
    unfold Hk at hga;split at hga
    ·cases hga
    ·cases hga;exact⟨rfl,rfl,rfl,rfl,rfl,rfl⟩
   split
   ·exact this
   ·exact this
theorem Wow:∀a:Nat,a<17->1<=a->((bits .and .i64 (a:Int) ((a:Int)-1) != 0) = !(a==1||(a==2||(a==4||(a==8||a==16))))):=by decide
theorem Na (h:W2 U F H Y A T sp)(m a:Int){R:Int->Int->Hp->Prop}(hR:∀σ' F' H',Fits U F H F' H'->Ext (iV F H) U σ'->W2 σ' F' H' Y (cC A sp m a).1 T (cC A sp m a).2->R ((QE A sp m a:Nat):Int) (Q6 A sp m a) σ') :
 Xe.c (aW Y.p) m a U R:=by
 refine Xe.o ?_;unfold Xe.v;have K:KO m a=false->R 0 1 U:=λu=>by
  have e1:Q6 A sp m a=1:=by unfold Q6;rw[u];rfl
  have e2:cC A sp m a=(A,sp):=by unfold cC;rw[u];rfl
  have e3:QE A sp m a=0:=by unfold QE;rw[u];rfl
  have:=hR U F H Fits.refl (Ext.refl _ _) (by rw[e2];exact h);rw[e1,e3]at this;exact this
 have d:¬(1<=m/\m<=64/\(a=1\/a=2\/a=4\/a=8\/a=16))->R 0 1 U:=λhn=>K (by
  rw[←rY];intro hp;unfold KO at hp;simp at hp;omega)
 refine HM h.a (cD rfl (bX.intro (cP (λc1=>bX.intro (cE rfl (bX.intro (cE rfl (bX.intro (cE rfl (cE rfl (d O)))))))) λc1=>?_)));refine bX.intro (cP (λc2=>bX.intro (cE rfl (bX.intro (cE rfl (cE rfl (d O)))))) λc2=>?_);refine bX.intro (cP (λV=>bX.intro (cE rfl (cE rfl (d O)))) λV=>?_);refine bX.intro (cP (λZ=>cE rfl (d O)) λZ=>ar O O ?_);obtain⟨y,rfl⟩:=zc (show 0<=m by omega);obtain⟨z,rfl⟩:=zc (show 0<=a by omega);rw[Wow z O O];refine cO (λL=>?_) λL=>?_
 ·refine d (λhh=>?_);simp at L;omega
 ·have hz:z=1\/z=2\/z=4\/z=8\/z=16:=by
   simp at L;omega
  have u:KO (y:Int) (z:Int)=true:=by
   unfold KO;simp;omega
  have N:Q6 A sp y z=if(dC A sp y z 41).1.isSome then 0 else 6:=by unfold Q6;rw[u,zC rfl];rfl
  have Q:QE A sp y z=(dC A sp y z 41).1.getD 0:=by unfold QE;rw[u,zC rfl];rfl
  have S:cC A sp y z=match dC A sp y z 41 with
   | (some x,A',r)=>({A' with runs:=cC.mset2 A'.runs x y},r)
   | (none,A',r)=>(A',r):=by unfold cC;rw[u,zC rfl];rfl
  refine LK (no:=41) h O O hz O O (λB σ' e w=>?_) λx B hyn σ' F' H' s e w=>?_
  ·have:=hR σ' F H Fits.refl e;rw[N,S,Q,B]at this;generalize dC A sp y z 41=g at *;obtain⟨W,g2,g3⟩:=g;simp only at B;subst B;exact cE rfl (this w)
  ·have j:=λσ' F' H'=>hR σ' F' H';rw[N,S,Q]at j;generalize dC A sp y z 41=g at *;obtain⟨W,A',r⟩:=g;simp only at B w j;subst B;simp only at j;obtain⟨X,hm,C⟩:=w.a.sY;refine cD rfl (bL (w.a.hd.rM rfl ⟨_,_,rfl,hm,λv P J=>?_⟩));have D:dK v Y.rn .i64 bO (dA (iQ A'.runs) (x:Int) (y:Int)):=J;rw[Β]at D;have G:=C v _ P D;have e2:Ext F' σ' v:=P.ext.sub λb M=>by subst M;exact X
   have E:=w.l5 e2 G;exact j v F' H' s (e.dW e2 λb M=>by
    rcases s.1 b M with h1|h1
    ·exact .inl (.inl h1)
    ·exact .inr h1) E
end Go.Ar
namespace Go.Proofs
open Go.Vc
set_option maxRecDepth 100000
end Go.Proofs
namespace Go.Ar
open Go Go.Vc Go.Proofs
variable {U:Hp}{Q:Rg}{key:Nat->Nat}
end Go.Ar
namespace Go.Ar
open Go Go.Vc Go.Proofs
variable {U:Hp}{F:Rg}{p q:Nat}{st:List Nat}
end Go.Ar
namespace Go.Ar
open Go Go.Vc Go.Proofs
open Go.Bu (ZH Ki ZD)
variable {U:Hp}{F H:Rg}{p hs:Nat}{A:AR}{sp:Sp}{Y:Lay}{T:Nat->Hp->Rg->Prop}
theorem dJ.cR (h:dJ U F Y A (cM A Y)){k q:Nat}{c:cA}{t:gR}(h1:Y.gC[k]?=some q)(h2:A.tb[k]?=some c)(h3:A.cR[k]?=some t):∃G:Rg,(∀b,G b->F b)/\iU U G q c.batch A.room t:=by
 obtain⟨G,a,hi,_⟩:=h.uE h1 h2 h3;exact⟨G,a,hi⟩
def part {α:Type}(f:cA->α->Nat)(tb:List cA)(l:List α)(i:Nat):Nat:=(((tb.zip l).take i).map λx=>f x.1 x.2).sum
end Go.Ar
namespace Go.Ar
open Go Go.Vc Go.Proofs
variable {U:Hp}
theorem IE:∀(xs:List (Int×Int×Int)),wh xs=true↔∀(i:Nat) a b,xs[i]?=some a->xs[i+1]?=some b->a.1<b.1
 | []=>by simp[wh]
 | [x]=>by simp[wh]
 | x::y::l=>by
  have ih:=IE (y::l);show(decide (x.1<y.1)&&wh (y::l))=true↔_;rw[zF,ih,zV];constructor
  ·rintro⟨h1,h2⟩ i a b g d;cases i with
   | zero=>simp at g d;subst g;subst d;exact h1
   | succ i=>exact h2 i a b (by simpa using g) (by simpa using d)
  ·intro h;exact⟨h 0 x y rfl rfl,λi a b g d=>h (i+1) a b (by simpa using g) (by simpa using d)⟩
theorem QU (xs:List (Int×Int×Int)):QZ xs=true↔1<=xs.length/\xs.length<=40/\(∀(i:Nat) t,xs[i]?=some t->US t.1 t.2.1 t.2.2=true)/\∀(i:Nat) a b,xs[i]?=some a->xs[i+1]?=some b->a.1<b.1:=by
 unfold QZ;simp only[zF,zV,IE,kx];constructor
 ·rintro⟨h1,h2,h3,h4⟩;exact⟨h1,h2,λi t d=>h3 t (zG d),h4⟩
 ·rintro⟨h1,h2,h3,h4⟩;exact⟨h1,h2,λt d=>by obtain⟨i,hi⟩:=zP d;exact h3 i t hi,h4⟩
theorem Bh {s:Sl}{xs:List (Int×Int×Int)}(ha:iu U s xs){R:aO}(hR:∀σ',aF U σ'->R (QZ xs) σ'):Z0.c s U R:=by
 refine Z0.o ?_;unfold Z0.v;have Q:∀σ',aF U σ'->¬(1<=xs.length/\xs.length<=40/\(∀(i:Nat) t,xs[i]?=some t->US t.1 t.2.1 t.2.2=true)/\∀(i:Nat) a b,xs[i]?=some a->xs[i+1]?=some b->a.1<b.1)->R false σ':=λσ' e hn=>by
  have:=hR σ' e;have hf:QZ xs=false:=by rw[←rY,QU];exact hn
  rw[hf]at this;exact this
 have W:=ha.1;refine bX.intro (cP (λc1=>cE rfl (Q U (Ext.refl _ _) λh=>O)) λc1=>?_);refine cP (λc2=>Q U (Ext.refl _ _) λh=>O) λc2=>?_;refine Qz (a:=bO) (λ(t:Int) v=>∃i:Nat,t=(i:Int)/\i<=xs.length/\aF U v/\(∀(j:Nat) t,j<i->xs[j]?=some t->US t.1 t.2.1 t.2.2=true)/\∀(j:Nat) a b,j+1<i->xs[j]?=some a->xs[j+1]?=some b->a.1<b.1) (λt _=>xs.length-t.toNat)
  ⟨0,rfl,O,Ext.refl _ _,λj t h=>O,λj a b h=>O⟩ ?_
 rintro t v ⟨i,rfl,hi,e,X,Z⟩;have P:=Qv ha e;refine cP (λhlt=>?_) λhge=>?_
 ·have S:i<xs.length:=by omega
  have A:xs[i]?=some xs[i]:=cW S;generalize xs[i]=r at A;obtain⟨x,y,z⟩:=r;refine AF P A ?_;refine nw (cs:=[.int .i64 0,.int .i64 0,.int .i64 0]) λv2 hz2 e2 b2=>b2.s1 aA λv3 o3 b3=>b3.s1 aA λv4 o4 b4=>b4.s1 aA λv5 o5 H=>?_;have e5:aF v v5:=Ext.fresh (Ext.fresh (Ext.fresh e2 o3.ext λi hi=>O) o4.ext λi hi=>O) o5.ext λi hi=>by omega
  refine Jn.intro ⟨(· = v5),rfl,⟨x,λm E=>by rw[E,add_lit,H.cell];rfl,⟨y,λm E=>by rw[E,add_lit,H.cell];rfl,⟨z,λm E=>by rw[E,add_lit,H.cell];rfl,?_⟩⟩⟩⟩;refine LA x y z λv7 Y=>?_;have w:=(Ext.trans e e5).trans Y;have F:(US x y z=false\/∃a,0<i/\xs[i-1]?=some a/\x<=a.1)->R false v7:=λN=>Q v7 w λJ=>by
   rcases N with N|⟨a,K,hb1,hb2⟩
   ·have:=J.2.2.1 i _ A;simp only at this;rw[N]at this;cases this
   ·have:=J.2.2.2 (i-1) a (x,y,z) hb1 (by rw[show i-1+1=i by omega];exact A);simp only at this;omega
  cases hc:US x y z
  ·exact cE rfl (cE rfl (F (.inl hc)))
  ·have next:(∀a,0<i->xs[i-1]?=some a->a.1<x)->Ar .i64 ((i:Int)+1) λg=>(∃i:Nat,g=(i:Int)/\i<=xs.length/\aF U v7/\(∀(j:Nat) t,j<i->xs[j]?=some t->US t.1 t.2.1 t.2.2=true)/\∀(j:Nat) a b,j+1<i->xs[j]?=some a->xs[j+1]?=some b->a.1<b.1)/\xs.length-g.toNat<xs.length-(i:Int).toNat:=by
    intro K;refine cT (m:=i+1) O O ⟨⟨i+1,rfl,O,w,λj t hj B=>?_,λj a b hj p d=>?_⟩,O⟩
    ·by_cases hji:j=i
     ·subst hji;rw[A]at B;cases B;exact hc
     ·exact X j t O B
    ·by_cases hji:j+1=i
     ·subst hji;rw[A]at d;cases d;exact K a O p
     ·exact Z j a b O p d
   refine cD rfl (cP (λK=>?_) λK=>cD rfl (next λa kr=>O))
   have u:xs[i-1]?=some (xs[i-1]' O):=cW _;generalize xs[i-1]' O=r at u;obtain⟨L,y',z'⟩:=r;have C:=Qv ha w;obtain⟨b,o,g1,g2,g3,g4,g5⟩:=C.2 (i-1) L y' z' u;have V:=Y.bV H id;refine cT (m:=i-1) O O ?_;rw[g1];refine ix O O ?_;have G:cell v7 ⟨b,o+(((i-1:Nat):Int)).toNat*3+0,none⟩=some (.int .i64 L):=by simpa using g3
   have fin:If (decide (x<=L)) (R false v7) (Ar .i64 ((i:Int)+1) λg=>(∃i:Nat,g=(i:Int)/\i<=xs.length/\aF U v7/\(∀(j:Nat) t,j<i->xs[j]?=some t->US t.1 t.2.1 t.2.2=true)/\∀(j:Nat) a b,j+1<i->xs[j]?=some a->xs[j+1]?=some b->a.1<b.1)/\xs.length-g.toNat<xs.length-(i:Int).toNat):=by
    refine cP (λM=>F (.inr ⟨_,O,u,M⟩)) λhgt=>next λa _ D=>?_
    rw[u]at D;cases D;simp only;omega
   rw[add_lit b o];exact⟨V.rI rfl (eB G fin),eB G (V.rI rfl fin)⟩
 ·have:i=xs.length:=by omega
  subst this;have J:QZ xs=true:=(QU xs).2 ⟨O,O,λi t B=>X i t (cY.1 B).1 B,λi a b p d=>Z i a b (cY.1 d).1 p d⟩;have:=hR v e;rw[J]at this;exact this
end Go.Ar
namespace Go.Ar
open Go Go.Vc Go.Proofs
open Go.Bu (ZH Ki ZD)
variable {U:Hp}{F H:Rg}{p hs:Nat}{A:AR}{sp:Sp}{Y:Lay}{T:Nat->Hp->Rg->Prop}
open Classical in
theorem _root_.Go.Vc.Sep.put {L:Type}{C C':L->Hp->Rg->Prop}{U:Hp}{F G:Rg}(hC:∀i,dN (C i))(h:Sep C U F)(i:L)(hd:∀b,G b->¬F b)(hj:∀j,j≠i->C' j=C j)(hi:C' i U G)(hL:dN (C' i)):Sep C' U λb=>F b\/G b:=by
 obtain⟨ρ,h⟩:=h;refine⟨λb=>if G b then i else ρ b,λj=>?_⟩
 by_cases hji:j=i
 ·subst hji;exact hL.mono hi λb _ d=>⟨.inr d,zC d⟩
 ·rw[hj j hji];refine(hC j).mono (h j) λb _ a=>⟨.inl a.1,?_⟩;show(if G b then i else ρ b)=j
  rw[zB λg=>hd b g a.1];exact a.2
def gG (A:AR)(Y:Lay)(T:Nat->Hp->Rg->Prop)(cs:List Value):Lb->Hp->Rg->Prop
 | .hd=>iy Y.p cs
 | i=>AC A Y T i
theorem gG.loc {cs:List Value}(hT:∀k,dN (T k)):∀i,dN (gG A Y T cs i)
 | .hd=>iy.loc _ _
 | .dF=>AC.loc (A:=A) (Y:=Y) hT .dF
 | .free=>AC.loc (A:=A) (Y:=Y) hT .free
 | .od=>AC.loc (A:=A) (Y:=Y) hT .od
 | .own=>AC.loc (A:=A) (Y:=Y) hT .own
 | .dS=>AC.loc (A:=A) (Y:=Y) hT .dS
 | .cS=>AC.loc (A:=A) (Y:=Y) hT .cS
 | .runs=>AC.loc (A:=A) (Y:=Y) hT .runs
 | .cG k=>AC.loc (A:=A) (Y:=Y) hT (.cG k)
 | .cR k=>AC.loc (A:=A) (Y:=Y) hT (.cR k)
theorem Tz:gG A Y T (k8 Y)=AC A Y T:=by
 funext i;cases i<;>rfl
theorem Es {cs:List Value}(hT:∀k,dN (T k))(h:Sep (gG A Y T cs) U F)(hlen:A.cG.length<=Y.fM.length)(hl:Y.fM.length<=40){vb cp ty:Nat}(hb:bY U vb [.pointer (some ⟨cp,0,none⟩)])(hvb:¬F vb){K:Sl->Hp->Prop}
 (hK:∀s' σ',Ext F U σ'->Sep (gG A {Y with dS:=s',fM:=Y.fM++[cp]} T cs) σ' (Grow F U)->K s' σ'):App Y.dS 1 8 ty [.pointer none] ⟨some ⟨vb,0,none⟩,1,1⟩ U K:=by
 obtain⟨G,d,hi,_,a⟩:=h.j5 (gG.loc hT) .dS;have hi:bT Y.dS 1 (fO Y.fM) U G:=hi;have p:Y.dS.len=Y.fM.length:=by have:=hi.1;simp[fO]at this;omega
 refine hi.app (ys:=[.pointer (some ⟨cp,0,none⟩)]) rfl rfl ?_ (by simp[dV]) aC aC nh λs' σ' i e m=>hK s' σ' (e.sub d) ?_
 ·intro j u hu;rw[add_lit,zH,hb.cell];exact hu
 refine(Sep.loc (gG.loc hT)).mono (a σ' (gG A {Y with dS:=s',fM:=Y.fM++[cp]} T cs) (Grow G U) (λj g=>?_) e (λb hb=>hb) ?_ (gG.loc hT _)) λb _ hb=>GC d (λb hb=>hb) b hb
 ·cases j<;>first|rfl|exact absurd rfl g|skip
  rename_i k;show j6 (Y.fM++[cp])[k]? A.tb[k]? A.cG[k]?=j6 Y.fM[k]? A.tb[k]? A.cG[k]?;rcases kv k Y.fM.length with h1|h1
  ·rw[zd h1]
  ·have:A.cG[k]?=none:=zX O;rw[this]
   funext U F
   unfold j6;cases(Y.fM++[cp])[k]?<;>cases Y.fM[k]?<;>cases A.tb[k]?<;>rfl
 ·show bT s' 1 (fO (Y.fM++[cp])) σ' (Grow G U);have:fO (Y.fM++[cp])=fO Y.fM++[.pointer (some ⟨cp,0,none⟩)]:=by simp[fO]
  rw[this];exact m
theorem MW (hlen:A.cR.length<=Y.gC.length)(tp:Nat)(s':Sl):cM A {Y with cS:=s',gC:=Y.gC++[tp]}=cM A Y:=by
 funext k
 unfold cM;simp only;rcases kv k Y.gC.length with h1|h1
 ·rw[zd h1]
 ·have:A.cR[k]?=none:=zX O;rw[this]
  funext U F
  unfold lF;cases(Y.gC++[tp])[k]?<;>cases Y.gC[k]?<;>cases A.tb[k]?<;>rfl
theorem JK {cs:List Value}(h:Sep (gG A Y (cM A Y) cs) U F)(hlen:A.cR.length<=Y.gC.length)(hl:Y.gC.length<=40){vb tp ty:Nat}(hb:bY U vb [.pointer (some ⟨tp,0,none⟩)])(hvb:¬F vb){K:Sl->Hp->Prop}
 (hK:∀s' σ',Ext F U σ'->Sep (gG A {Y with cS:=s',gC:=Y.gC++[tp]} (cM A {Y with cS:=s',gC:=Y.gC++[tp]}) cs) σ' (Grow F U)->K s' σ'):App Y.cS 1 8 ty [.pointer none] ⟨some ⟨vb,0,none⟩,1,1⟩ U K:=by
 have d:∀k,dN (cM A Y k):=λk=>cM.loc k;obtain⟨G,g,hi,_,a⟩:=h.j5 (gG.loc d) .cS;have hi:bT Y.cS 1 (fO Y.gC) U G:=hi;have p:Y.cS.len=Y.gC.length:=by have:=hi.1;simp[fO]at this;omega
 refine hi.app (ys:=[.pointer (some ⟨tp,0,none⟩)]) rfl rfl ?_ (by simp[dV]) aC aC nh λs' σ' r e i=>hK s' σ' (e.sub g) ?_
 ·intro j u hu;rw[add_lit,zH,hb.cell];exact hu
 rw[MW hlen];refine(Sep.loc (gG.loc d)).mono (a σ' (gG A {Y with cS:=s',gC:=Y.gC++[tp]} (cM A Y) cs) (Grow G U) (λj m=>?_) e (λb hb=>hb) ?_ (gG.loc d _)) λb _ hb=>GC g (λb hb=>hb) b hb
 ·cases j<;>first|rfl|exact absurd rfl m
 ·show bT s' 1 (fO (Y.gC++[tp])) σ' (Grow G U);have:fO (Y.gC++[tp])=fO Y.gC++[.pointer (some ⟨tp,0,none⟩)]:=by simp[fO]
  rw[this];exact i
theorem Jz {cs:List Value}(hT:∀k,dN (T k))(h:Sep (gG A Y T cs) U F){i:Nat}{v:Value}(hi:i<cs.length){K:aP}(hK:∀σ',Ext F U σ'->Sep (gG A Y T (cs.set i v)) σ' F->K σ'):dQ (Addr.add ⟨Y.p,0,none⟩ i) v U K:=by
 obtain⟨G,m,d,_,g⟩:=h.j5 (gG.loc hT) .hd;have d:iy Y.p cs U G:=d;refine d.2.s1 O λσ' o b=>hK σ' (o.ext.sub λb a=>by subst a;exact m _ d.1) ?_;rw[zH]at b;refine(Sep.loc (gG.loc hT)).mono (g σ' (gG A Y T (cs.set i v)) G (λj r=>?_) (o.ext.sub λb a=>by subst a;exact d.1) (λb a=>.inl a) ⟨d.1,b⟩ (gG.loc hT _)) λb _ a=>A3 m (λb a=>a) b a;cases j<;>first|rfl|exact absurd rfl r
theorem mV {cs:List Value}(h:Sep (gG A Y T cs) U F):bY U Y.p cs/\F Y.p:=by
 obtain⟨G,b,d,a⟩:=h.get .hd;exact⟨a,b _ d⟩
theorem Ru {cs:List Value}{i cp tp:Nat}{c:cA}{ss:List cH}{t:gR}{ps:List (Nat×Nat)}{Gc Gt:Rg}(h:Sep (gG A Y (cM A Y) cs) U F)(hlc:A.cG.length=i)(hlt:A.cR.length=i)(hcp:Y.fM[i]?=some cp)(htp:Y.gC[i]?=some tp)(hc:A.tb[i]?=some c)
 (hC:fI U Gc cp c ps ss) (hTf:iU U Gt tp c.batch A.room t) (d1:∀b,Gc b->¬F b) (d2:∀b,Gt b->¬F b) (d3:∀b,Gc b->¬Gt b) :
 Sep (gG {A with cG:=A.cG++[ss],cR:=A.cR++[t]} Y (cM {A with cG:=A.cG++[ss],cR:=A.cR++[t]} Y) cs) U λb=>(F b\/Gc b)\/Gt b:=by
 have m:∀k,dN (cM A Y k):=λk=>cM.loc k;have u:Sep (gG {A with cG:=A.cG++[ss]} Y (cM A Y) cs) U λb=>F b\/Gc b:=by
  refine h.put (gG.loc m) (.cG i) d1 (λj d=>?_) ?_ (gG.loc m _)
  ·cases j<;>first|rfl|skip
   rename_i k;have p:k≠i:=λe=>d (by rw[e]);show j6 Y.fM[k]? A.tb[k]? (A.cG++[ss])[k]?=j6 Y.fM[k]? A.tb[k]? A.cG[k]?;rcases kv k i with h2|h2
   ·rw[zd O]
   ·have g:(A.cG++[ss])[k]?=none:=zX (by rw[zK,s8];omega);have r:A.cG[k]?=none:=zX O;rw[g,r]
  ·show j6 Y.fM[i]? A.tb[i]? (A.cG++[ss])[i]? U Gc;rw[hcp,hc,zr O,hlc,pK];exact⟨ps,hC⟩
 refine u.put (gG.loc m) (.cR i) (λb s a=>?_) (λj d=>?_) ?_ (gG.loc (λk=>cM.loc k) _)
 ·rcases a with a|a
  ·exact d2 b s a
  ·exact d3 b a s
 ·cases j<;>first|rfl|skip
  rename_i k;have p:k≠i:=λe=>d (by rw[e]);show lF Y.gC[k]? A.tb[k]? A.room (A.cR++[t])[k]?=lF Y.gC[k]? A.tb[k]? A.room A.cR[k]?;rcases kv k i with h2|h2
  ·rw[zd O]
  ·have g:(A.cR++[t])[k]?=none:=zX (by rw[zK,s8];omega);have r:A.cR[k]?=none:=zX O;rw[g,r]
 ·show lF Y.gC[i]? A.tb[i]? A.room (A.cR++[t])[i]? U Gt;rw[htp,hc,zr O,hlt,pK];exact hTf
open Classical in
noncomputable def jI {L:Type}(C:L->Hp->Rg->Prop)(S:L->Prop)(i:L):Hp->Rg->Prop:=if S i then C i else A7
theorem jI.loc {L:Type}{C:L->Hp->Rg->Prop}{S:L->Prop}(hC:∀i,dN (C i))(i:L):dN (jI C S i):=by
 unfold jI;split
 ·exact hC i
 ·exact A7.loc
theorem jI.put {L:Type}{C:L->Hp->Rg->Prop}{S:L->Prop}{F G:Rg}(hC:∀i,dN (C i))(h:Sep (jI C S) U F)(i:L)(hd:∀b,G b->¬F b)(hi:C i U G):Sep (jI C λj=>S j\/j=i) U λb=>F b\/G b:=by
 refine h.put (jI.loc hC) i hd (λj a=>?_) ?_ (jI.loc hC i)
 ·unfold jI;by_cases hS:S j
  ·rw[zC (.inl hS),zC hS]
  ·rw[zB (λh=>hS (h.resolve_right a)),zB hS]
 ·unfold jI;rw[zC (.inr rfl)];exact hi
theorem jI.all {L:Type}{C:L->Hp->Rg->Prop}{S:L->Prop}{F:Rg}(h:Sep (jI C S) U F)(hS:∀i,S i):Sep C U F:=by
 have:jI C S=C:=by
  funext i;unfold jI;rw[zC (hS i)]
 rw[this]at h;exact h
theorem jI.one {L:Type}{C:L->Hp->Rg->Prop}(S:L->Prop)(l:L)(h:∀i,S i->C i U λ_=>False):Sep (jI C S) U λ_=>False:=by
 refine⟨λ_=>l,λi=>?_⟩;have:(λ(b:Nat)=>False/\l=i)=λ_=>False:=by funext b;simp
 rw[this];unfold jI;by_cases hS:S i
 ·rw[zC hS];exact h i hS
 ·rw[zB hS];trivial
theorem Nq {tb:List cA}:∀v∈gH tb,dV v=true:=by
 intro v hv;simp only[gH,List.mem_flatMap]at hv;obtain⟨c,_,a⟩:=hv;simp at a;rcases a with rfl|rfl|rfl<;>rfl
theorem Ge {s:Sl}{xs:List (Int×Int×Int)}(ha:iu U s xs)(hv:QZ xs=true){i:Nat}{c:cA}(hc:(xs.map QI)[i]?=some c):xs[i]?=some ((c.size:Int),(c.aG:Int),(c.batch:Int))/\c.ok:=by
 rw[zZ,oH]at hc;obtain⟨⟨x,y,z⟩,b,rfl⟩:=hc;obtain⟨c,a,m,j,d,g⟩:=Bc (((QU xs).1 hv).2.2.1 i _ b);simp only at j d g;rw[m,b,j,d,g];exact⟨rfl,a⟩
theorem Uq {s:Sl}{xs:List (Int×Int×Int)}(ha:iu U s xs)(hv:QZ xs=true){R:Sl->Hp->Prop}(hR:∀s' σ',aF U σ'->cV s' 3 (gH (xs.map QI)) σ' (λb=>U.size<=b)->R s' σ'):Wo.c s U R:=by
 refine Wo.o ?_;unfold Wo.v;have C:=(QU xs).1 hv;have z:=ha.1;have w:0<(xs.map QI).length:=by rw[zk];omega
 have B:(xs.map QI)[0]?=some (xs.map QI)[0]:=cW w;obtain⟨L,d,a,_⟩:=ha.2 0 _ _ _ (Ge ha hv B).1;refine cD (by rw[a];rfl) (nw (cs:=[]) λv G e1 K=>?_);have x:=Qv ha e1;refine(bT.nil v (λb=>U.size<=b) 3 (some ⟨U.size,0,none⟩)).app (ys:=gH (xs.map QI)) rfl (by rw[Ux,zk];omega) ?_ Nq aC aC O λs' H J D g=>hR s' H (Ext.fresh e1 D λi hi=>hi) ?_
 ·rw[a];intro j u hu;have p:=(cY.1 hu).1;rw[Ux,zk]at p;have hi:j/3<(xs.map QI).length:=by rw[zk];omega
  have r:(xs.map QI)[j/3]?=some (xs.map QI)[j/3]:=cW hi;generalize (xs.map QI)[j/3]=c at r;have m:=yZ r;obtain⟨b,o,y,_,E,F,A⟩:=x.2 (j/3) _ _ _ (Ge ha hv r).1;rw[a]at y;cases y;rw[add_lit];rcases(by omega:j=3*(j/3)\/j=3*(j/3)+1\/j=3*(j/3)+2)with hj|hj|hj
  ·rw[hj]at hu;rw[m.1]at hu;cases hu;rw[show d+j=d+j/3*3 by omega];exact E
  ·rw[hj]at hu;rw[m.2.1]at hu;cases hu;rw[show d+j=d+j/3*3+1 by omega];exact F
  ·rw[hj]at hu;rw[m.2.2]at hu;cases hu;rw[show d+j=d+j/3*3+2 by omega];exact A
 ·rw[rH]at g;refine aH.mono g.fW λb _ m=>?_;rcases m with h|h
  ·exact h
  ·omega
def fG (n room:Nat)(tb:List cA):AR:={n:=n,room:=room,tb:=tb,S:=Go.Bu.iB,st:=List.replicate n 0,ow:=λ_=>0,cG:=List.replicate tb.length [],cR:=List.replicate tb.length ⟨0,[]⟩,runs:=[]}
def jq (n room:Nat)(tb:List cA)(i:Nat):AR:={fG n room tb with cG:=List.replicate i [],cR:=List.replicate i ⟨0,[]⟩}
def lH (xs:List (Int×Int×Int))(n:Nat)(room:Int):Int:=if QZ xs then(if 32<=n/\n%16=0/\0<=room/\room<=8 then 0 else 1)else 2
def S0:Lb->Prop
 | .dS | .cS | .cG _ | .cR _=>True
 | _=>False
theorem JY {i cp tp:Nat}{c:cA}{ss:List cH}{t:gR}{ps:List (Nat×Nat)}{Gc Gt:Rg}{dS cS:Sl}(hpos:Y.fM.length=i/\Y.gC.length=i)
 (h:Sep (gG A {Y with dS:=dS,cS:=cS,fM:=Y.fM++[cp],gC:=Y.gC++[tp]} (cM A {Y with dS:=dS,cS:=cS,fM:=Y.fM++[cp],gC:=Y.gC++[tp]}) (k8 Y)) U F)
 (hlc:A.cG.length=i) (hlt:A.cR.length=i) (hc:A.tb[i]?=some c) (hC:fI U Gc cp c ps ss) (hTf:iU U Gt tp c.batch A.room t) (d1:∀b,Gc b->¬F b) (d2:∀b,Gt b->¬F b) (d3:∀b,Gc b->¬Gt b) {K:aP}
 (hK:∀σ' Y',Ext F U σ'->Y'.p=Y.p->Y'.hs=Y.hs->Y'.fM.length=i+1->Y'.gC.length=i+1->Sep (gG {A with cG:=A.cG++[ss],cR:=A.cR++[t]} Y' (cM {A with cG:=A.cG++[ss],cR:=A.cR++[t]} Y') (k8 Y')) σ' (λb=>(F b\/Gc b)\/Gt b)->K σ') :
 bW (some ⟨Y.p,0,none⟩) λa93=>dQ (a93.add 5) (.slice dS.a dS.len dS.cap) U λv25=>bW (some ⟨Y.p,0,none⟩) λa95=>dQ (a95.add 6) (.slice cS.a cS.len cS.cap) v25 K:=by
 have r:∀k,dN (cM A {Y with dS:=dS,cS:=cS,fM:=Y.fM++[cp],gC:=Y.gC++[tp]} k):=λk=>cM.loc k;refine bL (Jz (Y:={Y with dS:=dS,cS:=cS,fM:=Y.fM++[cp],gC:=Y.gC++[tp]}) r h (i:=5) (by simp[k8]) λy e1 s=>bL (Jz (Y:={Y with dS:=dS,cS:=cS,fM:=Y.fM++[cp],gC:=Y.gC++[tp]}) r s (i:=6) (by simp[k8]) λw e2 u=>?_));have j:=(fI.loc (c:=c) (ps:=ps) (ss:=ss) (p:=cp)).bS ((fI.loc (c:=c) (ps:=ps) (ss:=ss) (p:=cp)).bS hC e1 λb _ g d=>d1 b g d) e2 λb _ g d=>d1 b g d;have m:=(iU.loc (p:=tp) (batch:=c.batch) (room:=A.room) (t:=t)).bS ((iU.loc (p:=tp) (batch:=c.batch) (room:=A.room) (t:=t)).bS hTf e1 λb _ g d=>d2 b g d) e2 λb _ g d=>d2 b g d;have x:=Ru (cp:=cp) (tp:=tp) u hlc hlt (by simp only;rw[zr O,hpos.1,pK];rfl) (by simp only;rw[zr O,hpos.2,pK];rfl) hc j m d1 d2 d3;exact hK w {Y with dS:=dS,cS:=cS,fM:=Y.fM++[cp],gC:=Y.gC++[tp]} (e1.trans e2) rfl rfl (by simp[hpos.1]) (by simp[hpos.2]) x
theorem rO {cs:List Value}{σ':Hp}(hT:∀k,dN (T k))(h:Sep (gG A Y T cs) U F)(e:aF U σ'):Sep (gG A Y T cs) σ' F:=(Sep.loc (gG.loc hT)).bP h e
theorem La {cs:List Value}(hT:∀k,dN (T k))(h:Sep (gG A Y T cs) U F):Sep (gG A Y T cs) U (Cut F U):=(Sep.loc (gG.loc hT)).cut h
theorem NO (n room:Nat)(tb:List cA)(i:Nat):({jq n room tb i with cG:=(jq n room tb i).cG++[[]],cR:=(jq n room tb i).cR++[⟨0,[]⟩]}:AR)=jq n room tb (i+1):=by
 unfold jq;simp only[←Dv]
theorem OF (n room:Nat)(tb:List cA):jq n room tb tb.length=fG n room tb:=rfl
theorem SA {i cp tp:Nat}{c:cA}{ss:List cH}{t:gR}{ps:List (Nat×Nat)}{Gc Gt:Rg}{z:Nat}(hF:∀b,F b->z<=b/\b<U.size)(hpos:Y.fM.length=i/\Y.gC.length=i)(hi:i<40)
 (h:Sep (gG A Y (cM A Y) (k8 Y)) U F) (hlc:A.cG.length=i) (hlt:A.cR.length=i) (hc:A.tb[i]?=some c) (hC:fI U Gc cp c ps ss) (hTf:iU U Gt tp c.batch A.room t) (d1:∀b,Gc b->¬F b/\z<=b/\b<U.size) (d2:∀b,Gt b->¬F b/\z<=b/\b<U.size) (d3:∀b,Gc b->¬Gt b) {J4:aP}
 (hK:∀σ' Y',Ext F U σ'->Y'.p=Y.p->Y'.hs=Y.hs->Y'.fM.length=i+1->Y'.gC.length=i+1->Sep (gG {A with cG:=A.cG++[ss],cR:=A.cR++[t]} Y' (cM {A with cG:=A.cG++[ss],cR:=A.cR++[t]} Y') (k8 Y')) σ' (λb=>z<=b)->J4 σ') :
 dY U λS=>bW (some ⟨Y.p,0,none⟩) λa80=>gJ S .s (a80.add 5) λ(t82:Sl)=>bW (some ⟨Y.p,0,none⟩) λa87=>gJ S .s (a87.add 6) λ(t89:Sl)=>
  (Nw (.cells #[.pointer (some ⟨cp,0,none⟩)] 202 (0,0)) U λn84 v21=>And (S v21) <|
   (App t82 1 8 202 [.pointer none] ⟨some n84,1,1⟩ v21 λt85 v22=>And (S v22)<|Nw (.cells #[.pointer (some ⟨tp,0,none⟩)] 204 (0,0)) v22 λn91 v23=>And (S v23)<|App t89 1 8 204 [.pointer none] ⟨some n91,1,1⟩ v23 λt92 v24=>And (S v24) <|
   bW (some ⟨Y.p,0,none⟩) λa93=>dQ (a93.add 5) (.slice t85.a t85.len t85.cap) v24 λv25=>bW (some ⟨Y.p,0,none⟩) λa95=>dQ (a95.add 6) (.slice t92.a t92.len t92.cap) v25 λv26=>J4 v26) ∧
   (Nw (.cells #[.pointer (some ⟨tp,0,none⟩)] 204 (0,0)) v21 λn911 v27=>And (S v27)<|App t82 1 8 202 [.pointer none] ⟨some n84,1,1⟩ v27 λt851 v28=>And (S v28)<|App t89 1 8 204 [.pointer none] ⟨some n911,1,1⟩ v28 λt921 v29=>And (S v29) <|
   bW (some ⟨Y.p,0,none⟩) λa931=>dQ (a931.add 5) (.slice t851.a t851.len t851.cap) v29 λv30=>bW (some ⟨Y.p,0,none⟩) λa951=>dQ (a951.add 6) (.slice t921.a t921.len t921.cap) v30 λv31=>J4 v31)) ∧
  (Nw (.cells #[.pointer (some ⟨tp,0,none⟩)] 204 (0,0)) U λn912 v32=>And (S v32)<|Nw (.cells #[.pointer (some ⟨cp,0,none⟩)] 202 (0,0)) v32 λn841 v33=>And (S v33) <|
  App t82 1 8 202 [.pointer none] ⟨some n841,1,1⟩ v33 λt852 v34=>And (S v34)<|App t89 1 8 204 [.pointer none] ⟨some n912,1,1⟩ v34 λt922 v35=>And (S v35) <|
  bW (some ⟨Y.p,0,none⟩) λa932=>dQ (a932.add 5) (.slice t852.a t852.len t852.cap) v35 λv36=>bW (some ⟨Y.p,0,none⟩) λa952=>dQ (a952.add 6) (.slice t922.a t922.len t922.cap) v36 λv37=>J4 v37):=by
 have G:∀k,dN (cM A Y k):=λk=>cM.loc k;have K:=fI.loc (c:=c) (ps:=ps) (ss:=ss) (p:=cp);have ab:=iU.loc (p:=tp) (batch:=c.batch) (room:=A.room) (t:=t);refine⟨λm=>bY m Y.p (k8 Y),(mV h).1,bL ⟨Y.dS,λm hm=>by rw[add_lit,hm.cell];rfl,bL ⟨Y.cS,λm hm=>by rw[add_lit,hm.cell];rfl,?_⟩⟩⟩;have D:∀(w:Hp) (F1:Rg) (b1 b2:Nat),aF U w->(∀b,F1 b->F b)->Sep (gG A Y (cM A Y) (k8 Y)) w F1->bY w b1 [.pointer (some ⟨cp,0,none⟩)]->bY w b2 [.pointer (some ⟨tp,0,none⟩)]->U.size<=b1->U.size<=b2 →
  App Y.dS 1 8 202 [.pointer none] ⟨some ⟨b1,0,none⟩,1,1⟩ w λt85 v28=>And (bY v28 Y.p (k8 Y))<|App Y.cS 1 8 204 [.pointer none] ⟨some ⟨b2,0,none⟩,1,1⟩ v28 λt92 v29=>And (bY v29 Y.p (k8 Y)) <|
   bW (some ⟨Y.p,0,none⟩) λa93=>dQ (a93.add 5) (.slice t85.a t85.len t85.cap) v29 λv30=>bW (some ⟨Y.p,0,none⟩) λa95=>dQ (a95.add 6) (.slice t92.a t92.len t92.cap) v30 λv31=>J4 v31:=by
  intro w F1 b1 b2 ew hF1 hw hb1 hb2 hz1 hz2;have y:∀b,F1 b->z<=b/\b<U.size:=λb d=>hF b (hF1 b d);have hsw:=ew.1;refine Es G hw O O hb1 (λg=>by have:=y _ g;omega) λs1 v28 E M=>?_;have aa:=(mV M).1;have L:Sep (gG A {Y with dS:=s1,fM:=Y.fM++[cp]} (cM A {Y with dS:=s1,fM:=Y.fM++[cp]}) (k8 Y)) v28 (Grow F1 w):=M;refine⟨aa,?_⟩;have ag:Sep (gG A {Y with dS:=s1,fM:=Y.fM++[cp]} (cM A {Y with dS:=s1,fM:=Y.fM++[cp]}) (k8 Y)) v28 (λb=>F1 b\/w.size<=b):=L;have ac:=E.bV hb2 λg=>by have:=y _ g;omega
  have hb2lt:=hb2.lt;refine JK ag aC aC ac (λg=>by
   rcases g with g|g
   ·have:=y _ g;omega
   ·omega) λs2 v29 e29 R=>?_
  refine⟨(mV R).1,?_⟩;have J:∀b,(F1 b\/w.size<=b)->F b\/U.size<=b:=λb d=>by
   rcases d with d|d
   ·exact .inl (hF1 b d)
   ·exact .inr O
  have j:Ext F U v29:=((aF.to ew).trans (E.sub hF1)).dW e29 J;have P:=K.bS hC j λb _ d g=>(d1 b d).1 g;have N:=ab.bS hTf j λb _ d g=>(d2 b d).1 g;have hs28:=E.1;refine JY (F:=Grow (λb=>F1 b\/w.size<=b) v28) hpos R hlc hlt hc P N (λb d g=>?_) (λb d g=>?_) d3 λw2 Y' e2 p1 p2 p3 p4 h2=>?_
  ·have:=d1 b d;rcases g with(g|g)|g
   ·exact this.1 (hF1 b g)
   ·omega
   ·omega
  ·have:=d2 b d;rcases g with(g|g)|g
   ·exact this.1 (hF1 b g)
   ·omega
   ·omega
  ·refine hK w2 Y' (j.dW e2 λb d=>?_) p1 p2 p3 p4 ((Sep.loc (gG.loc (λk=>cM.loc k))).mono h2 λb _ d=>?_)
   ·rcases d with(d|d)|d
    ·exact .inl (hF1 b d)
    ·exact .inr O
    ·exact .inr O
   ·have hz0:z<=U.size:=by have:=(d1 _ hC.fp);omega
    rcases d with(((d|d)|d)|d)|d
    ·exact(y b d).1
    ·omega
    ·omega
    ·exact(d1 b d).2.1
    ·exact(d2 b d).2.1
 have S0:∀{w:Hp},aF U w->bY w Y.p (k8 Y):=λe=>e.bV (mV h).1 id;refine⟨nw (cs:=[.pointer (some ⟨cp,0,none⟩)]) λv21 z21 u af=>⟨S0 u,?_,?_⟩,nw (cs:=[.pointer (some ⟨tp,0,none⟩)]) λv32 z32 B ah=>⟨S0 B,nw (cs:=[.pointer (some ⟨cp,0,none⟩)]) λv33 z33 x b33=>⟨S0 (Ext.trans B x),?_⟩⟩⟩
 ·-- row,box,row
  have h21:=rO G h u;refine Es G h21 O O af (λg=>by have:=hF _ g;omega) λs1 v22 W V=>⟨(mV V).1,?_⟩;have Q:Sep (gG A {Y with dS:=s1,fM:=Y.fM++[cp]} (cM A {Y with dS:=s1,fM:=Y.fM++[cp]}) (k8 Y)) v22 (Grow F v21):=V;have c22:=La (λk=>cM.loc k) Q;refine nw (cs:=[.pointer (some ⟨tp,0,none⟩)]) λv23 z23 H b23=>?_;have ad:=rO (λk=>cM.loc k) c22 H;refine⟨(mV ad).1,JK ad aC aC b23 (λg=>by have:=g.2;omega) λs2 v24 e24 X=>⟨(mV X).1,?_⟩⟩;have hs22:=W.1;have hs23:=H.1;have r:∀b,Cut (Grow F v21) v22 b->F b\/U.size<=b:=λb d=>by
   rcases d.1 with h|h
   ·exact .inl h
   ·exact .inr O
  have j:Ext F U v24:=((((aF.to u).trans W).fY H)).dW e24 r;have Z:=K.bS hC j λb _ d g=>(d1 b d).1 g;have ae:=ab.bS hTf j λb _ d g=>(d2 b d).1 g;refine JY (F:=Grow (Cut (Grow F v21) v22) v23) hpos X hlc hlt hc Z ae (λb d g=>?_) (λb d g=>?_) d3 λw2 Y' e2 p1 p2 p3 p4 h2=>?_
  ·have:=d1 b d;rcases g with g|g
   ·rcases g.1 with g|g
    ·exact this.1 g
    ·omega
   ·omega
  ·have:=d2 b d;rcases g with g|g
   ·rcases g.1 with g|g
    ·exact this.1 g
    ·omega
   ·omega
  ·refine hK w2 Y' (j.dW e2 λb d=>?_) p1 p2 p3 p4 ((Sep.loc (gG.loc (λk=>cM.loc k))).mono h2 λb _ d=>?_)
   ·rcases d with d|d
    ·exact r b d
    ·exact .inr O
   ·have hz0:z<=U.size:=by have:=(d1 _ hC.fp);omega
    rcases d with((d|d)|d)|d
    ·rcases r b d with h|h
     ·exact(hF b h).1
     ·omega
    ·omega
    ·exact(d1 b d).2.1
    ·exact(d2 b d).2.1
 ·-- box,row,row
  refine nw (cs:=[.pointer (some ⟨tp,0,none⟩)]) λv27 z27 C b27=>⟨S0 (Ext.trans u C),?_⟩;exact D v27 F U.size v21.size (Ext.trans u C) (λb d=>d) (rO G (rO G h u) C) (C.bV af id) b27 (zD _) O
 ·exact D v33 F v32.size U.size (Ext.trans B x) (λb d=>d) (rO G (rO G h B) x) b33 (x.bV ah id) O (zD _)
theorem AT {P:Hp->Rg->Prop}(hl:dN P){a:Nat}(h:P U λb=>a<=b):P U λb=>a<=b/\b<U.size:=hl.mono h λb d g=>⟨g,d⟩
theorem OU {n room:Nat}{tb:List cA}(h1:32<=n)(h2:n<=1024)(h3:n%16=0)(h4:room<=8)(h5:1<=tb.length)(h6:tb.length<=40)(h7:∀c∈tb,c.ok)(hc:Y.fM.length=tb.length)(ht:Y.gC.length=tb.length):fB (fG n room tb) Y:=
 ⟨hc,ht,by simp[fG],by simp[fG],h5,h6,h1,h2,h3,by simp[fG],h4,h7⟩
theorem Rf {s:Sl}{xs:List (Int×Int×Int)}(ha:iu U s xs)(hS:dO U H hs sp)(room:Int){R:Option Addr->Int->Hp->Prop}
 (h0:lH xs sp.st.length room≠0->∀σ',aF U σ'->R none (lH xs sp.st.length room) σ')
 (h1:lH xs sp.st.length room=0->∀σ' Y,aF U σ'->Y.hs=hs->dJ σ' (λb=>U.size<=b) Y (fG sp.st.length room.toNat (xs.map QI)) (cM (fG sp.st.length room.toNat (xs.map QI)) Y)->R (some ⟨Y.p,0,none⟩) 0 σ') :
 Kz.c s (some ⟨hs,0,none⟩) room U R:=by
 refine Kz.o ?_;unfold Kz.v;have hn2:sp.st.length<=1024:=by obtain⟨q,r,l,B,h⟩:=hS;exact h.n2
 refine Bh ha λv e=>?_;cases hv:QZ xs
 ·have e1:lH xs sp.st.length room=2:=by unfold lH;rw[hv];rfl
  have:=h0 (by rw[e1];decide) v e;rw[e1]at this;exact cE rfl this
 have eE:lH xs sp.st.length room=if 32<=sp.st.length/\sp.st.length%16=0/\0<=room/\room<=8 then 0 else 1:=by unfold lH;rw[hv,zC rfl]
 refine cD rfl (Lr (hS.bP e) ?_);have D:¬(32<=sp.st.length/\sp.st.length%16=0/\0<=room/\room<=8)->R none 1 v:=λhn=>by
  rw[zB hn]at eE;have:=h0 (by rw[eE];decide) v e;rw[eE]at this;exact this
 have tm:(((sp.st.length:Nat):Int).tmod 16)=((sp.st.length%16:Nat):Int):=by rw[Q1 O];simp
 refine bX.intro (cP (λc1=>bX.intro (cE rfl (bX.intro (cE rfl (cE rfl (D O)))))) λc1=>nz aB ?_);rw[tm,NT];refine bX.intro (cO (λc2=>bX.intro (cE rfl (cE rfl (D (λh=>by have:=h.2.1;simp[this]at c2))))) λc2=>?_);have c2':sp.st.length%16=0:=by simpa using c2
 refine bX.intro (cP (λc3=>cE rfl (D O)) λc3=>cP (λc4=>D O) λc4=>?_);obtain⟨V,rfl⟩:=zc (show 0<=room by omega);rw[zC O]at eE;have h1:=h1 eE;simp only[dH]at h1;have hva:=(QU xs).1 hv;have M:=Qv ha e;have hn1:32<=sp.st.length:=by omega
 generalize sp.st.length=n at *;have hlen:s.len=(xs.map QI).length:=by rw[zk];exact ha.1
 have hcl:∀{σ':Hp} {i:Nat} {c:cA},iu σ' s xs->(xs.map QI)[i]?=some c->xs[i]?=some ((c.size:Int),(c.aG:Int),(c.batch:Int))/\c.ok:=λh L=>Ge h hv L;have J:1<=(xs.map QI).length/\(xs.map QI).length<=40:=by rw[zk];omega
 refine Uq M hv λdF v5 e5 htab=>PH λW op e6 hop hP=>uL λA z7 e7 hm=>?_;generalize htbd:xs.map QI=tb at *;refine nw (cs:=[.slice dF.a dF.len dF.cap,.pointer (some ⟨hs,0,none⟩),.pointer none,.pointer none,.pointer (some ⟨op,0,none⟩),.slice none 0 0,.slice none 0 0,.map (some W.size)]) λv8 z8 e8 b8=>?_;refine Go.Bu.uw _ (λg=>absurd ⟨O,O⟩ g) λn' hn' _ _ v9 sb ms e9 hB hfp=>?_;have hnn:n=n':=by omega
 subst hnn;have b9:=e9.bV b8 id;refine bL (b9.s1 aA λaa gA b10=>TL O O c2' λK tp tq P htp htq hTk=>bL ((P.bV b10 id).s1 aA λv12 Q b12=>?_));have s5:=e5.1;have s6:=e6.1;have s9:=e9.1;have s10:=gA.1;have s11:=P.1;have s12:=Q.1;have hb8:=b8.lt;have x9:Ext (· = A.size) v9 v12:=(gA.ext.trans (aF.to P)).trans Q.ext;have x5:Ext (· = A.size) v5 v12:=(aF.to (Ext.trans (Ext.trans (Ext.trans e6 e7) e8) e9)).trans x9;have x6:Ext (· = A.size) W v12:=(aF.to (Ext.trans (Ext.trans e7 e8) e9)).trans x9;have x7:Ext (· = A.size) A v12:=(aF.to (Ext.trans e8 e9)).trans x9;have x11:Ext (· = A.size) K v12:=Q.ext;have p1:=aH.bS (AT aH htab) x5 λb _ g d=>by omega
 have p2:=(jl.loc (p:=op) (ow:=λ_=>0)).bS (AT jl.loc hP) x6 λb _ g d=>by omega
 have p3:dK v12 W.size .i64 bO []:=x7.fV (hm _ _) O;have p5:ug v8.size n Go.Bu.iB v12 (λb=>v8.size<=b/\b<v9.size):=(ug.loc _ _ _).bS (AT (ug.loc _ _ _) ⟨sb,ms,hB,hfp⟩) x9 λb _ g d=>by omega
 have p6:mT tp (List.replicate n 0) v12 (λb=>aa.size<=b/\b<K.size):=(mT.loc _ _).bS (AT (mT.loc _ _) ⟨tq,hTk,htp,htq⟩) x11 λb _ g d=>by omega
 let Y0:Lay:={p:=A.size,hs:=hs,fr:=v8.size,tr:=tp,op:=op,rn:=W.size,dF:=dF,dS:=⟨none,0,0⟩,cS:=⟨none,0,0⟩,fM:=[],gC:=[]}
 have b12':bY v12 A.size (k8 Y0):=b12
 let Cf:=gG (jq n V tb 0) Y0 (cM (jq n V tb 0) Y0) (k8 Y0)
 have u:∀i,dN (Cf i):=gG.loc λk=>cM.loc k;have q0:Sep (jI Cf S0) v12 λ_=>False:=jI.one S0 .hd λi hi=>by
  cases i<;>first|exact hi.elim|exact bT.nil _ _ _ _|exact trivial
 have q1:=jI.put u q0 .dF (G:=λb=>v.size<=b/\b<v5.size) (λb g d=>d) p1;have q2:=jI.put u q1 .own (G:=λb=>v5.size<=b/\b<W.size) (λb g d=>by
  rcases d with d|d
  ·exact d
  ·omega) p2
 have q3:=jI.put u q2 .runs (G:=λb=>b=W.size) (λb g d=>by
  rcases d with(d|d)|d
  ·exact d
  ·omega
  ·omega) ⟨rfl,p3⟩
 have q4:=jI.put u q3 .hd (G:=λb=>b=A.size) (λb g d=>by
  rcases d with((d|d)|d)|d
  ·exact d
  ·omega
  ·omega
  ·omega) ⟨rfl,b12'⟩
 have q5:=jI.put u q4 .free (G:=λb=>v8.size<=b/\b<v9.size) (λb g d=>by
  rcases d with(((d|d)|d)|d)|d
  ·exact d
  ·omega
  ·omega
  ·omega
  ·omega) p5
 have q6:=jI.put u q5 .od (G:=λb=>aa.size<=b/\b<K.size) (λb g d=>by
  rcases d with((((d|d)|d)|d)|d)|d
  ·exact d
  ·omega
  ·omega
  ·omega
  ·omega
  ·omega) p6
 have q7:Sep Cf v12 λb=>v.size<=b:=by
  refine(Sep.loc u).mono (jI.all q6 λi=>?_) λb _ d=>?_
  ·cases i<;>simp[S0]
  ·rcases d with(((((d|d)|d)|d)|d)|d)|d
   ·exact d.elim
   ·omega
   ·omega
   ·omega
   ·omega
   ·omega
   ·omega
 have e12:aF v v12:=Ext.fresh e5 x5 λi hi=>by omega
 have szv:=e.1;refine Qz (a:=bO) (λ(t:Int) w=>∃(i:Nat) (Y:Lay),t=(i:Int)/\i<=tb.length/\Y.p=A.size/\Y.hs=hs/\Y.fM.length=i/\Y.gC.length=i/\aF v w/\Sep (gG (jq n V tb i) Y (cM (jq n V tb i) Y) (k8 Y)) w (λb=>v.size<=b)) (λt _=>tb.length-t.toNat)
  ⟨0,Y0,rfl,O,rfl,rfl,rfl,rfl,e12,q7⟩ ?_
 rintro t w ⟨i,Y,rfl,hi,hYp,hYh,ab,hYt,ew,y⟩;refine cP (λhlt=>?_) λhge=>?_
 ·have hi':i<tb.length:=by omega
  have L:tb[i]?=some tb[i]:=cW hi';generalize tb[i]=c at L;have haw:=Qv M ew;obtain⟨hxi,hok⟩:=hcl haw L;refine AF haw hxi ?_;refine nw (cs:=[.int .i64 0,.int .i64 0,.int .i64 0]) λv14 hz14 e14 b14=>b14.s1 aA λv15 o15 b15=>b15.s1 aA λv16 o16 b16=>b16.s1 aA λv17 o17 b17=>?_;have N:aF w v17:=Ext.fresh (Ext.fresh (Ext.fresh e14 o15.ext λi hi=>O) o16.ext λi hi=>O) o17.ext λi hi=>by omega
  have x:bY v17 w.size [.int .i64 (c.size:Int),.int .i64 (c.aG:Int),.int .i64 (c.batch:Int)]:=b17;refine x.rI rfl (x.rI rfl (x.rI rfl (SZ hok λv18 cp E hcp1 hcp2 hCe=>?_)));have b18:=E.bV x id;obtain⟨_,_,_,_,_,_,Z,X⟩:=id hok;refine b18.rI rfl (LY Z X O λv19 tp2 C htp1 htp2 hTf=>Jn.intro ?_);have s14:=N.1;have s18:=E.1;have s19:=C.1;have sw:=ew.1;have hT:∀k,dN (cM (jq n V tb i) Y k):=λk=>cM.loc k;have h19:=rO hT (rO hT (rO hT (La hT y) N) E) C;have S:=hCe.bP C;rw[←hYp];refine SA (F:=Cut (λb=>v.size<=b) w) (z:=v.size) (ss:=[]) (t:=⟨0,[]⟩) (λb g=>⟨g.1,by have:=g.2;omega⟩) ⟨ab,hYt⟩ O h19 (by simp[jq]) (by simp[jq]) L S hTf (λb g=>?_) (λb g=>?_) (λb g hb2=>O) λw2 Y' e2 y1 y2 y3 y4 h2=>?_
  ·subst g;exact⟨λd=>by have:=d.2;omega,O,O⟩
  ·subst g;exact⟨λd=>by have:=d.2;omega,O,O⟩
  ·rw[NO]at h2;exact cT (m:=i+1) O O ⟨⟨i+1,Y',rfl,O,y1,y2.trans hYh,y3,y4,Ext.fresh (Ext.trans (Ext.trans (Ext.trans ew N) E) C) e2 λb g=>g.1,h2⟩,O⟩
 ·have:i=tb.length:=by omega
  subst this;rw[OF,Tz]at y;have hl:fB (fG n V tb) Y:=OU hn1 hn2 c2' O J.1 J.2 (λc L=>by
   obtain⟨j,hj⟩:=zP L;exact(hcl M hj).2) ab hYt
  have:=h1 w Y (Ext.trans e ew) hYh ⟨hl,λk=>cM.loc k,(Sep.loc (AC.loc λk=>cM.loc k)).mono y λb _ g=>ky szv g⟩;rw[hYp]at this;exact this
end Go.Ar
namespace Go.Vc
open Go
variable {U:Hp}{F:Rg}{s:Sl}{sz:Nat}{xs:List Value}
def dL (s:Sl)(sz:Nat)(xs:List Value):Hp->Rg->Prop:=λh F=>xs.length=s.len*sz/\(s.len=0/\s.cap=0\/∃b o cs,F b/\s.a=some ⟨b,o,none⟩/\bY h b cs/\s.len<=s.cap/\cs.length=o+s.cap*sz/\(cs.drop o).take xs.length=xs)
theorem dL.loc (s:Sl)(sz:Nat)(xs:List Value):dN (dL s sz xs):=λU g F G h d a=>by
 refine⟨h.1,h.2.imp id ?_⟩;rintro⟨b,o,cs,hq,ha,⟨e,he⟩,r⟩;have:=a b (bY.lt ⟨e,he⟩) hq;exact⟨b,o,cs,this.1,ha,⟨e,this.2.trans he⟩,r⟩
theorem dL.nil (h:Hp)(F:Rg)(sz:Nat)(a:Option Addr):dL ⟨a,0,0⟩ sz [] h F:=⟨by simp,.inl ⟨rfl,rfl⟩⟩
theorem bT.o (h:bT s sz xs U F):dL s sz xs U F:=⟨h.1,h.2.imp id λ⟨b,g,m,p,j,a,i,d⟩=>⟨b,0,g,m,p,j,a,O,by simpa using d⟩⟩
theorem dL.fW (h:dL s sz xs U F):cV s sz xs U F:=by
 refine⟨h.1,?_⟩;rcases h.2 with⟨hl,_⟩|⟨b,o,cs,hq,ha,hb,_,_,ht⟩
 ·left;have:=h.1;rw[hl]at this;simpa using this
 ·refine .inr ⟨b,o,cs,hq,ha,hb.q,λj a=>?_⟩;rw[←ht,zm,lB,zC a]
theorem dL.cap (h:dL s sz xs U F):s.len<=s.cap:=by
 rcases h.2 with⟨q1,q2⟩|⟨_,_,_,_,_,_,q,_⟩
 ·omega
 ·exact q
theorem dL.app {x:Sl}{bytes e:Nat}{zs ys:List Value}{K:Sl->Hp->Prop}(ho:dL s sz xs U F)(hz:zs.length=sz)
 (hy:ys.length=x.len*sz) (hr:Rd U x.a ys) (h1:∀v∈ys,dV v=true) (hb:(s.len+x.len)*bytes<=2^46) (hc:s.len+x.len<=2^62)
 (hx:0<x.len) (hK:∀s' h',s'.len=s.len+x.len->Ext F U h'->dL s' sz (xs++ys) h' (Grow F U)->K s' h'):App s sz bytes e zs x U K:=by
 refine⟨xs,ys,ho.1,hy,ho.fW.rd,hr,h1,hb,hc,λg=>?_,λr c i=>?_⟩
 ·rcases ho.2 with⟨hl,hcap⟩|⟨b,o,cs,hQ,ha,hk,hle,hcl,ht⟩
  ·omega
  ·rw[ha];simp only;rw[add_lit];have u:(s.len+x.len)*sz<=s.cap*sz:=mD _ g;rw[zp]at u;have d:=ho.1;refine V4 hk O λh' p m=>hK _ h' rfl (Ext.eU p hQ) ⟨?_,.inr ⟨b,o,_,.inl hQ,rfl,m,g,?_,?_⟩⟩
   ·simp[d,hy,zp]
   ·simp;omega
   ·rw[zK,d,kA];have e1:(cs.take (o+s.len*sz)++ys++cs.drop (o+s.len*sz+ys.length)).drop o=(cs.drop o).take (s.len*sz)++(ys++cs.drop (o+s.len*sz+ys.length)):=by
     rw[zl,List.drop_append_of_le_length (by rw[zY];omega),List.drop_take]
     congr 2;omega
    have j:(cs.drop o).take (s.len*sz)=xs:=by rw[←d];exact ht
    rw[e1,j,←zl,qg aE,lI aE]
 ·refine hK _ _ rfl (Ext.push _ _ _) ⟨by simp[ho.1,hy,zp],.inr ⟨U.size,0,xs++ys++(List.replicate (c-(s.len+x.len)) zs).flatten,.inr (zD _),rfl,⟨e,by simp⟩,i,?_,?_⟩⟩
  ·simp only[zK,xm,vY,wQ,ho.1,hy,hz,←zp];rw[zH];congr 1;omega
  ·rw[A4,qg aA,lI aA]
theorem dL.Cr {x:Sl}{bytes e:Nat}{zs:List Value}{K:Sl->Hp->Prop}(ho:dL s sz xs U F)(hx:x.len=0)(hb:s.len*bytes<=2^46)(hc:s.len<=2^62)(hK:dL ⟨s.a,s.len,s.cap⟩ sz xs U F->K ⟨s.a,s.len,s.cap⟩ U):App s sz bytes e zs x U K:=by
 have d:=ho.cap;refine⟨xs,[],ho.1,by simp[hx],ho.fW.rd,by cases x.a<;>simp[Rd],by simp,by rw[hx];exact hb,O,λg=>?_,λb=>absurd O b⟩
 rw[hx];have:=hK ho;cases ha:s.a<;>(rw[ha]at this;exact this)
theorem dL.from (h:dL s sz xs U F){lo:Nat}(h1:lo<=s.len):dL ⟨if s.cap=lo then s.a else s.a.map (·.add (lo*sz)),s.len-lo,s.cap-lo⟩ sz (xs.drop (lo*sz)) U F:=by
 have d:=h.1;refine⟨by rw[kB,d,Nat.sub_mul],?_⟩;rcases h.2 with⟨q1,q2⟩|⟨b,o,cs,hq,ha,hb,hle,hcl,ht⟩
 ·left;simp only;omega
 ·by_cases hm:s.cap=lo
  ·left;simp only;omega
  ·refine .inr ⟨b,o+lo*sz,cs,hq,by simp only[zB hm,ha,zg,add_lit],hb,by simp only;omega,?_,?_⟩
   ·have:lo*sz<=s.cap*sz:=mD _ O;rw[hcl,Nat.sub_mul];omega
   ·rw[kB]
    conv=>rhs;rw[←ht]
    rw[List.drop_take,List.drop_drop]
end Go.Vc
namespace Go.Ar
open Go Go.Vc Go.Proofs
variable {U:Hp}{F G:Rg}{Y:hU}{tb:List cA}{bud:Nat}{ls:List Li}{b k:Nat}{l:Li}{c:cA}
theorem TG {s:Sl}{xs:List (Int×Int×Int)}(ha:iu U s xs)(dD:Int){R:Option Addr->Int->Hp->Prop}(h0:QZ xs=false->∀σ',aF U σ'->R none 2 σ')
 (h1:QZ xs=true->¬(0<=dD/\dD<=65536)->∀σ',aF U σ'->R none 1 σ')
 (h2:QZ xs=true->0<=dD->dD<=65536->∀σ' Y,aF U σ'->eN σ' (λq=>U.size<=q) Y (xs.map QI) dD.toNat (List.replicate (xs.map QI).length ir)->R (some ⟨Y.p,0,none⟩) 0 σ') :
 Ky.c s dD U R:=by
 refine Ky.o ?_;unfold Ky.v;refine Bh ha λv e=>?_;cases hv:QZ xs
 ·exact cE rfl (h0 hv v e)
 refine cD rfl (bX.intro (cP (λB=>cE rfl (h1 hv O v e)) λB=>cP (λC=>h1 hv O v e) λC=>?_));have j:=Qv ha e;have u:=(QU xs).1 hv;refine Uq j hv λdF b e1 d=>uL λg D e2 y=>nw (cs:=[.slice dF.a dF.len dF.cap,.int .i64 dD,.map (some b.size)]) λv3 E m A=>?_;have s1:=e1.1;have s0:=e.1;refine h2 hv O O v3 ⟨g.size,b.size,dF,[]⟩ (((e.trans e1).trans e2).trans m) ⟨by rw[zk];omega,λc x=>?_,by simp,by simp,?_⟩
 ·obtain⟨i,hi⟩:=zP x;exact(Ge j hv hi).2
 ·refine⟨λq=>if q=g.size then .hd else if q=b.size then .mp else .dF,λi=>?_⟩
  cases i with
  | hd=>
   refine⟨⟨by show U.size<=g.size;omega,by simp⟩,?_⟩;have:((dD.toNat:Nat):Int)=dD:=by omega
   simp only[DW,this];exact A
  | mp=>
   refine⟨⟨by show U.size<=b.size;omega,?_⟩,m.fV (y .i64 .p) id⟩;show(if b.size=g.size then ud.hd else if b.size=b.size then ud.mp else ud.dF)=.mp
   rw[zB O,zC rfl]
  | dF=>
   have w:=aH.bP (aH.bP (aH.mono d (G:=λq=>v.size<=q/\q<b.size) λq r z=>⟨z,r⟩) e2) m;refine aH.mono w λq _ r=>⟨O,?_⟩;show(if q=g.size then ud.hd else if q=b.size then ud.mp else ud.dF)=.dF
   rw[zB O,zB O]
  | li k=>
   simp only[CC,pa,ja,List.find?_nil,Option.map_none];cases hk:(List.replicate (xs.map QI).length ir)[k]? with
   | none=>trivial
   | some l=>simp only[mI]at hk;split at hk<;>simp_all
def kH (f:Nat->Nat)(l:List (Int×Option Addr)):Nat:=(l.map λx=>f x.1.toNat).sum
theorem I4 (f:Nat->Nat):∀{l:List (Int×Option Addr)} {n:Int} {x:Option Addr},(l.map (·.1)).Nodup->(n,x)∈l->kH f l=f n.toNat+kH f (l.filter λy=>!(y.1==n))
 | [],_,_,_,h=>by simp at h
 | y::l,n,x,hn,h=>by
  simp only[zR,zj]at hn;rcases zW.1 h with h1|h1
  ·subst h1;have:l.filter (λy=>!(y.1==n))=l:=by
    rw[qB];intro z hz;have:z.1≠n:=λe=>hn.1 (zE.2 ⟨z,hz,e⟩);simpa using this
   rw[tM aA,this];simp[kH]
  ·have a:y.1≠n:=λe=>hn.1 (zE.2 ⟨_,h1,e.symm⟩);rw[uf (by simpa using a)];have:=I4 f hn.2 h1;simp only[kH,zR,ox]at *;omega
theorem WlR (n a v:Nat):((List.range n).map λj=>if j=a then v else 0).sum=if a<n then v else 0:=by
 induction n with
 | zero=>simp
 | succ n ih=>
  rw[qQ,zo,List.sum_append,ih];by_cases h:a=n
  ·subst h;simp
  ·by_cases h2:a<n
   ·rw[zC h2,zC O];simp[Ne.symm h]
   ·rw[zB h2,zB O];simp[Ne.symm h]
theorem SG (l:List Nat)(f g:Nat->Nat):(l.map λj=>f j+g j).sum=(l.map f).sum+(l.map g).sum:=by
 induction l with
 | nil=>rfl
 | cons x l ih=>simp only[zR,ox,ih];omega
theorem JA (f:Nat->Nat)(n:Nat):∀(ps:List (Nat×Nat)),(ps.map (·.1)).Nodup->(∀x∈ps,x.1<n)->(ps.map λx=>f x.1).sum=((List.range n).map λj=>if j∈ps.map (·.1)then f j else 0).sum
 | [],_,_=>by
  have:((List.range n).map λj=>if j∈([]:List (Nat×Nat)).map (·.1)then f j else 0)=(List.range n).map λ_=>0:=by simp
  rw[this]
  induction n with
  | zero=>rfl
  | succ n a=>rw[qQ,zo,List.sum_append];simp at *;exact a
 | x::ps,hn,hl=>by
  simp only[zR,zj]at hn;have a:=JA f n ps hn.2 λy b=>hl y (by simp[b]);rw[zR,ox,a];have e:((List.range n).map λj=>if j∈(x::ps).map (·.1)then f j else 0)=(List.range n).map λj=>(if j=x.1 then f x.1 else 0)+(if j∈ps.map (·.1)then f j else 0):=by
   apply ku;intro j _;by_cases hj:j=x.1
   ·subst hj;rw[zC aA,zC rfl,zB hn.1];rfl
   ·rw[zB hj,zH];by_cases hm:j∈ps.map (·.1)
    ·rw[zC hm,zC (by simp only[zR,zW];exact .inr hm)]
    ·rw[zB hm,zB (by simp only[zR,zW,not_or];exact⟨hj,hm⟩)]
  rw[e,SG,WlR,zC (hl x aA)]
def qL (tb:List cA)(ls:List Li)(k:Nat):Nat:=match tb[k]?,ls[k]? with
 | some c,some l=>c.size*l.os.length
 | _,_=>0
theorem E6:∀(tb:List cA) (ls:List Li),ls.length=tb.length->KC tb ls=((List.range tb.length).map (qL tb ls)).sum
 | [],[],_=>rfl
 | c::tb,l::ls,h=>by
  have ih:=E6 tb ls (by simpa using h);simp only[KC]at ih;simp only[KC,List.zip_cons_cons,zR,ox,zS,ih,List.range_succ_eq_map,lO];rfl
 | [],_::_,h=>by simp at h
 | _::_,[],h=>by simp at h
theorem eN.nil (h:eN U F Y tb bud ls)(hf:ja Y.ps k=none)(hl:ls[k]?=some l):l=ir:=by
 obtain⟨G,_,hi⟩:=h.sep.get (.li k);simp only[CC,pa,hf,hl]at hi;exact hi
theorem eN.wW (h:eN U F Y tb bud ls):(Y.ps.map (·.1)).Nodup:=by
 have:=h.map.nodup;have e:(j3 Y.ps).map (·.1)=(Y.ps.map (·.1)).map λ(n:Nat)=>(n:Int):=by simp[j3]
 rw[e]at this;exact List.Pairwise.of_map (λ(n:Nat)=>(n:Int)) (λa b d e=>d (by rw[e])) this
theorem eN.bytes (h:eN U F Y tb bud ls):kH (qL tb ls) (j3 Y.ps)=KC tb ls:=by
 have e1:kH (qL tb ls) (j3 Y.ps)=(Y.ps.map λx=>qL tb ls x.1).sum:=by simp[kH,j3,Function.comp_def]
 rw[e1,JA _ tb.length _ h.wW h.keys,E6 _ _ h.len]
 congr 1
 apply ku;intro j hj;have a:=ze.1 hj;by_cases hm:j∈Y.ps.map (·.1)
 ·rw[zC hm]
 ·rw[zB hm];have d:ja Y.ps j=none:=by
   unfold ja;simp only[tf,oJ,zU];exact λx g e=>hm (zE.2 ⟨x,g,e⟩)
  have b:ls[j]?=some (ls[j]'(by rw[h.len];exact a)):=cW _;have:=h.nil d b;unfold qL;rw[cW a,b,this];rfl
theorem Jk:∀(tb:List cA) (ls:List Li),(∀c∈tb,c.ok)->(∀l∈ls,fP l)->KC tb ls<=tb.length*131072
 | [],_,_,_=>by simp[KC]
 | _::_,[],_,_=>by simp[KC]
 | c::tb,l::ls,h1,h2=>by
  have ih:=Jk tb ls (λc a=>h1 c (by simp[a])) (λl b=>h2 l (by simp[b]));simp only[KC]at ih;simp only[KC,List.zip_cons_cons,zR,ox,zS];have a:=h1 c aA;unfold cA.ok at a;have d:=(h2 l aA).many;have g:c.size*l.os.length<=512*256:=mu O d;omega
theorem M5 (h:eN U F Y tb bud ls)(hok:∀l∈ls,fP l):KC tb ls<=5242880:=by
 have a:=Jk tb ls h.ok hok;have b:=h.nN;omega
theorem eN.PB (h:eN U F Y tb bud ls):∀l∈ls,fP l:=by
 intro l hl;obtain⟨k,a⟩:=zP hl;cases hf:ja Y.ps k with
 | none=>rw[h.nil hf a];exact fP.nil
 | some b=>
  obtain⟨G,_,d,_⟩:=h.wL hf a;exact d.2.1
theorem FE (h:eN U F Y tb bud ls){R:aN}(hR:∀σ',aF U σ'->R ((KC tb ls:Nat):Int) σ'):XX.c (aW Y.p) U R:=by
 refine XX.o ?_;unfold XX.v;have hle:=M5 h h.PB;have hT:=h.bytes;refine HY h (cD rfl (bL (h.hd.rM rfl ?_)));refine yd (a:=bO) h.map (λg (z:Int) v=>∃n:Nat,z=(n:Int)/\n+kH (qL tb ls) g=KC tb ls/\(∀e∈g,e∈j3 Y.ps)/\(g.map (·.1)).Nodup/\aF U v) ?_ ?_ ?_
 ·intro v hz e;exact⟨0,rfl,by rw[hT];omega,λe he=>he,h.map.nodup,e⟩
 ·rintro z v ⟨n,rfl,E,_,_,e⟩;simp only[kH,oL,List.sum_nil,kA]at E;rw[E];exact hR v e
 ·rintro g n x z v v' J ⟨m,rfl,E,j,C,e⟩ Z ho hlt hJ;have V:aF U v':=e.only ho (.inr (zD _));have P:=h.bP V;have r:=j _ Z;simp only[j3,zE,Prod.mk.injEq]at r;obtain⟨⟨k,b⟩,B,A,D⟩:=r;simp only at A D;subst A;subst D;have H:=h.keys _ B;simp only at H;have Q:tb[k]?=some tb[k]:=cW H;have L:ls[k]?=some (ls[k]'(by rw[h.len];exact H)):=cW _;generalize tb[k]=c at Q;generalize (ls[k]'(by rw[h.len];exact H))=l at L;have M:ja Y.ps k=some b:=J5 h.map.nodup B;obtain⟨G,hG,hL,_⟩:=P.wL M L;obtain⟨_,hok,s,S,K,X⟩:=hL;have N:s.len=l.os.length:=by have:=K.1;simp[Wy]at this;omega
  have hb:qL tb ls k=c.size*l.os.length:=by unfold qL;rw[Q,L]
  have u:=I4 (qL tb ls) C Z;simp only[dH]at u;refine bL (P.hd.rS rfl (ue P.jS Q (d:=0) O ?_));simp only[zT];refine bL (S.rS rfl ?_);have w:m+c.size*l.os.length+kH (qL tb ls) (List.filter (λy=>!(y.1==(k:Int))) g)=KC tb ls:=by
   have W:=u;rw[hb]at W;rw[←E,W,ym]
  refine cT (m:=c.size*l.os.length) (by simp only[N];simp) O (cT (m:=m+c.size*l.os.length) O O (hJ _ v' rfl rfl ⟨_,rfl,w,λy hy=>j y (zJ.1 hy).1,C.sublist (List.filter_sublist.map _),V⟩))
theorem Τ (h:eN U F Y tb bud ls){R:aO}(hR:∀σ',aF U σ'->R (decide (bud<KC tb ls)) σ'):Yv.c (aW Y.p) U R:=by
 refine Yv.o ?_;unfold Yv.v;have e:decide (((KC tb ls:Nat):Int)>(bud:Int))=decide (bud<KC tb ls):=by rw[decide_eq_decide];omega
 refine Jn.intro (HY h (cE rfl (bL ⟨FE h λσ' a=>(a.bV h.hd id).rI rfl ?_,h.hd.rI rfl (FE h λσ' a=>?_)⟩)))
 ·rw[e];exact hR σ' a
 ·rw[e];exact hR σ' a
def CF (f:cA->Li->List Int×Li)(fn:Nat):Prop:=∀{U:Hp} {G:Rg} {b:Nat} {l:Li} {c:cA},jf b l U G->c.ok->∀{R:Sl->Hp->Prop},
 (∀s z σ',Ext (· = b) U σ'->U.size<=z->bT s 1 (Wy (f c l).1) σ' (λq=>U.size<=q/\q<z)->jf b (f c l).2 σ' (λq=>q=b\/z<=q)->R s σ') →
 VJ Tryz.prog ⟨fn,#[],#[]⟩ [.pointer (some ⟨b,0,none⟩),.int .i64 (c.batch:Int)] [.one .s] U R
theorem O2:CF Qc 243:=by
 intro U G b l c h hc R hR;refine Gp (all := #[.pointer (some ⟨b,0,none⟩),.int .i64 (c.batch:Int)]) (by kernel_rfl) aA ?_;refine YQ.o ?_;unfold YQ.v;have j:=h;obtain⟨_,m,s,g,d,i⟩:=h;have a:s.len=l.os.length:=by have:=d.1;simp[Wy]at this;omega
 refine bL (g.rS rfl ?_);simp only[a];exact GX j (zD _) hR
theorem OO:CF Vx 241:=by
 intro U G b l c h hc R hR;refine Gp (all := #[.pointer (some ⟨b,0,none⟩),.int .i64 (c.batch:Int)]) (by kernel_rfl) aA ?_;refine XI.o ?_;unfold XI.v;have Q:=h;obtain⟨_,g,s,A,M,J⟩:=h;have o1:=g.low;have o2:=g.many;have o3:=g.lim;have w:=F6 hc g;unfold cA.ok at hc;refine bL (A.rI rfl (cT (m:=l.low+1) O O (nz aB (cT (m:=(l.low+1)/2) (by rw[Ye O];omega) O ?_))));refine GX Q O λout z v e S N r=>?_;have H:=r;obtain⟨_,P,s1,d,u,B⟩:=r;have x:s1.len=(gL ((l.low+1)/2) l).2.os.length:=by have:=u.1;simp[Wy]at this;omega
 refine Jn.intro ?_;have i:∀(p:Hp) (lim:Nat),Ext (· = b) v p->lim=(if l.lim>c.batch then max (l.lim-c.batch) c.batch else l.lim)->bY p b (ni s1 {(gL ((l.low+1)/2) l).2 with lim:=lim}) →
  bW (some ⟨b,0,none⟩) λC=>jH (C.add 0) p λD=>bW (some ⟨b,0,none⟩) λE=>dQ (E.add 2) (.int .i64 ((D.len:Nat):Int)) p λv2=>R out v2:=by
  intro p lim e1 hlim a;refine bL (a.rS rfl (bL (a.s1 (by simp[ni]) λv2 o2 y=>?_)));have e2:=e1.trans o2.ext;have V:=d.lt;refine hR out z v2 (e.trans e2) S (aI.bS N e2 λq _ K L=>?_) ?_
  ·have:=A.lt;omega
  ·refine⟨.inl rfl,w,s1,?_,aH.bS u e2 λq _ K L=>K.2 L,B⟩;simp only[x]at y;subst hlim;exact y
 refine bL (d.rI rfl ?_);refine cP (λF=>?_) λF=>?_
 ·have j:l.lim>c.batch:=by simp only[gL]at F;omega
  refine bL (d.rI rfl (cT (m:=l.lim-c.batch) (by simp only[gL];omega) O (bL (d.s1 (by simp[ni]) λp o1 a=>i p (max (l.lim-c.batch) c.batch) o1.ext (by rw[zC j]) ?_))));have:(if(c.batch:Int)>((l.lim-c.batch:Nat):Int)then(c.batch:Int)else((l.lim-c.batch:Nat):Int))=((max (l.lim-c.batch) c.batch:Nat):Int):=by split<;>omega
  rw[this]at a;exact a
 ·have j:¬l.lim>c.batch:=by simp only[gL]at F;omega
  exact i v l.lim (Ext.refl _ _) (by rw[zB j]) d
def oA (x:Nat×Sl):List Value:=[.int .i64 (x.1:Int),.slice x.2.a x.2.len x.2.cap]
def fL (l:List (Nat×Sl)):List Value:=l.flatMap oA
theorem Vl (l:List (Nat×Sl)):(fL l).length=l.length*2:=by
 induction l with
 | nil=>rfl
 | cons x l ih=>
  have e:fL (x::l)=oA x++fL l:=rfl;have e2:(oA x).length=2:=rfl;rw[e,zK,ih,e2,zS];omega
theorem HB (a b:List (Nat×Sl)):fL (a++b)=fL a++fL b:=by simp[fL]
theorem H6 {l:List (Nat×Sl)}:∀v∈fL l,dV v=true:=by
 intro v hv;obtain⟨p,_,a⟩:=List.mem_flatMap.1 hv;simp only[oA,zW,AZ,or_false]at a;rcases a with rfl|rfl<;>rfl
theorem SY {l:List (Nat×Sl)}{i:Nat}{p:Nat×Sl}(h:l[i]?=some p){d:Nat}(hd:d<2):(fL l)[2*i+d]?=(oA p)[d]? := by
 induction l generalizing i with
 | nil=>simp at h
 | cons x l ih=>
  have e:fL (x::l)=oA x++fL l:=rfl;have e2:(oA x).length=2:=rfl;rw[e];cases i with
  | zero=>
   simp at h;subst h;rw[zd O];congr 1;omega
  | succ i=>
   rw[zr O,e2,show 2*(i+1)+d-2=2*i+d by omega];exact ih (by simpa using h)
def kG (ps:List (Nat×Sl))(bs:List Bt)(U:Hp)(D:Rg):Prop:=ps.length=bs.length/\∀(i:Nat) p x,ps[i]?=some p->bs[i]?=some x->p.1=x.1/\cV p.2 1 (Wy x.2) U D/\p.2.len<=p.2.cap
theorem kG.loc (ps:List (Nat×Sl))(bs:List Bt):dN (kG ps bs):=λU j F G h g d=>⟨h.1,λi p x a b=>⟨(h.2 i p x a b).1,cV.loc _ _ _ _ _ _ _ (h.2 i p x a b).2.1 g d,(h.2 i p x a b).2.2⟩⟩
def vz (ps:List (Nat×Sl)):Prop:=ps.Pairwise λp q=>∀a a',p.2.a=some a->q.2.a=some a'->a.block≠a'.block
theorem vz.snoc {ps:List (Nat×Sl)}{bs:List Bt}{U v:Hp}{D X:Rg}{s:Sl}{xs:List Int}(h:vz ps)(hB:kG ps bs U D)(hne:∀x∈bs,x.2≠[])(hs:cV s 1 (Wy xs) v X)(hx:xs≠[])(hd:∀b,b<U.size->D b->¬X b)(k:Nat):vz (ps++[(k,s)]):=by
 refine qP.2 ⟨h,List.pairwise_singleton _ _,λp u q r=>?_⟩;rw[zN]at r;subst r;intro a a' h1 h2 e;obtain⟨i,hi⟩:=zP u;have d:=(cY.1 hi).1;have m:bs[i]?=some (bs[i]'(by rw[←hB.1];exact d)):=cW _;generalize (bs[i]'(by rw[←hB.1];exact d))=y at m;obtain⟨_,g,_⟩:=hB.2 i p y hi m;have j:=g.bV (by simpa[Wy]using hne y (zG m)) ⟨a,h1,rfl⟩;have w:=hs.bV (by simpa[Wy]using hx) ⟨a',h2,rfl⟩;rw[e]at j;exact hd _ j.2 j.1 w.1
def iz (s:Sl)(bs:List Bt):Hp->Rg->Prop:=λU F=>∃(ps:List (Nat×Sl)) (D:Rg),dL s 2 (fL ps) U (λq=>F q/\¬D q)/\kG ps bs U D/\(∀q,D q->F q)/\vz ps/\∀x∈bs,x.2≠[]
theorem iz.loc (s:Sl)(bs:List Bt):dN (iz s bs):=λU u F G ⟨m,D,j,r,g,p⟩ i b=>
 ⟨m,λq=>D q/\q<U.size,dL.loc _ _ _ _ _ _ _ j i λq a d=>⟨⟨(b q a d.1).1,λhd=>d.2 hd.1⟩,(b q a d.1).2⟩,kG.loc _ _ _ _ _ _ r i λq a hd=>⟨⟨hd,a⟩,(b q a (g q hd)).2⟩,λq a=>(b q a.2 (g q a.1)).1,p⟩
theorem iz.nil (U:Hp)(F:Rg)(a:Option Addr):iz ⟨a,0,0⟩ [] U F:=⟨[],λ_=>False,dL.nil _ _ _ _,⟨rfl,λi p x h=>by simp at h⟩,λq h=>h.elim,List.Pairwise.nil,by simp⟩
theorem iz.len {s:Sl}{bs:List Bt}(h:iz s bs U F):s.len=bs.length:=by
 obtain⟨d,D,a,b,_⟩:=h;have:=a.1;rw[Vl]at this;have:=b.1;omega
theorem iz.cap {s:Sl}{bs:List Bt}(h:iz s bs U F):s.len<=s.cap:=by
 obtain⟨b,D,a,_⟩:=h;exact a.cap
def oz:Prop:=∀{U:Hp} {F:Rg} {s:Sl} {xs:List (Nat×Sl)},bT s 2 (fL xs) U F->(∀x∈xs,x.1<64)->xs.length<=1000->∀{R:aP},
 (∀xs' σ',xs'.Perm xs->xs'.Pairwise (λa b=>a.1<=b.1)->Ext F U σ'->bT s 2 (fL xs') σ' F->R σ')->Qx.c s ⟨298,#[],#[]⟩ U R
theorem F9:∀{a b:List Nat},a.Pairwise (· < ·)->b.Pairwise (· < ·)->(∀x,x∈a↔x∈b)->a=b
 | [],[],_,_,_=>rfl
 | [],y::b,_,_,h=>by have:=(h y).2 aA;simp at this
 | x::a,[],_,_,h=>by have:=(h x).1 aA;simp at this
 | x::a,y::b,ha,hb,h=>by
  rw[td]at ha hb;have e:x=y:=by
   rcases zW.1 ((h x).1 aA)with h1|h1
   ·exact h1
   ·rcases zW.1 ((h y).2 aA)with h2|h2
    ·exact h2.symm
    ·have:=ha.1 y h2;have:=hb.1 x h1;omega
  subst e
  congr 1
  refine F9 ha.2 hb.2 λz=>?_;have d:=h z;simp only[zW]at d;constructor
  ·intro hza;have:=ha.1 z hza;rcases d.1 (.inr hza)with h1|h1
   ·omega
   ·exact h1
  ·intro hzb;have:=hb.1 z hzb;rcases d.2 (.inr hzb)with h1|h1
   ·omega
   ·exact h1
theorem HO {f:cA->Li->List Int×Li}{x:Bt}:x∈KK f tb ls↔∃c l,tb[x.1]?=some c/\ls[x.1]?=some l/\x.2=(f c l).1/\x.2≠[]:=by
 unfold KK;rw[yx];constructor
 ·rintro⟨k,hk,h⟩;split at h
  ·rename_i c l hc hl;split at h
   ·cases h
   ·rename_i hne;cases h;exact⟨c,l,hc,hl,rfl,hne⟩
  ·cases h
 ·rintro⟨c,l,hc,hl,e,hne⟩;refine⟨x.1,ze.2 (cY.1 hc).1,?_⟩;rw[hc,hl];simp only;rw[zB (by rw[←e];exact hne),←e]
theorem SD {f:cA->Li->List Int×Li}:((KK f tb ls).map (·.1)).Pairwise (· < ·):=by
 unfold KK;have key:∀(n:Nat),(((List.range n).filterMap λk=>match tb[k]?,ls[k]? with
  | some c,some l=>if(f c l).1=[]then none else some ((k,(f c l).1):Bt)
  | _,_=>none).map (·.1)).Pairwise (· < ·)/\∀x∈((List.range n).filterMap λk=>match tb[k]?,ls[k]? with
  | some c,some l=>if(f c l).1=[]then none else some ((k,(f c l).1):Bt)
  | _,_=>none),x.1<n:=by
  intro n
  induction n with
  | zero=>simp
  | succ n ih=>
   rw[qQ,xP,zo];refine⟨qP.2 ⟨ih.1,?_,?_⟩,?_⟩
   ·simp only[Cp,List.filterMap_nil];split<;>simp
   ·intro a ha b hb;obtain⟨x,i,rfl⟩:=zE.1 ha;obtain⟨y,g,rfl⟩:=zE.1 hb;have p:=ih.2 x i;obtain⟨m,j,d⟩:=yx.1 g;clear g hb ha;simp only[zN]at j;subst j;split at d
    ·split at d
     ·cases d
     ·cases d;exact p
    ·cases d
   ·intro x i;rcases zM.1 i with i|i
    ·have:=ih.2 x i;omega
    ·obtain⟨m,j,g⟩:=yx.1 i;simp only[zN]at j;subst j;split at g
     ·split at g
      ·cases g
      ·cases g;omega
     ·cases g
 exact(key tb.length).1
def nt (todo:List (Int×Option Addr))(k:Nat):Prop:=((k:Nat):Int)∈todo.map (·.1)
instance (todo:List (Int×Option Addr)) (k:Nat):Decidable (nt todo k):=by unfold nt;infer_instance
theorem Gz {todo:List (Int×Option Addr)}{m k:Nat}:nt (todo.filter λy=>!(y.1==(m:Int))) k↔nt todo k/\k≠m:=by
 unfold nt;simp only[zE,zJ,mL,mP];constructor
 ·rintro⟨y,⟨h1,h2⟩,h3⟩;exact⟨⟨y,h1,h3⟩,λe=>h2 O⟩
 ·rintro⟨⟨y,h1,h3⟩,h2⟩;exact⟨y,⟨h1,λe=>h2 O⟩,h3⟩
structure yH (f:cA->Li->List Int×Li) (tb:List cA) (ls:List Li) (todo:List (Int×Option Addr)) (ls':List Li) (outs:List Bt):Prop where
 l:∀k c l,tb[k]?=some c->ls[k]?=some l->ls'[k]?=some (if nt todo k then l else(f c l).2)
 n:(outs.map (·.1)).Nodup
 o:∀x:Bt,x∈outs↔∃c l,tb[x.1]?=some c/\ls[x.1]?=some l/\¬nt todo x.1/\x.2=(f c l).1/\x.2≠[]
theorem yH.step {f:cA->Li->List Int×Li}{todo:List (Int×Option Addr)}{ls':List Li}{outs:List Bt}(h:yH f tb ls todo ls' outs)(hc:tb[k]?=some c)(hl:ls[k]?=some l)(hk:nt todo k) :
 yH f tb ls (todo.filter λy=>!(y.1==(k:Int))) (ls'.set k (f c l).2) (if(f c l).1=[]then outs else outs++[(k,(f c l).1)]):=by
 have u:=h.l k c l hc hl;have z:=(cY.1 u).1;have r:∀x∈outs,x.1≠k:=λx g e=>by
  obtain⟨_,_,_,_,A,_⟩:=(h.o x).1 g;rw[e]at A;exact A hk
 refine⟨λj d m hd p=>?_,?_,λx=>?_⟩
 ·by_cases hj:j=k
  ·subst hj;rw[hc]at hd;cases hd;rw[hl]at p;cases p;rw[zO z,zB (by rw[Gz];exact λg=>g.2 rfl)]
  ·rw[zh (Ne.symm hj),h.l j d m hd p]
   congr 1
   by_cases hi:nt todo j
   ·rw[zC hi,zC (Gz.2 ⟨hi,hj⟩)]
   ·rw[zB hi,zB λg=>hi (Gz.1 g).1]
 ·split
  ·exact h.n
  ·rw[zo,nf];refine⟨h.n,by simp,λa C b B e=>?_⟩;simp only[zR,oL,zN]at B;subst B;obtain⟨x,g,e2⟩:=zE.1 C;exact r x g (e2.trans e)
 ·have s:(∃d m,tb[x.1]?=some d/\ls[x.1]?=some m/\¬nt (todo.filter λy=>!(y.1==(k:Int))) x.1/\x.2=(f d m).1/\x.2≠[])↔x∈outs\/(x=(k,(f c l).1)/\(f c l).1≠[]):=by
   constructor
   ·rintro⟨d,m,hd,p,hi,e,i⟩;by_cases hj:x.1=k
    ·right;rw[hj]at hd p;rw[hc]at hd;cases hd;rw[hl]at p;cases p;exact⟨Prod.ext hj e,by rw[←e];exact i⟩
    ·left;exact(h.o x).2 ⟨d,m,hd,p,λg=>hi (Gz.2 ⟨g,hj⟩),e,i⟩
   ·rintro(g|⟨rfl,i⟩)
    ·obtain⟨d,m,hd,p,hi,e,i⟩:=(h.o x).1 g;exact⟨d,m,hd,p,λw=>hi (Gz.1 w).1,e,i⟩
    ·exact⟨c,l,hc,hl,λw=>(Gz.1 w).2 rfl,rfl,i⟩
  rw[s];split
  ·rename_i he;constructor
   ·exact .inl
   ·rintro(g|⟨_,i⟩)
    ·exact g
    ·exact absurd he i
  ·rename_i he;rw[zM,zN];constructor
   ·rintro(g|g)
    ·exact .inl g
    ·exact .inr ⟨g,he⟩
   ·rintro(g|g)
    ·exact .inl g
    ·exact .inr g.1
set_option maxRecDepth 4000 in
theorem Ij (hso:oz){f:cA->Li->List Int×Li}{fn:Nat}(hf:CF f fn)(hnil:∀c,c.ok->f c ir=([],ir))(h:eN U F Y tb bud ls){R:Sl->Hp->Prop}
 (hR:∀σ' s (Q:Rg),Ext F U σ'->(∀q,Q q->U.size<=q)->eN σ' (λq=>Grow F U q/\¬Q q) Y tb bud (KF f tb ls)->iz s (KK f tb ls) σ' Q->R s σ') :
 XB.c (aW Y.p) ⟨fn,#[],#[]⟩ U R:=by
 refine XB.o ?_;unfold XB.v;refine HY h (cD rfl (bL (h.hd.rM rfl ?_)));have htb:=h.nN;refine yd (a:=.s) h.map (λC (out:Sl) v=>∃(ls':List Li) (w:List Bt) (Q D:Rg) (ps:List (Nat×Sl)),Ext F U v/\(∀q,Q q->U.size<q)/\eN v (λq=>(Cut F U q\/U.size<q)/\¬Q q) Y tb bud ls' ∧
  bT out 2 (fL ps) v (λq=>Q q/\¬D q)/\kG ps w v D/\(∀q,D q->Q q)/\yH f tb ls C ls' w/\(∀e∈C,e∈j3 Y.ps)/\(C.map (·.1)).Nodup/\vz ps) ?_ ?_ ?_
 ·intro v hz e;refine⟨ls,[],λ_=>False,λ_=>False,[],aF.to e,λq g=>g.elim,((eN.loc.bP h.cut e).mono λq _ g=>⟨.inl g,id⟩),bT.nil _ _ _ _,⟨rfl,λi p x K=>by simp at K⟩,λq g=>g.elim,⟨λk c l E N=>?_,by simp,λx=>?_⟩,λe P=>P,h.map.nodup,List.Pairwise.nil⟩
  ·by_cases hi:nt (j3 Y.ps) k
   ·rw[zC hi,N]
   ·rw[zB hi];have hf0:ja Y.ps k=none:=by
     unfold ja;simp only[tf,oJ,zU];exact λx r e=>hi (zE.2 ⟨((x.1:Int),some ⟨x.2,0,none⟩),zE.2 ⟨x,r,rfl⟩,by rw[e]⟩)
    have:=h.nil hf0 N;rw[N,this,hnil c (h.ok c (zG E))]
  ·simp only[AZ,false_iff];rintro⟨c,l,E,N,hi,e,hne⟩;have hf0:ja Y.ps x.1=none:=by
    unfold ja;simp only[tf,oJ,zU];exact λy Z e=>hi (zE.2 ⟨((y.1:Int),some ⟨y.2,0,none⟩),zE.2 ⟨y,Z,rfl⟩,by rw[e]⟩)
   have:=h.nil hf0 N;rw[this,hnil c (h.ok c (zG E))]at e;exact hne e
 ·rintro out v ⟨ls',w,Q,D,ps,e,hQ,hC,W,hB,hD,hI,_,_,S⟩;have hno:∀k,¬nt [] k:=λk hk=>by simp[nt]at hk
  have hls:ls'=KF f tb ls:=by
   apply zt;intro k;by_cases hk:k<tb.length
   ·have E:tb[k]?=some tb[k]:=cW hk;have N:ls[k]?=some (ls[k]'(by rw[h.len];exact hk)):=cW _;rw[hI.l k _ _ E N,zB (hno k)];simp[KF,BS,E,N]
   ·rw[zX (by rw[hC.len];omega),zX (by simp[KF,h.len];omega)]
  subst hls;have hk1:∀(i:Nat) p,ps[i]?=some p->∃x,w[i]?=some x/\p.1=x.1/\cV p.2 1 (Wy x.2) v D/\p.2.len<=p.2.cap:=λi p K=>by
   have hi:=(cY.1 K).1;have r:w[i]?=some (w[i]'(by rw[←hB.1];exact hi)):=cW _;exact⟨_,r,hB.2 i p _ K r⟩
  have B:ps.map (·.1)=w.map (·.1):=by
   apply zt;intro i;simp only[zZ];cases K:ps[i]? with
   | none=>
    have:w[i]?=none:=by
     rw[List.getElem?_eq_none_iff]at K ⊢;rw[←hB.1];exact K
    rw[this];rfl
   | some p=>
    obtain⟨x,r,e1,_⟩:=hk1 i p K;rw[r];simp[e1]
  have X:∀x∈w,x.1<40:=λx r=>by
   obtain⟨c,l,E,_⟩:=(hI.o x).1 r;have:=(cY.1 E).1;omega
  have hlen:ps.length<=40:=by
   have hn:=hI.n;rw[←B]at hn;have:=hn.length_le_of_subset (l₂:=List.range 40) λj S=>by
    rw[B]at S;obtain⟨x,r,rfl⟩:=zE.1 S;exact ze.2 (X x r)
   simpa using this
  refine hso W (λp K=>?_) O λps' v' L hsort e' hrow'=>?_
  ·have:p.1∈w.map (·.1):=by rw[←B];exact zE.2 ⟨p,K,rfl⟩
   obtain⟨x,r,e1⟩:=zE.1 this;have:=X x r;omega
  ·have hnd:(ps'.map (·.1)).Nodup:=(L.map _).nodup_iff.2 (by rw[B];exact hI.n);have hinc:(ps'.map (·.1)).Pairwise (· < ·):=by
    refine List.Pairwise.map (R:=λa b:Nat×Sl=>a.1<b.1) _ (λa b aa=>aa) ?_;have A:ps'.Pairwise λa b=>a.1≠b.1:=rp.1 hnd;exact(hsort.and A).imp λ{a b} aa=>by have:=aa.1;have:=aa.2;omega
   have hkk:ps'.map (·.1)=(KK f tb ls).map (·.1):=by
    refine F9 hinc SD λj=>?_;rw[(L.map _).mem_iff,B];constructor
    ·intro S;obtain⟨x,r,rfl⟩:=zE.1 S;obtain⟨c,l,E,N,_,e1,e2⟩:=(hI.o x).1 r;exact zE.2 ⟨x,HO.2 ⟨c,l,E,N,e1,e2⟩,rfl⟩
    ·intro S;obtain⟨x,r,rfl⟩:=zE.1 S;obtain⟨c,l,E,N,e1,e2⟩:=HO.1 r;exact zE.2 ⟨x,(hI.o x).2 ⟨c,l,E,N,hno _,e1,e2⟩,rfl⟩
   have eQ:Ext F U v':=e.dW e' λq g=>.inr (sH (hQ q g.1));refine hR v' out Q eQ (λq g=>sH (hQ q g)) ?_ ⟨ps',D,hrow'.o,⟨?_,λi p x K r=>?_⟩,hD,(L.pairwise_iff λ{a b} aa x y A h2 e=>aa y x h2 A e.symm).2 S,λx r=>by
    obtain⟨_,_,_,_,_,h2⟩:=HO.1 r;exact h2⟩
   ·refine(eN.loc.bS hC e' λq _ g hq2=>g.2 hq2.1).mono λq _ g=>⟨?_,g.2⟩;rcases g.1 with r|r
    ·exact .inl r.1
    ·exact .inr (sH r)
   ·have:=congrArg List.length hkk;simpa using this
   ·have e1:p.1=x.1:=by
     have:=congrArg (λl=>l[i]?) hkk;simp only[zZ,K,r,zg,Option.some.injEq]at this;exact this
    obtain⟨j,S⟩:=zP (L.mem_iff.1 (zG K));obtain⟨y,Z,e2,hs,hcap⟩:=hk1 j p S;have e3:x.2=y.2:=by
     obtain⟨c,l,E,N,_,A,_⟩:=(hI.o y).1 (zG Z);obtain⟨c',l',hc',hl',h2,_⟩:=HO.1 (zG r);rw[←e1,e2,E]at hc';cases hc';rw[←e1,e2,N]at hl';cases hl';rw[A,h2]
    rw[e3];exact⟨e1,aH.bS hs e' λq _ g hq2=>hq2.2 g,hcap⟩
 ·rintro C n x out v v' J ⟨ls',w,Q,D,ps,e,hQ,hC,W,hB,hD,hI,hsub,hnd,S⟩ r ho hlt hJ;have e1:Ext F U v':=e.only ho (.inr (zD _));have V:eN v' (λq=>(Cut F U q\/U.size<q)/\¬Q q) Y tb bud ls':=eN.loc.bS hC ho.ext λq _ g P=>by
   rcases g.1 with A|A
   ·have:=A.2;omega
   ·omega
  have hrow1:bT out 2 (fL ps) v' (λq=>(Q q/\¬D q)/\q<v'.size):=aI.cut (aI.bS W ho.ext λq _ g P=>by have:=hQ q g.1;omega);have hB1:kG ps w v' (λq=>D q/\q<v'.size):=(kG.loc _ _).cut ((kG.loc _ _).bS hB ho.ext λq _ g P=>by have:=hQ q (hD q g);omega);have hmem:=hsub _ r;simp only[j3,zE,Prod.mk.injEq]at hmem;obtain⟨⟨k,b⟩,hkb,hk1,hx1⟩:=hmem;simp only at hk1 hx1;subst hk1;subst hx1;have hk:=h.keys _ hkb;simp only at hk;have E:tb[k]?=some tb[k]:=cW hk;have N:ls[k]?=some (ls[k]'(by rw[h.len];exact hk)):=cW _;generalize tb[k]=c at E;generalize (ls[k]'(by rw[h.len];exact hk))=l at N;have hcok:=h.ok c (zG E);have hlk:ja Y.ps k=some b:=J5 h.map.nodup hkb;have hin:nt C k:=zE.2 ⟨_,r,rfl⟩;have hl':ls'[k]?=some l:=by rw[hI.l k c l E N,zC hin]
  have M:=hI.step E N hin;have hmF:(λq=>(Cut F U q\/U.size<q)/\¬Q q) Y.m:=by
   obtain⟨H,hH,hm⟩:=V.sep.get .mp;exact hH _ hm.1
  obtain⟨G,hG,hL,hGm,hput⟩:=V.wL hlk hl';have hbF:=hG b hL.1;have hbm:b≠Y.m:=λe=>hGm (e▸hL.1);have hbs:b≠U.size:=λe=>by
   subst e;rcases hbF.1 with A|A
   ·have:=A.2;omega
   ·omega
  have hblt:b<v'.size:=by obtain⟨_,_,s,hbk,_⟩:=hL;exact hbk.lt
  have hsz1:=ho.1;refine bL (V.hd.rS rfl (ue V.jS E (d:=2) O ?_));simp only[zB (show ¬(2=0) by omega),zB (show ¬(2=1) by omega)];refine hf hL hcok λs z v5 e5 hz hr hL5=>?_;have hs5:=e5.1;obtain⟨eF,h5⟩:=hput v5 _ (λq=>q=b\/z<=q) (e5.sub λq g=>by rw[g];exact hL.1) (λq g=>g.imp (λ(r:q=b)=>by rw[r];exact hL.1) λ(r:z<=q)=>O) hL5;have h5:=h5.cut;have eF5:Ext F U v5:=e1.dW eF λq g=>by
   rcases g.1 with A|A
   ·exact .inl A.1
   ·exact .inr (sH A)
  have hnb:∀q,Q q->q≠b:=λq g hqb=>hbF.2 (hqb▸g);have hrow5:=aI.bS hrow1 e5 λq _ g P=>hnb q g.1.1 P;have hB5:=(kG.loc _ _).bS hB1 e5 λq _ g P=>hnb q (hD q g.1) P;have hsl:s.len=(f c l).1.length:=by have:=hr.1;simp[Wy]at this;omega
  have hsub':∀y∈C.filter (λy=>!(y.1==(k:Int))),y∈j3 Y.ps:=λy Z=>hsub y (zJ.1 Z).1;have hnd':((C.filter λy=>!(y.1==(k:Int))).map (·.1)).Nodup:=hnd.sublist (List.filter_sublist.map _);by_cases hemp:(f c l).1=[]
  ·rw[zC hemp]at M;refine fZ (by rw[hsl,hemp];simp) (hJ out v5 (e5.2 _ O λP=>hbs P.symm) (e5.2 _ V.map.lt λP=>hbm P.symm) ?_);refine⟨_,w,λq=>Q q/\q<v'.size,λq=>D q/\q<v'.size,ps,eF5,λq g=>hQ q g.1,h5.mono λq _ g=>?_,aI.mono hrow5 λq _ g=>⟨⟨g.1.1,g.2⟩,λhd=>g.1.2 hd.1⟩,hB5,λq g=>⟨hD q g.1,g.2⟩,M,hsub',hnd',S⟩;rcases g.1 with A|A|A
   ·exact⟨A.1.1,λr=>A.1.2 r.1⟩
   ·subst A;exact⟨hbF.1,λr=>hbF.2 r.1⟩
   ·exact⟨.inr O,λr=>O⟩
  ·rw[zB hemp]at M;have hpos:=oa.2 hemp;refine mr (by rw[hsl];omega) (nw (cs:=oA (k,s)) λv6 hz6 e6 hb6=>?_);have hrow6:=aI.bP hrow5 e6;have hB6:=(kG.loc _ _).bP hB5 e6;have hr6:=aI.bP (aI.cut hr) e6;have hpl:out.len=ps.length:=by have:=W.1;rw[Vl]at this;omega
   have hol:ps.length<=40:=by
    have B:w.map (·.1)⊆List.range 40:=λj S=>by
     obtain⟨x,r,rfl⟩:=zE.1 S;obtain⟨c,l,E,_⟩:=(hI.o x).1 r;have:=(cY.1 E).1;exact ze.2 O
    have:=hI.n.length_le_of_subset B;rw[hB.1];simpa using this
   refine hrow6.app (ys:=oA (k,s)) rfl rfl ?_ (λv hv=>H6 (l:=[(k,s)]) v (by simpa[fL]using hv)) ?_ ?_ nh λs' v7 hl7 e7 hr7=>?_
   ·intro j u hu;rw[add_lit,zH,hb6.cell];exact hu
   ·simp only;have:(out.len+1)*32<=41*32:=mu O O;omega
   ·simp only;omega
   have hs7:=e7.1;have e57:Ext (λq=>(Q q/\¬D q)/\q<v'.size) v5 v7:=(aF.to e6).trans e7;refine hJ s' v7 ?_ ?_ ?_
   ·rw[e57.2 _ O λr=>by have:=hQ _ r.1.1;omega];exact e5.2 _ O λP=>hbs P.symm
   ·rw[e57.2 _ (by have:=V.map.lt;omega) λr=>hmF.2 r.1.1];exact e5.2 _ V.map.lt λP=>hbm P.symm
   refine⟨_,_,λq=>Q q/\q<v'.size\/(v'.size<=q/\q<z)\/v5.size<=q,λq=>D q/\q<v'.size\/(v'.size<=q/\q<z)/\q<v5.size,ps++[(k,s)],eF5.dW e57 λq g=>.inr (sH (hQ q g.1.1)),λq g=>?_,(eN.loc.bS h5 e57 λq hq5 g r=>?_).mono λq _ g=>?_,?_,⟨?_,λi p y K Z=>?_⟩,λq g=>?_,M,hsub',hnd',S.snoc hB1 (λx r=>by
    obtain⟨_,_,_,_,_,_,h2⟩:=(hI.o x).1 r;exact h2) hr.fW hemp (λb hb r Z=>by have:=r.2;have:=Z.1;omega) k⟩
   ·rcases g with g|g|g
    ·exact hQ q g.1
    ·omega
    ·omega
   ·rcases g.1 with A|A|A
    ·exact A.1.2 r.1.1
    ·exact hnb q r.1.1 A
    ·have:=r.2;omega
   ·have hq5:=g.2;rcases g.1 with A|A|A
    ·exact⟨A.1.1,λr=>by
      rcases r with r|r|r
      ·exact A.1.2 r.1
      ·have:=A.2.1;omega
      ·omega⟩
    ·subst A;exact⟨hbF.1,λr=>by
      rcases r with r|r|r
      ·exact hbF.2 r.1
      ·omega
      ·omega⟩
    ·exact⟨.inr O,λr=>by
      rcases r with r|r|r<;>omega⟩
   ·rw[HB];have:fL [(k,s)]=oA (k,s):=by simp[fL]
    rw[this];refine aI.mono hr7 λq _ g=>?_;rcases g with g|g
    ·exact⟨.inl ⟨g.1.1,g.2⟩,λhd=>by
      rcases hd with hd|hd
      ·exact g.1.2 hd.1
      ·omega⟩
    ·exact⟨.inr (.inr O),λhd=>by
      rcases hd with hd|hd<;>omega⟩
   ·rw[zK,zK,hB.1];rfl
   ·rcases kv i ps.length with hi|hi
    ·rw[zd hi]at K;rw[zd (by rw[←hB.1];exact hi)]at Z;obtain⟨a1,a2,a3⟩:=hB6.2 i p y K Z;exact⟨a1,aH.mono (aH.bS a2 e7 λq _ g r=>r.1.2 g.1) λq _ g=>.inl g,a3⟩
    ·rw[zr hi]at K;rw[zr (by rw[←hB.1];exact hi)]at Z;have hi0:i-ps.length=0:=by
      have:=(cY.1 K).1;simp at this;omega
     rw[hi0]at K;rw[show i-w.length=0 by rw[←hB.1];exact hi0]at Z;simp at K Z;subst K;subst Z;exact⟨rfl,aH.mono (aH.bS hr6.fW e7 λq _ g r=>by have:=r.2;have:=g.1;omega) λq _ g=>.inr g,bT.pW hr⟩
   ·rcases g with g|g
    ·exact .inl ⟨hD q g.1,g.2⟩
    ·exact .inr (.inl g.1)
theorem PJ (hso:oz)(h:eN U F Y tb bud ls){R:Sl->Hp->Prop}
 (hR:∀σ' s (Q:Rg),Ext F U σ'->(∀q,Q q->U.size<=q)->eN σ' (λq=>Grow F U q/\¬Q q) Y tb bud (KF Qc tb ls)->iz s (KK Qc tb ls) σ' Q->R s σ'):X2.c (aW Y.p) U R:=by
 refine X2.o ?_;unfold X2.v;exact Ij hso O2 (λc _=>TH c) h hR
theorem Px (hso:oz)(h:eN U F Y tb bud ls){R:Sl->Hp->Prop}
 (hR:∀σ' s (Q:Rg),Ext F U σ'->(∀q,Q q->U.size<=q)->eN σ' (λq=>Grow F U q/\¬Q q) Y tb bud (KF Vx tb ls)->iz s (KK Vx tb ls) σ' Q->R s σ'):Xo.c (aW Y.p) U R:=by
 refine Xo.o ?_;unfold Xo.v;exact Ij hso OO PI h hR
end Go.Ar