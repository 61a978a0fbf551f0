/- Texts joined. -/
import Derived.Test.YtoeidadjhkkioaaGreatDoorL3
set_option linter.unusedVariables false
set_option linter.unusedSimpArgs false
namespace Go.Vc
open Go
def xC (h:Hp)(it r:Nat):Nat:=
 match h[it]?,h[r]? with
 | some (.mapIter _ _ seen _),some (.map es _)=>(es.toList.filter λe=>!seen.contains e.born).length
 | _,_=>0
variable {U:Hp}{k:IntKind}{c:CK}{l todo:List (Int×c.T)}{cur:Option (Int×c.T)}{r it:Nat}
theorem It.num {h:Hp}(hi:It h it k c (some r) l todo cur):xC h it r=todo.length:=by
 obtain⟨s,d,a,g,i,j,u,w,m,b,p⟩:=hi;unfold xC;rw[g,i];have:=congrArg List.length b;simpa using this
theorem It.bS {h h':Hp}(hi:It h it k c (some r) l todo cur)(h1:h'[it]?=h[it]?)(h2:h'[r]?=h[r]?):It h' it k c (some r) l todo cur:=by
 obtain⟨g,d,b,i,j,a⟩:=hi;exact⟨g,d,b,h1.trans i,h2.trans j,a⟩
theorem Cm {A:aP}{body:Int->c.T->Hp->(Hp->Prop)->Prop}(hm:dL U r k c l)(I:List (Int×c.T)->Hp->Prop)
 (h0:∀v,v.size=U.size+1->aF U v->I l v)
 (hend:∀v,I [] v->A v)
 (hstep:∀todo n x v v' (J:aP),I todo v->(n,x)∈todo->Ka v v' U.size->U.size<v.size->(∀w,w[U.size]?=v'[U.size]?->w[r]?=v'[r]?->I (todo.filter λy=>!(y.1==n)) w->J w)->body n x v' J) :
 oW k c (some r) U λit v3=>X8 [] (λI=>I v3) λJ1 v4=>pG k c it v4 (A v4) λ_ _ v5=>oO k c it v5 λkey1 val1=>body key1 val1 v5 J1:=by
 refine⟨l,hm,λv M N hi=>?_⟩;have F:aF U v:=⟨O,λb p _=>N b p⟩;refine JW (λw=>∃todo a,It w U.size k c (some r) l todo a/\I todo w/\U.size<w.size) (λw=>xC w U.size r) ⟨l,none,hi,h0 v M F,O⟩ ?_;rintro w ⟨todo,a,g,D,z⟩;refine⟨rfl,some r,l,todo,a,g,λL=>?_,λn x C H E i=>?_⟩
 ·subst L;exact hend w D
 ·refine⟨rfl,some r,l,_,n,x,i,hstep todo n x w H _ D C E z λu s j m=>?_⟩;have d:=i.bS s j;refine⟨⟨_,_,d,m,?_⟩,?_⟩
  ·obtain⟨P,K,B,G,_⟩:=d;exact(jY.1 G).1
  ·rw[d.num,g.num];exact C7.2 ⟨(n,x),C,by simp⟩
theorem wU {a:CK}{x0:a.T}{A:a.T->Hp->Prop}{body:Int->c.T->a.T->Hp->(a.T->Hp->Prop)->Prop}(hm:dL U r k c l)(I:List (Int×c.T)->a.T->Hp->Prop)
 (h0:∀v,v.size=U.size+1->aF U v->I l x0 v)
 (hend:∀z v,I [] z v->A z v)
 (hstep:∀todo n x z v v' (J:a.T->Hp->Prop),I todo z v->(n,x)∈todo->Ka v v' U.size->U.size<v.size->(∀z' w,w[U.size]?=v'[U.size]?->w[r]?=v'[r]?->I (todo.filter λy=>!(y.1==n)) z' w->J z' w)->body n x z v' J) :
 oW k c (some r) U λit v3=>X8 [a] (λI=>I x0 v3) λJ1 z v4=>pG k c it v4 (A z v4) λ_ _ v5=>oO k c it v5 λkey1 val1=>body key1 val1 z v5 J1:=by
 refine⟨l,hm,λv P Q hi=>?_⟩;have H:aF U v:=⟨O,λb s _=>Q b s⟩;refine Qz (a:=a) (λz w=>∃todo d,It w U.size k c (some r) l todo d/\I todo z w/\U.size<w.size) (λ_ w=>xC w U.size r) ⟨l,none,hi,h0 v P H,O⟩ ?_;rintro z w ⟨todo,d,i,F,C⟩;refine⟨rfl,some r,l,todo,d,i,λN=>?_,λn x E L G j=>?_⟩
 ·subst N;exact hend z w F
 ·refine⟨rfl,some r,l,_,n,x,j,hstep todo n x z w L _ F E G C λz' u B m p=>?_⟩;have g:=j.bS B m;refine⟨⟨_,_,g,p,?_⟩,?_⟩
  ·obtain⟨R,M,D,K,_⟩:=g;exact(jY.1 K).1
  ·rw[g.num,i.num];exact C7.2 ⟨(n,x),E,by simp⟩
end Go.Vc
namespace Go.Ar
open Go Go.Vc Go.Proofs
open Go.Bu (ZE)
variable {U:Hp}{F:Rg}{p q r:Nat}{sp:Sp}{l:List (Int×Sl)}{B:Nat->Nat}
theorem Qd {α:Type}{l:List (Int×α)}(hn:(l.map (·.1)).Nodup){n:Int}{x:α}(h:(n,x)∈l):bU l n=some x:=by
 induction l with
 | nil=>simp at h
 | cons y l ih=>
  rw[KX];simp only[zR,zr]at hn;rcases zW.1 h with h1|h1
  ·subst h1;rw[zC rfl]
  ·have:¬y.1=n:=λe=>hn.1 (zE.2 ⟨_,h1,e.symm⟩);rw[zB this];exact ih hn.2 h1
end Go.Ar
namespace Go.Bu
open Go Go.Vc Go.Proofs
variable {U:Hp}{p n sb:Nat}{S:Nat->Bool}{ms:List Nat}
def kD (ms:List Nat):List Value:=ms.map λm=>Value.map (some m)
structure Part (B:Nat) (h:Hp) (p n:Nat) (j:Nat) (s:Sl) (ms:List Nat):Prop where
 len:ms.length=j
 sl:s.len=j
 hd:bY h p [.int .i64 n,.slice s.a s.len s.cap]
 own:Go.Vc.Own (λb=>B<=b/\b≠p/\b∉ms) h s 1 (kD ms)
 new:∀m∈ms,B<=m/\m≠p/\m<h.size
 nd:ms.Nodup
theorem Part.done {B:Nat}{h:Hp}{j:Nat}{s:Sl}(hp:Part B h p n j s ms)(hB:B<=p)(hj:0<j)(n1:1<=n)(n2:n<=1024)(lo:2^j<=2*n)(hi:n<2^j)(jJ:Bounded S n)
 (maps:∀k m,ms[k]?=some m->∃B:List (Int×Bool),dL h m .i64 .b B/\Keys S k B):∃sb,BH h p n S sb ms/\∀b,fp p sb ms b->B<=b:=by
 rcases hp.own.2 with⟨_,hl,_⟩|⟨sb,cs,⟨hq,hqp,hqm⟩,ha,hb,hle,hcl,ht⟩
 ·have:=hp.sl;omega
 ·refine⟨sb,⟨?_,?_,maps,?_,n1,n2,?_,?_,jJ⟩,?_⟩
  ·refine⟨s.cap,?_⟩;have:=hp.hd;rw[ha,hp.sl,←hp.len]at this;exact this
  ·refine⟨cs.drop (kD ms).length,?_⟩;have:kD ms++cs.drop (kD ms).length=cs:=by
    conv=>lhs;lhs;rw[←ht]
    exact oD _ _
   show bY h sb (kD ms++_);rw[this];exact hb
  ·simp only[zr,zW,not_or];exact⟨⟨λe=>hqp e.symm,λa=>(hp.new p a).2.1 rfl⟩,hqm,hp.nd⟩
  ·rw[hp.len];exact lo
  ·rw[hp.len];exact hi
  ·intro b hb;simp only[fp,zW]at hb;rcases hb with rfl|rfl|h
   ·exact hB
   ·exact hq
   ·exact(hp.new b h).1
theorem Part.RA {B:Nat}{h:Hp}{j:Nat}{s:Sl}(hp:Part B h p n j s ms):cell h ⟨p,1,none⟩=some (.slice s.a s.len s.cap):=by rw[hp.hd.cell];rfl
theorem Part.bP {B:Nat}{h h':Hp}{j:Nat}{s:Sl}(hp:Part B h p n j s ms)(e:aF h h'):Part B h' p n j s ms:=
 ⟨hp.len,hp.sl,e.bV hp.hd id,hp.own.bP e,λm a=>⟨(hp.new m a).1,(hp.new m a).2.1,wg (hp.new m a).2.2 e.1⟩,hp.nd⟩
theorem Part.step {B:Nat}{h:Hp}{j m e t bytes:Nat}{s:Sl}{zs:List Value}{K:Sl->Hp->Prop}(hp:Part B h p n j s ms)(hj:j<=1000)(hbt:bytes<=1000)(hz:zs.length=1)(hm:B<=m)(hmp:m≠p)(hml:m<h.size)(hmn:m∉ms)(hms:¬Gb s m)
 (hpB:p<h.size) (hBh:B<=h.size)
 (hgo:∀s' h',Ext (Gb s) h h'->s'.len=j+1->bY h' p [.int .i64 n,.slice s.a s.len s.cap] →
  (∀h2,Ka h' h2 p->bY h2 p [.int .i64 n,.slice s'.a s'.len s'.cap]->Part B h2 p n (j+1) s' (ms++[m]))->K s' h') :
 App s 1 bytes e zs ⟨some ⟨h.size,0,none⟩,1,1⟩ (h.push (.cells #[.map (some m)] t (0,0))) K:=by
 have G:=hp.sl;have u:Go.Vc.Own (λb=>B<=b/\b≠p/\b∉ms++[m]) (h.push (.cells #[.map (some m)] t (0,0))) s 1 (kD ms):=by
  have d:=hp.own;have h2:Go.Vc.Own (λb=>B<=b/\b≠p/\b∉ms++[m]) h s 1 (kD ms):=by
   refine⟨d.1,d.2.imp id ?_⟩;rintro⟨b,cs,⟨q1,q2,q3⟩,ha,r⟩;refine⟨b,cs,⟨q1,q2,?_⟩,ha,r⟩;simp only[zM,zN,not_or];exact⟨q3,λe=>hms ⟨0,by rw[ha,e]⟩⟩
  exact h2.bP (H8 _ _)
 have z:(h.push (.cells #[.map (some m)] t (0,0))).size=h.size+1:=by simp
 refine u.app (ys:=[.map (some m)]) ?_ hz rfl PK (by simp[dY]) ?_ ?_ nh λs' h' A J L N=>?_
 ·intro b i;rw[z]at i;refine⟨O,O,?_⟩;simp only[zM,zN,not_or];exact⟨λw=>by have:=(hp.new b w).2.2;omega,O⟩
 ·simp only;have:(s.len+1)*bytes<=1001*1000:=mr O hbt;omega
 ·simp only;omega
 ·simp only at A;have g:Ext (Gb s) h h':=(H8 h _).to.trans J;have D:¬Gb s p:=λi=>(hp.own.jo i).1.2.1 rfl;refine hgo s' h' g O (g.bV hp.hd D) λh2 y C=>⟨by simp[hp.len],O,C,?_,?_,?_⟩
  ·have:kD (ms++[m])=kD ms++[.map (some m)]:=by simp[kD]
   rw[this];exact L.bS (Ext.eV (F:=(· = p)) y rfl) (λb M _ E=>M.2.1 E)
  ·intro x hx;have H:h2.size=h'.size:=y.1;have:=g.1;rcases zM.1 hx with d|d
   ·have:=hp.new x d;exact⟨this.1,this.2.1,O⟩
   ·simp at d;subst d;exact⟨hm,hmp,O⟩
  ·rw[nk];refine⟨hp.nd,by simp,?_⟩;intro a ha b i;simp at i;subst i;rintro rfl;exact hmn ha
def iE:Nat->Bool:=λ_=>false
theorem RP (k:Nat):Keys iE k []:=by
 refine⟨by simp,λq a=>?_⟩;have:=Uv a (Vn k q);simp[iE]at this
theorem tP (aG:Int){R:Option Addr->Int->Hp->Prop}(hbad:¬(1<=aG/\aG<=1024)->R none 1 U)
 (hR:∀(n:Nat),aG=(n:Int)->1<=n->n<=1024->∀σ' sb ms,aF U σ'->BH σ' U.size n iE sb ms->(∀b,fp U.size sb ms b->U.size<=b)->R (some ⟨U.size,0,none⟩) 0 σ'):Ky.c aG U R:=by
 refine Ky.o ?_;unfold Ky.v;refine bX.intro (cP (λg=>cF rfl (hbad O)) λg=>?_);refine cP (λh2=>hbad O) λh2=>?_;obtain⟨n,rfl⟩:=zc (show 0<=aG by omega);have M:1<=n:=by omega
 have K:n<=1024:=by omega
 unfold Nw;have e0:=H8 U (.cells #[.int .i64 (n:Int),.slice none 0 0] 52 (0,0));refine Qz (a:=bO) (λt h=>∃(j:Nat) (s:Sl) (ms:List Nat),t=((2^j:Nat):Int)/\2^j<=2*n/\aF U h/\U.size<h.size/\Part U.size h U.size n j s ms/\∀m∈ms,dL h m .i64 .b []) (λt _=>2*n+1-t.toNat)
  ⟨0,⟨none,0,0⟩,[],rfl,by simp;omega,Ext.push _ _ _,by simp,⟨rfl,rfl,bY.push _ _ _,Own.nil _ _ _,by simp,by simp⟩,by simp⟩ ?_
 rintro t h ⟨j,s,ms,rfl,C,L,Q,d,y⟩;have hj:j<=11:=by
  apply Classical.byContradiction;intro hc;have:2^12<=2^j:=oK aB O;omega
 have P:=k5 j;refine cP (λhle=>?_) (λJ=>?_)
 ·refine bL ?_;rw[add_lit,zH];refine oA d.RA ?_;have e1:=H8 h (.map #[] 0);have W:(h.push (.map #[] 0)).size=h.size+1:=by simp
  have B:=d.bP e1;refine B.step (m:=h.size) O O rfl O O O (λw=>by have:=(d.new _ w).2.2;omega) (λr=>by have:=(d.own.jo r).2;omega) O O λX h' D hl r u=>?_;refine bL (r.Pn aA λh2 z A=>?_);have G:=u h2 z A;have H:aF U h2:=by
   refine Ext.fresh (Ext.fresh (L.trans e1) D λi hi=>(d.own.jo hi).1.1) (Ext.eV (F:=(· = U.size)) z rfl) λi hi=>?_;rw[hi];exact zD _
  refine cT (m:=2^(j+1)) (by rw[mG];omega) (by rw[mG];omega) ⟨⟨j+1,X,ms++[h.size],rfl,by rw[mG];omega,H,?_,G,?_⟩,by rw[mG];omega⟩
  ·have:=z.1;have:=D.1;omega
  ·intro m w;have qj:∀{m:Nat},dL (h.push (.map #[] 0)) m .i64 .b []->¬Gb s m->m≠U.size->dL h2 m .i64 .b []:=λY Z E=>HD z (D.fW Y Z) E;rcases zM.1 w with g|g
   ·exact qj (e1.fW (y m g) id) (λr=>(d.own.jo r).1.2.2 g) (d.new m g).2.1
   ·simp at g;subst g;exact qj (dL.push _ _ _) (λr=>by have:=(d.own.jo r).2;omega) O
 ·have p:0<j:=by
   rcases DP j with e|e
   ·subst e;simp at J;omega
   ·exact e
  obtain⟨sb,N,hF⟩:=d.done (S:=iE) (zD _) p M K C O (λx V=>by simp[iE]at V) λk m w=>⟨[],y m (zG w),RP k⟩;exact hR n rfl M K h sb ms L N hF
end Go.Bu
namespace Go.Proofs
open Go.Vc
set_option maxRecDepth 100000
def Xu.h:Hn:=.q .o1 (.q (.cU (.seq [.op,.op,.op,.cX true 5 (RI.ops 5),.op])) .l)
def Xu.v (a:R2)(b:Hp)(c:aO):Prop:=bX (λd e=>c d e) λf=>If (!a.isNone) (bG a 1 b λh=>f (!h.isNone) b) (f false b)
theorem Xu.o {a b c}(d:Xu.v a b c):Xu.c a b c:=Wa Tryz.func133 (x:=Xu.h) (R0 d)
def KA.h:Hn:=.q .o2 (.q (.q .o3 .aJ) (.q .o3 (.q (.q (.cU (.seq [.op,.op,.op,.cX false 3 (RI.ops 3),.op,.cX false 2 [.op,.op],.op,.cX false 2 [.op,.op]])) .aJ) (.q .o8 (.q .o9 (.q .o9 (.q (.q .o3 (.k (.loop [(61,.I)] (.q .o1 (.q (.c .l .l) (.q (.k (.q .o4 (.q .o7 (.q .o9 (.cU (.gP true [18,21] [] (.tk [0,1,2,3,4,5,6,9,10,11,12,13] (.all [(7,.all [(8,.all [(14,.all [(15,.take 16 (.take 17 (.all [(18,.take 19 (.take 20 (.all [(21,.done)])))])))])]),(14,.all [(8,.all [(15,.take 16 (.take 17 (.all [(18,.take 19 (.take 20 (.all [(21,.done)])))])))])])]),(14,.all [(7,.all [(8,.all [(15,.take 16 (.take 17 (.all [(18,.take 19 (.take 20 (.all [(21,.done)])))])))])])])])))))))) .o2)))))) (.q .o3 .l))))))))
def KA.v (a:Sl)(b:R2)(c:Int)(d:Hp)(e:Option Addr->Int->Hp->Prop):Prop:=ZZ.c a d λf g=>If (!f) (e none 2 g) (XZ.c b g λh i=>bX (λj k=>bX (λl m=>bX (λn o=>If n (e none 1 o) (Wo.c a o λp q=>QL.c q λr s=>Nw (.map #[] 0) s λt u=>aV #[.slice p.a p.len p.cap,.pointer b,.pointer none,.pointer none,.pointer r,.slice none 0 0,.slice none 0 0,.map (some t.block)] 199 u λv w=>Ky.c h w λx y z=>bW (some v) λaa=>aR aa 2 (.pointer x) z λab=>Vi.c h ab λac ad ae=>bW (some v) λaf=>aR af 3 (.pointer ac) ae λag=>X8 [bO] (λah=>ah 0 ag) λai (aj:Int) ak=>If (aj<((a.len:Nat):Int)) (Ix a.a a.len aj 3 λal=>aQ al 0 ak λam=>aQ al 1 ak λan=>aQ al 2 ak λao=>aV #[.I 0,.I 0,.I 0] 149 ak λap aq=>aR ap 0 (.I am) aq λar=>aR ap 1 (.I an) ar λau=>aR ap 2 (.I ao) au λav=>aQ ap 0 av λaw=>aQ ap 1 av λax=>aQ ap 2 av λay=>QK.c aw ax ay av λaz a0 a1=>aQ ap 2 a1 λa2=>Qg.c a2 c a1 λa3 a4 a5=>Jn [] (λa6=>bM (aj+1) λa7=>ai a7 a6) λa8=>dW a5 λa9=>bW (some v) λba=>aT a9 ba 5 λbb=>bW (some v) λbc=>aT a9 bc 6 λbd=>(aV #[.pointer az] 202 a5 λbe bf=>And (a9 bf) <| (App bb 1 8 202 [.pointer none] ⟨some be,1,1⟩ bf λbg bh=>And (a9 bh) <| aV #[.pointer a3] 204 bh λbi bj=>And (a9 bj) <| App bd 1 8 204 [.pointer none] ⟨some bi,1,1⟩ bj λbk bl=>And (a9 bl) <|
 bW (some v) λbm=>aR bm 5 (.slice bg.a bg.len bg.cap) bl λbn=>bW (some v) λbo=>aR bo 6 (.slice bk.a bk.len bk.cap) bn λbp=>a8 bp) ∧ (aV #[.pointer a3] 204 bf λbq br=>And (a9 br) <| App bb 1 8 202 [.pointer none] ⟨some be,1,1⟩ br λbs bt=>And (a9 bt) <| App bd 1 8 204 [.pointer none] ⟨some bq,1,1⟩ bt λbu bv=>And (a9 bv) <| bW (some v) λbw=>aR bw 5 (.slice bs.a bs.len bs.cap) bv λbx=>bW (some v) λbz=>aR bz 6 (.slice bu.a bu.len bu.cap) bx λb0=>a8 b0)) ∧ (aV #[.pointer a3] 204 a5 λb1 b2=>And (a9 b2) <| aV #[.pointer az] 202 b2 λb3 b4=>And (a9 b4) <| App bb 1 8 202 [.pointer none] ⟨some b3,1,1⟩ b4 λb5 b6=>And (a9 b6) <| App bd 1 8 204 [.pointer none] ⟨some b1,1,1⟩ b6 λb7 b8=>And (a9 b8) <| bW (some v) λb9=>aR b9 5 (.slice b5.a b5.len b5.cap) b8 λca=>bW (some v) λcb=>aR cb 6 (.slice b7.a b7.len b7.cap) ca λcc=>a8 cc)) (e (some v) 0 ak))) λcd=>If l (cd true m) (cd (decide (c>8)) m)) λce=>If j (ce true k) (ce (decide (c<0)) k)) λcf=>If (h<32) (cf true i) (Nz 16 <| cf ((h.tmod 16) != 0) i))
theorem KA.o {a b c d e}(f:KA.v a b c d e):KA.c a b c d e:=Wa Tryz.func154 (x:=KA.h) (R0 f)
def WU.h:Hn:=.q .o2 (.q (.q .o4 (.q .o2 (.c (.q .o3 .l) .l))) (.q (.o 12) .l))
def WU.v (a:R2)(b:Int)(c:Hp)(d:Sl->Int->Hp->Prop):Prop:=Xf.c a b c λe f=>If (e != 0) (d ⟨none,0,0⟩ e f) (bF a 6 f λh=>Ix h.a h.len b 1 λi=>fY i f λj=>WV.c j f λk l m=>d k l m)
theorem WU.o {a b c d}(e:WU.v a b c d):WU.c a b c d:=Wa Tryz.func169 (x:=WU.h) (R0 e)
def WY.h:Hn:=.q .o2 (.q (.q .o4 (.q .o2 (.c (.q .o3 .l) .l))) (.q (.o 13) .l))
def WY.v (a:R2)(b c:Int)(d:Hp)(e:Sl->Int->Hp->Prop):Prop:=Xf.c a b d λf g=>If (f != 0) (e ⟨none,0,0⟩ f g) (bF a 5 g λi=>Ix i.a i.len b 1 λj=>fY j g λk=>Xr.c k c g λl m n=>e l m n)
theorem WY.o {a b c d e}(f:WY.v a b c d e):WY.c a b c d e:=Wa Tryz.func171 (x:=WY.h) (R0 f)
def Yz.h:Hn:=.q .o1 (.q (.q .o4 (.q .o2 .aJ)) (.q (.o 17) (.q (.q .o2 .aJ) (.q .gD .l))))
def Yz.v (a:R2)(b:Int)(c:Hp)(d:aN):Prop:=Xf.c a b c λe f=>If (e != 0) (d e f) (bF a 0 f λh=>Ix h.a h.len b 3 λi=>aQ i 1 f λj=>bM (b+1) λk=>Y3.c a j 1 k f λl m n=>If (m != 0) (d m n) (bF a 5 n λp=>Ix p.a p.len b 1 λq=>fY q n λr=>Y6.c r l n λs t=>d s t))
theorem Yz.o {a b c d}(e:Yz.v a b c d):Yz.c a b c d:=Wa Tryz.func172 (x:=Yz.h) (R0 e)
def Xe.h:Hn:=.q .o2 (.q (.k (.q .o4 (.c .aL (.q (.cU (.seq [.op,.op,.op,.cX false 2 [.op,.op],.op,.cX false 2 [.op,.op],.op,.cX false 2 [.op,.op],.op,.cX false 5 (RI.ops 5),.op])) .aJ)))) (.q .o9 (.q (.q .o2 (.c (.q .o3 .l) .l)) (.q .o7 (.q .o3 .l)))))
def Xe.v (a:R2)(b c:Int)(d:Hp)(e:Int->Int->Hp->Prop):Prop:=Xu.c a d λf g=>If (!f) (e 0 5 g) (bX (λh i=>bX (λj k=>bX (λl m=>bX (λn o=>If n (e 0 1 o) (Y3.c a b c 41 o λp q r=>If (q != 0) (e 0 q r) (bJ a 7 r λt=>kI .i64 bO t p b r λu=>e p 0 u))) λv=>If l (v true m) (bM (c-1) λw=>v ((bits .and .i64 c w) != 0) m)) λx=>If j (x true k) (x (decide (c>16)) k)) λy=>If h (y true i) (y (decide (c<1)) i)) λz=>If (b<1) (z true g) (z (decide (b>64)) g))
theorem Xe.o {a b c d e}(f:Xe.v a b c d e):Xe.c a b c d e:=Wa Tryz.func174 (x:=Xe.h) (R0 f)
def Xb.h:Hn:=.q .o1 (.q (.q .o3 .aK) (.q (.o 11) (.q (.q .o2 .aK) (.q .o6 (.q .o6 .aM)))))
def Xb.v (a:R2)(b:Int)(c:Hp)(d:aN):Prop:=Xu.c a c λe f=>If (!e) (d 5 f) (bJ a 7 f λh=>Lk .i64 bO h b f λi=>If (!i.isSome) (d 8 f) (bJ a 7 f λk=>lY .i64 bO k b f λl=>aV #[.I b,.I (i.getD 0)] 268 l λm n=>Yk.c a ⟨some m,1,1⟩ n λo=>d 0 o))
theorem Xb.o {a b c d}(e:Xb.v a b c d):Xb.c a b c d:=Wa Tryz.func182 (x:=Xb.h) (R0 e)
def Yk.h:Hn:=.q .o3 (.k (.loop [(8,.I)] (.q .o1 (.q (.c .l .l) (.q (.k (.q .o4 (.q (.cU (.tail 8 (RI.ops 8) [.op])) (.q (.cU (.tail 8 (RI.ops 8) [.op])) (.cU (.tail 8 (RI.ops 8) [.op])))))) .o2)))))
def Yk.v (a:R2)(b:Sl)(c:Hp)(d:aP):Prop:=X8 [bO] (λe=>e 0 c) λf (g:Int) h=>If (g<((b.len:Nat):Int)) (Ix b.a b.len g 2 λi=>aQ i 0 h λj=>aQ i 1 h λk=>aV #[.I 0,.I 0] 268 h λl m=>aR l 0 (.I j) m λn=>aR l 1 (.I k) n λo=>bG a 4 o λq=>aQ l 0 o λr=>aQ l 1 o λs=>X4.c q r s o λt u=>bG a 3 u λw=>aQ l 0 u λx=>aQ l 1 u λy=>XI.c w x y u λz aa=>bG a 2 aa λac=>aQ l 0 aa λad=>aQ l 1 aa λae=>Yp.c ac ad ae aa λaf ag=>bM (g+1) λah=>f ah ag) (d h)
theorem Yk.o {a b c d}(e:Yk.v a b c d):Yk.c a b c d:=Wa Tryz.func184 (x:=Yk.h) (R0 e)
def Xc.h:Hn:=.q .o1 (.q (.q .o4 (.q .o2 .aJ)) (.q (.o 14) (.q (.q .o2 .aJ) (.q .o3 .aM))))
def Xc.v (a:R2)(b:Int)(c:Sl)(d:Hp)(e:aN):Prop:=Xf.c a b d λf g=>If (f != 0) (e f g) (bF a 5 g λi=>Ix i.a i.len b 1 λj=>fY j g λk=>Y9.c k c g λl m n=>If (m != 0) (e m n) (Yk.c a l n λo=>e 0 o))
theorem Xc.o {a b c d e}(f:Xc.v a b c d e):Xc.c a b c d e:=Wa Tryz.func194 (x:=Xc.h) (R0 f)
def Xf.h:Hn:=.q .o1 (.q (.k (.q .o4 (.c .aM (.q (.cU (.seq [.op,.op,.op,.cX false 7 (RI.ops 7),.op])) .aK)))) .aM)
def Xf.v (a:R2)(b:Int)(c:Hp)(d:aN):Prop:=Xu.c a c λe f=>If (!e) (d 5 f) (bX (λg h=>If g (d 1 h) (d 0 h)) λi=>If (b<0) (i true f) (bF a 0 f λk=>i (decide (b≥((k.len:Nat):Int))) f))
theorem Xf.o {a b c d}(e:Xf.v a b c d):Xf.c a b c d:=Wa Tryz.func231 (x:=Xf.h) (R0 e)
def Y3.h:Hn:=.q .o2 (.q (.o 12) (.kN [(10,.I),(11,.I)] (.q .o2 (.c (.q .o1 (.q (.k (.loop [(12,.I)] (.q (.q .o5 (.c .l .l)) (.k .o3)))) (.q (.q .o4 .aJ) (.o 12)))) .l)) (.q (.q .o2 (.c (.q .o3 .l) .l)) (.q .o7 (.q .o8 (.q .o3 .l))))))
def Y3.v (a:R2)(b c d:Int)(e:Hp)(f:Int->Int->Hp->Prop):Prop:=bG a 2 e λh=>X1.c h b c e λi j k=>Jn [bO,bO] (λ(l:Int) (m:Int) n=>If (m != 0) (f 0 m n) (bG a 3 n λp=>XT.c p l b n λq r=>bG a 4 r λt=>Yq.c t l b d r λu v=>f l 0 v)) λw=>If (j==6) (X8 [bO] (λx=>x 16 k) λy (z:Int) aa=>If (z<(if c>b then c else b)) (bM (z*2) λab=>y ab aa) (Zd.c a z aa λac ad=>If (!ac) (f 0 6 ad) (bG a 2 ad λaf=>X1.c af b c ad λag ah ai=>w ag ah ai))) (w i j k)
theorem Y3.o {a b c d e f}(g:Y3.v a b c d e f):Y3.c a b c d e f:=Wa Tryz.func234 (x:=Y3.h) (R0 g)
def Ze.h:Hn:=.q .o3 (.q (.q .o3 (.c (.q .o3 .l) .l)) (.q (.q .o2 (.c (.q .o3 .l) .l)) (.q .o8 (.q (.q .o2 (.c (.q .o3 .l) .l)) (.kN [] (.q .o2 (.c (.q .o5 (.k (.loop [] (.q (.cU (.seq [.it .i64 bO,.op])) (.q (.c .l .l) (.k (.q (.cU (.seq [.it .i64 bO,.op,.op,.op,.op])) (.q .o3 (.q (.cU (.seq [.op,.op,.op,.op,.cX true 5 (RI.ops 5)])) (.c (.q .o5 .l) .l)))))))))) .l)) (.q (.o 15) (.q (.q .o2 (.c (.q .o4 .l) .l)) (.q .o6 .l))))))))
def Ze.v (a:R2)(b:Int)(c:Hp)(d:Int->Int->Int->Hp->Prop):Prop:=Xu.c a c λe f=>If (!e) (d 0 0 5 f) (If (b<0) (d 0 0 8 f) (bG a 4 f λh=>Nz 256<|bM (b.tdiv 256) λi=>Zn.c h i f λj k=>If (j==0) (d 0 0 8 k) (Jn [] (λl=>bF a 5 l λn=>bM (j-1) λo=>Ix n.a n.len o 1 λp=>fY p l λq=>YF.c q b l λr s t=>If (s != 0) (d 0 0 s t) (bM (j-1) λu=>d u r 0 t)) λv=>If (j==41) (bJ a 7 k λx=>oW .i64 bO x k λy z=>X8 [] (λaa=>aa z) λab ac=>pG .i64 bO y ac (v ac) (λad ae af=>oO .i64 bO y af λag ah=>Nz 256<|bM (b.tdiv 256) λai=>bX (λaj ak=>If aj (bM (ag*256) λal=>d (-1) al 0 ak) (ab ak)) λam=>If (ag<=ai) (bM (ag+ah) λan=>am (decide (ai<an)) af) (am false af))) (v k))))
theorem Ze.o {a b c d}(e:Ze.v a b c d):Ze.c a b c d:=Wa Tryz.func238 (x:=Ze.h) (R0 e)
def W5.h:Hn:=.q .o2 (.q (.q .o4 (.q .o2 (.c (.q .o3 .l) .l))) (.q (.q (.o 11) .aJ) (.q (.q .o3 (.k (.loop [(32,.I)] (.q .o1 (.q (.c .l .l) (.q (.k (.q .o3 (.q (.o 14) (.q (.cU (.seq [.op,.op,.op,.cX false 2 [.op,.op]])) .aJ)))) .o2)))))) (.q (.o 13) .l))))
def W5.v (a:R2)(b:Int)(c:Sl)(d:Hp)(e:Bool->Int->Hp->Prop):Prop:=Xf.c a b d λf g=>If (f != 0) (e false f g) (bF a 0 g λi=>Ix i.a i.len b 3 λj=>aQ j 2 g λk=>If (((c.len:Nat):Int) != k) (e false 1 g) (X8 [bO] (λl=>l 0 g) λm (n:Int) o=>If (n<((c.len:Nat):Int)) (Ix c.a c.len n 1 λp=>bN p o λq=>bF a 5 o λs=>Ix s.a s.len b 1 λt=>fY t o λu=>Xp.c u q o λv w x=>bX (λy z=>If y (e false 8 z) (bM (n+1) λaa=>m aa z)) λab=>If (w != 0) (ab true x) (ab (!v) x)) (bF a 6 o λad=>Ix ad.a ad.len b 1 λae=>fY ae o λaf=>Xq.c af c o λag ah ai=>e ag ah ai)))
theorem W5.o {a b c d e}(f:W5.v a b c d e):W5.c a b c d e:=Wa Tryz.func242 (x:=W5.h) (R0 f)
def Zf.h:Hn:=.q .o1 (.q (.cU (.seq [.op,.op,.op,.cX true 7 (RI.ops 7),.op])) .l)
def Zf.v (a:R2)(b:Int)(c:Hp)(d:aO):Prop:=Xu.c a c λe f=>bX (λg h=>d g h) λi=>If e (bG a 3 f λk=>Ye.c k b f λl m=>i (decide (l>0)) m) (i false f)
theorem Zf.o {a b c d}(e:Zf.v a b c d):Zf.c a b c d:=Wa Tryz.func284 (x:=Zf.h) (R0 e)
def Zd.h:Hn:=.q .o1 (.q (.q .o2 (.k (.loop [(5,.I)] (.q (.q .o9 (.c .l .l)) (.q (.k (.q (.q .o8 (.c .l .l)) (.q (.q .o3 (.k (.loop [(6,.I)] (.q (.q .o6 (.c .l .l)) (.q (.k .o6) .o3))))) (.q .o7 .aM)))) .o4))))) .aM)
def Zd.v (a:R2)(b:Int)(c:Hp)(d:aO):Prop:=X8 [bO] (λe=>e b c) λf (g:Int) h=>bM (g+b) λi=>bG a 1 h λk=>XZ.c k h λl m=>If (i<=l) (bG a 1 m λo=>Zt.c o g b m λp q=>If (p != 0) (bM (g+b) λr=>f r q) (Nz 16<|bM (g.tdiv 16) λs=>X8 [bO] (λt=>t s q) λu (v:Int) w=>bM (g+b) λx=>Nz 16<|bM (x.tdiv 16) λy=>If (v<y) (bG a 3 w λaa=>Yu.c aa v w λab ac=>bM (v+1) λad=>u ad ac) (bG a 2 w λaf=>Yp.c af g b w λag ah=>d true ah))) (d false m)
theorem Zd.o {a b c d}(e:Zd.v a b c d):Zd.c a b c d:=Wa Tryz.func287 (x:=Zd.h) (R0 e)
end Go.Proofs
namespace Go.Ar
open Go Go.Vc Go.Proofs
open Go.Bu (ZE Kj ZB)
inductive Lb where
 | hd|dG|free|oC|own|dU|cS|runs
 | cG (k:Nat)
 | cR (k:Nat)
 deriving DecidableEq
structure Lay where
 p:Nat
 hs:Nat
 fr:Nat
 tr:Nat
 op:Nat
 rn:Nat
 dG:Sl
 dU:Sl
 cS:Sl
 fN:List Nat
 gC:List Nat
def k8 (Y:Lay):List Value:=[.slice Y.dG.a Y.dG.len Y.dG.cap,.pointer (some ⟨Y.hs,0,none⟩),.pointer (some ⟨Y.fr,0,none⟩),.pointer (some ⟨Y.tr,0,none⟩),.pointer (some ⟨Y.op,0,none⟩),.slice Y.dU.a Y.dU.len Y.dU.cap,.slice Y.cS.a Y.cS.len Y.cS.cap,.map (some Y.rn)]
def gM (tb:List cA):List Value:=tb.flatMap λc=>[.int .i64 (c.size:Int),.int .i64 (c.aG:Int),.int .i64 (c.batch:Int)]
def fO (l:List Nat):List Value:=l.map λb=>.pointer (some ⟨b,0,none⟩)
def iT (l:List (Nat×Nat)):List (Int×Int):=l.map λr=>((r.1:Int),(r.2:Int))
def uR (p n:Nat)(S:Nat->Bool):Hp->Rg->Prop:=λU F=>∃sb ms,Go.Bu.BH U p n S sb ms/\∀b,Go.Bu.fp p sb ms b->F b
def mV (p:Nat)(st:List Nat):Hp->Rg->Prop:=λU F=>∃q,im U p q st/\F p/\F q
def ke (p:Option Nat)(c:Option cA)(ss:Option (List cH)):Hp->Rg->Prop:=λU F=>match p,c,ss with
 | some p,some c,some ss=>∃ps,fJ U F p c ps ss
 | _,_,_=>True
def lC (p:Option Nat)(c:Option cA)(room:Nat)(t:Option gT):Hp->Rg->Prop:=λU F=>match p,c,t with
 | some p,some c,some t=>iV U F p c.batch room t
 | _,_,_=>True
def AC (A:AR)(Y:Lay)(T:Nat->Hp->Rg->Prop):Lb->Hp->Rg->Prop
 | .hd=>iD Y.p (k8 Y)
 | .dG=>cV Y.dG 3 (gM A.tb)
 | .free=>uR Y.fr A.n A.S
 | .oC=>mV Y.tr A.st
 | .own=>λU F=>jl U F Y.op A.ow
 | .dU=>bT Y.dU 1 (fO Y.fN)
 | .cS=>bT Y.cS 1 (fO Y.gC)
 | .runs=>jP Y.rn .i64 bO (iT A.runs)
 | .cG k=>ke Y.fN[k]? A.tb[k]? A.cG[k]?
 | .cR k=>T k
def cM (A:AR)(Y:Lay)(k:Nat):Hp->Rg->Prop:=lC Y.gC[k]? A.tb[k]? A.room A.cR[k]?
theorem uR.loc (p n:Nat)(S:Nat->Bool):dN (uR p n S):=by
 rintro U σ' F G ⟨d,i,h,s⟩ y r;have m:∀b,Go.Bu.fp p d i b->b<U.size:=λb a=>by
  unfold Go.Bu.fp at a;rcases zW.1 a with h1|h1
  ·obtain⟨c,g⟩:=h.hd;rw[h1];exact g.lt
  rcases zW.1 h1 with h2|h2
  ·obtain⟨c,g⟩:=h.row;rw[h2];exact g.lt
  ·obtain⟨k,x⟩:=zP h2;obtain⟨B,u,_⟩:=h.maps k b x;exact u.lt
 have e:Ext (λb=>¬Go.Bu.fp p d i b) U σ':=⟨y,λb a j=>(r b a (s b (Classical.not_not.1 j))).2⟩;exact⟨d,i,h.bS e λb a w=>w a,λb a=>(r b (m b a) (s b a)).1⟩
theorem mV.loc (p:Nat)(st:List Nat):dN (mV p st):=by
 rintro U σ' F G ⟨q,h,j,i⟩ s a;have e:Ext (λb=>b≠p/\b≠q) U σ':=⟨s,λb m r=>by
  by_cases h1:b=p
  ·subst h1;exact(a b m j).2
  ·have g:b=q:=Classical.byContradiction λg=>r ⟨h1,g⟩;subst g;exact(a b m i).2⟩
 exact⟨q,h.bS e (λd=>d.1 rfl) (λd=>d.2 rfl),(a p h.lt.1 j).1,(a q h.lt.2 i).1⟩
theorem ke.loc (p:Option Nat)(c:Option cA)(ss:Option (List cH)):dN (ke p c ss):=by
 rintro U g F G h b d;unfold ke at *;split
 ·simp only at h;obtain⟨a,h⟩:=h;exact⟨a,fJ.loc _ _ _ _ h b d⟩
 ·trivial
theorem lC.loc (p:Option Nat)(c:Option cA)(room:Nat)(t:Option gT):dN (lC p c room t):=by
 rintro U d F G h b a;unfold lC at *;split
 ·exact iV.loc _ _ _ _ h b a
 ·trivial
theorem AC.loc {A:AR}{Y:Lay}{T:Nat->Hp->Rg->Prop}(hT:∀k,dN (T k)):∀i,dN (AC A Y T i)
 | .hd=>iD.loc _ _
 | .dG=>cV.loc _ _ _
 | .free=>uR.loc _ _ _
 | .oC=>mV.loc _ _
 | .own=>jl.loc
 | .dU=>bT.loc _ _ _
 | .cS=>bT.loc _ _ _
 | .runs=>jP.loc _ _ _ _
 | .cG k=>ke.loc _ _ _
 | .cR k=>hT k
theorem cM.loc {A:AR}{Y:Lay}(k:Nat):dN (cM A Y k):=lC.loc _ _ _ _
structure fA (A:AR) (Y:Lay):Prop where
 c:Y.fN.length=A.tb.length
 t:Y.gC.length=A.tb.length
 cG:A.cG.length=A.tb.length
 cR:A.cR.length=A.tb.length
 nG:1<=A.tb.length
 rk:A.tb.length<=40
 n1:32<=A.n
 n2:A.n<=1024
 n3:A.n%16=0
 st:A.st.length=A.n
 room:A.room<=8
 ok:∀c∈A.tb,c.ok
structure dJ (U:Hp) (F:Rg) (Y:Lay) (A:AR) (T:Nat->Hp->Rg->Prop):Prop where
 lay:fA A Y
 tl:∀k,dN (T k)
 sep:Sep (AC A Y T) U F
def AH (U:Hp)(F:Rg)(p hs:Nat)(A:AR):Prop:=∃Y:Lay,Y.p=p/\Y.hs=hs/\dJ U F Y A (cM A Y)
variable {U:Hp}{F:Rg}{p hs:Nat}{A:AR}{Y:Lay}{T:Nat->Hp->Rg->Prop}
theorem dJ.loc:dN λU F=>dJ U F Y A T:=λU d F G h b a=>⟨h.lay,h.tl,Sep.loc (AC.loc h.tl) _ _ _ _ h.sep b a⟩
theorem AH.loc:dN λU F=>AH U F p hs A:=λU g F G ⟨Y,a,d,h⟩ b hs=>⟨Y,a,d,dJ.loc _ _ _ _ h b hs⟩
theorem dJ.bP {σ':Hp}(h:dJ U F Y A T)(e:aF U σ'):dJ σ' F Y A T:=dN.bP dJ.loc h e
theorem AH.bP {σ':Hp}(h:AH U F p hs A)(e:aF U σ'):AH σ' F p hs A:=dN.bP AH.loc h e
theorem dJ.hd (h:dJ U F Y A T):bY U Y.p (k8 Y):=by
 obtain⟨G,d,b,a⟩:=h.sep.get .hd;exact a
theorem Un (tb:List cA):(gM tb).length=tb.length*3:=by
 induction tb with
 | nil=>rfl
 | cons x l ih=>simp only[gM,pA,zK,zS,lA]at *;omega
theorem y9 {tb:List cA}{i:Nat}{c:cA}(h:tb[i]?=some c):(gM tb)[3*i]?=some (.int .i64 (c.size:Int))/\(gM tb)[3*i+1]?=some (.int .i64 (c.aG:Int))/\(gM tb)[3*i+2]?=some (.int .i64 (c.batch:Int)):=by
 induction tb generalizing i with
 | nil=>simp at h
 | cons x l ih=>
  have e:gM (x::l)=[.int .i64 (x.size:Int),.int .i64 (x.aG:Int),.int .i64 (x.batch:Int)]++gM l:=by simp[gM]
  rw[e];cases i with
  | zero=>simp at h;subst h;simp
  | succ i=>
   have:=ih (i:=i) (by simpa using h);rw[show 3*(i+1)=3*i+3 by omega];simpa using this
theorem dJ.pt (h:dJ U F Y A T):Y.dG.len=A.tb.length:=by
 obtain⟨G,b,a⟩:=h.sep.get .dG;have:=a.1;rw[Un]at this;omega
theorem uV {s:Sl}{tb:List cA}(h:cV s 3 (gM tb) U F){k d:Nat}{c:cA}(hc:tb[k]?=some c)(hd:d<3){K:Int->Prop}(hK:K (if d=0 then c.size else if d=1 then c.aG else c.batch:Nat)) :
 Ix s.a s.len (k:Int) 3 λa=>gJ .i64 (a.add d) U K:=by
 have i:=y9 hc;have j:(gM tb)[3*k+d]?=some (.int .i64 ((if d=0 then c.size else if d=1 then c.aG else c.batch:Nat):Int)):=by
  match d,hd with
  | 0,_=>exact i.1
  | 1,_=>exact i.2.1
  | 2,_=>exact i.2.2
 have r:=(cY.1 hc).1;obtain⟨b,o,m,g⟩:=h.cell j;have p:=h.1;rw[Un]at p;rw[m];refine ix O O ?_;rw[add_lit,add_lit];refine oc ?_ hK;rw[show o+(k:Int).toNat*3+d=o+(3*k+d) by omega];exact g
theorem dJ.wY (h:dJ U F Y A T){k d:Nat}{c:cA}(hc:A.tb[k]?=some c)(hd:d<3){K:Int->Prop}(hK:K (if d=0 then c.size else if d=1 then c.aG else c.batch:Nat)) :
 Ix Y.dG.a Y.dG.len (k:Int) 3 λa=>gJ .i64 (a.add d) U K:=by
 obtain⟨G,g,b⟩:=h.sep.get .dG;exact uV b hc hd hK
theorem DA {s:Sl}{l:List Nat}(h:cV s 1 (fO l) U F){k q:Nat}(hq:l[k]?=some q){K:Option Addr->Prop}(hK:K (some ⟨q,0,none⟩)):Ix s.a s.len (k:Int) 1 λa=>fY a U K:=by
 have m:=(cY.1 hq).1;obtain⟨b,o,g,d⟩:=h.cell (j:=k) (v:=.pointer (some ⟨q,0,none⟩)) (by simp[fO,hq]);have i:=h.1;simp[fO]at i;rw[g];refine ix O O ?_;rw[add_lit];exact vU (by rw[show o+(k:Int).toNat*1=o+k by omega];exact d) hK
theorem dJ.lZ (h:dJ U F Y A T){k q:Nat}(hq:Y.fN[k]?=some q){K:Option Addr->Prop}(hK:K (some ⟨q,0,none⟩)):Ix Y.dU.a Y.dU.len (k:Int) 1 λa=>fY a U K:=by
 obtain⟨G,d,b⟩:=h.sep.get .dU;exact DA (bT.fX b) hq hK
theorem dJ.sy (h:dJ U F Y A T){k q:Nat}(hq:Y.gC[k]?=some q){K:Option Addr->Prop}(hK:K (some ⟨q,0,none⟩)):Ix Y.cS.a Y.cS.len (k:Int) 1 λa=>fY a U K:=by
 obtain⟨G,d,b⟩:=h.sep.get .cS;exact DA (bT.fX b) hq hK
theorem dJ.at_ (h:dJ U F Y A T){k:Nat}(hk:k<A.tb.length):∃c ss q t r,A.tb[k]?=some c/\A.cG[k]?=some ss/\Y.fN[k]?=some q/\A.cR[k]?=some t/\Y.gC[k]?=some r/\c.ok:=by
 have a:=h.lay.c;have g:=h.lay.t;have d:=h.lay.cG;have b:=h.lay.cR;exact⟨A.tb[k],A.cG[k],Y.fN[k],A.cR[k],Y.gC[k],by simp,by simp,by simp,by simp,by simp,h.lay.ok _ (kv hk)⟩
theorem Eo {k q:Nat}{c:cA}{ss:List cH}{G:Rg}(h1:Y.fN[k]?=some q)(h2:A.tb[k]?=some c)(h3:A.cG[k]?=some ss)(h:AC A Y T (.cG k) U G):∃ps,fJ U G q c ps ss:=by
 simp only[AC]at h;rw[h1,h2,h3]at h;exact h
theorem dJ.cG (h:dJ U F Y A T){k q:Nat}{c:cA}{ss:List cH}(h1:Y.fN[k]?=some q)(h2:A.tb[k]?=some c)(h3:A.cG[k]?=some ss):∃G ps,(∀b,G b->F b)/\fJ U G q c ps ss:=by
 obtain⟨G,g,a⟩:=h.sep.get (.cG k);obtain⟨ps,d⟩:=Eo h1 h2 h3 a;exact⟨G,ps,g,d⟩
theorem Ge (h:dJ U F Y A T){R:aO}(hR:R true U):Xu.c (aW Y.p) U R:=by
 refine Xu.o ?_;unfold Xu.v;exact bX.intro (cF rfl (bL (h.hd.rP rfl hR)))
theorem UV (h:dJ U F Y A T)(k:Int){R:aN}(h1:A.ck k=false->R 1 U)(h0:∀x:Nat,k=x->x<A.tb.length->R 0 U):Xf.c (aW Y.p) k U R:=by
 refine Xf.o ?_;unfold Xf.v;have i:=h.pt;have a:¬(0<=k/\k<A.tb.length)->R 1 U:=λd=>h1 (by unfold AR.ck;rw[←vF];exact zJ d);refine Ge h (cD rfl (bX.intro (cP (λg=>cF rfl (a O)) λg=>bL (h.hd.rS rfl (cP (λb=>?_) λb=>?_)))))
 ·simp only at b;exact a O
 ·simp only at b;exact h0 k.toNat O O
theorem Nk (h:dJ U F Y A T)(x:Int){R:aO}(hR:R (pE A x) U):Zf.c (aW Y.p) x U R:=by
 refine Zf.o ?_;unfold Zf.v;obtain⟨G,b,q,a,_⟩:=h.sep.get .oC;refine Ge h (bX.intro (cF rfl (bL (h.hd.rP rfl (Tz a x ?_)))));have:decide (Bc A.st x>0)=pE A x:=by
  unfold Bc pE;by_cases hx:0<=x
  ·by_cases hl:x<A.st.length
   ·rw[zC ⟨hx,hl⟩,zI hx,se,decide_eq_decide];omega
   ·rw[zB O,zI hx,se,zQ,zX O];rfl
  ·rw[zB O,zJ hx];rfl
 rw[this];exact hR
structure iQ (A:AR):Prop where
 tV:∀r∈A.runs,∀s∈A.runs,∀x,r.1<=x->x<r.1+r.2->s.1<=x->x<s.1+s.2->r=s
 yM:∀x,x<1024->A.ow x=41->(sI A x).isSome=true
 cls:∀x,x<1024->A.ow x≠0->A.ow x≠41->A.ow x<=A.tb.length
 fit:∀r∈A.runs,r.1+r.2<=1024
theorem CT (h:iQ A){x:Nat}{r:Nat×Nat}(hr:r∈A.runs)(h1:r.1<=x)(h2:x<r.1+r.2):sI A x=some r:=by
 cases hf:sI A x with
 | none=>
  unfold sI at hf;rw[ox]at hf;have:=hf r hr;simp[h1,h2]at this
 | some s=>
  unfold sI at hf;have b:=tW hf;have a:=uJ hf;simp at a;rw[h.tV r hr s b x h1 h2 a.1 a.2]
theorem γ (h:dJ U F Y A T)(hr:iQ A)(x:Int)(hx:iN x){R:Int->Int->Int->Hp->Prop}(h1:∀σ' k a,aF U σ'->Hz A x=some (k,a)->R k (a:Int) 0 σ')(h0:∀σ',aF U σ'->Hz A x=none->R 0 0 8 σ') :
 Ze.c (aW Y.p) x U R:=by
 refine Ze.o ?_;unfold Ze.v;refine Ge h (cD rfl (cP (λc1=>h0 U (Ext.refl _ _) (by unfold Hz;rw[zC c1])) λc1=>bL (h.hd.rP rfl (nz aB ?_))));obtain⟨y,rfl⟩:=zc (show 0<=x by omega);have hy:y<=9223372036854775807:=by unfold iN at hx;omega
 have tp:((y:Int).tdiv 256)=((y/256:Nat):Int):=by rw[YS O];simp
 refine ar (by rw[tp];omega) (by rw[tp];omega) ?_;rw[tp];obtain⟨G,hG,hP⟩:=h.sep.get .own;refine Woa hP _ ?_;have eo:r9 A.ow ((y/256:Nat):Int)=if y/256<1024 then A.ow (y/256)else 0:=by
  unfold r9;by_cases hl:y/256<1024
  ·rw[zC O,zC hl];rfl
  ·rw[zB O,zB hl]
 have g:Hz A (y:Int)=(let no:=if y/256<1024 then A.ow (y/256)else 0
  if no=0 then none else if no=41 then(sI A (y/256)).map λr=>(-1,r.1*256)else
  match A.tb[no-1]?,A.cG[no-1]? with
  | some c,some ss=>(rQ c ss (y:Int)).map λa=>(((no-1:Nat):Int),a)
  | _,_=>none):=by
  unfold Hz;rw[zB c1];rfl
 rw[eo];generalize hno:(if y/256<1024 then A.ow (y/256)else 0)=no at *
 simp only at g;rw[xV];refine cN (λQ=>h0 U (Ext.refl _ _) (by rw[g,zC (by simpa using Q)])) λQ=>?_;have E:no≠0:=by simpa using Q
 rw[zB E]at g;have D:y/256<1024:=by
  rcases kr (y/256) 1024 with h|h
  ·exact h
  ·rw[zB O]at hno;exact absurd hno.symm E
 rw[zC D]at hno;refine Jn.intro ?_;have S:(((no:Nat):Int)==41)=(no==41):=l7 no 41;rw[S];refine cN (λW=>?_) λW=>?_
 ·have w:no=41:=by simpa using W
  subst w;rw[zC rfl]at g;obtain⟨r,M⟩:=pF.1 (hr.yM _ D hno);have j:=tW M;have C:=uJ M;simp at C;obtain⟨G,hG,N⟩:=h.sep.get .runs;refine bL (h.hd.rM rfl ?_);refine Cm N.2 (λb v=>aF U v/\(∀z∈b,z∈iT A.runs)/\((r.1:Int),(r.2:Int))∈b) (λv hz e=>⟨e,λz hz=>hz,zE.2 ⟨r,j,rfl⟩⟩) (λv hv=>absurd hv.2.2 aA) ?_;rintro b n z v v' J ⟨e,d,B⟩ hm ho hlt2 hJ;have e':aF U v':=Ext.fresh e ho.ext λi hi=>by omega
  obtain⟨s,P,hse⟩:=zE.1 (d _ hm);cases hse;have hfit:=hr.fit s P;refine nz aB (ar O O ?_);refine bX.intro (cP (λc3=>ar O O (cP (λc4=>?_) λc4=>?_)) λc3=>cD rfl ?_)
  ·have V:=CT hr P (x:=y/256) O O;refine ar O O ?_;have:=h1 v' (-1) (s.1*256) e' (by rw[g,V];rfl);simpa using this
  ·refine hJ v' rfl rfl ⟨e',λu Z=>d u (zL.1 Z).1,zL.2 ⟨B,?_⟩⟩;have:¬(r.1:Int)=(s.1:Int):=λe=>by
    have:=CT hr j C.1 C.2;have e1:r.1=s.1:=by omega
    by_cases h2:r.2=0
    ·omega
    by_cases h3:s.2=0
    ·have:=N.2.nodup;have H:=Qd this (zE.2 ⟨r,j,rfl⟩);have L:=Qd this (zE.2 ⟨s,P,rfl⟩);rw[e1,L]at H;have:s.2=r.2:=by
      have:(s.2:Int)=(r.2:Int):=Option.some.inj H;omega
     omega
    ·have:=hr.tV r j s P r.1 O O O O;subst this;omega
   simpa using this
  ·refine hJ v' rfl rfl ⟨e',λu Z=>d u (zL.1 Z).1,zL.2 ⟨B,?_⟩⟩;have:¬(r.1:Int)=(s.1:Int):=λe=>by omega
   simpa using this
 ·have w:no≠41:=by simpa using W
  rw[zB w]at g;have X:=hr.cls _ D (by rw[hno];exact E) (by rw[hno];exact w);rw[hno]at X;obtain⟨c,ss,q,t,r,hc,K,hq,_,_,hok⟩:=h.at_ (k:=no-1) O;obtain⟨G,ps,hG,hC⟩:=h.cG hq hc K;rw[hc,K]at g;simp only at g;refine bL (h.hd.rS rfl (cT (m:=no-1) O (by have:=h.lay.rk;omega) (h.lZ hq (SC hC _ hx (λa ha=>?_) λha=>?_))))
  ·refine cD rfl (cT (m:=no-1) O (by have:=h.lay.rk;omega) (h1 U _ a (Ext.refl _ _) ?_));rw[g,ha];rfl
  ·refine cF rfl (h0 U (Ext.refl _ _) ?_);rw[g,ha];rfl
end Go.Ar
namespace Go.Ar
open Go Go.Vc Go.Proofs
open Go.Bu (ZE Kj ZB)
open Classical in
theorem _root_.Go.Vc.Sep.j5 {L:Type}{C:L->Hp->Rg->Prop}{U:Hp}{F:Rg}(hC:∀i,dN (C i))(h:Sep C U F)(i:L):∃G:Rg,(∀b,G b->F b)/\C i U G/\(∀j,j≠i->∃H:Rg,(∀b,H b->F b)/\(∀b,H b->¬G b)/\C j U H)/\∀(σ':Hp) (C':L->Hp->Rg->Prop) (G':Rg),
 (∀j,j≠i->C' j=C j)->Ext G U σ'->(∀b,G' b->G b\/U.size<=b)->C' i σ' G'->dN (C' i)->Sep C' σ' λb=>F b/\b<U.size/\¬G b\/G' b:=by
 obtain⟨ρ,h⟩:=h;refine⟨_,λb a=>a.1,h i,λj s=>⟨_,λb a=>a.1,λb m w=>s (m.2.symm.trans w.2),h j⟩,λσ' C' G' s e x hi u=>⟨λb=>if G' b then i else ρ b,λj=>?_⟩⟩
 by_cases hji:j=i
 ·subst hji;exact u.mono hi λb _ a=>⟨.inr a,zC a⟩
 ·rw[s j hji];refine hC j _ _ _ _ (h j) e.1 λb a r=>?_;have d:¬(F b/\ρ b=i):=λp=>hji (r.2.symm.trans p.2);have g:¬G' b:=λp=>by
   rcases x b p with m|m
   ·exact d m
   ·omega
  exact⟨⟨.inl ⟨r.1,a,d⟩,(zB g).trans r.2⟩,e.2 b a d⟩
variable {U:Hp}{F:Rg}{p hs:Nat}{A:AR}{Y:Lay}{T:Nat->Hp->Rg->Prop}
theorem dJ.step (h:dJ U F Y A T)(i:Lb):∃G:Rg,(∀b,G b->F b)/\AC A Y T i U G/\(∀j,j≠i->∃H:Rg,(∀b,H b->F b)/\(∀b,H b->¬G b)/\AC A Y T j U H)/\∀(σ':Hp) (A':AR) (Y':Lay) (T':Nat->Hp->Rg->Prop) (G' H:Rg),
 fA A' Y'->(∀k,dN (T' k))->(∀j,j≠i->AC A' Y' T' j=AC A Y T j)->Ext G U σ'->(∀b,G' b->G b\/U.size<=b)->AC A' Y' T' i σ' G'->(∀b,(F b/\b<U.size/\¬G b\/G' b)->H b)->dJ σ' H Y' A' T':=by
 obtain⟨G,u,hi,hd,a⟩:=h.sep.j5 (AC.loc h.tl) i;refine⟨G,u,hi,hd,λσ' A' Y' T' G' H m d s e r g p=>⟨m,d,?_⟩⟩;exact(Sep.loc (AC.loc d)).mono (a σ' _ G' s e r g (AC.loc d i)) λb _ w=>p b w
theorem GT {U:Hp}{F G G':Rg}(hG:∀b,G b->F b)(hg:∀b,G' b->G b\/U.size<=b):∀b,(F b/\b<U.size/\¬G b\/G' b)->Grow F U b:=λb a=>by
 rcases a with a|a
 ·exact .inl a.1
 ·exact(hg b a).imp (hG b) id
theorem AA {U:Hp}{F G G':Rg}(hG:∀b,G b->F b)(hg:∀b,G' b->G b):∀b,(F b/\b<U.size/\¬G b\/G' b)->F b:=λb a=>by
 rcases a with a|a
 ·exact a.1
 ·exact hG b (hg b a)
theorem Jt {U:Hp}{F G:Rg}(hG:∀b,G b->F b):∀b,(F b/\b<U.size/\¬G b\/Cut G U b)->Cut F U b:=λb a=>by
 rcases a with a|a
 ·exact⟨a.1,a.2.1⟩
 ·exact⟨hG b a.1,a.2⟩
theorem JH {ow:Nat->Nat}:∀j,j≠Lb.own->AC {A with ow:=ow} Y T j=AC A Y T j:=by
 intro j hj;cases j<;>first|rfl|exact absurd rfl hj
theorem Rb {st:List Nat}:∀j,j≠Lb.oC->AC {A with st:=st} Y T j=AC A Y T j:=by
 intro j hj;cases j<;>first|rfl|exact absurd rfl hj
theorem Ec {S:Nat->Bool}:∀j,j≠Lb.free->AC {A with S:=S} Y T j=AC A Y T j:=by
 intro j hj;cases j<;>first|rfl|exact absurd rfl hj
theorem PZ {rs:List (Nat×Nat)}:∀j,j≠Lb.runs->AC {A with runs:=rs} Y T j=AC A Y T j:=by
 intro j hj;cases j<;>first|rfl|exact absurd rfl hj
theorem NP {k:Nat}{ss:List cH}:∀j,j≠Lb.cG k->AC {A with cG:=A.cG.set k ss} Y T j=AC A Y T j:=by
 intro j hj;cases j<;>first|rfl|skip
 rename_i k';have a:k≠k':=λe=>hj (by rw[e]);simp only[AC];rw[zh a]
theorem fA.ow {ow:Nat->Nat}(h:fA A Y):fA {A with ow:=ow} Y:=⟨h.c,h.t,h.cG,h.cR,h.nG,h.rk,h.n1,h.n2,h.n3,h.st,h.room,h.ok⟩
theorem fA.C6 {S:Nat->Bool}(h:fA A Y):fA {A with S:=S} Y:=⟨h.c,h.t,h.cG,h.cR,h.nG,h.rk,h.n1,h.n2,h.n3,h.st,h.room,h.ok⟩
theorem fA.rh {rs:List (Nat×Nat)}(h:fA A Y):fA {A with runs:=rs} Y:=⟨h.c,h.t,h.cG,h.cR,h.nG,h.rk,h.n1,h.n2,h.n3,h.st,h.room,h.ok⟩
theorem fA.xf {st:List Nat}(h:fA A Y)(hl:st.length=A.st.length):fA {A with st:=st} Y:=⟨h.c,h.t,h.cG,h.cR,h.nG,h.rk,h.n1,h.n2,h.n3,hl.trans h.st,h.room,h.ok⟩
theorem fA.lb {k:Nat}{ss:List cH}(h:fA A Y):fA {A with cG:=A.cG.set k ss} Y:=⟨h.c,h.t,by simpa using h.cG,h.cR,h.nG,h.rk,h.n1,h.n2,h.n3,h.st,h.room,h.ok⟩
theorem Em (st:List Nat)(a m:Int)(v:Nat)(fr:List Nat):(U4 st a m v fr).length=st.length:=by
 unfold U4;split<;>simp[Vs]
theorem Mp (st:List Nat)(k:Int):(je st k).length=st.length:=by
 unfold je;split<;>simp[Vs]
theorem dJ.Clear (h:dJ U F Y A T)(a m:Nat)(ha:a<=1000000){R:aN}(hR:∀σ' t,Ext F U σ'->dJ σ' (Grow F U) Y {A with ow:=jM A.ow a m 0} T->R t σ'):X4.c (aW Y.op) a m U R:=by
 obtain⟨G,i,hi,_,d⟩:=h.step .own;refine OO hi a m ha λσ' e j=>hR σ' _ (e.sub i) ?_;exact d σ' _ _ T (Grow G U) _ h.lay.ow h.tl JH e (λb g=>g) j (GT i λb g=>g)
theorem dJ.Set (h:dJ U F Y A T)(a m:Nat)(ha:a<=1000000){no:Nat}(h1:1<=no)(h2:no<=1000){R:aN}(hR:∀σ' t,Ext F U σ'->dJ σ' (Grow F U) Y {A with ow:=jM A.ow a m no} T->R t σ'):Yq.c (aW Y.op) a m no U R:=by
 obtain⟨G,i,hi,_,d⟩:=h.step .own;refine Rt hi a m ha h1 h2 λσ' e j=>hR σ' _ (e.sub i) ?_;exact d σ' _ _ T (Grow G U) _ h.lay.ow h.tl JH e (λb g=>g) j (GT i λb g=>g)
theorem dJ.oC (h:dJ U F Y A T):∃G:Rg,(∀b,G b->F b)/\∃q,im U Y.tr q A.st/\F q/\∀(σ':Hp) (st:List Nat),st.length=A.st.length->Ext (· = q) U σ'->im σ' Y.tr q st->Ext F U σ'/\dJ σ' F Y {A with st:=st} T:=by
 obtain⟨G,i,⟨q,m,j,g⟩,_,d⟩:=h.step .oC;refine⟨G,i,q,m,i _ g,λσ' st r e p=>⟨e.sub λb a=>by subst a;exact i _ g,?_⟩⟩;exact d σ' _ _ T G _ (h.lay.xf r) h.tl Rb (e.sub λb a=>by subst a;exact g) (λb a=>.inl a) ⟨q,p,j,g⟩ (AA i λb a=>a)
theorem dJ.wK (h:dJ U F Y A T)(a m:Int){R:aN}(hR:∀σ' t,Ext F U σ'->dJ σ' F Y {A with st:=U4 A.st a m 2 [1]} T->R t σ'):XI.c (aW Y.tr) a m U R:=by
 obtain⟨G,i,q,d,_,b⟩:=h.oC;refine Ol d a m λσ' e g=>?_;have:=b σ' _ (Em _ _ _ _ _) e g;exact hR σ' _ this.1 this.2
theorem dJ.RT (h:dJ U F Y A T)(a m:Int){R:aN}(hR:∀σ' t,Ext F U σ'->dJ σ' F Y {A with st:=U4 A.st a m 1 [2,3]} T->R t σ'):XT.c (aW Y.tr) a m U R:=by
 obtain⟨G,i,q,d,_,b⟩:=h.oC;refine Pq d a m λσ' e g=>?_;have:=b σ' _ (Em _ _ _ _ _) e g;exact hR σ' _ this.1 this.2
theorem dJ.BZ (h:dJ U F Y A T)(k:Int){R:aN}(hR:∀σ' t,Ext F U σ'->dJ σ' F Y {A with st:=je A.st k} T->R t σ'):Yu.c (aW Y.tr) k U R:=by
 obtain⟨G,g,q,b,_,a⟩:=h.oC;refine O9 b k λσ' e d=>?_;have:=a σ' _ (Mp _ _) e d;exact hR σ' _ this.1 this.2
theorem dJ.free (h:dJ U F Y A T):∃sb ms,Go.Bu.BH U Y.fr A.n A.S sb ms/\∀(σ':Hp) (S:Nat->Bool),Ext (· ∈ ms) U σ'->Go.Bu.BH σ' Y.fr A.n S sb ms->Ext F U σ'/\dJ σ' F Y {A with S:=S} T:=by
 obtain⟨G,g,⟨sb,ms,m,i⟩,_,d⟩:=h.step .free;have j:∀b,b∈ms->G b:=λb a=>i b (by unfold Go.Bu.fp;simp[a]);refine⟨sb,ms,m,λσ' S e p=>⟨e.sub λb a=>g b (j b a),?_⟩⟩;exact d σ' _ _ T G _ h.lay.C6 h.tl Ec (e.sub j) (λb a=>.inl a) ⟨sb,ms,p,i⟩ (AA g λb a=>a)
theorem dJ.yj (h:dJ U F Y A T)(a m:Int){R:aN}(hR:∀σ' t,Ext F U σ'->dJ σ' F Y {A with S:=Kj A.n A.S a m} T->R t σ'):Yp.c (aW Y.fr) a m U R:=by
 obtain⟨i,j,g,b⟩:=h.free;refine Go.Bu.r4 g a m λσ' e d=>?_;have:=b σ' _ e d;exact hR σ' _ this.1 this.2
theorem dJ.xd (h:dJ U F Y A T)(a m:Int){R:Int->Int->Hp->Prop}(hR:∀σ',Ext F U σ'->dJ σ' F Y {A with S:=Go.Bu.jk A.n A.S a m} T->R ((Go.Bu.ji A.n A.S a m:Nat):Int) (Go.Bu.jb A.n A.S a m) σ'):X1.c (aW Y.fr) a m U R:=by
 obtain⟨i,j,g,b⟩:=h.free;refine Go.Bu.lG g a m λσ' e d=>?_;have:=b σ' _ e d;exact hR σ' this.1 this.2
def rV (rs:List (Nat×Nat)):List Value:=rs.flatMap λr=>[.int .i64 (r.1:Int),.int .i64 (r.2:Int)]
theorem Jb (rs:List (Nat×Nat)):(rV rs).length=rs.length*2:=by
 induction rs with
 | nil=>rfl
 | cons x l ih=>simp only[rV,pA,zK,zS,lA]at *;omega
theorem RV {l:List (Nat×Nat)}{i:Nat}{r:Nat×Nat}(h:l[i]?=some r):(rV l)[2*i]?=some (.int .i64 (r.1:Int))/\(rV l)[2*i+1]?=some (.int .i64 (r.2:Int)):=by
 induction l generalizing i with
 | nil=>simp at h
 | cons x l ih=>
  have e:rV (x::l)=[.int .i64 (x.1:Int),.int .i64 (x.2:Int)]++rV l:=by simp[rV]
  rw[e];cases i with
  | zero=>simp at h;subst h;simp
  | succ i=>
   have:=ih (i:=i) (by simpa using h);rw[show 2*(i+1)=2*i+2 by omega];simpa using this
theorem Nu (c:cA)(l:List Nat):iP c l=rV (l.map λs=>(s,c.aG)):=by
 simp[iP,rV,List.flatMap_map]
theorem Ot {s:Sl}{rs:List (Nat×Nat)}(h:cV s 2 (rV rs) U F){i:Nat}{r:Nat×Nat}(hr:rs[i]?=some r){K:Int->Int->Prop}(hK:K (r.1:Int) (r.2:Int)) :
 Ix s.a s.len (i:Int) 2 λa=>gJ .i64 (a.add 0) U λu=>gJ .i64 (a.add 1) U λw=>K u w:=by
 have j:=RV hr;have hi:=(cY.1 hr).1;obtain⟨b,o,m,p⟩:=h.cell j.1;obtain⟨y,o1,d,g⟩:=h.cell j.2;rw[m]at d;cases d;have x:=h.1;rw[Jb]at x;rw[m];refine ix O O ?_;rw[add_lit];refine oc ?_ (oc ?_ hK)<;>rw[add_lit]
 ·rw[show o+(i:Int).toNat*2+0=o+2*i by omega];exact p
 ·rw[show o+(i:Int).toNat*2+1=o+(2*i+1) by omega];exact g
theorem dJ.mono {G:Rg}(h:dJ U F Y A T)(hs:∀b,b<U.size->F b->G b):dJ U G Y A T:=dN.mono dJ.loc h hs
theorem dJ.cut (h:dJ U F Y A T):dJ U (Cut F U) Y A T:=dN.cut dJ.loc h
theorem Nx (A:AR)(rs:List (Nat×Nat))(r:Nat×Nat):UJ A (rs++[r])=UC (UJ A rs) r:=by simp[UJ]
theorem Jc (h:dJ U F Y A T){sl:Sl}{rs:List (Nat×Nat)}{X:Rg}(hs:cV sl 2 (rV rs) U X)(hX:∀b,b<U.size->X b->¬F b)(hl:rs.length<=1000000)(hb:∀r∈rs,r.1<=1000000){R:aP}
 (hR:∀σ',Ext F U σ'->dJ σ' (Grow F U) Y (UJ A rs) T->R σ'):Yk.c (aW Y.p) sl U R:=by
 refine Yk.o ?_;unfold Yk.v;have S:sl.len=rs.length:=by have:=hs.1;rw[Jb]at this;omega
 have N:cV sl 2 (rV rs) U (Cut X U):=aH.cut hs;refine Qz (a:=bO) (λ(t:Int) v=>∃i:Nat,t=(i:Int)/\i<=rs.length/\Ext F U v/\dJ v (Grow F U) Y (UJ A (rs.take i)) T) (λt _=>rs.length-t.toNat) ⟨0,rfl,O,Ext.refl _ _,by simpa[UJ]using h.mono λb _ hb=>.inl hb⟩ ?_;rintro t v ⟨i,rfl,hi,e,D⟩;refine cP (λhlt=>?_) λhge=>?_
 ·have u:i<rs.length:=by omega
  have y:rs[i]?=some rs[i]:=cW u;have J:=hb _ (kv u);have B:=aH.bS N e λb M y x=>hX b M y.1 x;refine Ot B y ?_;have K:rs.take (i+1)=rs.take i++[rs[i]]:=by rw[ka,y];rfl
  generalize rs[i]=r at *;refine nw (cs:=[.int .i64 0,.int .i64 0]) λv4 hz4 e4 z=>z.s1 aA λv5 o5 b5=>b5.s1 aA λv6 o6 Z=>?_;have s:aF v v6:=Ext.fresh (Ext.fresh e4 o5.ext λi hi=>O) o6.ext λi hi=>by omega
  have w:=D.cut.bP s;have P:¬Cut (Grow F U) v v.size:=λx=>by have:=x.2;omega
  have g:bY v6 v.size [.int .i64 (r.1:Int),.int .i64 (r.2:Int)]:=Z;have z6:v.size<v6.size:=Z.lt;refine bL (w.hd.rP rfl (g.rI rfl (g.rI rfl (w.Clear r.1 r.2 J λv7 t7 W H=>?_))));have E:=W.bV g P;have d:=H.mono (G:=λb=>Cut (Grow F U) v b\/v.size<b) λb _ hb=>by
   rcases hb with hb|hb
   ·exact .inl hb
   ·exact .inr O
  have L:¬(Cut (Grow F U) v v.size\/v.size<v.size):=λx=>by
   rcases x with h|h
   ·exact P h
   ·omega
  refine bL (d.hd.rP rfl (E.rI rfl (E.rI rfl (d.wK _ _ λv8 t8 Q j=>?_))));have V:=Q.bV E L;refine bL (j.hd.rP rfl (V.rI rfl (V.rI rfl (j.yj _ _ λv9 t9 e9 C=>?_))));have sub:∀b,(Cut (Grow F U) v b\/v.size<b)->Grow F U b:=λb hb=>by
   rcases hb with hb|hb
   ·exact hb.1
   ·exact .inr (by have:=e.1;omega)
  have ee:Ext F U v9:=((((e.trans (aF.to s)).jG (W.sub λb hb=>hb.1))).jG (Q.sub sub)).jG (e9.sub sub);refine cT (m:=i+1) O O ⟨⟨i+1,rfl,O,ee,?_⟩,O⟩;rw[K,Nx];exact C.mono λb _ hb=>sub b hb
 ·have:i=rs.length:=by omega
  subst this;rw[lN]at D;exact hR v e D
end Go.Ar
namespace Go.Proofs
open Go.Vc
set_option maxRecDepth 100000
def X6.h:Hn:=.q .o1 (.q (.q .o3 .aK) (.q .o1 (.q (.q .o5 (.k (.loop [(3,.I)] (.q (.cU (.seq [.it .i64 .p,.op])) (.q (.c .l .l) (.k (.q (.cU (.seq [.it .i64 .p,.op,.op,.op,.op])) (.oq 17)))))))) .aL)))
def X6.v (a:R2)(b:Hp)(c:aN):Prop:=Xt.c a b λd e=>If (!d) (c 0 e) (bJ a 2 e λg=>oW .i64 .p g e λh i=>X8 [bO] (λj=>j 0 i) λk (l:Int) m=>pG .i64 .p h m (c l m) (λn o p=>oO .i64 .p h p λq r=>bF a 0 p λt=>Ix t.a t.len q 3 λu=>aQ u 0 p λv=>bF r 0 p λx=>bM (v*((x.len:Nat):Int)) λy=>bM (l+y) λz=>k z p))
theorem X6.o {a b c}(d:X6.v a b c):X6.c a b c:=Wa Tryz.func90 (x:=X6.h) (R0 d)
def Xt.h:Hn:=.q .o1 (.q (.cU (.seq [.op,.op,.op,.cX true 5 (RI.ops 5),.op])) .l)
def Xt.v (a:R2)(b:Hp)(c:aO):Prop:=bX (λd e=>c d e) λf=>If (!a.isNone) (bJ a 2 b λh=>f (!h.isNone) b) (f false b)
theorem Xt.o {a b c}(d:Xt.v a b c):Xt.c a b c:=Wa Tryz.func132 (x:=Xt.h) (R0 d)
def KB.h:Hn:=.q .o2 (.q (.k (.q .o4 (.c .aL (.q (.cU (.seq [.op,.op,.op,.cX false 2 [.op,.op],.op])) .aJ)))) (.q .o8 .l))
def KB.v (a:Sl)(b:Int)(c:Hp)(d:Option Addr->Int->Hp->Prop):Prop:=ZZ.c a c λe f=>If (!e) (d none 2 f) (bX (λg h=>If g (d none 1 h) (Wo.c a h λi j=>Nw (.map #[] 0) j λk l=>aV #[.slice i.a i.len i.cap,.I b,.map (some k.block)] 188 l λm n=>d (some m) 0 n)) λo=>If (b<0) (o true f) (o (decide (b>65536)) f))
theorem KB.o {a b c d}(e:KB.v a b c d):KB.c a b c d:=Wa Tryz.func155 (x:=KB.h) (R0 e)
def Ym.h:Hn:=.q .o2 (.q .o8 (.q (.q .o2 (.c (.q .o3 .l) .l)) (.q (.q .o6 (.c (.q (.q .o9 (.q .o6 (.c .o8 (.o 11)))) .aL) .l)) (.q .o7 (.q .o8 (.q .gD (.q .gD (.q .o3 .l))))))))
def Ym.v (a:R2)(b:Int)(c:Hp)(d:Int->Int->Hp->Prop):Prop:=XF.c a b c λe f g=>If (f != 0) (d 0 f g) (bF e 0 g λi=>If (((i.len:Nat):Int)==0) (bF a 0 g λk=>Ix k.a k.len b 3 λl=>aQ l 2 g λm=>bE e 1 g λo=>If (o<m) (bE e 1 g λq=>bM (q+1) λr=>bW e λs=>aR s 1 (.I r) g λt=>d 0 4 t) (bE e 1 g λv=>bM (v+m) λw=>bW e λx=>aR x 1 (.I (if 128<w then 128 else w)) g λy=>d 0 4 y)) (bF e 0 g λaa=>bM (((aa.len:Nat):Int)-1) λab=>bF e 0 g λad=>Ix ad.a ad.len ab 1 λae=>bN ae g λaf=>bF e 0 g λah=>fI ah 1 0 ab (ah.cap:Nat) λai=>bW e λaj=>aR aj 0 (.slice ai.a ai.len ai.cap) g λak=>bE e 2 ak λam=>bW e λan=>aR an 2 (.I (if ab<am then ab else am)) ak λao=>d af 0 ao))
theorem Ym.o {a b c d}(e:Ym.v a b c d):Ym.c a b c d:=Wa Tryz.func166 (x:=Ym.h) (R0 e)
def Yo.h:Hn:=.q .o2 (.q .o8 (.q (.q .o2 (.c (.q .o3 .l) .l)) (.q (.oq 15) .l)))
def Yo.v (a:R2)(b:Int)(c:Hp)(d:Int->Int->Hp->Prop):Prop:=XF.c a b c λe f g=>If (f != 0) (d 0 f g) (bE e 1 g λi=>bF a 0 g λk=>Ix k.a k.len b 3 λl=>aQ l 2 g λm=>d (if m<i then m else i) 0 g)
theorem Yo.o {a b c d}(e:Yo.v a b c d):Yo.c a b c d:=Wa Tryz.func168 (x:=Yo.h) (R0 e)
def Yj.h:Hn:=.q .o1 (.q .o8 (.q (.q .o2 .aJ) (.q .o3 (.q .o2 (.q .o4 .l)))))
def Yj.v (a:R2)(b:Int)(c:Sl)(d:Hp)(e:aN):Prop:=XF.c a b d λf g h=>If (g != 0) (e g h) (W3.c c h λi j=>Xi.c i j λk=>Xj.c f i k λl m=>e l m)
theorem Yj.o {a b c d e}(f:Yj.v a b c d e):Yj.c a b c d e:=Wa Tryz.func173 (x:=Yj.h) (R0 f)
def YV.h:Hn:=.q .o2 (.q .o8 (.q (.q .o2 (.c (.q .o3 .l) .l)) (.q (.q .o5 (.q .o2 (.c (.q .o3 .l) .l))) (.q (.q (.oq 10) .aJ) (.q .o9 (.kN [] (.q .o6 (.c .o8 .l)) (.q (.o 11) .l)))))))
def YV.v (a:R2)(b c:Int)(d:Hp)(e:Sl->Int->Hp->Prop):Prop:=XF.c a b d λf g h=>If (g != 0) (e ⟨none,0,0⟩ g h) (aV #[.I c] 3 h λi j=>Xj.c f ⟨some i,1,1⟩ j λk l=>If (k != 0) (e ⟨none,0,0⟩ k l) (bF f 0 l λn=>bE f 1 l λp=>If (((n.len:Nat):Int)<=p) (e ⟨none,0,0⟩ 0 l) (bF a 0 l λr=>Ix r.a r.len b 3 λs=>aQ s 2 l λt=>Jn [] (λu=>bF f 0 u λw=>Xs.c f (if((w.len:Nat):Int)<t then((w.len:Nat):Int)else t) u λx y=>e x 0 y) λz=>bE f 1 l λab=>If (ab<t) (bE f 1 l λad=>bM (ad+1) λae=>bW f λaf=>aR af 1 (.I ae) l λag=>z ag) (z l))))
theorem YV.o {a b c d e}(f:YV.v a b c d e):YV.c a b c d e:=Wa Tryz.func176 (x:=YV.h) (R0 f)
def Yx.h:Hn:=.q .o1 (.q (.cU (.gP false [] [(2,.one .b)] (.take 0 (.all [(1,.take 2 (.split 5 (.tk [3,5,6,7] (.all [(4,.all [(8,.tk [9,10,11] (.done))]),(8,.all [(4,.tk [9,10,11] (.done))])])) (.tk [3,4,5,6,7,8,9,10,11] (.done))))])))) .l)
def Yx.v (a:R2)(b:Hp)(c:aO):Prop:=Jn [.b] (λ(d:Bool) e=>c d e) λf=>Xt.c a b λg h=>If g (bW a λi=>(X6.c a h λj k=>aQ i 1 k λl=>f (decide (j>l)) k) ∧ (aQ i 1 h λm=>X6.c a h λn o=>f (decide (n>m)) o)) (f false h)
theorem Yx.o {a b c}(d:Yx.v a b c):Yx.c a b c:=Wa Tryz.func177 (x:=Yx.h) (R0 d)
def Xn.h:Hn:=.q .o1 (.q .o3 .l)
def Xn.v (a:R2)(b:Hp)(c:Sl->Hp->Prop):Prop:=Xy.c a ⟨241,#[],#[]⟩ b λd e=>c d e
theorem Xn.o {a b c}(d:Xn.v a b c):Xn.c a b c:=Wa Tryz.func178 (x:=Xn.h) (R0 d)
def X7.h:Hn:=.q .o1 (.q .o3 .l)
def X7.v (a:R2)(b:Hp)(c:Sl->Hp->Prop):Prop:=Xy.c a ⟨243,#[],#[]⟩ b λd e=>c d e
theorem X7.o {a b c}(d:X7.v a b c):X7.c a b c:=Wa Tryz.func183 (x:=X7.h) (R0 d)
def XF.h:Hn:=.q .o2 (.q (.q .o3 .aJ) (.q .o4 (.q (.q .o2 .aJ) (.q .o3 .l))))
def XF.v (a:R2)(b:Int)(c:Hp)(d:Option Addr->Int->Hp->Prop):Prop:=Xt.c a c λe f=>If (!e) (d none 5 f) (ZO.c a b f λg h=>If g.isNone (d none 1 h) (d g 0 h))
theorem XF.o {a b c d}(e:XF.v a b c d):XF.c a b c d:=Wa Tryz.func229 (x:=XF.h) (R0 e)
def Xj.h:Hn:=.q .o1 (.q (.q .o9 .aK) (.q (.o 11) .aM))
def Xj.v (a:R2)(b:Sl)(c:Hp)(d:aN):Prop:=bF a 0 c λf=>bM (((f.len:Nat):Int)+((b.len:Nat):Int)) λg=>If (g>256) (d 6 c) (bF a 0 c λi=>XB.c i c λj k=>App j 1 8 3 [.I 0] b k λl m=>bW a λn=>aR n 0 (.slice l.a l.len l.cap) m λo=>d 0 o)
theorem Xj.o {a b c d}(e:Xj.v a b c d):Xj.c a b c d:=Wa Tryz.func237 (x:=Xj.h) (R0 e)
def Xs.h:Hn:=.q .o1 (.q .o8 (.q (.o 11) (.q (.cU (.tail 13 (RI.ops 13) [.op])) .aL)))
def Xs.v (a:R2)(b:Int)(c:Hp)(d:Sl->Hp->Prop):Prop:=bF a 0 c λf=>fI f 1 0 b (f.cap:Nat) λg=>W3.c g c λh i=>bF a 0 i λk=>fI k 1 b (k.len:Nat) (k.cap:Nat) λl=>W3.c l i λm n=>bW a λo=>aR o 0 (.slice m.a m.len m.cap) n λp=>bE a 2 p λr=>bF a 0 p λt=>bW a λu=>aR u 2 (.I (if((t.len:Nat):Int)<r then((t.len:Nat):Int)else r)) p λv=>d h v
theorem Xs.o {a b c d}(e:Xs.v a b c d):Xs.c a b c d:=Wa Tryz.func239 (x:=Xs.h) (R0 e)
def Xy.h:Hn:=.q .o1 (.q (.q .o3 .aK) (.q .o1 (.q (.q .o5 (.k (.loop [(5,.one .s)] (.q (.cU (.seq [.it .i64 .p,.op])) (.q (.c .l .l) (.k (.q (.cU (.seq [.it .i64 .p,.op,.op,.op,.op])) (.q (.o 12) (.q .o3 (.c .o7 .l)))))))))) (.q .o2 .aL))))
def Xy.v (a:R2)(b:Fv)(c:Hp)(d:Sl->Hp->Prop):Prop:=Xt.c a c λe f=>If (!e) (d ⟨none,0,0⟩ f) (bJ a 2 f λh=>oW .i64 .p h f λi j=>X8 [.s] (λk=>k ⟨none,0,0⟩ j) λl (m:Sl) n=>pG .i64 .p i n (Qx.c m ⟨298,#[],#[]⟩ n λo=>d m o) (λp q r=>oO .i64 .p i r λs t=>bF a 0 r λv=>Ix v.a v.len s 3 λw=>aQ w 2 r λx=>VO Tryz.prog b [.pointer t,.I x] [.one .s] r λy z=>If (((y.len:Nat):Int)>0) (aV #[.I s,.slice y.a y.len y.cap] 147 z λaa ab=>App m 2 32 147 [.I 0,.slice none 0 0] ⟨some aa,1,1⟩ ab λac ad=>l ac ad) (l m z)))
theorem Xy.o {a b c d}(e:Xy.v a b c d):Xy.c a b c d:=Wa Tryz.func240 (x:=Xy.h) (R0 e)
def XJ.h:Hn:=.q .o1 (.q .o9 (.kN [] (.q .o6 (.c (.o 12) .l)) (.q .o9 .aL)))
def XJ.v (a:R2)(b:Int)(c:Hp)(d:Sl->Hp->Prop):Prop:=bE a 2 c λf=>bM (f+1) λg=>Nz 2<|bM (g.tdiv 2) λh=>Xs.c a h c λi j=>Jn [] (λk=>bF a 0 k λm=>bW a λn=>aR n 2 (.I ((m.len:Nat):Int)) k λo=>d i o) λp=>bE a 1 j λr=>If (r>b) (bE a 1 j λt=>bM (t-b) λu=>bW a λv=>aR v 1 (.I (if b>u then b else u)) j λw=>p w) (p j)
theorem XJ.o {a b c d}(e:XJ.v a b c d):XJ.c a b c d:=Wa Tryz.func241 (x:=XJ.h) (R0 e)
def YO.h:Hn:=.q .o1 (.q .o8 .l)
def YO.v (a:R2)(b:Int)(c:Hp)(d:Sl->Hp->Prop):Prop:=bF a 0 c λf=>Xs.c a ((f.len:Nat):Int) c λg h=>d g h
theorem YO.o {a b c d}(e:YO.v a b c d):YO.c a b c d:=Wa Tryz.func243 (x:=YO.h) (R0 e)
def ZO.h:Hn:=.q .o1 (.q (.q (.cU (.seq [.op,.op,.op,.op,.cX false 2 [.op,.op],.op,.cX false 7 (RI.ops 7)])) .aK) (.kN [] (.q .o7 (.c .o8 .l)) (.q .o7 .l)))
def ZO.v (a:R2)(b:Int)(c:Hp)(d:Option Addr->Hp->Prop):Prop:=Xt.c a c λe f=>bX (λg h=>bX (λi j=>If i (d none j) (Jn [] (λk=>bJ a 2 k λm=>Lk .i64 .p m b k λn=>d (n.getD none) k) λo=>bW a λp=>bC p 2 j λq=>Lk .i64 .p q b j λr=>If ((r.getD none).isNone) (bJ a 2 j λt=>aV #[.slice none 0 0,.I 1,.I 0] 191 j λu v=>kI .i64 .p t b (some u) v λw=>o w) (o j))) λx=>If g (x true h) (bF a 0 h λz=>x (decide (b≥((z.len:Nat):Int))) h)) λaa=>If (!e) (aa true f) (aa (decide (b<0)) f)
theorem ZO.o {a b c d}(e:ZO.v a b c d):ZO.c a b c d:=Wa Tryz.func281 (x:=ZO.h) (R0 e)
end Go.Proofs
namespace Go.Ar
open Go Go.Vc Go.Proofs
theorem cV.sub {U:Hp}{F:Rg}{s:Sl}{sz:Nat}{xs:List Value}(h:cV s sz xs U F){lo hi mx:Nat}(h1:lo<=hi)(h2:hi<=s.len)(h3:hi<=mx) :
 cV ⟨if mx=lo then s.a else s.a.map (·.add (lo*sz)),hi-lo,mx-lo⟩ sz ((xs.drop (lo*sz)).take ((hi-lo)*sz)) U F:=by
 have i:=h.1;have e1:hi*sz<=s.len*sz:=mq _ h2;have e2:(hi-lo)*sz=hi*sz-lo*sz:=Nat.sub_mul _ _ _;have g:lo*sz<=hi*sz:=mq _ h1;refine⟨by rw[zY,ky];simp only;omega,?_⟩;by_cases hm:mx=lo
 ·left;have:hi-lo=0:=by omega
  rw[this,vO,wb]
 ·rcases h.2 with h0|⟨b,o,cs,hb,ha,hq,hc⟩
  ·left;subst h0;simp
  ·refine .inr ⟨b,o+lo*sz,cs,hb,?_,hq,λj d=>?_⟩
   ·simp only[zB hm,ha,ze,add_lit]
   ·rw[zY,ky]at d;rw[yx,hc _ O,zl,lj,zC O]
inductive tI where
 | hd|dG|mp
 | li (k:Nat)
 deriving DecidableEq
structure gW where
 p:Nat
 m:Nat
 dG:Sl
 ps:List (Nat×Nat)
def iW (ps:List (Nat×Nat))(k:Nat):Option Nat:=(ps.find? λx=>x.1==k).map (·.2)
def kh (ps:List (Nat×Nat)):List (Int×Option Addr):=ps.map λx=>((x.1:Int),some ⟨x.2,0,none⟩)
def np (s:Sl)(l:Li):List Value:=[.slice s.a s.len s.cap,.int .i64 (l.lim:Int),.int .i64 (l.low:Int)]
def jd (b:Nat)(l:Li):Hp->Rg->Prop:=λU F=>F b/\fP l/\∃s:Sl,bY U b (np s l)/\cV s 1 (Wx l.os) U (λq=>F q/\q≠b)/\s.len<=s.cap
def oV (b:Option Nat)(l:Option Li):Hp->Rg->Prop:=λU F=>match b,l with
 | some b,some l=>jd b l U F
 | none,some l=>l=ir
 | _,none=>True
def B7 (Y:gW)(bud:Nat):List Value:=[.slice Y.dG.a Y.dG.len Y.dG.cap,.int .i64 (bud:Int),.map (some Y.m)]
def CC (tb:List cA)(bud:Nat)(ls:List Li)(Y:gW):tI->Hp->Rg->Prop
 | .hd=>iD Y.p (B7 Y bud)
 | .dG=>cV Y.dG 3 (gM tb)
 | .mp=>jP Y.m .i64 .p (kh Y.ps)
 | .li k=>oV (iW Y.ps k) ls[k]?
theorem jd.loc (b:Nat)(l:Li):dN (jd b l):=by
 rintro U y F G ⟨m,u,s,j,p,r⟩ w a;have i:=a b j.lt m;obtain⟨e,x⟩:=j;exact⟨i.1,u,s,⟨e,i.2.trans x⟩,cV.loc _ _ _ _ _ _ _ p w λq g d=>⟨⟨(a q g d.1).1,d.2⟩,(a q g d.1).2⟩,r⟩
theorem oV.loc (b:Option Nat)(l:Option Li):dN (oV b l):=by
 intro U σ' F G h hz hs;unfold oV at *;split at h
 ·exact jd.loc _ _ _ _ _ _ h hz hs
 ·exact h
 ·trivial
theorem CC.loc {tb:List cA}{bud:Nat}{ls:List Li}{Y:gW}:∀i,dN (CC tb bud ls Y i)
 | .hd=>iD.loc _ _
 | .dG=>cV.loc _ _ _
 | .mp=>jP.loc _ _ _ _
 | .li k=>oV.loc _ _
structure eL (U:Hp) (F:Rg) (Y:gW) (tb:List cA) (bud:Nat) (ls:List Li):Prop where
 nG:tb.length<=40
 ok:∀c∈tb,c.ok
 len:ls.length=tb.length
 keys:∀x∈Y.ps,x.1<tb.length
 sep:Sep (CC tb bud ls Y) U F
variable {U:Hp}{F G:Rg}{Y:gW}{tb:List cA}{bud:Nat}{ls:List Li}{b k:Nat}{l:Li}
theorem eL.loc:dN λU F=>eL U F Y tb bud ls:=λU d F G h b a=>⟨h.nG,h.ok,h.len,h.keys,Sep.loc CC.loc _ _ _ _ h.sep b a⟩
theorem eL.bP {σ':Hp}(h:eL U F Y tb bud ls)(e:aF U σ'):eL σ' F Y tb bud ls:=dN.bP eL.loc h e
theorem eL.hd (h:eL U F Y tb bud ls):bY U Y.p (B7 Y bud):=by
 obtain⟨G,b,a⟩:=h.sep.get .hd;exact a.2
theorem eL.jL (h:eL U F Y tb bud ls):cV Y.dG 3 (gM tb) U F:=by
 obtain⟨G,d,a⟩:=h.sep.get .dG;exact aH.mono a λb _ a=>d b a
theorem eL.pt (h:eL U F Y tb bud ls):Y.dG.len=tb.length:=by
 have:=h.jL.1;rw[Un]at this;omega
theorem eL.map (h:eL U F Y tb bud ls):dL U Y.m .i64 .p (kh Y.ps):=by
 obtain⟨G,b,a⟩:=h.sep.get .mp;exact a.2
theorem Cg (ps:List (Nat×Nat))(k:Nat):bU (α:=Option Addr) (kh ps) (k:Int)=(iW ps k).map λb=>some ⟨b,0,none⟩:=by
 induction ps with
 | nil=>rfl
 | cons x l ih=>
  simp only[bU,kh,iW,zR,vV]at *;have e:(((x.1:Nat):Int)==(k:Int))=(x.1==k):=l7 _ _;rw[e];cases x.1==k
  ·exact ih
  ·rfl
theorem JS {ps:List (Nat×Nat)}(h:iW ps k=none):∀x∈ps,x.1≠k:=by
 unfold iW at h;simp only[sj,ox,zU]at h;exact h
theorem Wme {ps:List (Nat×Nat)}(h:iW ps k=none)(b:Nat):dA (α:=Option Addr) (kh ps) (k:Int) (some ⟨b,0,none⟩)=kh (ps++[(k,b)]):=by
 unfold dA;rw[zB]
 ·simp[kh]
 ·simp only[kh,List.any_map,zy,Function.comp,zU,not_exists,not_and];intro x hx e;exact JS h x hx O
theorem Hc {ps:List (Nat×Nat)}(h:iW ps k=none)(b j:Nat):iW (ps++[(k,b)]) j=if j=k then some b else iW ps j:=by
 have a:=JS h;unfold iW at *;rw[List.find?_append];by_cases hj:j=k
 ·subst hj;have:ps.find? (λx=>x.1==j)=none:=by simpa using h
  rw[this];simp
 ·rw[zB hj];cases hf:ps.find? (λx=>x.1==j)with
  | none=>
   have:(k==j)=false:=by simpa using λe=>hj e.symm
   simp[this]
  | some x=>simp
theorem Fz {ps:List (Nat×Nat)}(hn:((kh ps).map (·.1)).Nodup)(h:(k,b)∈ps):iW ps k=some b:=by
 induction ps with
 | nil=>simp at h
 | cons x l ih=>
  simp only[kh,zR,zr]at hn;unfold iW;rw[vV];rcases zW.1 h with rfl|h
  ·simp
  ·have:(x.1==k)=false:=by
    have:x.1≠k:=λe=>hn.1 (zE.2 ⟨(((k:Nat):Int),some ⟨b,0,none⟩),zE.2 ⟨(k,b),h,rfl⟩,by rw[e]⟩);simpa using this
   rw[this];exact ih hn.2 h
theorem HP (h:eL U F Y tb bud ls){R:aO}(hR:R true U):Xt.c (aW Y.p) U R:=by
 refine Xt.o ?_;unfold Xt.v;exact bX.intro (cF rfl (bL (h.hd.rM rfl hR)))
theorem eL.ye (h:eL U F Y tb bud ls)(hb:iW Y.ps k=some b)(hl:ls[k]?=some l):∃G:Rg,(∀q,G q->F q)/\jd b l U G/\¬G Y.m ∧
 ∀(σ':Hp) (l':Li) (G':Rg),Ext G U σ'->(∀q,G' q->Grow G U q)->jd b l' σ' G'->Ext F U σ'/\eL σ' (λq=>F q/\q<U.size/\¬G q\/G' q) Y tb bud (ls.set k l'):=by
 have p:=(cY.1 hl).1;obtain⟨G,r,hi,a,d⟩:=h.sep.j5 CC.loc (.li k);have hi:jd b l U G:=by
  simp only[CC,oV,hb,hl]at hi;exact hi
 have i:¬G Y.m:=by
  obtain⟨H,_,hd,g⟩:=a .mp (by intro e;cases e);exact hd _ g.1
 refine⟨G,r,hi,i,λσ' l' G' e u s=>⟨e.sub r,h.nG,h.ok,by rw[oQ];exact h.len,h.keys,?_⟩⟩;refine d σ' (CC tb bud (ls.set k l') Y) G' (λj w=>?_) e u ?_ (CC.loc _)
 ·cases j<;>try rfl
  rename_i m;have i:m≠k:=λe=>w (by rw[e]);simp only[CC,zh (Ne.symm i)]
 ·simp only[CC,oV,hb,zO p];exact s
theorem eL.mono (h:eL U F Y tb bud ls)(hs:∀q,q<U.size->F q->G q):eL U G Y tb bud ls:=dN.mono eL.loc h hs
theorem eL.cut (h:eL U F Y tb bud ls):eL U (Cut F U) Y tb bud ls:=dN.cut eL.loc h
theorem eL.fB {v:Hp}(h:eL v (Grow F U) Y tb bud ls)(e0:Ext F U v)(hb:iW Y.ps k=some b)(hl:ls[k]?=some l):∃G:Rg,jd b l v G ∧
 ∀(σ':Hp) (l':Li) (G':Rg),Ext G v σ'->(∀q,G' q->Grow G v q)->jd b l' σ' G'->Ext F U σ'/\eL σ' (Grow F U) Y tb bud (ls.set k l'):=by
 obtain⟨G,p,m,_,a⟩:=h.ye hb hl;refine⟨G,m,λσ' l' G' e i g=>?_⟩;obtain⟨e1,j⟩:=a σ' l' G' e i g;refine⟨e0.jG e1,j.mono λq _ d=>?_⟩;have:=e0.1;rcases d with d|d
 ·exact d.1
 ·rcases i q d with h2|h2
  ·exact p q h2
  ·exact .inr O
theorem RW (h:eL U F Y tb bud ls)(hk:k<tb.length){R:Option Addr->Hp->Prop}(hR:∀σ' Y' b,Ext F U σ'->Y'.p=Y.p->iW Y'.ps k=some b->eL σ' (Grow F U) Y' tb bud ls->R (some ⟨b,0,none⟩) σ') :
 ZO.c (aW Y.p) (k:Int) U R:=by
 refine ZO.o ?_;unfold ZO.v;have B:k<ls.length:=by rw[h.len];exact hk
 have z:ls[k]?=some ls[k]:=cW B;generalize ls[k]=l at z;have N:=h.pt;refine HP h (bX.intro (cD rfl ?_));refine bX.intro (fZ O (bL (h.hd.rS rfl ?_)));refine fZ aC ?_;refine Jn.intro (bL (h.hd.rM rfl ⟨_,h.map,?_⟩));rw[Cg];cases hf:iW Y.ps k with
 | some b=>
  refine cD rfl (bL (h.hd.rM rfl ⟨_,h.map,?_⟩));rw[Cg,hf];exact hR U Y b (Ext.refl _ _) rfl hf (h.mono λq _ a=>.inl a)
 | none=>
  refine cF rfl (bL (h.hd.rM rfl (nw (cs:=[.slice none 0 0,.int .i64 1,.int .i64 0]) λv P e y=>?_)));obtain⟨G,H,s,Q,hd,hi,u,r⟩:=h.cut.sep.pd CC.loc .mp (.li k) (by intro e;cases e);have L:∀q,G q->F q:=λq a=>(s q a).1;have hi:jP Y.m .i64 .p (kh Y.ps) U G:=hi;have u:l=ir:=by
   simp only[CC,oV,hf,z]at u;exact u
  have J:=hi.2.lt;have w:dL v Y.m .i64 .p (kh Y.ps):=e.fW hi.2 id;refine⟨Y.m,_,rfl,w,λv2 C i=>?_⟩;rw[Wme hf]at i;have e2:Ext F U v2:=(aF.to e).only C (.inl (L _ hi.1));have E:Ext (λq=>G q\/H q) U v2:=(aF.to e).only C (.inl (.inl hi.1));have A:bY v2 U.size [.slice none 0 0,.int .i64 1,.int .i64 0]:=WE C y O;have d:eL v2 (Grow F U) {Y with ps:=Y.ps++[(k,U.size)]} tb bud ls:=by
   refine⟨h.nG,h.ok,h.len,λx g=>?_,?_⟩
   ·rcases zM.1 g with g|g
    ·exact h.keys x g
    ·simp only[zN]at g;subst g;exact hk
   refine(Sep.loc CC.loc).mono (r v2 (CC tb bud ls {Y with ps:=Y.ps++[(k,U.size)]}) G (· = U.size) (λj D K=>?_) E (λq a=>.inl (.inl a)) (λq a=>.inr O) (λq D K=>?_) ⟨hi.1,i⟩ ?_ CC.loc) λq _ a=>?_
   ·cases j<;>first|rfl|exact absurd rfl D|skip
    rename_i m;have M:m≠k:=λe=>K (by rw[e]);simp only[CC,Hc hf,zB M]
   ·have:=(s q D).2;omega
   ·simp only[CC,Hc hf,zT,z,u,oV];exact⟨rfl,fP.nil,⟨none,0,0⟩,A,cV.nil _ _ _ _,zD _⟩
   ·rcases a with a|a|a
    ·exact .inl a.1.1
    ·exact .inl (L q a)
    ·exact .inr O
  refine bL (d.hd.rM rfl ⟨_,d.map,?_⟩);rw[Cg,Hc hf,zC rfl];exact hR v2 {Y with ps:=Y.ps++[(k,U.size)]} U.size e2 rfl (by show iW (Y.ps++[(k,U.size)]) k=_;rw[Hc hf,zC rfl]) d
theorem AB (h:eL U F Y tb bud ls)(hk:k<tb.length){R:Option Addr->Int->Hp->Prop}(hR:∀σ' Y' b,Ext F U σ'->Y'.p=Y.p->iW Y'.ps k=some b->eL σ' (Grow F U) Y' tb bud ls->R (some ⟨b,0,none⟩) 0 σ') :
 XF.c (aW Y.p) (k:Int) U R:=by
 refine XF.o ?_;unfold XF.v;exact HP h (cD rfl (RW h hk λσ' Y' b e d g a=>cD rfl (hR σ' Y' b e d g a)))
theorem bT.pj {s:Sl}{sz:Nat}{xs:List Value}(h:bT s sz xs U F):s.len<=s.cap:=by
 rcases h.2 with⟨q1,q2⟩|⟨_,_,_,_,_,q,_⟩
 ·omega
 ·exact q
theorem Gq (h:jd b l U G){m:Nat}(hm:m<=l.os.length){R:Sl->Hp->Prop}
 (hR:∀s z σ',Ext (· = b) U σ'->U.size<=z->bT s 1 (Wx (l.os.take m)) σ' (λq=>U.size<=q/\q<z)->jd b (gO m l).2 σ' (λq=>q=b\/z<=q)->R s σ') :
 Xs.c (aW b) (m:Int) U R:=by
 refine Xs.o ?_;unfold Xs.v;obtain⟨Y,g,s,E,J,X⟩:=h;have S:s.len=l.os.length:=by have:=J.1;simp[Wx]at this;omega
 have K:=g.many;have M:=g.low;have i:=cV.sub J (lo:=0) (hi:=m) (mx:=s.cap) O O O;have e1:((Wx l.os).drop (0*1)).take ((m-0)*1)=Wx (l.os.take m):=by simp[Wx]
 rw[e1]at i;refine bL (E.rS rfl (jt (lo:=0) O aC aC (Ga i Ud aC λs1 L P y B=>?_)));have p:=y.bV E id;have A:=aH.bP J y;have w:=cV.sub A (lo:=m) (hi:=s.len) (mx:=s.cap) O O O;have e2:((Wx l.os).drop (m*1)).take ((s.len-m)*1)=Wx (l.os.drop m):=by
  rw[lP (by simp[Wx];omega)];simp[Wx]
 rw[e2]at w;refine bL (p.rS rfl (jt aC aC aC (Ga w Ud aC λs2 V H F u=>?_)));have C:=F.bV p id;refine bL (C.s1 (by simp[np]) λv3 o3 d=>bL (d.rI rfl (bL (d.rS rfl (bL (d.s1 (by simp[np]) λv4 o4 j=>?_))))));have a:Ext (· = b) V v4:=o3.ext.trans o4.ext;have N:=E.lt;have D:=y.1;have r:s2.len=l.os.length-m:=by rw[H];simp only;omega
 refine hR s1 L.size v4 ((aF.to (y.trans F)).trans a) D ?_ ⟨.inl rfl,As g,s2,?_,?_,bT.pj u⟩
 ·refine aI.bS (aI.bP (aI.mono B (G:=λq=>U.size<=q/\q<L.size) λq x Q=>⟨Q,x⟩) F) a λq _ x W=>by omega
 ·have:(if((s2.len:Nat):Int)<(l.low:Int)then((s2.len:Nat):Int)else(l.low:Int))=((min l.low (l.os.length-m):Nat):Int):=by rw[r];split<;>omega
  rw[this]at j;exact j
 ·refine aH.mono (aH.bS u.fX a λq _ x W=>O) λq _ x=>⟨.inr x,O⟩
theorem Px (h:jd b l U G){sl:Sl}{xs:List Int}{X:Rg}(hs:cV sl 1 (Wx xs) U X)(hx:xs≠[])(hfit:l.os.length+xs.length<=256){R:aN}
 (hR:∀σ',Ext (· = b) U σ'->jd b (eM xs l) σ' (λq=>q=b\/U.size<=q)->R 0 σ'):Xj.c (aW b) sl U R:=by
 refine Xj.o ?_;unfold Xj.v;obtain⟨K,w,s,g,d,H⟩:=h;have C:s.len=l.os.length:=by have:=d.1;simp[Wx]at this;omega
 have A:sl.len=xs.length:=by have:=hs.1;simp[Wx]at this;omega
 have y:=pT.2 hx;have z:eM xs l = {l with os:=l.os++xs}:=by unfold eM;rw[zB O]
 refine bL (g.rS rfl (cT (m:=l.os.length+xs.length) aC O (fZ O (bL (g.rS rfl ?_)))));refine XB.o ?_;unfold XB.v;refine jt (lo:=0) aC aC aC ?_;have B:=g.lt;refine⟨Wx l.os,Wx xs,by simp[Wx];omega,by simp[Wx];omega,?_,hs.rd,Ud,?_,by simp only;omega,λi=>by simp only at i;omega,λx c u=>?_⟩
 ·by_cases h0:s.len=0
  ·have:l.os=[]:=Ct.1 O;rw[this];simp only[h0,zT];cases s.a<;>simp[Rd,Wx]
  ·simp only[zB h0,vO];have:=d.rd;cases ha:s.a with
   | none=>rw[ha]at this;simpa[Rd]using this
   | some a=>rw[ha]at this;simpa[Rd,Addr.add_zero']using this
 ·simp only;have:(s.len-0+sl.len)*8<=256*8:=mr O O;omega
 ·refine nw λv J e p=>bL ((e.bV g id).s1 (by simp[np]) λD o2 r=>?_);have F:l.os.length+xs.length<=c:=by simp only at u;omega
  refine hR D ((aF.to e).trans o2.ext) ?_;rw[z];have:=AE (xs:=xs) w;rw[z]at this;refine⟨.inl rfl,this,⟨some ⟨U.size,0,none⟩,s.len-0+sl.len,c⟩,r,⟨by simp[Wx];omega,.inr ⟨U.size,0,_,⟨.inr (zD _),O⟩,rfl,(WE o2 p O).q,λj E=>?_⟩⟩,by simp only;omega⟩;simp only[Wx,zj,zK]at E;rw[zH,zk,←zk,zd (by simp[Wx];omega)];simp[Wx]
theorem Po (h:jd b l U G){sl:Sl}{xs:List Int}{X:Rg}(hs:cV sl 1 (Wx xs) U X)(hfit:¬l.os.length+xs.length<=256)(hxs:xs.length<=1000000){R:aN}
 (hR:R 6 U):Xj.c (aW b) sl U R:=by
 refine Xj.o ?_;unfold Xj.v;obtain⟨p,a,s,j,d,r⟩:=h;have i:s.len=l.os.length:=by have:=d.1;simp[Wx]at this;omega
 have g:sl.len=xs.length:=by have:=hs.1;simp[Wx]at this;omega
 have:=a.many;exact bL (j.rS rfl (cT (m:=l.os.length+xs.length) aC O (l0 O hR)))
end Go.Ar
namespace Go.Ar
open Go Go.Vc Go.Proofs
variable {U:Hp}{F G:Rg}{Y:gW}{tb:List cA}{bud:Nat}{ls:List Li}{b k:Nat}{l:Li}{c:cA}
theorem eL.cls (h:eL U F Y tb bud ls)(hc:tb[k]?=some c):c.ok/\k<tb.length:=⟨h.ok c (zG hc),(cY.1 hc).1⟩
theorem jd.st {v:Hp}(h:jd b l U G){s:Sl}{l':Li}(ho:Ext (· = b) U v)(hb:bY v b (np s l'))(hs:cV s 1 (Wx l'.os) U (λq=>G q/\q≠b))(hc:s.len<=s.cap)(ok:fP l'):jd b l' v G:=
 ⟨h.1,ok,s,hb,aH.bS hs ho λq _ d a=>d.2 a,hc⟩
theorem lG (h:eL U F Y tb bud ls)(hc:tb[k]?=some c)(hl:ls[k]?=some l){R:Int->Int->Hp->Prop}
 (hR:∀σ' Y',Ext F U σ'->Y'.p=Y.p->eL σ' (Grow F U) Y' tb bud (ls.set k (KK c l).2)->R ((KK c l).1.getD 0) (if(KK c l).1.isSome then 0 else 4) σ'):Ym.c (aW Y.p) (k:Int) U R:=by
 obtain⟨u,hk⟩:=h.cls hc;refine Ym.o ?_;unfold Ym.v;refine AB h hk λv Y' b e hp hb N=>cD rfl ?_;obtain⟨G,Z,J⟩:=N.fB e hb hl;have A:=Z;obtain⟨P,i,s,g,L,r⟩:=Z;have H:=N.hd;rw[hp]at H;have V:s.len=l.os.length:=by have:=L.1;simp[Wx]at this;omega
 have o1:=i.low;have o2:=i.many;have o3:=i.lim;have o4:=i.nJ;have a:=ER u i;have fin:∀v' G',Ext G v v'->(∀q,G' q->Grow G v q)->jd b (KK c l).2 v' G'->R ((KK c l).1.getD 0) (if(KK c l).1.isSome then 0 else 4) v':=λv' G' X hg Q=>by
  obtain⟨e2,h2⟩:=J v' _ G' X hg Q;exact hR v' Y' e2 hp h2
 unfold cA.ok at u;have y:∀{v':Hp},Ext (· = b) v v'->Ext G v v':=λX=>X.sub λq B=>by rw[B];exact P
 refine bL (g.rS rfl ?_);by_cases h0:l.os=[]
 ·have e1:(KK c l).1=none:=by unfold KK;rw[h0];rfl
  have e2:(KK c l).2=if l.lim<c.batch then{l with lim:=l.lim+1}else{l with lim:=min (l.lim+c.batch) 128}:=by unfold KK;rw[h0];rfl
  rw[e1,e2]at fin;rw[e2]at a;refine cF (by simp[V,h0]) (bL (H.rS rfl (uV N.jL hc (d:=2) O ?_)));simp only[zB (show ¬(2=0) by omega),zB (show ¬(2=1) by omega)];refine bL (g.rI rfl (cP (λc1=>?_) λc1=>?_))
  ·have z:l.lim<c.batch:=by omega
   rw[zC z]at fin a;refine bL (g.rI rfl (cT (m:=l.lim+1) O O (bL (g.s1 (by simp[np]) λv' D j=>?_))));exact fin v' G (y D.ext) (λq B=>.inl B) (A.st D.ext j L r a)
  ·have z:¬l.lim<c.batch:=by omega
   rw[zB z]at fin a;refine bL (g.rI rfl (cT (m:=l.lim+c.batch) O O (bL (g.s1 (by simp[np]) λv' D j=>?_))));refine fin v' G (y D.ext) (λq B=>.inl B) (A.st D.ext ?_ L r a);have:(if(128:Int)<((l.lim+c.batch:Nat):Int)then(128:Int)else((l.lim+c.batch:Nat):Int))=((min (l.lim+c.batch) 128:Nat):Int):=by split<;>omega
   rw[this]at j;exact j
 ·have aa:=pT.2 h0;obtain⟨x,hx⟩:∃x,l.os[l.os.length-1]?=some x:=⟨_,cW O⟩;have M:l.os.getLast?=some x:=by rw[List.getLast?_eq_getElem?];exact hx
  have e1:(KK c l).1=some x:=by unfold KK;rw[M]
  have e2:(KK c l).2 = {l with os:=l.os.dropLast,low:=min l.low (l.os.length-1)}:=by unfold KK;rw[M]
  rw[e1,e2]at fin;rw[e2]at a;refine cD (by simp only[mP];omega) ?_;refine bL (g.rS rfl (cT (m:=l.os.length-1) aC O (bL (g.rS rfl (L.lL hx (bL (g.rS rfl ?_)))))));have w:=cV.sub L (lo:=0) (hi:=l.os.length-1) (mx:=s.cap) O O O;have ed:((Wx l.os).drop (0*1)).take ((l.os.length-1-0)*1)=Wx l.os.dropLast:=by simp[Wx,yY]
  rw[ed]at w;refine jt (lo:=0) O aC aC (bL (g.s1 (by simp[np]) λv1 S C=>bL (C.rI rfl (bL (C.s1 (by simp[np]) λv2 W E=>?_)))));have K:=S.ext.trans W.ext;refine fin v2 G (y K) (λq B=>.inl B) (A.st K ?_ w aC a);have:(if((l.os.length-1:Nat):Int)<(l.low:Int)then((l.os.length-1:Nat):Int)else(l.low:Int))=((min l.low (l.os.length-1):Nat):Int):=by split<;>omega
  rw[this]at E;exact E
theorem ξ (h:eL U F Y tb bud ls)(hc:tb[k]?=some c)(hl:ls[k]?=some l){R:Int->Int->Hp->Prop}
 (hR:∀σ' Y',Ext F U σ'->Y'.p=Y.p->eL σ' (Grow F U) Y' tb bud ls->R ((pz c l:Nat):Int) 0 σ'):Yo.c (aW Y.p) (k:Int) U R:=by
 obtain⟨j,y⟩:=h.cls hc;refine Yo.o ?_;unfold Yo.v;refine AB h y λv Y' b e r A g=>cD rfl ?_;obtain⟨G,x,u⟩:=g.fB e A hl;obtain⟨w,z,s,i,B,m⟩:=x;have a:=g.hd;rw[r]at a;refine bL (i.rI rfl (bL (a.rS rfl (uV g.jL hc (d:=2) O ?_))));simp only[zB (show ¬(2=0) by omega),zB (show ¬(2=1) by omega)];have:(if(c.batch:Int)<(l.lim:Int)then(c.batch:Int)else(l.lim:Int))=((pz c l:Nat):Int):=by unfold pz;split<;>omega
 rw[this];exact hR v Y' e r g
theorem Ns (l:List Int)(i:Nat)(h:i<l.length):l.reverse[i]?=l[l.length-1-i]? := by
 rw[List.getElem?_reverse h]
theorem Pr {s:Sl}{xs:List Int}(h:bT s 1 (Wx xs) U F)(hlen:xs.length<=1000000){R:aP}(hR:∀σ',Ext F U σ'->bT s 1 (Wx xs.reverse) σ' F->R σ'):Xi.c s U R:=by
 refine Xi.o ?_;unfold Xi.v;have N:s.len=xs.length:=by have:=h.1;simp[Wx]at this;omega
 let jn (i:Nat):List Int:=(List.range xs.length).map λj=>if j<i\/xs.length-i<=j then xs.getD (xs.length-1-j) 0 else xs.getD j 0
 have lI:∀i,(jn i).length=xs.length:=λi=>by simp[jn]
 have bU:∀i j,j<xs.length->(jn i)[j]?=some (if j<i\/xs.length-i<=j then xs.getD (xs.length-1-j) 0 else xs.getD j 0):=λi j d=>by simp[jn,d]
 have S:jn 0=xs:=by
  apply zt;intro j;by_cases d:j<xs.length
  ·rw[bU 0 j d,zB O];simp[zQ,cW d]
  ·rw[zX (by rw[lI];omega),zX O]
 have y:∀i,xs.length<=2*i+1->i<=xs.length->jn i=xs.reverse:=by
  intro i K J;apply zt;intro j;by_cases d:j<xs.length
  ·rw[bU i j d,Ns xs j d,zQ,zQ,cW (show xs.length-1-j<xs.length by omega),cW d];split
   ·rfl
   ·have:xs.length-1-j=j:=by omega
    simp only[this];rfl
  ·rw[zX (by rw[lI];omega),zX aE]
 have step:∀i,2*i+1<xs.length->((jn i).set i (xs.getD (xs.length-1-i) 0)).set (xs.length-1-i) (xs.getD i 0)=jn (i+1):=by
  intro i hi;apply zt;intro j;by_cases d:j<xs.length
  ·rw[bU (i+1) j d,nB,nB];simp only[oQ,lI];by_cases e1:xs.length-1-i=j
   ·subst e1;rw[zC rfl,zC O,zC O]
    congr 2;omega
   ·rw[zB e1];by_cases e2:i=j
    ·subst e2;rw[zC rfl,zC O,zC O]
    ·rw[zB e2,bU i j d];by_cases e3:j<i\/xs.length-i<=j
     ·rw[zC e3,zC O]
     ·rw[zB e3,zB O]
  ·rw[zX (by simp[lI];omega),zX (by rw[lI];omega)]
 refine vH ?_;rw[Up O O];refine Ux (a:=bO) (bb:=bO) (λ(i j:Int) v=>∃n:Nat,i=(n:Int)/\j=(xs.length:Int)-1-n/\n<=xs.length/\Ext F U v/\bT s 1 (Wx (jn n)) v F) (λi _ _=>xs.length-i.toNat) ⟨0,rfl,O,O,Ext.refl _ _,by rw[S];exact h⟩ ?_;rintro i j v ⟨n,rfl,rfl,W,ev,w⟩;refine cP (λP=>?_) λQ=>?_
 ·have A:2*n+1<xs.length:=by omega
  have E:(xs.length:Int)-1-n=((xs.length-1-n:Nat):Int):=by omega
  rw[E];have C:=bU n (xs.length-1-n) O;have D:=bU n n O;rw[zB O]at C D;rw[zQ]at C D;obtain⟨b,r⟩:∃b,s.a=some ⟨b,0,none⟩:=by
   rcases w.2 with⟨q1,q2⟩|⟨b,cs,_,B,_⟩
   ·omega
   ·exact⟨b,B⟩
  have p:∀u,bT s 1 (Wx (jn n)) u F->∀(j:Nat) (x:Int),(jn n)[j]?=some x->cell u (Addr.add ⟨b,0,none⟩ ((j:Int).toNat*1))=some (.int .i64 x):=λu z j x L=>by
   obtain⟨G,o,B,M⟩:=z.fX.cell (j:=j) (v:=.int .i64 x) (by simp[Wx,L]);rw[r]at B;cases B;rw[add_lit,show 0+(j:Int).toNat*1=0+j by omega];exact M
  rw[r];refine⟨λu=>bT s 1 (Wx (jn n)) u F,w,?_⟩;refine ix O O ⟨_,λu z=>p u z _ _ C,?_⟩;refine ix O O ⟨_,λu z=>p u z _ _ D,?_⟩;refine ix O O ?_;refine w.st (j:=n) (by simp[Wx,lI];omega) (λG g=>by rw[r]at g;cases g;rw[add_lit];simp) λX e1 K=>?_;refine ix O O ?_;refine K.st (j:=xs.length-1-n) (by simp[Wx,lI];omega) (λG g=>by rw[r]at g;cases g;rw[add_lit];simp) λV e2 J=>?_;refine cT (m:=n+1) O O (cT (m:=xs.length-1-n-1) O O ⟨⟨n+1,rfl,O,O,(ev.trans e1).trans e2,?_⟩,O⟩);rw[←step n A,zQ,zQ];have H:∀(l:List Int) (i:Nat) (x:Int),Wx (l.set i x)=(Wx l).set i (.int .i64 x):=λl i x=>by simp[Wx,wc]
  rw[H,H];exact J
 ·rw[y n O O]at w;exact hR v ev w
theorem Tg (h:jd b l U G){sl:Sl}(hz:sl.len=0){R:aN}(hR:∀σ',Ext (· = b) U σ'->jd b l σ' G->R 0 σ'):Xj.c (aW b) sl U R:=by
 refine Xj.o ?_;unfold Xj.v;have C:=h;obtain⟨E,j,s,z,p,F⟩:=h;have y:s.len=l.os.length:=by have:=p.1;simp[Wx]at this;omega
 have A:=j.many;refine bL (z.rS rfl (cT (m:=l.os.length) aC O (fZ O (bL (z.rS rfl ?_)))));refine XB.o ?_;unfold XB.v;refine jt (lo:=0) aC aC aC ?_;have d:=cV.sub p (lo:=0) (hi:=s.len) (mx:=s.len) O O O;have D:((Wx l.os).drop (0*1)).take ((s.len-0)*1)=Wx l.os:=by rw[y,lP (by simp[Wx])];simp
 rw[D]at d;have key:∀(g:Sl),cV g 1 (Wx l.os) U (λq=>G q/\q≠b)->g.len<=g.cap->bW (some ⟨b,0,none⟩) λw=>dQ (w.add 0) (.slice g.a g.len g.cap) U λv2=>R 0 v2:=λg r u=>by
  refine bL (z.s1 (by simp[np]) λv2 o2 x=>hR v2 o2.ext ?_);exact C.st (l':=l) (s:=g) o2.ext x r u j
 refine⟨Wx l.os,[],by simp[Wx];omega,by simp[hz],d.rd,by cases sl.a<;>simp[Rd],by simp,?_,by simp only;omega,λB=>?_,λi=>absurd (by simp only[hz];omega) i⟩
 ·simp only[hz];have:(s.len-0+0)*8<=256*8:=mr O O;omega
 ·simp only[hz,ko];cases ha:(if s.len=0 then s.a else s.a.map (·.add (0*1)))
  ·rw[ha]at d;exact key ⟨none,s.len-0,s.len-0⟩ d (zD _)
  ·rw[ha]at d;exact key ⟨some _,s.len-0,s.len-0⟩ d (zD _)
theorem FO (h:jd b l U G){sl:Sl}{xs:List Int}{X:Rg}(hs:cV sl 1 (Wx xs) U X)(hfit:l.os.length+xs.length<=256){R:aN}
 (hR:∀σ',Ext (· = b) U σ'->jd b (eM xs l) σ' (Grow G U)->R 0 σ'):Xj.c (aW b) sl U R:=by
 by_cases hx:xs=[]
 ·subst hx;have g:eM [] l=l:=by unfold eM;rw[zB (by simp only[lA]at hfit ⊢;omega)];simp
  refine Tg h (by have:=hs.1;simp[Wx]at this;omega) λσ' e d=>hR σ' e ?_;rw[g];exact(jd.loc _ _).mono d λq _ a=>.inl a
 ·exact Px h hs hx hfit λσ' e d=>hR σ' e ((jd.loc _ _).mono d λq _ a=>a.imp (λe=>by rw[e];exact h.1) id)
theorem Ox (h:eL U F Y tb bud ls)(hc:tb[k]?=some c)(hl:ls[k]?=some l){sl:Sl}{xs:List Int}{X:Rg}(hs:cV sl 1 (Wx xs) U X)(hX:∀q,X q->¬F q)(hfit:l.os.length+xs.length<=256){R:aN}
 (hR:∀σ' Y',Ext F U σ'->Y'.p=Y.p->eL σ' (Grow F U) Y' tb bud (ls.set k (eM xs.reverse l))->R 0 σ'):Yj.c (aW Y.p) (k:Int) sl U R:=by
 obtain⟨u,x⟩:=h.cls hc;have C:sl.len=xs.length:=by have:=hs.1;simp[Wx]at this;omega
 refine Yj.o ?_;unfold Yj.v;refine AB h x λv Y' b e D E w=>cD rfl ?_;have j:=aH.bS hs e λq _ a=>hX q a;refine Ga j Ud O λs1 H y e1 i=>?_;refine Pr i O λv2 e2 m=>?_;have d:aF v v2:=Ext.fresh e1 e2 λq a=>a;obtain⟨G,s,g⟩:=(w.bP d).fB (e.trans (aF.to d)) E hl;refine FO s m.fX aE λv3 z r=>?_;obtain⟨B,A⟩:=g v3 _ _ (z.sub λq a=>a▸s.1) (λq a=>a) r;exact hR v3 Y' B D A
theorem QQ {α:Type}{ls:List α}{k:Nat}{l:α}(h:ls[k]?=some l):ls.set k l=ls:=by
 apply zt;intro j;by_cases hj:j=k
 ·subst hj;rw[zO (cY.1 h).1,h]
 ·rw[zh (Ne.symm hj)]
theorem Mw (h:eL U F Y tb bud ls)(hc:tb[k]?=some c)(hl:ls[k]?=some l)(x:Int){R:Sl->Int->Hp->Prop}
 (hR:∀σ' Y' s e (Q:Rg),Ext F U σ'->Y'.p=Y.p->(l.os.length+1<=256->e=0)->(∀q,Q q->U.size<=q)->bT s 1 (Wx (dM c x l).1) σ' Q->eL σ' (λq=>Grow F U q/\¬Q q) Y' tb bud (ls.set k (dM c x l).2)->R s e σ'):YV.c (aW Y.p) (k:Int) x U R:=by
 obtain⟨W,hk⟩:=h.cls hc;refine YV.o ?_;unfold YV.v;refine AB h hk λv Y' b e hp hb h'=>cD rfl ?_;have hσv:=e.1;obtain⟨G,hG,hL,_,aa⟩:=h'.ye hb hl;have hblt:b<v.size:=by obtain⟨_,_,s,hbk,_⟩:=hL;exact hbk.lt
 have u:=hL.1;have ad:=hL.2.1;have hmany:=ad.many;have r:∀(σ':Hp) (l':Li) (G':Rg),Ext G v σ'->(∀q,G' q->Grow G v q)->jd b l' σ' G'->Ext F U σ'/\eL σ' (λq=>Grow F U q/\q<v.size/\¬G q\/G' q) Y' tb bud (ls.set k l'):=λσ' l' G' e' hg hL'=>by
  obtain⟨e1,h1⟩:=aa σ' l' G' e' hg hL';exact⟨e.jG e1,h1⟩
 have hin:∀{G':Rg} {q:Nat},(∀q,G' q->Grow G v q)->(Grow F U q/\q<v.size/\¬G q\/G' q)->Grow F U q:=λhg a=>by
  rcases a with a|a
  ·exact a.1
  ·rcases hg _ a with H|H
   ·exact hG _ H
   ·exact .inr O
 refine nw (cs:=[.int .i64 x]) λv1 hz1 e1 hb1=>?_;have J:=(jd.loc _ _).bP hL e1;have V:cV ⟨some ⟨v.size,0,none⟩,1,1⟩ 1 (Wx [x]) v1 (· = v.size):=hb1.fX (o:=0) rfl (by simp[Wx]) (λj hj=>by
  simp only[Wx,zR,pq,zS,lA]at hj ⊢;rw[zH])
 by_cases hfit:l.os.length+1<=256
 ·refine FO J V (by simpa using hfit) λv2 e2 E=>cD rfl ?_;have D:Ext G v v2:=(aF.to e1).trans (e2.sub λq a=>a▸u);have M:∀q,Grow G v1 q->Grow G v q:=λq a=>a.imp id λL=>by omega
  obtain⟨eF2,H⟩:=r v2 _ _ D M E;have i:(eM [x] l).os=l.os++[x]/\(eM [x] l).lim=l.lim/\(eM [x] l).low=l.low:=by unfold eM;rw[zB (by simp only[zS,lA];omega)];exact⟨rfl,rfl,rfl⟩
  have w:=E;obtain⟨_,ok2,s2,g,N,B⟩:=E;have hs2l:s2.len=l.os.length+1:=by have:=N.1;simp[Wx,i.1]at this;omega
  refine bL (g.rS rfl (bL (g.rI rfl ?_)));rw[i.2.1];refine cP (λc1=>?_) λc1=>?_
  ·have C:l.os.length+1<=l.lim:=by simp only at c1;omega
   have y:dM c x l=([],eM [x] l):=by unfold dM;rw[zB O,zC C]
   refine hR v2 Y' _ 0 (λ_=>False) eF2 hp (λ_=>rfl) (λq a=>a.elim) (by rw[y];exact bT.nil _ _ _ _) ?_;rw[y];exact H.mono λq _ a=>⟨hin M a,id⟩
  ·have C:¬l.os.length+1<=l.lim:=by simp only at c1;omega
   have y:dM c x l=gO (min c.batch (l.os.length+1)) (mH c (eM [x] l)):=by unfold dM;rw[zB O,zB C]
   have X:=H.hd;rw[hp]at X;refine bL (X.rS rfl (uV H.jL hc (d:=2) O ?_));simp only[zB (show ¬(2=0) by omega),zB (show ¬(2=1) by omega)];refine Jn.intro ?_;have A:∀v3,Ext (· = b) v2 v3->jd b (mH c (eM [x] l)) v3 (Grow G v1)->bW (some ⟨b,0,none⟩) λa62=>jD (a62.add 0) v3 λP=>Xs.c (aW b) (if((P.len:Nat):Int)<(c.batch:Int)then((P.len:Nat):Int)else(c.batch:Int)) v3 λt67 v4=>R t67 0 v4:=by
    intro v3 e3 hL3;have S:=hL3;obtain⟨_,ok3,s3,Z,hs3,hcap3⟩:=hL3;have K:(mH c (eM [x] l)).os=l.os++[x]:=by unfold mH;split<;>exact i.1
    have ab:s3.len=l.os.length+1:=by have:=hs3.1;simp[Wx,K]at this;omega
    refine bL (Z.rS rfl ?_);have em:(if((s3.len:Nat):Int)<(c.batch:Int)then((s3.len:Nat):Int)else(c.batch:Int))=((min c.batch (l.os.length+1):Nat):Int):=by rw[ab];split<;>omega
    rw[em];refine Gq S (by rw[K];simp;omega) λs z v4 e4 hz hr hL4=>?_;have e24:Ext (· = b) v2 v4:=e3.trans e4;have e04:Ext G v v4:=D.trans (e24.sub λq a=>a▸u);have hs23:=e3.1;have hs02:=D.1;obtain⟨eF4,h4⟩:=r v4 _ (λq=>q=b\/z<=q) e04 (λq a=>a.imp (λ(L:q=b)=>by rw[L];exact u) λ(L:z<=q)=>O) hL4;refine hR v4 Y' s 0 (λq=>v3.size<=q/\q<z) eF4 hp (λ_=>rfl) (λq a=>O) (by rw[y];exact hr) ?_;rw[y];refine h4.mono λq _ a=>⟨?_,λhQ=>?_⟩
    ·rcases a with a|a|a
     ·exact a.1
     ·subst a;exact hG _ u
     ·exact .inr O
    ·rcases a with a|a|a<;>omega
   refine bL (g.rI rfl ?_);rw[i.2.1];refine cP (λc2=>?_) λc2=>?_
   ·have c2':l.lim<c.batch:=by omega
    have eu:mH c (eM [x] l) = {eM [x] l with lim:=l.lim+1}:=by unfold mH;rw[i.2.1,zC c2']
    have ac:=II W ok2;refine bL (g.rI rfl ?_);rw[i.2.1];have hl128:=ad.lim;refine cT (m:=l.lim+1) O O (bL (g.s1 (by simp[np]) λv3 o3 hb3=>A v3 o3.ext ?_));rw[eu]at ac ⊢;exact w.st o3.ext hb3 N B ac
   ·have eu:mH c (eM [x] l)=eM [x] l:=by unfold mH;rw[i.2.1,zB O]
    exact A v2 (Ext.refl _ _) (by rw[eu];exact w)
 ·refine Po J V (by simpa using hfit) aA (cF rfl ?_);have y:dM c x l=([],l):=by unfold dM;rw[zC O]
  refine hR v1 Y' _ 6 (λ_=>False) (e.trans (aF.to e1)) hp (λL=>absurd L hfit) (λq a=>a.elim) (by rw[y];exact bT.nil _ _ _ _) ?_;rw[y,QQ hl];exact(h'.bP e1).mono λq _ a=>⟨a,id⟩
end Go.Ar
namespace Go.Ar
open Go Go.Vc Go.Proofs
open Go.Bu (ZE Kj ZB)
variable {U:Hp}{F:Rg}{p hs:Nat}{A:AR}{Y:Lay}{T:Nat->Hp->Rg->Prop}
theorem dJ.uC (h:dJ U F Y A T){k q:Nat}{c:cA}{ss:List cH}(h1:Y.fN[k]?=some q)(h2:A.tb[k]?=some c)(h3:A.cG[k]?=some ss) :
 ∃G:Rg,(∀b,G b->F b)/\(∃ps,fJ U G q c ps ss)/\(∀j,∃H:Rg,(∀b,H b->F b)/\(∀b,H b->¬G b)/\T j U H)/\∀(σ':Hp) (ss':List cH) (ps':List (Nat×Nat)) (G' H:Rg),
  Ext G U σ'->(∀b,G' b->G b\/U.size<=b)->fJ σ' G' q c ps' ss'->(∀b,(F b/\b<U.size/\¬G b\/G' b)->H b)->dJ σ' H Y {A with cG:=A.cG.set k ss'} T:=by
 obtain⟨G,i,hi,hd,a⟩:=h.step (.cG k);have m:k<A.cG.length:=(cY.1 h3).1;refine⟨G,i,Eo h1 h2 h3 hi,λj=>hd (.cR j) (by intro e;cases e),λσ' ss' ps' G' H e d p g=>?_⟩;refine a σ' _ _ T G' H h.lay.lb h.tl NP e d ?_ g;simp only[AC];rw[h1,h2,zO m];exact⟨ps',p⟩
theorem WbM (h:dJ U F Y A T)(k m:Int){R:Sl->Int->Hp->Prop}(hR:∀s σ',Ext F U σ'->bT s 1 (ints (YA A k m)) σ' (λb=>U.size<=b)->dJ σ' (Cut F U) Y (YT A k m) T->R s (Kb A k m) σ') :
 WY.c (aW Y.p) k m U R:=by
 refine WY.o ?_;unfold WY.v;refine UV h k (λj=>?_) λx E u=>?_
 ·have e1:Kb A k m=1:=by unfold Kb;rw[j];rfl
  have e2:YT A k m=A:=by unfold YT;rw[e1];rfl
  have a:YA A k m=[]:=by unfold YA;rw[e1];rfl
  have:=hR ⟨none,0,0⟩ U (Ext.refl _ _) (by rw[a];exact bT.nil _ _ _ _) (by rw[e2];exact h.cut);rw[e1]at this;exact cF rfl this
 ·subst E;have j:A.ck (x:Int)=true:=by unfold AR.ck;simp;omega
  obtain⟨c,ss,q,t,r,B,i,y,_,_,H⟩:=h.at_ u;obtain⟨G,C,⟨K,z⟩,_,d⟩:=h.uC y B i;refine cD rfl (bL (h.hd.rS rfl (h.lZ y ?_)));by_cases hm:m<0
  ·have e1:Kb A x m=1:=by unfold Kb;rw[j,zC rfl,zC hm]
   have e2:YT A x m=A:=by unfold YT;rw[e1];rfl
   have a:YA A x m=[]:=by unfold YA;rw[e1];rfl
   have:=hR ⟨none,0,0⟩ U (Ext.refl _ _) (by rw[a];exact bT.nil _ _ _ _) (by rw[e2];exact h.cut);rw[e1]at this;exact Mv z m hm this
  ·have e1:Kb A x m=0:=by unfold Kb;rw[j,zC rfl,zB hm]
   have D:V0 A x m=KF c m.toNat ss:=by unfold V0;simp only[dF];rw[B,i]
   have e2:YT A x m = {A with cG:=A.cG.set x (KF c m.toNat ss).2}:=by unfold YT;rw[e1,zC rfl,D];rfl
   have a:YA A x m=(KF c m.toNat ss).1:=by unfold YA;rw[e1,zC rfl,D]
   refine SI z m O λs σ' e g w=>?_;have:=hR s σ' (e.sub C) (by rw[a];exact g) (by rw[e2];exact d σ' _ _ (Cut G U) _ e (λb J=>.inl J.1) w (Jt C));rw[e1]at this;exact this
theorem NY {k:Nat}{f:gT->gT}:∀j,j≠Lb.cR k->AC {A with cR:=A.cR.modify k f} Y (cM {A with cR:=A.cR.modify k f} Y) j=AC A Y (cM A Y) j:=by
 intro j hj;cases j<;>first|rfl|skip
 rename_i k';have a:k≠k':=λe=>hj (by rw[e]);simp only[AC,cM];simp[tM,a]
theorem fA.kf {k:Nat}{f:gT->gT}(h:fA A Y):fA {A with cR:=A.cR.modify k f} Y:=⟨h.c,h.t,h.cG,by simpa using h.cR,h.nG,h.rk,h.n1,h.n2,h.n3,h.st,h.room,h.ok⟩
theorem dJ.uq (h:dJ U F Y A (cM A Y)){k q:Nat}{c:cA}{t:gT}(h1:Y.gC[k]?=some q)(h2:A.tb[k]?=some c)(h3:A.cR[k]?=some t) :
 ∃G:Rg,(∀b,G b->F b)/\iV U G q c.batch A.room t/\∀(σ':Hp) (f:gT->gT) (G' H:Rg),
  Ext G U σ'->(∀b,G' b->G b\/U.size<=b)->iV σ' G' q c.batch A.room (f t)->(∀b,(F b/\b<U.size/\¬G b\/G' b)->H b)->dJ σ' H Y {A with cR:=A.cR.modify k f} (cM {A with cR:=A.cR.modify k f} Y):=by
 obtain⟨G,m,hi,hd,a⟩:=h.step (.cR k);have d:iV U G q c.batch A.room t:=by
  simp only[AC,cM]at hi;rw[h1,h2,h3]at hi;exact hi
 refine⟨G,m,d,λσ' f G' H e i p g=>?_⟩;refine a σ' _ _ _ G' H h.lay.kf (λj=>cM.loc j) NY e i ?_ g;simp only[AC,cM];rw[h1,h2,List.getElem?_modify_eq,h3];exact p
theorem G9 (h:dJ U F Y A (cM A Y))(k:Int){R:Sl->Int->Hp->Prop}(hR:∀s σ',Ext F U σ'->(∀b,kV s b->F b)->cV s 1 (Wx (YQ A k)) σ' (kV s)->s.len<=s.cap->dJ σ' (λb=>F b/\¬kV s b) Y (Z1 A k) (cM (Z1 A k) Y)->R s (QE A k) σ') :
 WU.c (aW Y.p) k U R:=by
 refine WU.o ?_;unfold WU.v;refine UV h k (λz=>?_) λx K D=>?_
 ·have e1:QE A k=1:=by unfold QE;rw[z];rfl
  have e2:Z1 A k=A:=by unfold Z1;rw[e1];rfl
  have j:YQ A k=[]:=by unfold YQ;rw[e1];rfl
  have:=hR ⟨none,0,0⟩ U (Ext.refl _ _) (λb d=>by obtain⟨a,g,_⟩:=d;cases g) (by rw[j];exact cV.nil _ _ _ _) (zD _) (by rw[e2];exact h.mono λb _ d=>⟨d,λ⟨a,g,_⟩=>by cases g⟩);rw[e1]at this;exact cF rfl this
 ·subst K;have z:A.ck (x:Int)=true:=by unfold AR.ck;simp;omega
  obtain⟨c,Q,q,t,r,L,N,P,B,J,M⟩:=h.at_ D;obtain⟨G,C,H,m⟩:=h.uq J L B;refine cD rfl (bL (h.hd.rS rfl (h.sy J ?_)));by_cases d:t.bs=[]
  ·have e1:QE A x=4:=by unfold QE;rw[z,zC rfl];simp only[dF];rw[B];simp[d]
   have e2:Z1 A x=A:=by unfold Z1;rw[e1];rfl
   have j:YQ A x=[]:=by unfold YQ;rw[e1];rfl
   have:=hR ⟨none,0,0⟩ U (Ext.refl _ _) (λb d=>by obtain⟨a,g,_⟩:=d;cases g) (by rw[j];exact cV.nil _ _ _ _) (zD _) (by rw[e2];exact h.mono λb _ d=>⟨d,λ⟨a,g,_⟩=>by cases g⟩);rw[e1]at this;exact Ts H d this
  ·have e1:QE A x=0:=by unfold QE;rw[z,zC rfl];simp only[dF];rw[B];simp[d]
   have e2:Z1 A x = {A with cR:=A.cR.modify x gT.rem}:=by unfold Z1;rw[e1,zC rfl];rfl
   have j:YQ A x=t.bs.getLast?.getD []:=by unfold YQ;rw[e1,zC rfl];simp only[dF];rw[B]
   refine WiV H d λs σ' e i y w E=>?_;have u:∀b,(F b/\b<U.size/\¬G b\/G b/\¬kV s b)->F b/\¬kV s b:=λb d=>by
    rcases d with d|d
    ·exact⟨d.1,λhi=>d.2.2 (i b hi)⟩
    ·exact⟨C b d.1,d.2⟩
   have:=hR s σ' (e.sub C) (λb d=>C b (i b d)) (by rw[j];exact y) w (by rw[e2];exact m σ' _ (λb=>G b/\¬kV s b) _ e (λb d=>.inl d.1) E u);rw[e1]at this;exact this
theorem Wc6 (h:dJ U F Y A (cM A Y))(k:Int){sl:Sl}{xs:List Int}{X:Rg}(hs:cV sl 1 (Wx xs) U X)(hi:∀x∈xs,iN x){R:Bool->Int->Hp->Prop}(hR:∀σ',Ext F U σ'->dJ σ' (Grow F U) Y (KH A k xs) (cM (KH A k xs) Y)->R (VN A k xs) (HE A k xs) σ') :
 W5.c (aW Y.p) k sl U R:=by
 refine W5.o ?_;unfold W5.v;have w:sl.len=xs.length:=by have:=hs.1;simp[Wx]at this;omega
 have V:∀e:Int,e≠0->HE A k xs=e->R false e U:=λe he C=>by
  have e3:VN A k xs=false:=by unfold VN;rw[zJ O];rfl
  have e2:KH A k xs=A:=by unfold KH;rw[e3];rfl
  have:=hR U (Ext.refl _ _) (by rw[e2];exact h.mono λb _ g=>.inl g);rw[C,e3]at this;exact this
 refine UV h k (λhk=>cF rfl (V 1 aB (by unfold HE;rw[hk];rfl))) λx M W=>?_;subst M;have hk:A.ck (x:Int)=true:=by unfold AR.ck;simp;omega
 obtain⟨c,ss,q,t,r,N,J,hq,ht,hr,hok⟩:=h.at_ W;obtain⟨G1,ps,hG1,S⟩:=h.cG hq N J;obtain⟨G,hG,hC,K⟩:=h.uq hr N ht;have P:HE A x xs=if xs.length=c.batch then(if xs.all (λx=>eI c ss x==some true)then 0 else 8)else 1:=by unfold HE;rw[hk,zC rfl];simp only[dF];rw[N,J]
 refine cD rfl (bL (h.hd.rS rfl (h.wY (d:=2) N O ?_)));simp only[zB (show ¬(2=0) by omega),zB (show ¬(2=1) by omega)];rw[r5];refine cN (λg=>?_) λg=>?_
 ·have:¬xs.length=c.batch:=by rw[←w];simpa using g
  exact V 1 aB (by rw[P,zB this])
 have E:xs.length=c.batch:=by rw[←w];simpa using g
 rw[zC E]at P;have h32:c.batch<=32:=hok.2.2.2.2.2.2.2;refine Qz (a:=bO) (λ(i:Int) v=>∃j:Nat,i=(j:Int)/\j<=xs.length/\v=U/\∀y∈xs.take j,eI c ss y=some true) (λi _=>xs.length-i.toNat) ⟨0,rfl,O,rfl,by simp⟩ ?_;rintro i v ⟨j,rfl,hj,rfl,s⟩;refine cP (λhlt2=>?_) λhge=>?_
 ·have H:j<xs.length:=by omega
  have M:xs[j]?=some xs[j]:=cW H;have Q:xs.take (j+1)=xs.take j++[xs[j]]:=by rw[ka,M];rfl
  have u:=kv H;generalize xs[j]=y at *;have L:eI c ss y≠some true->R false 8 v:=λZ=>V 8 aB (by
   rw[P,zB];intro ha;rw[kz]at ha;exact Z (by simpa using ha y u))
  refine hs.lL M (bL (h.hd.rS rfl (h.lZ hq (Lt S _ (hi y u) (λb g=>?_) λg=>?_))))
  ·refine bX.intro (cD rfl ?_);cases b
   ·exact cF rfl (L (by rw[g];simp))
   ·refine cD rfl (cT (m:=j+1) O O ⟨⟨j+1,rfl,O,rfl,λz hz=>?_⟩,O⟩);rw[Q]at hz;rcases zM.1 hz with C|C
    ·exact s z C
    ·simp at C;rw[C];exact g
  ·exact bX.intro (cF rfl (cF rfl (L (by rw[g];simp))))
 ·have:j=xs.length:=by omega
  subst this;rw[lN]at s;have B:HE A x xs=0:=by
   rw[P,zC];rw[kz];intro y hy;simp[s y hy]
  have D:VN A x xs=decide (t.bs.length<A.room):=by unfold VN;rw[B];simp only[dF];rw[ht];simp
  refine bL (h.hd.rS rfl (h.sy hr (Mb hC hs O (λZ=>absurd E Z) (λ_ hf=>?_) λ_ hf σ' e hC'=>?_)))
  ·rw[zJ O]at D;have e2:KH A x xs=A:=by unfold KH;rw[D];rfl
   have:=hR v (Ext.refl _ _) (by rw[e2];exact h.mono λb _ g=>.inl g);rw[B,D]at this;exact this
  ·rw[zI O]at D;have e2:KH A x xs = {A with cR:=A.cR.modify x λt=>{t with bs:=t.bs++[xs]}}:=by unfold KH;rw[D,zC rfl];rfl
   have:=hR σ' (e.sub hG) (by rw[e2];exact K σ' (λt=>{t with bs:=t.bs++[xs]}) (Grow G v) _ e (λb g=>g) hC' (GT hG λb g=>g));rw[B,D]at this;exact this
theorem fJ.TH {q:Nat}{c:cA}{ps:List (Nat×Nat)}{ss:List cH}{G:Rg}(h:fJ U G q c ps ss):∀s∈ss,s.st<=1024:=by
 intro s hs;obtain⟨i,hi⟩:=zP hs;have b:=(cY.1 hi).1;have a:i<ps.length:=by rw[h.len];exact b
 have:=(h.sp _ _ _ (cW a) hi).fit;omega
theorem TQ (h:dJ U F Y A T)(k:Int){sl:Sl}{xs:List Int}(hi:∀x∈xs,iN x)(hl:xs.length<=1000000)(hcap:sl.len<=sl.cap)
 (hs:(∃X:Rg,cV sl 1 (Wx xs) U X/\∀b,b<U.size->X b->¬F b)\/∃j,∀H,T j U H->cV sl 1 (Wx xs) U H)
 {R:aN} (hR:∀σ',Ext F U σ'->dJ σ' (Grow F U) Y (ZY A k xs) T->R (Kv A k xs) σ') :
 Xc.c (aW Y.p) k sl U R:=by
 refine Xc.o ?_;unfold Xc.v;have no:∀e:Int,e≠0->Kv A k xs=e->R e U:=λe he S=>by
  have e2:ZY A k xs=A:=by unfold ZY;rw[zB O]
  have:=hR U (Ext.refl _ _) (by rw[e2];exact h.mono λb _ d=>.inl d);rw[S]at this;exact this
 refine UV h k (λW=>cF rfl (no 1 aB (by unfold Kv;rw[W];rfl))) λx hx Q=>?_;subst hx;have W:A.ck (x:Int)=true:=by unfold AR.ck;simp;omega
 obtain⟨c,g,q,t,r,K,u,hq,_,_,hok⟩:=h.at_ Q;obtain⟨G,N,⟨ps,E⟩,hd,C⟩:=h.uC hq K u;have hX:∃X:Rg,cV sl 1 (Wx xs) U X/\∀b,X b->¬G b:=by
  rcases hs with⟨X,S,h2⟩|⟨j,hj⟩
  ·exact⟨Cut X U,aH.cut S,λb d hg=>h2 b d.2 d.1 (N b hg)⟩
  ·obtain⟨H,_,D,hT⟩:=hd j;exact⟨H,hj H hT,D⟩
 obtain⟨X,V,M⟩:=hX;have Z:Kv A x xs=iL c g xs:=by unfold Kv;rw[W,zC rfl];simp only[dF];rw[K,u]
 refine cD rfl (bL (h.hd.rS rfl (h.lZ hq (T1 E V M hi hl hcap (λD=>?_) λh0 o σ1 e1 m aa=>?_))))
 ·refine cF (by simpa using D) (no _ D Z)
 ·refine cD rfl ?_;have eS:ZY A x xs=UJ {A with cG:=A.cG.set x (cK (xs.foldl (fL c) g))} ((QX (xs.foldl (fL c) g)).map λs=>(s,c.aG)):=by
   unfold ZY;rw[Z,zC h0];simp only[dF];rw[K,u]
  have J:=C σ1 _ _ (Cut G U) _ e1 (λb d=>.inl d.1) aa (Jt N);rw[Nu]at m;have B:((QX (xs.foldl (fL c) g)).map λs=>(s,c.aG)).length<=1000000/\∀r∈((QX (xs.foldl (fL c) g)).map λs=>(s,c.aG)),r.1<=1000000:=by
   have i:∀(ys:List Int) (ls:List cH),((ys.foldl (fL c) ls).map (·.st))=ls.map (·.st):=by
    intro ys
    induction ys with
    | nil=>intro ls;rfl
    | cons y ys ih=>
     intro ls;rw[si,ih];unfold fL;split
     ·rename_i j hj;split
      ·rename_i s a;split
       ·simp only[wc];apply zt;intro z;rw[nB];by_cases w:j=z
        ·subst w;rw[zC rfl];have:=(cY.1 a).1;rw[zC (by simpa using this)];simp[a,cH.put]
        ·rw[zB w]
       ·rfl
      ·rfl
     ·rfl
   have P:∀s∈QX (xs.foldl (fL c) g),s∈g.map (·.st):=by
    intro s a;rw[←i xs g];unfold QX at a;simp only[zE,zL]at a ⊢;obtain⟨z,w,rfl⟩:=a;exact⟨z,w.1,rfl⟩
   have hfew:=E.qF;refine⟨?_,λr hr=>?_⟩
   ·have:(QX (xs.foldl (fL c) g)).length<=(xs.foldl (fL c) g).length:=by
     unfold QX;rw[zj];exact pB _ _
    have h2:(xs.foldl (fL c) g).length=g.length:=by have:=congrArg List.length (i xs g);simpa using this
    rw[zj];omega
   ·obtain⟨s,a,rfl⟩:=zE.1 hr;obtain⟨z,w,rfl⟩:=zE.1 (P s a);have:=E.TH z w;simp only;omega
  refine Jc J m.fX (λb _ d hf=>by have:=hf.2;omega) B.1 B.2 λσ2 e2 L=>?_;have:=hR σ2 ((e1.sub N).trans (e2.sub λb d=>d.1)) ?_
  ·rw[Z,h0]at this;exact this
  ·rw[eS];exact L.mono λb _ d=>by
    rcases d with d|d
    ·exact .inl d.1
    ·exact .inr (kx e1.1 d)
theorem RQ (l:List (Nat×Nat))(x:Int):bU (iT l) x=(l.find? λr=>(r.1:Int)==x).map λr=>(r.2:Int):=by
 induction l with
 | nil=>rfl
 | cons r l ih=>
  have:iT (r::l)=((r.1:Int),(r.2:Int))::iT l:=rfl;rw[this,KX,vV,ih];by_cases h:(r.1:Int)=x
  ·simp[h]
  ·have:((r.1:Int)==x)=false:=by simpa using h
   rw[this,zB h]
theorem Χ (l:List (Nat×Nat))(x:Int):cO (iT l) x=iT (l.filter λq=>!((q.1:Int)==x)):=by
 unfold cO iT;rw[xe];rfl
theorem Mu (l:List (Nat×Nat))(x m:Nat):dA (iT l) (x:Int) (m:Int)=iT (cC.mset2 l x m):=by
 unfold dA cC.mset2 iT;have e:(l.map λr=>((r.1:Int),(r.2:Int))).any (λy=>y.1==(x:Int))=l.any λr=>r.1==x:=by
  rw[List.any_map]
  congr 1
  funext r
  exact l7 r.1 x
 rw[e];split
 ·rw[lK,lK];apply kB;intro r _;simp only[Function.comp_def];rw[l7];split<;>rfl
 ·simp
theorem dJ.su (h:dJ U F Y A T):F Y.rn/\dL U Y.rn .i64 bO (iT A.runs)/\∀(σ':Hp) (rs:List (Nat×Nat)),Ka U σ' Y.rn->dL σ' Y.rn .i64 bO (iT rs)->dJ σ' F Y {A with runs:=rs} T:=by
 obtain⟨G,j,⟨g,r⟩,_,a⟩:=h.step .runs;refine⟨j _ g,r,λσ' rs m p=>?_⟩;exact a σ' _ _ T G _ h.lay.rh h.tl PZ (m.ext.sub λb d=>by subst d;exact g) (λb d=>.inl d) ⟨g,p⟩ (AA j λb d=>d)
theorem NU (h:dJ U F Y A T)(x:Int)(hf:∀r∈A.runs,r.1<=1000000){R:aN}(hR:∀σ',Ext F U σ'->dJ σ' (Grow F U) Y (Kc A x) T->R (VA A x) σ') :
 Xb.c (aW Y.p) x U R:=by
 refine Xb.o ?_;unfold Xb.v;obtain⟨P,K,m⟩:=h.su;refine Ge h (cD rfl (bL (h.hd.rM rfl ⟨_,K,?_⟩)));rw[RQ];cases hr:(A.runs.find? λr=>(r.1:Int)==x)with
 | none=>
  have e1:VA A x=8:=by unfold VA qT;rw[hr];rfl
  have e2:Kc A x=A:=by unfold Kc qT;rw[hr]
  have:=hR U (Ext.refl _ _) (by rw[e2];exact h.mono λb _ a=>.inl a);rw[e1]at this;exact cF rfl this
 | some r=>
  have e1:VA A x=0:=by unfold VA qT;rw[hr];rfl
  have e2:Kc A x=UC {A with runs:=A.runs.filter λq=>!((q.1:Int)==x)} r:=by unfold Kc qT;rw[hr]
  have C:=tW hr;have D:(r.1:Int)=x:=by simpa using uJ hr
  refine cD rfl (bL (h.hd.rM rfl ⟨_,K,λs H _ w=>?_⟩));have o1:=H _ rfl;have d:dL s Y.rn .i64 bO (cO (iT A.runs) x):=w;rw[Χ]at d;have y:=m s _ o1 d;simp only[ze,qG];refine nw (cs:=[.int .i64 x,.int .i64 (r.2:Int)]) λN Q g E=>?_;have B:=y.cut.bP g;have G:cV ⟨some ⟨s.size,0,none⟩,1,1⟩ 2 (rV [r]) N (· = s.size):=by
   refine⟨rfl,.inr ⟨_,0,_,rfl,rfl,E.q,λj S=>?_⟩⟩;have:rV [r]=[.int .i64 (r.1:Int),.int .i64 (r.2:Int)]:=rfl;rw[this,D,zH]
  refine Jc B G (λb _ a L=>by have:=L.2;omega) aA (λq J=>by simp at J;subst J;exact hf _ C) λv3 M z=>?_;have u:Ext F U v3:=(o1.ext.sub λb a=>by subst a;exact P).trans ((aF.to g).trans (M.sub λb a=>a.1));have:=hR v3 u (by
   rw[e2];exact z.mono λb _ a=>by
    rcases a with a|a
    ·exact .inl a.1
    ·exact .inr (by have:=o1.1;omega))
  rw[e1]at this;exact this
theorem VJ (rs:List (Nat×Nat)):∀A:AR,(UJ A rs).tb=A.tb/\(UJ A rs).room=A.room/\(UJ A rs).cR=A.cR/\(UJ A rs).cG=A.cG/\(UJ A rs).runs=A.runs/\(UJ A rs).n=A.n:=by
 induction rs with
 | nil=>intro A;exact⟨rfl,rfl,rfl,rfl,rfl,rfl⟩
 | cons r rs ih=>intro A;exact ih (UC A r)
theorem UT (A:AR)(k:Int)(xs:List Int):(ZY A k xs).tb=A.tb/\(ZY A k xs).room=A.room/\(ZY A k xs).cR=A.cR/\(ZY A k xs).runs=A.runs/\(ZY A k xs).n=A.n:=by
 unfold ZY;split
 ·split
  ·exact⟨(VJ _ _).1,(VJ _ _).2.1,(VJ _ _).2.2.1,(VJ _ _).2.2.2.2.1,(VJ _ _).2.2.2.2.2⟩
  ·exact⟨rfl,rfl,rfl,rfl,rfl⟩
 ·exact⟨rfl,rfl,rfl,rfl,rfl⟩
theorem gT.oY (t:gT):∀xs∈t.tick.bs,xs∈t.bs:=λxs h=>ue h
theorem VE {α:Type}{l:List α}{k:Nat}{t:α}{f:α->α}(h:l[k]?=some t):l.modify k f=l.set k (f t):=by
 apply zt;intro i;rw[nB,tM];by_cases hi:k=i
 ·subst hi;have:=(cY.1 h).1;rw[zC rfl,zC this,h];simp
 ·simp[hi]
def Bs (A:AR)(Y:Lay)(k r:Nat)(c:cA)(t:gT)(out:Sl)(sls:List Sl)(j:Nat):Hp->Rg->Prop:=
 if j=k then λU G=>iV U G r c.batch A.room t.tick/\cV out 1 (sls.map qJ) U G/\rK sls t.out U G else cM A Y j
theorem Bs.loc {k r:Nat}{c:cA}{t:gT}{out:Sl}{sls:List Sl}(j:Nat):dN (Bs A Y k r c t out sls j):=by
 unfold Bs;split
 ·exact λU m F G ⟨g,i,d⟩ a b=>⟨iV.loc _ _ _ _ g a b,cV.loc _ _ _ _ _ _ _ i a b,rK.loc _ _ _ _ _ _ d a b⟩
 ·exact cM.loc j
end Go.Ar
namespace Go.Bu
variable {n:Nat}{S:Nat->Bool}
theorem Ur {m a k x:Nat}(h:Z4 n S m a k=some x):∃j,j<k/\m<=2^j/\a<=2^j/\(W7 n S j).head?=some x/\∀i,i<j->m<=2^i->a<=2^i->W7 n S i=[]:=by
 have H9:∀k,Z4 n S m a k=none->∀i,i<k->m<=2^i->a<=2^i->W7 n S i=[]:=by
  intro k
  induction k with
  | zero=>intro _ i hi;omega
  | succ k ih=>
   intro hn i hi d b;rw[Z4]at hn;split at hn
   ·cases hn
   ·rename_i hn';by_cases e:i=k
    ·subst e;rw[zC ⟨d,b⟩]at hn;simpa using hn
    ·exact ih hn' i O d b
 induction k with
 | zero=>simp[Z4]at h
 | succ k ih=>
  rw[Z4]at h;split at h
  ·rename_i y hy;cases h;obtain⟨j,d,b⟩:=ih hy;exact⟨j,O,b⟩
  ·rename_i hn;split at h
   ·rename_i hc;exact⟨k,O,hc.1,hc.2,h,H9 k hn⟩
   ·cases h
theorem Hq {m a:Nat}:∀{k},Z4 n S m a k=none->∀i,i<k->m<=2^i->a<=2^i->W7 n S i=[]
 | 0,_,i,hi,_,_=>by omega
 | k+1,hn,i,hi,h1,h2=>by
  rw[Z4]at hn;split at hn
  ·cases hn
  ·rename_i hn';by_cases e:i=k
   ·subst e;rw[zC ⟨h1,h2⟩]at hn;simpa using hn
   ·exact Hq hn' i O h1 h2
theorem k9 (hb:Bounded S n){m a x:Nat}(h:ZB n S m a=some x):x+m<=n/\∀y,x<=y->y<x+m->S y=true:=by
 obtain⟨j,_,p,_,g,_⟩:=Ur h;have b:x∈W7 n S j:=List.mem_of_head? g;obtain⟨q,rfl,d⟩:=(Kn hb).1 b;have:=Z9 hb (Z0.1 d).1;exact⟨O,λy i r=>Uv d (QJ.2 O)⟩
end Go.Bu
namespace Go.Ar
open Go Go.Vc Go.Proofs
open Go.Bu (ZE Kj ZB)
variable {U:Hp}{F H:Rg}{p hs:Nat}{A:AR}{sp:Sp}{Y:Lay}{T:Nat->Hp->Rg->Prop}
structure W2 (U:Hp) (F H:Rg) (Y:Lay) (A:AR) (T:Nat->Hp->Rg->Prop) (sp:Sp):Prop where
 a:dJ U F Y A T
 s:dP U H Y.hs sp
 d:∀b,F b->¬H b
 g:Gl U
 o:iX F
 o2:iX H
def iZ (F H:Rg):Rg:=λb=>F b\/H b
theorem W2.lU (h:W2 U F H Y A T sp){σ':Hp}{A':AR}(e:Ext F U σ')(ha:dJ σ' F Y A' T):W2 σ' F H Y A' T sp:=
 ⟨ha,dN.bS dP.loc h.s e λb _ a i=>h.d b i a,h.d,h.g.bS e h.o,h.o,h.o2⟩
theorem W2.space (h:W2 U F H Y A T sp){σ':Hp}{sp':Sp}(e:Ext H U σ')(hs:dP σ' H Y.hs sp'):W2 σ' F H Y A T sp':=
 ⟨dN.bS dJ.loc h.a e λb _ i j=>h.d b i j,hs,h.d,h.g.bS e h.o2,h.o,h.o2⟩
theorem W2.bP (h:W2 U F H Y A T sp){σ':Hp}(e:aF U σ'):W2 σ' F H Y A T sp:=⟨h.a.bP e,h.s.bP e,h.d,h.g.bP e,h.o,h.o2⟩
theorem W2.cut (h:W2 U F H Y A T sp):W2 U (Cut F U) (Cut H U) Y A T sp:=⟨h.a.cut,dN.cut dP.loc h.s,λb i j=>h.d b i.1 j.1,h.g,h.o.sub λb i=>i.1,h.o2.sub λb i=>i.1⟩
theorem W2.pN (h:W2 U F H Y A T sp){σ':Hp}{A':AR}(e:Ext F U σ')(ha:dJ σ' (Grow F U) Y A' T):W2 σ' (Grow F U) (Cut H U) Y A' T sp:=
 ⟨ha,dN.bS dP.loc (dN.cut dP.loc h.s) e λb _ a j=>h.d b j a.1,λb a i=>by
  rcases a with a|a
  ·exact h.d b a i.1
  ·have:=i.2;omega,h.g.bS e h.o,h.o.grow h.g,h.o2.sub λb a=>a.1⟩
theorem W2.F8 (h:W2 U F H Y A T sp){K:Option Addr->Prop}(hK:K (some ⟨Y.hs,0,none⟩)):fY (Addr.add ⟨Y.p,0,none⟩ 1) U K:=h.a.hd.rP rfl hK
theorem F5 (st:List Nat)(a m:Nat):Hj st a (m+1)=je (Hj st a m) ((a+m:Nat):Int):=by
 unfold Hj;rw[qO,zm,vn];rfl
theorem Ψ {a m:Int}(h:fH sp a m≠0):gg sp a m=sp:=by unfold gg;rw[zB h]
theorem OL {size:Nat}(h1:1<=size)(h:∀j,1<=j->j*size+size<=sp.st.length->fH sp ((j*size:Nat):Int) (size:Int)≠0):dB sp size=none:=by
 unfold dB;rw[ox];intro x hx;obtain⟨j,d,rfl⟩:=zE.1 hx;rw[zg]at d;have b:(j+1)*size<=sp.st.length:=kx (mq size d) (AD _ _);rw[zo,Nat.one_mul]at b;by_cases h0:j=0
 ·subst h0;simp
 ·have:=h j O b;have a:(fH sp ((j*size:Nat):Int) (size:Int)==0)=false:=by simpa only[mP]using this
  rw[a,uA];simp
theorem Pk {size j:Nat}(h1:1<=size)(h0:1<=j)(hf:j*size+size<=sp.st.length)(hm:fH sp ((j*size:Nat):Int) (size:Int)=0)(h:∀i,1<=i->i<j->fH sp ((i*size:Nat):Int) (size:Int)≠0):dB sp size=some (j*size):=by
 unfold dB;have m:j<sp.st.length/size:=by
  rw[Nat.lt_iff_add_one_le,Nat.le_div_iff_mul_le h1,zo,Nat.one_mul];exact hf
 have a:List.range (sp.st.length/size)=List.range j++(j::(List.range (sp.st.length/size-j-1)).map (j+1 + ·)):=by
  apply zt;intro i;rw[List.getElem?_append,Av];by_cases hi:i<j
  ·rw[zC hi,nX O,nX hi]
  ·rw[zB hi];by_cases hij:i=j
   ·subst hij;rw[py,y5,nX m]
   ·rw[show i-j=(i-j-1)+1 by omega,Aw,zZ];by_cases hl:i<sp.st.length/size
    ·rw[nX hl,nX O];simp only[ze]
     congr 1;omega
    ·rw[zX (by rw[Av];omega),zX (by rw[Av];omega)];rfl
 rw[a,zm,List.find?_append];have b:((List.range j).map (· * size)).find? (λ(s:Nat)=>s != 0&&fH sp s size==0)=none:=by
  rw[ox];intro x hx;obtain⟨i,hi,rfl⟩:=zE.1 hx;rw[zg]at hi;by_cases h0:i=0
  ·subst h0;simp
  ·have:=h i O hi;have d:(fH sp ((i*size:Nat):Int) (size:Int)==0)=false:=by simpa only[mP]using this
   rw[d,uA];simp
 rw[b,zR,vV];have:(j*size != 0&&fH sp ((j*size:Nat):Int) (size:Int)==0)=true:=by
  rw[hm];have p:0<j*size:=Nat.mul_pos O O;have g:j*size≠0:=by omega
  simp[g]
 rw[this];rfl
theorem Wk8 (h:W2 U F H Y A T sp){size:Nat}(h1:size=16\/size=32\/size=64){R:aO}(h0:Hk A sp size=none->∀σ',Ext (iZ F H) U σ'->W2 σ' F H Y A T sp->R false σ')
 (hR:∀A' sp',Hk A sp size=some (A',sp')->∀σ',Ext (iZ F H) U σ'->W2 σ' F H Y A' T sp'->R true σ'):Zd.c (aW Y.p) (size:Int) U R:=by
 refine Zd.o ?_;unfold Zd.v;have hn2:sp.st.length<=1024:=by obtain⟨q,r,l,B,hh⟩:=h.s;exact hh.n2
 have es:∀{a b:Hp},Ext H a b->Ext (iZ F H) a b:=λe=>e.sub λb P=>.inr P;have ea:∀{a b:Hp},Ext F a b->Ext (iZ F H) a b:=λe=>e.sub λb P=>.inl P;have d:∀j,j*size+size=(j+1)*size:=λj=>by rw[zo,Nat.one_mul]
 refine Qz (a:=bO) (λ(t:Int) v=>∃j:Nat,t=((j*size:Nat):Int)/\1<=j/\j*size<=1024+64/\Ext (iZ F H) U v/\W2 v F H Y A T sp/\∀i,1<=i->i<j->i*size+size<=sp.st.length->fH sp ((i*size:Nat):Int) (size:Int)≠0) (λt _=>2000-t.toNat)
  ⟨1,O,zD _,O,Ext.refl _ _,h,λi h1 h2=>O⟩ ?_
 rintro t v ⟨j,rfl,hj,P,e,z,y⟩;refine cT (m:=j*size+size) O O (bL (z.F8 (Lj z.s (cP (λhlt=>?_) λhge=>?_))))
 ·have hf:j*size+size<=sp.st.length:=by omega
  refine bL (z.F8 (RJ z.s z.g z.o2 _ _ λv2 e2 E=>?_));refine cN (λQ=>?_) λQ=>?_
  ·have L:fH sp ((j*size:Nat):Int) (size:Int)≠0:=by simpa using Q
   rw[Ψ L]at E;refine cT (m:=(j+1)*size) (by rw[←d];omega) (by rw[←d];omega) ⟨⟨j+1,rfl,O,by rw[←d];omega,e.trans (es e2),z.space e2 E,λi x C D=>?_⟩,by rw[←d];omega⟩;by_cases hij:i=j
   ·subst hij;exact L
   ·exact y i x O D
  ·have V:fH sp ((j*size:Nat):Int) (size:Int)=0:=by simpa using Q
   have X:=z.space e2 E;have N:∀i,i<j->i*size+size<=sp.st.length:=λi hi=>by
    have:(i+1)*size<=j*size:=mq _ hi;rw[d];omega
   have G:=Pk (sp:=sp) O hj hf V λi x C=>y i x C (N i C);have K:Hk A sp size=some ({A with st:=Hj A.st (j*size/16) (size/16),S:=Kj A.n A.S ((j*size:Nat):Int) size},gg sp ((j*size:Nat):Int) size):=by unfold Hk;rw[G]
   have hd16:(j*size)%16=0:=by
    rcases h1 with rfl|rfl|rfl
    ·omega
    ·omega
    ·omega
   refine nz aB (cT (m:=j*size/16) (by rw[YS O];simp) O ?_);refine Qz (a:=bO) (λ(t:Int) w=>∃i:Nat,t=((j*size/16+i:Nat):Int)/\i<=size/16/\Ext (iZ F H) U w/\W2 w F H Y {A with st:=Hj A.st (j*size/16) i} T (gg sp ((j*size:Nat):Int) size)) (λt _=>200-t.toNat)
    ⟨0,O,O,e.trans (es e2),X⟩ ?_
   rintro t w ⟨i,rfl,hi,ew,u⟩;refine cT (m:=j*size+size) O O (nz aB (cT (m:=(j*size+size)/16) (by rw[YS O];simp) O (cP (λZ=>?_) λhge2=>?_)))
   ·refine bL (u.a.hd.rP rfl (u.a.BZ _ λw2 t2 M J=>?_));refine cT (m:=j*size/16+(i+1)) O O ⟨⟨i+1,rfl,O,ew.trans (ea M),?_⟩,O⟩;rw[F5];exact u.lU M J
   ·have W:i=size/16:=by omega
    subst W;refine bL (u.a.hd.rP rfl (u.a.yj _ _ λw2 t2 M J=>?_));exact hR _ _ K w2 (ew.trans (ea M)) (u.lU M J)
 ·have G:=OL (sp:=sp) (size:=size) O λi x D=>by
   by_cases hij:i<j
   ·exact y i x hij D
   ·have:j*size<=i*size:=mq _ O;omega
  have K:Hk A sp size=none:=by unfold Hk;rw[G]
  exact h0 K v e z
theorem SA {m a:Nat}(h1:1<=m)(h2:m<=64)(ha:a=1\/a=2\/a=4\/a=8\/a=16):Go.Bu.fR (m:Int) (a:Int)=true:=by
 have b:Go.Bu.fC (a:Int)=true:=by rcases ha with rfl|rfl|rfl|rfl|rfl<;>decide
 unfold Go.Bu.fR;rw[b];simp only[vC,zF,zV];omega
theorem W2.take (h:W2 U F H Y A T sp){m a:Nat}(hok:Go.Bu.fR (m:Int) (a:Int)=true){R:Int->Int->Hp->Prop}(h0:ZB A.n A.S m a=none->∀σ',Ext F U σ'->W2 σ' F H Y A T sp->R 0 6 σ')
 (h1:∀x,ZB A.n A.S m a=some x->x+m<=A.n->∀σ',Ext F U σ'->W2 σ' F H Y {A with S:=Go.Bu.take A.S x (x+m)} T sp->R (x:Int) 0 σ'):X1.c (aW Y.fr) (m:Int) (a:Int) U R:=by
 have b:Go.Bu.Bounded A.S A.n:=by obtain⟨p,r,i,_⟩:=h.a.free;exact i.jJ
 refine h.a.xd _ _ λσ' e j=>?_;have d:=h.lU e j;cases ht:ZB A.n A.S m a with
 | none=>
  have e1:Go.Bu.jb A.n A.S (m:Int) (a:Int)=6:=by unfold Go.Bu.jb;rw[hok,zC rfl];simp only[dF];rw[ht]
  have e2:Go.Bu.ji A.n A.S (m:Int) (a:Int)=0:=by unfold Go.Bu.ji;rw[hok,zC rfl];simp only[dF];rw[ht]
  have g:Go.Bu.jk A.n A.S (m:Int) (a:Int)=A.S:=by unfold Go.Bu.jk;rw[hok,zC rfl];simp only[dF];rw[ht]
  rw[e1,e2];rw[g]at d;exact h0 ht σ' e d
 | some x=>
  have e1:Go.Bu.jb A.n A.S (m:Int) (a:Int)=0:=by unfold Go.Bu.jb;rw[hok,zC rfl];simp only[dF];rw[ht]
  have e2:Go.Bu.ji A.n A.S (m:Int) (a:Int)=x:=by unfold Go.Bu.ji;rw[hok,zC rfl];simp only[dF];rw[ht]
  have g:Go.Bu.jk A.n A.S (m:Int) (a:Int)=Go.Bu.take A.S x (x+m):=by unfold Go.Bu.jk;rw[hok,zC rfl];simp only[dF];rw[ht]
  rw[e1,e2];rw[g]at d;exact h1 x ht (Go.Bu.k9 b ht).1 σ' e d
theorem PW {size:Nat}{A':AR}{sp':Sp}(h:Hk A sp size=some (A',sp')):A'.n=A.n:=by
 unfold Hk at h;split at h
 ·cases h
 ·cases h;rfl
def Fits (U:Hp)(F H F' H':Rg):Prop:=(∀b,F' b->Grow F U b)/\∀b,H' b->H b
theorem Jg (h:W2 U F H Y A T sp){m a no:Nat}(h1:1<=m)(h2:m<=64)(ha:a=1\/a=2\/a=4\/a=8\/a=16)(hn1:1<=no)(hn2:no<=1000){R:Int->Int->Hp->Prop}
 (h0:(dC A sp m a no).1=none->∀σ',Ext (iZ F H) U σ'->W2 σ' F H Y (dC A sp m a no).2.1 T (dC A sp m a no).2.2->R 0 6 σ')
 (hR:∀x,(dC A sp m a no).1=some x->x+m<=A.n->∀σ' F' H',Fits U F H F' H'->Ext (iZ F H) U σ'->W2 σ' F' H' Y (dC A sp m a no).2.1 T (dC A sp m a no).2.2->R (x:Int) 0 σ') :
 Y3.c (aW Y.p) (m:Int) (a:Int) (no:Int) U R:=by
 refine Y3.o ?_;unfold Y3.v;have G:=SA h1 h2 ha;have es:∀{a b:Hp},Ext H a b->Ext (iZ F H) a b:=λe=>e.sub λb j=>.inr j;have u:∀{a b:Hp},Ext F a b->Ext (iZ F H) a b:=λe=>e.sub λb j=>.inl j;have fin:∀(v:Hp) (x:Nat) (A1:AR) (sp1:Sp),Ext (iZ F H) U v->x+m<=A.n->W2 v F H Y {A1 with S:=Go.Bu.take A1.S x (x+m)} T sp1->dC A sp m a no=(some x,dT A1 x m no,sp1) →
  bW (some ⟨Y.p,0,none⟩) λW=>fY (W.add 3) v λK=>XT.c K (x:Int) (m:Int) v λt55 s=>bW (some ⟨Y.p,0,none⟩) λX=>fY (X.add 4) s λaa=>Yq.c aa (x:Int) (m:Int) (no:Int) s λt63 v3=>R (x:Int) 0 v3:=by
  intro v x A1 sp1 e hxm z y;have L:x<=1000000:=by have:=h.a.lay.n2;omega
  refine bL (z.a.hd.rP rfl (z.a.RT _ _ λs t2 e2 V=>?_));have g:=z.lU e2 V;refine bL (g.a.hd.rP rfl (g.a.Set x m L hn1 hn2 λv3 t3 e3 Q=>?_));have Z:=g.pN e3 Q;refine hR x (by rw[y]) hxm v3 (Grow F s) (Cut H s) ⟨λb j=>?_,λb j=>j.1⟩ ((e.trans (u e2)).trans (u e3)) (by rw[y];exact Z);rcases j with j|j
  ·exact .inl j
  ·exact .inr (kx (e.trans (u e2)).1 j)
 refine bL (h.a.hd.rP rfl (h.take G (λE v e z=>?_) λx E D v e z=>?_))
 ·refine Jn.intro (cF rfl ?_);have M:(if(a:Int)>(m:Int)then(a:Int)else(m:Int))=((max m a:Nat):Int):=by
   by_cases hgt:(a:Int)>(m:Int)
   ·rw[zC hgt];omega
   ·rw[zB hgt];omega
  rw[M];refine Qz (a:=bO) (λ(t:Int) w=>w=v/\(t=16\/t=32/\16<max m a\/t=64/\32<max m a)) (λt _=>100-t.toNat) ⟨rfl,.inl rfl⟩ ?_;rintro(t:Int) w ⟨rfl,hcase⟩;have ha16:a<=16:=by omega
  refine cP (λhlt=>?_) λhge=>?_
  ·have:t=16\/t=32:=by omega
   rcases this with rfl|rfl
   ·exact ar O O ⟨⟨rfl,O⟩,by decide⟩
   ·exact ar O O ⟨⟨rfl,O⟩,by decide⟩
  ·have P:t=((KD (max m a):Nat):Int):=by
    unfold KD;by_cases c1:max m a<=16
    ·rw[zC c1];omega
    ·rw[zB c1];by_cases c2:max m a<=32
     ·rw[zC c2];omega
     ·rw[zB c2];omega
   subst P;have N:KD (max m a)=16\/KD (max m a)=32\/KD (max m a)=64:=by omega
   refine Wk8 z N (λy σ' J r=>?_) λA' C y σ' J r=>?_
   ·have d:dC A sp m a no=(none,A,sp):=by unfold dC;rw[E];simp only;rw[y]
    exact cF rfl (h0 (by rw[d]) σ' ((u e).trans J) (by rw[d];exact r))
   ·refine cD rfl (bL (r.a.hd.rP rfl (r.take G (λB s e2 g=>?_) λx B D s e2 g=>?_)))
    ·have d:dC A sp m a no=(none,A',C):=by unfold dC;rw[E];simp only;rw[y];simp only;rw[B]
     exact cF rfl (h0 (by rw[d]) s (((u e).trans J).trans (u e2)) (by rw[d];exact g))
    ·have d:dC A sp m a no=(some x,dT A' x m no,C):=by unfold dC;rw[E];simp only;rw[y];simp only;rw[B]
     exact cD rfl (fin s x A' C (((u e).trans J).trans (u e2)) (by rw[←PW y];exact D) g d)
 ·have d:dC A sp m a no=(some x,dT A x m no,sp):=by unfold dC;rw[E]
  refine Jn.intro (cD rfl (cD rfl (fin v x A sp (u e) D z d)))
theorem Fits.refl:Fits U F H F H:=⟨λb a=>.inl a,λb a=>a⟩
theorem W2.mono {F' H':Rg}(h:W2 U F H Y A T sp)(hF:iX F')(hF2:∀b,b<U.size->F b->F' b)(hH:∀b,H' b->H b)(hH2:∀b,b<U.size->H b->H' b)(hd:∀b,F' b->¬H' b):W2 U F' H' Y A T sp:=
 ⟨h.a.mono hF2,dN.mono dP.loc h.s hH2,hd,h.g,hF,h.o2.sub hH⟩
theorem WkK (h:W2 U F H Y A T sp)(k:Int){R:aN}(hR:∀σ' F' H',Fits U F H F' H'->Ext (iZ F H) U σ'->W2 σ' F' H' Y (cQ A sp k).1 T (cQ A sp k).2->R (Vw A sp k) σ') :
 Yz.c (aW Y.p) k U R:=by
 refine Yz.o ?_;unfold Yz.v;refine UV h.a k (λE=>?_) λx hx P=>?_
 ·have e1:Vw A sp k=1:=by unfold Vw;rw[E];rfl
  have e2:cQ A sp k=(A,sp):=by unfold cQ;rw[E];rfl
  have:=hR U F H Fits.refl (Ext.refl _ _) (by rw[e2];exact h);rw[e1]at this;exact cF rfl this
 ·subst hx;have E:A.ck (x:Int)=true:=by unfold AR.ck;simp;omega
  obtain⟨c,V,q,t,r,J,B,hq,_,_,S⟩:=h.a.at_ P;have ht2:=h.a.lay.rk;obtain⟨_,_,_,Q,hp4,_⟩:=S;refine cD rfl (bL (h.a.hd.rS rfl (h.a.wY (d:=1) J O ?_)));simp only[zB (show ¬(1=0) by omega),zT];refine cT (m:=x+1) O O ?_;have eE:Vw A sp x=match (dC A sp c.aG 1 (x+1)).1 with
   | some y=>G8 c V y
   | none=>6:=by unfold Vw;rw[E,zC rfl];simp only[dF];rw[J,B];rfl
  have W:cQ A sp x=match dC A sp c.aG 1 (x+1)with
   | (some y,A',w)=>(if G8 c V y=0 then{A' with cG:=A'.cG.set x (iu c V y)}else A',w)
   | (none,A',w)=>(A',w):=by unfold cQ;rw[E,zC rfl];simp only[dF];rw[J,B];rfl
  refine Jg (a:=1) h Q O (.inl rfl) O O (λC σ' e u=>?_) λy C hyn σ' F' H' i e u=>?_
  ·have:=hR σ' F H Fits.refl e;rw[eE,W,C]at this;generalize dC A sp c.aG 1 (x+1)=g at *;obtain⟨g1,g2,g3⟩:=g;simp only at C;subst C;exact cF rfl (this u)
  ·have z:(dC A sp c.aG 1 (x+1)).2.1.tb=A.tb/\(dC A sp c.aG 1 (x+1)).2.1.cG=A.cG:=by
    unfold dC;split
    ·exact⟨rfl,rfl⟩
    ·split
     ·exact⟨rfl,rfl⟩
     ·rename_i A1 sp1 hga;have:A1.tb=A.tb/\A1.cG=A.cG:=by
       unfold Hk at hga;split at hga
       ·cases hga
       ·cases hga;exact⟨rfl,rfl⟩
      split
      ·exact this
      ·exact this
   have s:=λσ' F' H'=>hR σ' F' H';rw[eE,W]at s;generalize dC A sp c.aG 1 (x+1)=g at *;obtain⟨g1,A',w⟩:=g;simp only at C u z s;subst C;simp only at s;have hWc:=u;obtain⟨G,N,⟨ps,hC⟩,_,D⟩:=u.a.uC hq (by rw[z.1];exact J) (by rw[z.2];exact B);have hn2:=h.a.lay.n2;refine cD rfl (bL (u.a.hd.rS rfl (u.a.lZ hq (Tx hC O (λZ v e2=>?_) λX v ps' e2 K=>?_))))
   ·have:=s v F' H' i (e.gp e2) (by rw[Z];exact u.bP e2);rw[Z]at this;exact this
   ·have M:=D v _ _ (Grow G σ') _ e2 (λb j=>j) K (GT N λb j=>j);have L:=u.pN (e2.sub N) M;have:=s v (Grow F' σ') (Cut H' σ') ⟨λb j=>?_,λb j=>i.2 b j.1⟩ (e.dX (e2.sub N) λb j=>?_) (by rw[X];exact L)
    ·rw[X]at this;exact this
    ·rcases j with j|j
     ·exact i.1 b j
     ·exact .inr (kx e.1 j)
    ·rcases i.1 b j with h1|h1
     ·exact .inl (.inl h1)
     ·exact .inr h1
theorem GJ (A:AR)(sp:Sp)(m a no:Nat):(dC A sp m a no).2.1.tb=A.tb/\(dC A sp m a no).2.1.cG=A.cG/\(dC A sp m a no).2.1.cR=A.cR/\(dC A sp m a no).2.1.room=A.room/\(dC A sp m a no).2.1.runs=A.runs/\(dC A sp m a no).2.1.n=A.n:=by
 unfold dC;split
 ·exact⟨rfl,rfl,rfl,rfl,rfl,rfl⟩
 ·split
  ·exact⟨rfl,rfl,rfl,rfl,rfl,rfl⟩
  ·rename_i A1 sp1 hga;have:A1.tb=A.tb/\A1.cG=A.cG/\A1.cR=A.cR/\A1.room=A.room/\A1.runs=A.runs/\A1.n=A.n:=by
    unfold Hk at hga;split at hga
    ·cases hga
    ·cases hga;exact⟨rfl,rfl,rfl,rfl,rfl,rfl⟩
   split
   ·exact this
   ·exact this
theorem Oh:∀a:Nat,a<17->1<=a->((bits .and .i64 (a:Int) ((a:Int)-1) != 0) = !(a==1||(a==2||(a==4||(a==8||a==16))))):=by decide
theorem ω (h:W2 U F H Y A T sp)(m a:Int){R:Int->Int->Hp->Prop}(hR:∀σ' F' H',Fits U F H F' H'->Ext (iZ F H) U σ'->W2 σ' F' H' Y (cC A sp m a).1 T (cC A sp m a).2->R ((QD A sp m a:Nat):Int) (Q6 A sp m a) σ') :
 Xe.c (aW Y.p) m a U R:=by
 refine Xe.o ?_;unfold Xe.v;have G:KW m a=false->R 0 1 U:=λu=>by
  have e1:Q6 A sp m a=1:=by unfold Q6;rw[u];rfl
  have e2:cC A sp m a=(A,sp):=by unfold cC;rw[u];rfl
  have W:QD A sp m a=0:=by unfold QD;rw[u];rfl
  have:=hR U F H Fits.refl (Ext.refl _ _) (by rw[e2];exact h);rw[e1,W]at this;exact this
 have d:¬(1<=m/\m<=64/\(a=1\/a=2\/a=4\/a=8\/a=16))->R 0 1 U:=λhn=>G (by
  rw[←rZ];intro hp;unfold KW at hp;simp at hp;omega)
 refine Ge h.a (cD rfl (bX.intro (cP (λc1=>bX.intro (cF rfl (bX.intro (cF rfl (bX.intro (cF rfl (cF rfl (d O)))))))) λc1=>?_)));refine bX.intro (cP (λZ=>bX.intro (cF rfl (bX.intro (cF rfl (cF rfl (d O)))))) λZ=>?_);refine bX.intro (cP (λV=>bX.intro (cF rfl (cF rfl (d O)))) λV=>?_);refine bX.intro (cP (λc4=>cF rfl (d O)) λc4=>ar O O ?_);obtain⟨y,rfl⟩:=zc (show 0<=m by omega);obtain⟨z,rfl⟩:=zc (show 0<=a by omega);rw[Oh z O O];refine cN (λL=>?_) λL=>?_
 ·refine d (λhh=>?_);simp at L;omega
 ·have hz:z=1\/z=2\/z=4\/z=8\/z=16:=by
   simp at L;omega
  have u:KW (y:Int) (z:Int)=true:=by
   unfold KW;simp;omega
  have Q:Q6 A sp y z=if(dC A sp y z 41).1.isSome then 0 else 6:=by unfold Q6;rw[u,zC rfl];rfl
  have S:QD A sp y z=(dC A sp y z 41).1.getD 0:=by unfold QD;rw[u,zC rfl];rfl
  have N:cC A sp y z=match dC A sp y z 41 with
   | (some x,A',r)=>({A' with runs:=cC.mset2 A'.runs x y},r)
   | (none,A',r)=>(A',r):=by unfold cC;rw[u,zC rfl];rfl
  refine Jg (no:=41) h O O hz O O (λB σ' e w=>?_) λx B hyn σ' F' H' s e w=>?_
  ·have:=hR σ' F H Fits.refl e;rw[Q,N,S,B]at this;generalize dC A sp y z 41=g at *;obtain⟨g1,g2,g3⟩:=g;simp only at B;subst B;exact cF rfl (this w)
  ·have j:=λσ' F' H'=>hR σ' F' H';rw[Q,N,S]at j;generalize dC A sp y z 41=g at *;obtain⟨g1,A',r⟩:=g;simp only at B w j;subst B;simp only at j;obtain⟨gr,X,D⟩:=w.a.su;refine cD rfl (bL (w.a.hd.rM rfl ⟨_,_,rfl,X,λv P E=>?_⟩));have C:dL v Y.rn .i64 bO (dA (iT A'.runs) (x:Int) (y:Int)):=E;rw[Mu]at C;have K:=D v _ P C;have e2:Ext F' σ' v:=P.ext.sub λb M=>by subst M;exact gr
   have J:=w.lU e2 K;exact j v F' H' s (e.dX e2 λb M=>by
    rcases s.1 b M with h1|h1
    ·exact .inl (.inl h1)
    ·exact .inr h1) J
end Go.Ar
namespace Go.Proofs
open Go.Vc
set_option maxRecDepth 100000
end Go.Proofs
namespace Go.Ar
open Go Go.Vc Go.Proofs
variable {U:Hp}{Q:Rg}{key:Nat->Nat}
end Go.Ar
namespace Go.Ar
open Go Go.Vc Go.Proofs
variable {U:Hp}{F:Rg}{p q:Nat}{st:List Nat}
end Go.Ar
namespace Go.Ar
open Go Go.Vc Go.Proofs
open Go.Bu (ZE Kj ZB)
variable {U:Hp}{F H:Rg}{p hs:Nat}{A:AR}{sp:Sp}{Y:Lay}{T:Nat->Hp->Rg->Prop}
theorem dJ.cR (h:dJ U F Y A (cM A Y)){k q:Nat}{c:cA}{t:gT}(h1:Y.gC[k]?=some q)(h2:A.tb[k]?=some c)(h3:A.cR[k]?=some t):∃G:Rg,(∀b,G b->F b)/\iV U G q c.batch A.room t:=by
 obtain⟨G,a,hi,_⟩:=h.uq h1 h2 h3;exact⟨G,a,hi⟩
def part {α:Type}(f:cA->α->Nat)(tb:List cA)(l:List α)(i:Nat):Nat:=(((tb.zip l).take i).map λx=>f x.1 x.2).sum
end Go.Ar
namespace Go.Ar
open Go Go.Vc Go.Proofs
variable {U:Hp}
theorem Ey:∀(xs:List (Int×Int×Int)),u6 xs=true↔∀(i:Nat) a b,xs[i]?=some a->xs[i+1]?=some b->a.1<b.1
 | []=>by simp[u6]
 | [x]=>by simp[u6]
 | x::y::l=>by
  have ih:=Ey (y::l);show(decide (x.1<y.1)&&u6 (y::l))=true↔_;rw[zF,ih,zV];constructor
  ·rintro⟨h1,h2⟩ i a b g d;cases i with
   | zero=>simp at g d;subst g;subst d;exact h1
   | succ i=>exact h2 i a b (by simpa using g) (by simpa using d)
  ·intro h;exact⟨h 0 x y rfl rfl,λi a b g d=>h (i+1) a b (by simpa using g) (by simpa using d)⟩
theorem QU (xs:List (Int×Int×Int)):QY xs=true↔1<=xs.length/\xs.length<=40/\(∀(i:Nat) t,xs[i]?=some t->U0 t.1 t.2.1 t.2.2=true)/\∀(i:Nat) a b,xs[i]?=some a->xs[i+1]?=some b->a.1<b.1:=by
 unfold QY;simp only[zF,zV,Ey,kz];constructor
 ·rintro⟨h1,h2,h3,h4⟩;exact⟨h1,h2,λi t d=>h3 t (zG d),h4⟩
 ·rintro⟨h1,h2,h3,h4⟩;exact⟨h1,h2,λt d=>by obtain⟨i,hi⟩:=zP d;exact h3 i t hi,h4⟩
theorem yQ {s:Sl}{xs:List (Int×Int×Int)}(ha:iy U s xs){R:aO}(hR:∀σ',aF U σ'->R (QY xs) σ'):ZZ.c s U R:=by
 refine ZZ.o ?_;unfold ZZ.v;have Q:∀σ',aF U σ'->¬(1<=xs.length/\xs.length<=40/\(∀(i:Nat) t,xs[i]?=some t->U0 t.1 t.2.1 t.2.2=true)/\∀(i:Nat) a b,xs[i]?=some a->xs[i+1]?=some b->a.1<b.1)->R false σ':=λσ' e hn=>by
  have:=hR σ' e;have hf:QY xs=false:=by rw[←rZ,QU];exact hn
  rw[hf]at this;exact this
 have X:=ha.1;refine bX.intro (cP (λc1=>cF rfl (Q U (Ext.refl _ _) λh=>O)) λc1=>?_);refine cP (λc2=>Q U (Ext.refl _ _) λh=>O) λc2=>?_;refine Qz (a:=bO) (λ(t:Int) v=>∃i:Nat,t=(i:Int)/\i<=xs.length/\aF U v/\(∀(j:Nat) t,j<i->xs[j]?=some t->U0 t.1 t.2.1 t.2.2=true)/\∀(j:Nat) a b,j+1<i->xs[j]?=some a->xs[j+1]?=some b->a.1<b.1) (λt _=>xs.length-t.toNat)
  ⟨0,rfl,O,Ext.refl _ _,λj t h=>O,λj a b h=>O⟩ ?_
 rintro t v ⟨i,rfl,hi,e,Y,V⟩;have S:=Qv ha e;refine cP (λhlt=>?_) λhge=>?_
 ·have N:i<xs.length:=by omega
  have A:xs[i]?=some xs[i]:=cW N;generalize xs[i]=r at A;obtain⟨x,y,z⟩:=r;refine yP S A ?_;refine nw (cs:=[.int .i64 0,.int .i64 0,.int .i64 0]) λv2 hz2 e2 b2=>b2.s1 aA λv3 o3 b3=>b3.s1 aA λv4 o4 b4=>b4.s1 aA λv5 o5 H=>?_;have e5:aF v v5:=Ext.fresh (Ext.fresh (Ext.fresh e2 o3.ext λi hi=>O) o4.ext λi hi=>O) o5.ext λi hi=>by omega
  refine Jn.intro ⟨(· = v5),rfl,⟨x,λm F=>by rw[F,add_lit,H.cell];rfl,⟨y,λm F=>by rw[F,add_lit,H.cell];rfl,⟨z,λm F=>by rw[F,add_lit,H.cell];rfl,?_⟩⟩⟩⟩;refine Ic x y z λv7 Z=>?_;have w:=(Ext.trans e e5).trans Z;have G:(U0 x y z=false\/∃a,0<i/\xs[i-1]?=some a/\x<=a.1)->R false v7:=λL=>Q v7 w λK=>by
   rcases L with L|⟨a,J,hb1,hb2⟩
   ·have:=K.2.2.1 i _ A;simp only at this;rw[L]at this;cases this
   ·have:=K.2.2.2 (i-1) a (x,y,z) hb1 (by rw[show i-1+1=i by omega];exact A);simp only at this;omega
  cases hc:U0 x y z
  ·exact cF rfl (cF rfl (G (.inl hc)))
  ·have next:(∀a,0<i->xs[i-1]?=some a->a.1<x)->Ar .i64 ((i:Int)+1) λg=>(∃i:Nat,g=(i:Int)/\i<=xs.length/\aF U v7/\(∀(j:Nat) t,j<i->xs[j]?=some t->U0 t.1 t.2.1 t.2.2=true)/\∀(j:Nat) a b,j+1<i->xs[j]?=some a->xs[j+1]?=some b->a.1<b.1)/\xs.length-g.toNat<xs.length-(i:Int).toNat:=by
    intro J;refine cT (m:=i+1) O O ⟨⟨i+1,rfl,O,w,λj t hj B=>?_,λj a b hj u d=>?_⟩,O⟩
    ·by_cases hji:j=i
     ·subst hji;rw[A]at B;cases B;exact hc
     ·exact Y j t O B
    ·by_cases hji:j+1=i
     ·subst hji;rw[A]at d;cases d;exact J a O u
     ·exact V j a b O u d
   refine cD rfl (cP (λJ=>?_) λJ=>cD rfl (next λa kA=>O))
   have p:xs[i-1]?=some (xs[i-1]' O):=cW _;generalize xs[i-1]' O=r at p;obtain⟨P,y',z'⟩:=r;have E:=Qv ha w;obtain⟨b,o,g1,g2,g3,g4,g5⟩:=E.2 (i-1) P y' z' p;have W:=Z.bV H id;refine cT (m:=i-1) O O ?_;rw[g1];refine ix O O ?_;have C:cell v7 ⟨b,o+(((i-1:Nat):Int)).toNat*3+0,none⟩=some (.int .i64 P):=by simpa using g3
   have fin:If (decide (x<=P)) (R false v7) (Ar .i64 ((i:Int)+1) λg=>(∃i:Nat,g=(i:Int)/\i<=xs.length/\aF U v7/\(∀(j:Nat) t,j<i->xs[j]?=some t->U0 t.1 t.2.1 t.2.2=true)/\∀(j:Nat) a b,j+1<i->xs[j]?=some a->xs[j+1]?=some b->a.1<b.1)/\xs.length-g.toNat<xs.length-(i:Int).toNat):=by
    refine cP (λM=>G (.inr ⟨_,O,p,M⟩)) λhgt=>next λa _ D=>?_
    rw[p]at D;cases D;simp only;omega
   rw[add_lit b o];exact⟨W.rI rfl (dR C fin),dR C (W.rI rfl fin)⟩
 ·have:i=xs.length:=by omega
  subst this;have K:QY xs=true:=(QU xs).2 ⟨O,O,λi t B=>Y i t (cY.1 B).1 B,λi a b u d=>V i a b (cY.1 d).1 u d⟩;have:=hR v e;rw[K]at this;exact this
end Go.Ar
namespace Go.Ar
open Go Go.Vc Go.Proofs
open Go.Bu (ZE Kj ZB)
variable {U:Hp}{F H:Rg}{p hs:Nat}{A:AR}{sp:Sp}{Y:Lay}{T:Nat->Hp->Rg->Prop}
open Classical in
theorem _root_.Go.Vc.Sep.put {L:Type}{C C':L->Hp->Rg->Prop}{U:Hp}{F G:Rg}(hC:∀i,dN (C i))(h:Sep C U F)(i:L)(hd:∀b,G b->¬F b)(hj:∀j,j≠i->C' j=C j)(hi:C' i U G)(hL:dN (C' i)):Sep C' U λb=>F b\/G b:=by
 obtain⟨ρ,h⟩:=h;refine⟨λb=>if G b then i else ρ b,λj=>?_⟩
 by_cases hji:j=i
 ·subst hji;exact hL.mono hi λb _ d=>⟨.inr d,zC d⟩
 ·rw[hj j hji];refine(hC j).mono (h j) λb _ a=>⟨.inl a.1,?_⟩;show(if G b then i else ρ b)=j
  rw[zB λg=>hd b g a.1];exact a.2
def gI (A:AR)(Y:Lay)(T:Nat->Hp->Rg->Prop)(cs:List Value):Lb->Hp->Rg->Prop
 | .hd=>iD Y.p cs
 | i=>AC A Y T i
theorem gI.loc {cs:List Value}(hT:∀k,dN (T k)):∀i,dN (gI A Y T cs i)
 | .hd=>iD.loc _ _
 | .dG=>AC.loc (A:=A) (Y:=Y) hT .dG
 | .free=>AC.loc (A:=A) (Y:=Y) hT .free
 | .oC=>AC.loc (A:=A) (Y:=Y) hT .oC
 | .own=>AC.loc (A:=A) (Y:=Y) hT .own
 | .dU=>AC.loc (A:=A) (Y:=Y) hT .dU
 | .cS=>AC.loc (A:=A) (Y:=Y) hT .cS
 | .runs=>AC.loc (A:=A) (Y:=Y) hT .runs
 | .cG k=>AC.loc (A:=A) (Y:=Y) hT (.cG k)
 | .cR k=>AC.loc (A:=A) (Y:=Y) hT (.cR k)
theorem SQ:gI A Y T (k8 Y)=AC A Y T:=by
 funext i;cases i<;>rfl
theorem EO {cs:List Value}(hT:∀k,dN (T k))(h:Sep (gI A Y T cs) U F)(hlen:A.cG.length<=Y.fN.length)(hl:Y.fN.length<=40){vb cp ty:Nat}(hb:bY U vb [.pointer (some ⟨cp,0,none⟩)])(hvb:¬F vb){K:Sl->Hp->Prop}
 (hK:∀s' σ',Ext F U σ'->Sep (gI A {Y with dU:=s',fN:=Y.fN++[cp]} T cs) σ' (Grow F U)->K s' σ'):App Y.dU 1 8 ty [.pointer none] ⟨some ⟨vb,0,none⟩,1,1⟩ U K:=by
 obtain⟨G,d,hi,_,a⟩:=h.j5 (gI.loc hT) .dU;have hi:bT Y.dU 1 (fO Y.fN) U G:=hi;have g:Y.dU.len=Y.fN.length:=by have:=hi.1;simp[fO]at this;omega
 refine hi.app (ys:=[.pointer (some ⟨cp,0,none⟩)]) rfl rfl ?_ (by simp[dY]) aC aC nh λs' σ' m e p=>hK s' σ' (e.sub d) ?_
 ·intro j u hu;rw[add_lit,zH,hb.cell];exact hu
 refine(Sep.loc (gI.loc hT)).mono (a σ' (gI A {Y with dU:=s',fN:=Y.fN++[cp]} T cs) (Grow G U) (λj i=>?_) e (λb hb=>hb) ?_ (gI.loc hT _)) λb _ hb=>GT d (λb hb=>hb) b hb
 ·cases j<;>first|rfl|exact absurd rfl i|skip
  rename_i k;show ke (Y.fN++[cp])[k]? A.tb[k]? A.cG[k]?=ke Y.fN[k]? A.tb[k]? A.cG[k]?;rcases kr k Y.fN.length with h1|h1
  ·rw[zd h1]
  ·have:A.cG[k]?=none:=zX O;rw[this]
   funext U F
   unfold ke;cases(Y.fN++[cp])[k]?<;>cases Y.fN[k]?<;>cases A.tb[k]?<;>rfl
 ·show bT s' 1 (fO (Y.fN++[cp])) σ' (Grow G U);have:fO (Y.fN++[cp])=fO Y.fN++[.pointer (some ⟨cp,0,none⟩)]:=by simp[fO]
  rw[this];exact p
theorem Κ (hlen:A.cR.length<=Y.gC.length)(tp:Nat)(s':Sl):cM A {Y with cS:=s',gC:=Y.gC++[tp]}=cM A Y:=by
 funext k
 unfold cM;simp only;rcases kr k Y.gC.length with h1|h1
 ·rw[zd h1]
 ·have:A.cR[k]?=none:=zX O;rw[this]
  funext U F
  unfold lC;cases(Y.gC++[tp])[k]?<;>cases Y.gC[k]?<;>cases A.tb[k]?<;>rfl
theorem Jw {cs:List Value}(h:Sep (gI A Y (cM A Y) cs) U F)(hlen:A.cR.length<=Y.gC.length)(hl:Y.gC.length<=40){vb tp ty:Nat}(hb:bY U vb [.pointer (some ⟨tp,0,none⟩)])(hvb:¬F vb){K:Sl->Hp->Prop}
 (hK:∀s' σ',Ext F U σ'->Sep (gI A {Y with cS:=s',gC:=Y.gC++[tp]} (cM A {Y with cS:=s',gC:=Y.gC++[tp]}) cs) σ' (Grow F U)->K s' σ'):App Y.cS 1 8 ty [.pointer none] ⟨some ⟨vb,0,none⟩,1,1⟩ U K:=by
 have d:∀k,dN (cM A Y k):=λk=>cM.loc k;obtain⟨G,g,hi,_,a⟩:=h.j5 (gI.loc d) .cS;have hi:bT Y.cS 1 (fO Y.gC) U G:=hi;have m:Y.cS.len=Y.gC.length:=by have:=hi.1;simp[fO]at this;omega
 refine hi.app (ys:=[.pointer (some ⟨tp,0,none⟩)]) rfl rfl ?_ (by simp[dY]) aC aC nh λs' σ' i e r=>hK s' σ' (e.sub g) ?_
 ·intro j u hu;rw[add_lit,zH,hb.cell];exact hu
 rw[Κ hlen];refine(Sep.loc (gI.loc d)).mono (a σ' (gI A {Y with cS:=s',gC:=Y.gC++[tp]} (cM A Y) cs) (Grow G U) (λj p=>?_) e (λb hb=>hb) ?_ (gI.loc d _)) λb _ hb=>GT g (λb hb=>hb) b hb
 ·cases j<;>first|rfl|exact absurd rfl p
 ·show bT s' 1 (fO (Y.gC++[tp])) σ' (Grow G U);have:fO (Y.gC++[tp])=fO Y.gC++[.pointer (some ⟨tp,0,none⟩)]:=by simp[fO]
  rw[this];exact r
theorem ED {cs:List Value}(hT:∀k,dN (T k))(h:Sep (gI A Y T cs) U F){i:Nat}{v:Value}(hi:i<cs.length){K:aP}(hK:∀σ',Ext F U σ'->Sep (gI A Y T (cs.set i v)) σ' F->K σ'):dQ (Addr.add ⟨Y.p,0,none⟩ i) v U K:=by
 obtain⟨G,m,d,_,g⟩:=h.j5 (gI.loc hT) .hd;have d:iD Y.p cs U G:=d;refine d.2.s1 O λσ' o b=>hK σ' (o.ext.sub λb a=>by subst a;exact m _ d.1) ?_;rw[zH]at b;refine(Sep.loc (gI.loc hT)).mono (g σ' (gI A Y T (cs.set i v)) G (λj r=>?_) (o.ext.sub λb a=>by subst a;exact d.1) (λb a=>.inl a) ⟨d.1,b⟩ (gI.loc hT _)) λb _ a=>AA m (λb a=>a) b a;cases j<;>first|rfl|exact absurd rfl r
theorem mZ {cs:List Value}(h:Sep (gI A Y T cs) U F):bY U Y.p cs/\F Y.p:=by
 obtain⟨G,d,a,b⟩:=h.get .hd;exact⟨b,d _ a⟩
theorem NZ {cs:List Value}{i cp tp:Nat}{c:cA}{ss:List cH}{t:gT}{ps:List (Nat×Nat)}{Gc Gt:Rg}(h:Sep (gI A Y (cM A Y) cs) U F)(hlc:A.cG.length=i)(hlt:A.cR.length=i)(hcp:Y.fN[i]?=some cp)(htp:Y.gC[i]?=some tp)(hc:A.tb[i]?=some c)
 (hC:fJ U Gc cp c ps ss) (hTf:iV U Gt tp c.batch A.room t) (d1:∀b,Gc b->¬F b) (d2:∀b,Gt b->¬F b) (d3:∀b,Gc b->¬Gt b) :
 Sep (gI {A with cG:=A.cG++[ss],cR:=A.cR++[t]} Y (cM {A with cG:=A.cG++[ss],cR:=A.cR++[t]} Y) cs) U λb=>(F b\/Gc b)\/Gt b:=by
 have m:∀k,dN (cM A Y k):=λk=>cM.loc k;have u:Sep (gI {A with cG:=A.cG++[ss]} Y (cM A Y) cs) U λb=>F b\/Gc b:=by
  refine h.put (gI.loc m) (.cG i) d1 (λj g=>?_) ?_ (gI.loc m _)
  ·cases j<;>first|rfl|skip
   rename_i k;have r:k≠i:=λe=>g (by rw[e]);show ke Y.fN[k]? A.tb[k]? (A.cG++[ss])[k]?=ke Y.fN[k]? A.tb[k]? A.cG[k]?;rcases kr k i with h2|h2
   ·rw[zd O]
   ·have d:(A.cG++[ss])[k]?=none:=zX (by rw[zK,rF];omega);have p:A.cG[k]?=none:=zX O;rw[d,p]
  ·show ke Y.fN[i]? A.tb[i]? (A.cG++[ss])[i]? U Gc;rw[hcp,hc,zp O,hlc,py];exact⟨ps,hC⟩
 refine u.put (gI.loc m) (.cR i) (λb s a=>?_) (λj g=>?_) ?_ (gI.loc (λk=>cM.loc k) _)
 ·rcases a with a|a
  ·exact d2 b s a
  ·exact d3 b a s
 ·cases j<;>first|rfl|skip
  rename_i k;have r:k≠i:=λe=>g (by rw[e]);show lC Y.gC[k]? A.tb[k]? A.room (A.cR++[t])[k]?=lC Y.gC[k]? A.tb[k]? A.room A.cR[k]?;rcases kr k i with h2|h2
  ·rw[zd O]
  ·have d:(A.cR++[t])[k]?=none:=zX (by rw[zK,rF];omega);have p:A.cR[k]?=none:=zX O;rw[d,p]
 ·show lC Y.gC[i]? A.tb[i]? A.room (A.cR++[t])[i]? U Gt;rw[htp,hc,zp O,hlt,py];exact hTf
open Classical in
noncomputable def jC {L:Type}(C:L->Hp->Rg->Prop)(S:L->Prop)(i:L):Hp->Rg->Prop:=if S i then C i else Az
theorem jC.loc {L:Type}{C:L->Hp->Rg->Prop}{S:L->Prop}(hC:∀i,dN (C i))(i:L):dN (jC C S i):=by
 unfold jC;split
 ·exact hC i
 ·exact Az.loc
theorem jC.put {L:Type}{C:L->Hp->Rg->Prop}{S:L->Prop}{F G:Rg}(hC:∀i,dN (C i))(h:Sep (jC C S) U F)(i:L)(hd:∀b,G b->¬F b)(hi:C i U G):Sep (jC C λj=>S j\/j=i) U λb=>F b\/G b:=by
 refine h.put (jC.loc hC) i hd (λj a=>?_) ?_ (jC.loc hC i)
 ·unfold jC;by_cases hS:S j
  ·rw[zC (.inl hS),zC hS]
  ·rw[zB (λh=>hS (h.resolve_right a)),zB hS]
 ·unfold jC;rw[zC (.inr rfl)];exact hi
theorem jC.all {L:Type}{C:L->Hp->Rg->Prop}{S:L->Prop}{F:Rg}(h:Sep (jC C S) U F)(hS:∀i,S i):Sep C U F:=by
 have:jC C S=C:=by
  funext i;unfold jC;rw[zC (hS i)]
 rw[this]at h;exact h
theorem jC.one {L:Type}{C:L->Hp->Rg->Prop}(S:L->Prop)(l:L)(h:∀i,S i->C i U λ_=>False):Sep (jC C S) U λ_=>False:=by
 refine⟨λ_=>l,λi=>?_⟩;have:(λ(b:Nat)=>False/\l=i)=λ_=>False:=by funext b;simp
 rw[this];unfold jC;by_cases hS:S i
 ·rw[zC hS];exact h i hS
 ·rw[zB hS];trivial
theorem SF {tb:List cA}:∀v∈gM tb,dY v=true:=by
 intro v hv;simp only[gM,List.mem_flatMap]at hv;obtain⟨c,_,a⟩:=hv;simp at a;rcases a with rfl|rfl|rfl<;>rfl
theorem HZ {s:Sl}{xs:List (Int×Int×Int)}(ha:iy U s xs)(hv:QY xs=true){i:Nat}{c:cA}(hc:(xs.map QH)[i]?=some c):xs[i]?=some ((c.size:Int),(c.aG:Int),(c.batch:Int))/\c.ok:=by
 rw[zZ,oH]at hc;obtain⟨⟨x,y,z⟩,b,rfl⟩:=hc;obtain⟨c,a,m,g,j,d⟩:=yG (((QU xs).1 hv).2.2.1 i _ b);simp only at g j d;rw[m,b,g,j,d];exact⟨rfl,a⟩
theorem Uk {s:Sl}{xs:List (Int×Int×Int)}(ha:iy U s xs)(hv:QY xs=true){R:Sl->Hp->Prop}(hR:∀s' σ',aF U σ'->cV s' 3 (gM (xs.map QH)) σ' (λb=>U.size<=b)->R s' σ'):Wo.c s U R:=by
 refine Wo.o ?_;unfold Wo.v;have K:=(QU xs).1 hv;have y:=ha.1;have w:0<(xs.map QH).length:=by rw[zj];omega
 have D:(xs.map QH)[0]?=some (xs.map QH)[0]:=cW w;obtain⟨L,d,a,_⟩:=ha.2 0 _ _ _ (HZ ha hv D).1;refine cD (by rw[a];rfl) (nw (cs:=[]) λv G e1 C=>?_);have x:=Qv ha e1;refine(bT.nil v (λb=>U.size<=b) 3 (some ⟨U.size,0,none⟩)).app (ys:=gM (xs.map QH)) rfl (by rw[Un,zj];omega) ?_ SF aC aC O λs' A B J m=>hR s' A (Ext.fresh e1 J λi hi=>hi) ?_
 ·rw[a];intro j u hu;have p:=(cY.1 hu).1;rw[Un,zj]at p;have hi:j/3<(xs.map QH).length:=by rw[zj];omega
  have r:(xs.map QH)[j/3]?=some (xs.map QH)[j/3]:=cW hi;generalize (xs.map QH)[j/3]=c at r;have g:=y9 r;obtain⟨b,o,z,_,F,E,H⟩:=x.2 (j/3) _ _ _ (HZ ha hv r).1;rw[a]at z;cases z;rw[add_lit];rcases(by omega:j=3*(j/3)\/j=3*(j/3)+1\/j=3*(j/3)+2)with hj|hj|hj
  ·rw[hj]at hu;rw[g.1]at hu;cases hu;rw[show d+j=d+j/3*3 by omega];exact F
  ·rw[hj]at hu;rw[g.2.1]at hu;cases hu;rw[show d+j=d+j/3*3+1 by omega];exact E
  ·rw[hj]at hu;rw[g.2.2]at hu;cases hu;rw[show d+j=d+j/3*3+2 by omega];exact H
 ·rw[tz]at m;refine aH.mono m.fX λb _ g=>?_;rcases g with h|h
  ·exact h
  ·omega
def fG (n room:Nat)(tb:List cA):AR:={n:=n,room:=room,tb:=tb,S:=Go.Bu.iE,st:=List.replicate n 0,ow:=λ_=>0,cG:=List.replicate tb.length [],cR:=List.replicate tb.length ⟨0,[]⟩,runs:=[]}
def ju (n room:Nat)(tb:List cA)(i:Nat):AR:={fG n room tb with cG:=List.replicate i [],cR:=List.replicate i ⟨0,[]⟩}
def lf (xs:List (Int×Int×Int))(n:Nat)(room:Int):Int:=if QY xs then(if 32<=n/\n%16=0/\0<=room/\room<=8 then 0 else 1)else 2
def S0:Lb->Prop
 | .dU | .cS | .cG _ | .cR _=>True
 | _=>False
theorem Fa {i cp tp:Nat}{c:cA}{ss:List cH}{t:gT}{ps:List (Nat×Nat)}{Gc Gt:Rg}{dU cS:Sl}(hpos:Y.fN.length=i/\Y.gC.length=i)
 (h:Sep (gI A {Y with dU:=dU,cS:=cS,fN:=Y.fN++[cp],gC:=Y.gC++[tp]} (cM A {Y with dU:=dU,cS:=cS,fN:=Y.fN++[cp],gC:=Y.gC++[tp]}) (k8 Y)) U F)
 (hlc:A.cG.length=i) (hlt:A.cR.length=i) (hc:A.tb[i]?=some c) (hC:fJ U Gc cp c ps ss) (hTf:iV U Gt tp c.batch A.room t) (d1:∀b,Gc b->¬F b) (d2:∀b,Gt b->¬F b) (d3:∀b,Gc b->¬Gt b) {K:aP}
 (hK:∀σ' Y',Ext F U σ'->Y'.p=Y.p->Y'.hs=Y.hs->Y'.fN.length=i+1->Y'.gC.length=i+1->Sep (gI {A with cG:=A.cG++[ss],cR:=A.cR++[t]} Y' (cM {A with cG:=A.cG++[ss],cR:=A.cR++[t]} Y') (k8 Y')) σ' (λb=>(F b\/Gc b)\/Gt b)->K σ') :
 bW (some ⟨Y.p,0,none⟩) λa93=>dQ (a93.add 5) (.slice dU.a dU.len dU.cap) U λv25=>bW (some ⟨Y.p,0,none⟩) λa95=>dQ (a95.add 6) (.slice cS.a cS.len cS.cap) v25 K:=by
 have r:∀k,dN (cM A {Y with dU:=dU,cS:=cS,fN:=Y.fN++[cp],gC:=Y.gC++[tp]} k):=λk=>cM.loc k;refine bL (ED (Y:={Y with dU:=dU,cS:=cS,fN:=Y.fN++[cp],gC:=Y.gC++[tp]}) r h (i:=5) (by simp[k8]) λy e1 u=>bL (ED (Y:={Y with dU:=dU,cS:=cS,fN:=Y.fN++[cp],gC:=Y.gC++[tp]}) r u (i:=6) (by simp[k8]) λw e2 x=>?_));have j:=(fJ.loc (c:=c) (ps:=ps) (ss:=ss) (p:=cp)).bS ((fJ.loc (c:=c) (ps:=ps) (ss:=ss) (p:=cp)).bS hC e1 λb _ d g=>d1 b d g) e2 λb _ d g=>d1 b d g;have m:=(iV.loc (p:=tp) (batch:=c.batch) (room:=A.room) (t:=t)).bS ((iV.loc (p:=tp) (batch:=c.batch) (room:=A.room) (t:=t)).bS hTf e1 λb _ d g=>d2 b d g) e2 λb _ d g=>d2 b d g;have s:=NZ (cp:=cp) (tp:=tp) x hlc hlt (by simp only;rw[zp O,hpos.1,py];rfl) (by simp only;rw[zp O,hpos.2,py];rfl) hc j m d1 d2 d3;exact hK w {Y with dU:=dU,cS:=cS,fN:=Y.fN++[cp],gC:=Y.gC++[tp]} (e1.trans e2) rfl rfl (by simp[hpos.1]) (by simp[hpos.2]) s
theorem q8 {cs:List Value}{σ':Hp}(hT:∀k,dN (T k))(h:Sep (gI A Y T cs) U F)(e:aF U σ'):Sep (gI A Y T cs) σ' F:=(Sep.loc (gI.loc hT)).bP h e
theorem Fe {cs:List Value}(hT:∀k,dN (T k))(h:Sep (gI A Y T cs) U F):Sep (gI A Y T cs) U (Cut F U):=(Sep.loc (gI.loc hT)).cut h
theorem Wi9 (n room:Nat)(tb:List cA)(i:Nat):({ju n room tb i with cG:=(ju n room tb i).cG++[[]],cR:=(ju n room tb i).cR++[⟨0,[]⟩]}:AR)=ju n room tb (i+1):=by
 unfold ju;simp only[←Cj]
theorem NJ (n room:Nat)(tb:List cA):ju n room tb tb.length=fG n room tb:=rfl
theorem Me {i cp tp:Nat}{c:cA}{ss:List cH}{t:gT}{ps:List (Nat×Nat)}{Gc Gt:Rg}{z:Nat}(hF:∀b,F b->z<=b/\b<U.size)(hpos:Y.fN.length=i/\Y.gC.length=i)(hi:i<40)
 (h:Sep (gI A Y (cM A Y) (k8 Y)) U F) (hlc:A.cG.length=i) (hlt:A.cR.length=i) (hc:A.tb[i]?=some c) (hC:fJ U Gc cp c ps ss) (hTf:iV U Gt tp c.batch A.room t) (d1:∀b,Gc b->¬F b/\z<=b/\b<U.size) (d2:∀b,Gt b->¬F b/\z<=b/\b<U.size) (d3:∀b,Gc b->¬Gt b) {J4:aP}
 (hK:∀σ' Y',Ext F U σ'->Y'.p=Y.p->Y'.hs=Y.hs->Y'.fN.length=i+1->Y'.gC.length=i+1->Sep (gI {A with cG:=A.cG++[ss],cR:=A.cR++[t]} Y' (cM {A with cG:=A.cG++[ss],cR:=A.cR++[t]} Y') (k8 Y')) σ' (λb=>z<=b)->J4 σ') :
 dW U λS=>bW (some ⟨Y.p,0,none⟩) λa80=>gN S .s (a80.add 5) λ(t82:Sl)=>bW (some ⟨Y.p,0,none⟩) λa87=>gN S .s (a87.add 6) λ(t89:Sl)=>
  (Nw (.cells #[.pointer (some ⟨cp,0,none⟩)] 202 (0,0)) U λn84 v21=>And (S v21) <|
   (App t82 1 8 202 [.pointer none] ⟨some n84,1,1⟩ v21 λt85 v22=>And (S v22)<|Nw (.cells #[.pointer (some ⟨tp,0,none⟩)] 204 (0,0)) v22 λn91 v23=>And (S v23)<|App t89 1 8 204 [.pointer none] ⟨some n91,1,1⟩ v23 λt92 v24=>And (S v24) <|
   bW (some ⟨Y.p,0,none⟩) λa93=>dQ (a93.add 5) (.slice t85.a t85.len t85.cap) v24 λv25=>bW (some ⟨Y.p,0,none⟩) λa95=>dQ (a95.add 6) (.slice t92.a t92.len t92.cap) v25 λv26=>J4 v26) ∧
   (Nw (.cells #[.pointer (some ⟨tp,0,none⟩)] 204 (0,0)) v21 λn911 v27=>And (S v27)<|App t82 1 8 202 [.pointer none] ⟨some n84,1,1⟩ v27 λt851 v28=>And (S v28)<|App t89 1 8 204 [.pointer none] ⟨some n911,1,1⟩ v28 λt921 v29=>And (S v29) <|
   bW (some ⟨Y.p,0,none⟩) λa931=>dQ (a931.add 5) (.slice t851.a t851.len t851.cap) v29 λv30=>bW (some ⟨Y.p,0,none⟩) λa951=>dQ (a951.add 6) (.slice t921.a t921.len t921.cap) v30 λv31=>J4 v31)) ∧
  (Nw (.cells #[.pointer (some ⟨tp,0,none⟩)] 204 (0,0)) U λn912 v32=>And (S v32)<|Nw (.cells #[.pointer (some ⟨cp,0,none⟩)] 202 (0,0)) v32 λn841 v33=>And (S v33) <|
  App t82 1 8 202 [.pointer none] ⟨some n841,1,1⟩ v33 λt852 v34=>And (S v34)<|App t89 1 8 204 [.pointer none] ⟨some n912,1,1⟩ v34 λt922 v35=>And (S v35) <|
  bW (some ⟨Y.p,0,none⟩) λa932=>dQ (a932.add 5) (.slice t852.a t852.len t852.cap) v35 λv36=>bW (some ⟨Y.p,0,none⟩) λa952=>dQ (a952.add 6) (.slice t922.a t922.len t922.cap) v36 λv37=>J4 v37):=by
 have G:∀k,dN (cM A Y k):=λk=>cM.loc k;have ac:=fJ.loc (c:=c) (ps:=ps) (ss:=ss) (p:=cp);have W:=iV.loc (p:=tp) (batch:=c.batch) (room:=A.room) (t:=t);refine⟨λm=>bY m Y.p (k8 Y),(mZ h).1,bL ⟨Y.dU,λm hm=>by rw[add_lit,hm.cell];rfl,bL ⟨Y.cS,λm hm=>by rw[add_lit,hm.cell];rfl,?_⟩⟩⟩;have D:∀(w:Hp) (F1:Rg) (b1 b2:Nat),aF U w->(∀b,F1 b->F b)->Sep (gI A Y (cM A Y) (k8 Y)) w F1->bY w b1 [.pointer (some ⟨cp,0,none⟩)]->bY w b2 [.pointer (some ⟨tp,0,none⟩)]->U.size<=b1->U.size<=b2 →
  App Y.dU 1 8 202 [.pointer none] ⟨some ⟨b1,0,none⟩,1,1⟩ w λt85 v28=>And (bY v28 Y.p (k8 Y))<|App Y.cS 1 8 204 [.pointer none] ⟨some ⟨b2,0,none⟩,1,1⟩ v28 λt92 v29=>And (bY v29 Y.p (k8 Y)) <|
   bW (some ⟨Y.p,0,none⟩) λa93=>dQ (a93.add 5) (.slice t85.a t85.len t85.cap) v29 λv30=>bW (some ⟨Y.p,0,none⟩) λa95=>dQ (a95.add 6) (.slice t92.a t92.len t92.cap) v30 λv31=>J4 v31:=by
  intro w F1 b1 b2 ew hF1 hw hb1 hb2 hz1 hz2;have C:∀b,F1 b->z<=b/\b<U.size:=λb d=>hF b (hF1 b d);have hsw:=ew.1;refine EO G hw O O hb1 (λg=>by have:=C _ g;omega) λs1 v28 E X=>?_;have V:=(mZ X).1;have L:Sep (gI A {Y with dU:=s1,fN:=Y.fN++[cp]} (cM A {Y with dU:=s1,fN:=Y.fN++[cp]}) (k8 Y)) v28 (Grow F1 w):=X;refine⟨V,?_⟩;have c28:Sep (gI A {Y with dU:=s1,fN:=Y.fN++[cp]} (cM A {Y with dU:=s1,fN:=Y.fN++[cp]}) (k8 Y)) v28 (λb=>F1 b\/w.size<=b):=L;have M:=E.bV hb2 λg=>by have:=C _ g;omega
  have hb2lt:=hb2.lt;refine Jw c28 aC aC M (λg=>by
   rcases g with g|g
   ·have:=C _ g;omega
   ·omega) λs2 v29 e29 af=>?_
  refine⟨(mZ af).1,?_⟩;have H:∀b,(F1 b\/w.size<=b)->F b\/U.size<=b:=λb d=>by
   rcases d with d|d
   ·exact .inl (hF1 b d)
   ·exact .inr O
  have j:Ext F U v29:=((aF.to ew).trans (E.sub hF1)).dX e29 H;have N:=ac.bS hC j λb _ d g=>(d1 b d).1 g;have Z:=W.bS hTf j λb _ d g=>(d2 b d).1 g;have hs28:=E.1;refine Fa (F:=Grow (λb=>F1 b\/w.size<=b) v28) hpos af hlc hlt hc N Z (λb d g=>?_) (λb d g=>?_) d3 λw2 Y' e2 p1 p2 p3 p4 h2=>?_
  ·have:=d1 b d;rcases g with(g|g)|g
   ·exact this.1 (hF1 b g)
   ·omega
   ·omega
  ·have:=d2 b d;rcases g with(g|g)|g
   ·exact this.1 (hF1 b g)
   ·omega
   ·omega
  ·refine hK w2 Y' (j.dX e2 λb d=>?_) p1 p2 p3 p4 ((Sep.loc (gI.loc (λk=>cM.loc k))).mono h2 λb _ d=>?_)
   ·rcases d with(d|d)|d
    ·exact .inl (hF1 b d)
    ·exact .inr O
    ·exact .inr O
   ·have hz0:z<=U.size:=by have:=(d1 _ hC.fp);omega
    rcases d with(((d|d)|d)|d)|d
    ·exact(C b d).1
    ·omega
    ·omega
    ·exact(d1 b d).2.1
    ·exact(d2 b d).2.1
 have S0:∀{w:Hp},aF U w->bY w Y.p (k8 Y):=λe=>e.bV (mZ h).1 id;refine⟨nw (cs:=[.pointer (some ⟨cp,0,none⟩)]) λv21 z21 u Q=>⟨S0 u,?_,?_⟩,nw (cs:=[.pointer (some ⟨tp,0,none⟩)]) λv32 z32 y b32=>⟨S0 y,nw (cs:=[.pointer (some ⟨cp,0,none⟩)]) λv33 z33 x b33=>⟨S0 (Ext.trans y x),?_⟩⟩⟩
 ·-- row,box,row
  have h21:=q8 G h u;refine EO G h21 O O Q (λg=>by have:=hF _ g;omega) λs1 v22 P ab=>⟨(mZ ab).1,?_⟩;have aa:Sep (gI A {Y with dU:=s1,fN:=Y.fN++[cp]} (cM A {Y with dU:=s1,fN:=Y.fN++[cp]}) (k8 Y)) v22 (Grow F v21):=ab;have c22:=Fe (λk=>cM.loc k) aa;refine nw (cs:=[.pointer (some ⟨tp,0,none⟩)]) λv23 z23 J b23=>?_;have ae:=q8 (λk=>cM.loc k) c22 J;refine⟨(mZ ae).1,Jw ae aC aC b23 (λg=>by have:=g.2;omega) λs2 v24 e24 K=>⟨(mZ K).1,?_⟩⟩;have hs22:=P.1;have hs23:=J.1;have r:∀b,Cut (Grow F v21) v22 b->F b\/U.size<=b:=λb d=>by
   rcases d.1 with h|h
   ·exact .inl h
   ·exact .inr O
  have j:Ext F U v24:=((((aF.to u).trans P).gp J)).dX e24 r;have ad:=ac.bS hC j λb _ d g=>(d1 b d).1 g;have R:=W.bS hTf j λb _ d g=>(d2 b d).1 g;refine Fa (F:=Grow (Cut (Grow F v21) v22) v23) hpos K hlc hlt hc ad R (λb d g=>?_) (λb d g=>?_) d3 λw2 Y' e2 p1 p2 p3 p4 h2=>?_
  ·have:=d1 b d;rcases g with g|g
   ·rcases g.1 with g|g
    ·exact this.1 g
    ·omega
   ·omega
  ·have:=d2 b d;rcases g with g|g
   ·rcases g.1 with g|g
    ·exact this.1 g
    ·omega
   ·omega
  ·refine hK w2 Y' (j.dX e2 λb d=>?_) p1 p2 p3 p4 ((Sep.loc (gI.loc (λk=>cM.loc k))).mono h2 λb _ d=>?_)
   ·rcases d with d|d
    ·exact r b d
    ·exact .inr O
   ·have hz0:z<=U.size:=by have:=(d1 _ hC.fp);omega
    rcases d with((d|d)|d)|d
    ·rcases r b d with h|h
     ·exact(hF b h).1
     ·omega
    ·omega
    ·exact(d1 b d).2.1
    ·exact(d2 b d).2.1
 ·-- box,row,row
  refine nw (cs:=[.pointer (some ⟨tp,0,none⟩)]) λv27 z27 B b27=>⟨S0 (Ext.trans u B),?_⟩;exact D v27 F U.size v21.size (Ext.trans u B) (λb d=>d) (q8 G (q8 G h u) B) (B.bV Q id) b27 (zD _) O
 ·exact D v33 F v32.size U.size (Ext.trans y x) (λb d=>d) (q8 G (q8 G h y) x) b33 (x.bV b32 id) O (zD _)
theorem Aq {P:Hp->Rg->Prop}(hl:dN P){a:Nat}(h:P U λb=>a<=b):P U λb=>a<=b/\b<U.size:=hl.mono h λb d g=>⟨g,d⟩
theorem SM {n room:Nat}{tb:List cA}(h1:32<=n)(h2:n<=1024)(h3:n%16=0)(h4:room<=8)(h5:1<=tb.length)(h6:tb.length<=40)(h7:∀c∈tb,c.ok)(hc:Y.fN.length=tb.length)(ht:Y.gC.length=tb.length):fA (fG n room tb) Y:=
 ⟨hc,ht,by simp[fG],by simp[fG],h5,h6,h1,h2,h3,by simp[fG],h4,h7⟩
theorem P4 {s:Sl}{xs:List (Int×Int×Int)}(ha:iy U s xs)(hS:dP U H hs sp)(room:Int){R:Option Addr->Int->Hp->Prop}
 (h0:lf xs sp.st.length room≠0->∀σ',aF U σ'->R none (lf xs sp.st.length room) σ')
 (h1:lf xs sp.st.length room=0->∀σ' Y,aF U σ'->Y.hs=hs->dJ σ' (λb=>U.size<=b) Y (fG sp.st.length room.toNat (xs.map QH)) (cM (fG sp.st.length room.toNat (xs.map QH)) Y)->R (some ⟨Y.p,0,none⟩) 0 σ') :
 KA.c s (some ⟨hs,0,none⟩) room U R:=by
 refine KA.o ?_;unfold KA.v;have hn2:sp.st.length<=1024:=by obtain⟨q,r,l,B,h⟩:=hS;exact h.n2
 refine yQ ha λv e=>?_;cases hv:QY xs
 ·have e1:lf xs sp.st.length room=2:=by unfold lf;rw[hv];rfl
  have:=h0 (by rw[e1];decide) v e;rw[e1]at this;exact cF rfl this
 have X:lf xs sp.st.length room=if 32<=sp.st.length/\sp.st.length%16=0/\0<=room/\room<=8 then 0 else 1:=by unfold lf;rw[hv,zC rfl]
 refine cD rfl (Lj (hS.bP e) ?_);have D:¬(32<=sp.st.length/\sp.st.length%16=0/\0<=room/\room<=8)->R none 1 v:=λhn=>by
  rw[zB hn]at X;have:=h0 (by rw[X];decide) v e;rw[X]at this;exact this
 have tm:(((sp.st.length:Nat):Int).tmod 16)=((sp.st.length%16:Nat):Int):=by rw[Kh O];simp
 refine bX.intro (cP (λc1=>bX.intro (cF rfl (bX.intro (cF rfl (cF rfl (D O)))))) λc1=>nz aB ?_);rw[tm,WoO];refine bX.intro (cN (λc2=>bX.intro (cF rfl (cF rfl (D (λh=>by have:=h.2.1;simp[this]at c2))))) λc2=>?_);have Z:sp.st.length%16=0:=by simpa using c2
 refine bX.intro (cP (λc3=>cF rfl (D O)) λc3=>cP (λc4=>D O) λc4=>?_);obtain⟨V,rfl⟩:=zc (show 0<=room by omega);rw[zC O]at X;have h1:=h1 X;simp only[dF]at h1;have hva:=(QU xs).1 hv;have L:=Qv ha e;have hn1:32<=sp.st.length:=by omega
 generalize sp.st.length=n at *;have hlen:s.len=(xs.map QH).length:=by rw[zj];exact ha.1
 have hcl:∀{σ':Hp} {i:Nat} {c:cA},iy σ' s xs->(xs.map QH)[i]?=some c->xs[i]?=some ((c.size:Int),(c.aG:Int),(c.batch:Int))/\c.ok:=λh N=>HZ h hv N;have J:1<=(xs.map QH).length/\(xs.map QH).length<=40:=by rw[zj];omega
 refine Uk L hv λdG v5 e5 af=>PR λW op e6 hop hP=>uh λA z7 e7 hm=>?_;generalize htbd:xs.map QH=tb at *;refine nw (cs:=[.slice dG.a dG.len dG.cap,.pointer (some ⟨hs,0,none⟩),.pointer none,.pointer none,.pointer (some ⟨op,0,none⟩),.slice none 0 0,.slice none 0 0,.map (some W.size)]) λv8 z8 e8 b8=>?_;refine Go.Bu.tP _ (λg=>absurd ⟨O,O⟩ g) λn' hn' _ _ v9 sb ms e9 hB hfp=>?_;have hnn:n=n':=by omega
 subst hnn;have b9:=e9.bV b8 id;refine bL (b9.s1 aA λaa gD b10=>MQ O O Z λP tp tq S htp htq hTk=>bL ((S.bV b10 id).s1 aA λv12 K b12=>?_));have s5:=e5.1;have s6:=e6.1;have s9:=e9.1;have s10:=gD.1;have s11:=S.1;have s12:=K.1;have hb8:=b8.lt;have x9:Ext (· = A.size) v9 v12:=(gD.ext.trans (aF.to S)).trans K.ext;have x5:Ext (· = A.size) v5 v12:=(aF.to (Ext.trans (Ext.trans (Ext.trans e6 e7) e8) e9)).trans x9;have x6:Ext (· = A.size) W v12:=(aF.to (Ext.trans (Ext.trans e7 e8) e9)).trans x9;have x7:Ext (· = A.size) A v12:=(aF.to (Ext.trans e8 e9)).trans x9;have x11:Ext (· = A.size) P v12:=K.ext;have p1:=aH.bS (Aq aH af) x5 λb _ g d=>by omega
 have p2:=(jl.loc (p:=op) (ow:=λ_=>0)).bS (Aq jl.loc hP) x6 λb _ g d=>by omega
 have p3:dL v12 W.size .i64 bO []:=x7.fW (hm _ _) O;have p5:uR v8.size n Go.Bu.iE v12 (λb=>v8.size<=b/\b<v9.size):=(uR.loc _ _ _).bS (Aq (uR.loc _ _ _) ⟨sb,ms,hB,hfp⟩) x9 λb _ g d=>by omega
 have p6:mV tp (List.replicate n 0) v12 (λb=>aa.size<=b/\b<P.size):=(mV.loc _ _).bS (Aq (mV.loc _ _) ⟨tq,hTk,htp,htq⟩) x11 λb _ g d=>by omega
 let Y0:Lay:={p:=A.size,hs:=hs,fr:=v8.size,tr:=tp,op:=op,rn:=W.size,dG:=dG,dU:=⟨none,0,0⟩,cS:=⟨none,0,0⟩,fN:=[],gC:=[]}
 have ag:bY v12 A.size (k8 Y0):=b12
 let Cf:=gI (ju n V tb 0) Y0 (cM (ju n V tb 0) Y0) (k8 Y0)
 have u:∀i,dN (Cf i):=gI.loc λk=>cM.loc k;have q0:Sep (jC Cf S0) v12 λ_=>False:=jC.one S0 .hd λi hi=>by
  cases i<;>first|exact hi.elim|exact bT.nil _ _ _ _|exact trivial
 have q1:=jC.put u q0 .dG (G:=λb=>v.size<=b/\b<v5.size) (λb g d=>d) p1;have q2:=jC.put u q1 .own (G:=λb=>v5.size<=b/\b<W.size) (λb g d=>by
  rcases d with d|d
  ·exact d
  ·omega) p2
 have q3:=jC.put u q2 .runs (G:=λb=>b=W.size) (λb g d=>by
  rcases d with(d|d)|d
  ·exact d
  ·omega
  ·omega) ⟨rfl,p3⟩
 have q4:=jC.put u q3 .hd (G:=λb=>b=A.size) (λb g d=>by
  rcases d with((d|d)|d)|d
  ·exact d
  ·omega
  ·omega
  ·omega) ⟨rfl,ag⟩
 have q5:=jC.put u q4 .free (G:=λb=>v8.size<=b/\b<v9.size) (λb g d=>by
  rcases d with(((d|d)|d)|d)|d
  ·exact d
  ·omega
  ·omega
  ·omega
  ·omega) p5
 have q6:=jC.put u q5 .oC (G:=λb=>aa.size<=b/\b<P.size) (λb g d=>by
  rcases d with((((d|d)|d)|d)|d)|d
  ·exact d
  ·omega
  ·omega
  ·omega
  ·omega
  ·omega) p6
 have q7:Sep Cf v12 λb=>v.size<=b:=by
  refine(Sep.loc u).mono (jC.all q6 λi=>?_) λb _ d=>?_
  ·cases i<;>simp[S0]
  ·rcases d with(((((d|d)|d)|d)|d)|d)|d
   ·exact d.elim
   ·omega
   ·omega
   ·omega
   ·omega
   ·omega
   ·omega
 have e12:aF v v12:=Ext.fresh e5 x5 λi hi=>by omega
 have szv:=e.1;refine Qz (a:=bO) (λ(t:Int) w=>∃(i:Nat) (Y:Lay),t=(i:Int)/\i<=tb.length/\Y.p=A.size/\Y.hs=hs/\Y.fN.length=i/\Y.gC.length=i/\aF v w/\Sep (gI (ju n V tb i) Y (cM (ju n V tb i) Y) (k8 Y)) w (λb=>v.size<=b)) (λt _=>tb.length-t.toNat)
  ⟨0,Y0,rfl,O,rfl,rfl,rfl,rfl,e12,q7⟩ ?_
 rintro t w ⟨i,Y,rfl,hi,ae,hYh,ab,ad,ew,y⟩;refine cP (λhlt=>?_) λhge=>?_
 ·have hi':i<tb.length:=by omega
  have N:tb[i]?=some tb[i]:=cW hi';generalize tb[i]=c at N;have ac:=Qv L ew;obtain⟨hxi,hok⟩:=hcl ac N;refine yP ac hxi ?_;refine nw (cs:=[.int .i64 0,.int .i64 0,.int .i64 0]) λv14 hz14 e14 b14=>b14.s1 aA λv15 o15 b15=>b15.s1 aA λv16 o16 b16=>b16.s1 aA λv17 o17 b17=>?_;have M:aF w v17:=Ext.fresh (Ext.fresh (Ext.fresh e14 o15.ext λi hi=>O) o16.ext λi hi=>O) o17.ext λi hi=>by omega
  have x:bY v17 w.size [.int .i64 (c.size:Int),.int .i64 (c.aG:Int),.int .i64 (c.batch:Int)]:=b17;refine x.rI rfl (x.rI rfl (x.rI rfl (R5 hok λv18 cp E hcp1 hcp2 hCe=>?_)));have b18:=E.bV x id;obtain⟨_,_,_,_,_,_,ah,hbt2⟩:=id hok;refine b18.rI rfl (NI ah hbt2 O λv19 tp2 C htp1 htp2 hTf=>Jn.intro ?_);have s14:=M.1;have s18:=E.1;have s19:=C.1;have sw:=ew.1;have hT:∀k,dN (cM (ju n V tb i) Y k):=λk=>cM.loc k;have h19:=q8 hT (q8 hT (q8 hT (Fe hT y) M) E) C;have Q:=hCe.bP C;rw[←ae];refine Me (F:=Cut (λb=>v.size<=b) w) (z:=v.size) (ss:=[]) (t:=⟨0,[]⟩) (λb g=>⟨g.1,by have:=g.2;omega⟩) ⟨ab,ad⟩ O h19 (by simp[ju]) (by simp[ju]) N Q hTf (λb g=>?_) (λb g=>?_) (λb g hb2=>O) λw2 Y' e2 y1 y2 y3 y4 h2=>?_
  ·subst g;exact⟨λd=>by have:=d.2;omega,O,O⟩
  ·subst g;exact⟨λd=>by have:=d.2;omega,O,O⟩
  ·rw[Wi9]at h2;exact cT (m:=i+1) O O ⟨⟨i+1,Y',rfl,O,y1,y2.trans hYh,y3,y4,Ext.fresh (Ext.trans (Ext.trans (Ext.trans ew M) E) C) e2 λb g=>g.1,h2⟩,O⟩
 ·have:i=tb.length:=by omega
  subst this;rw[NJ,SQ]at y;have hl:fA (fG n V tb) Y:=SM hn1 hn2 Z O J.1 J.2 (λc N=>by
   obtain⟨j,hj⟩:=zP N;exact(hcl L hj).2) ab ad
  have:=h1 w Y (Ext.trans e ew) hYh ⟨hl,λk=>cM.loc k,(Sep.loc (AC.loc λk=>cM.loc k)).mono y λb _ g=>kx szv g⟩;rw[ae]at this;exact this
end Go.Ar
namespace Go.Vc
open Go
variable {U:Hp}{F:Rg}{s:Sl}{sz:Nat}{xs:List Value}
def dK (s:Sl)(sz:Nat)(xs:List Value):Hp->Rg->Prop:=λh F=>xs.length=s.len*sz/\(s.len=0/\s.cap=0\/∃b o cs,F b/\s.a=some ⟨b,o,none⟩/\bY h b cs/\s.len<=s.cap/\cs.length=o+s.cap*sz/\(cs.drop o).take xs.length=xs)
theorem dK.loc (s:Sl)(sz:Nat)(xs:List Value):dN (dK s sz xs):=λU g F G h d a=>by
 refine⟨h.1,h.2.imp id ?_⟩;rintro⟨b,o,cs,hq,ha,⟨e,he⟩,r⟩;have:=a b (bY.lt ⟨e,he⟩) hq;exact⟨b,o,cs,this.1,ha,⟨e,this.2.trans he⟩,r⟩
theorem dK.nil (h:Hp)(F:Rg)(sz:Nat)(a:Option Addr):dK ⟨a,0,0⟩ sz [] h F:=⟨by simp,.inl ⟨rfl,rfl⟩⟩
theorem bT.o (h:bT s sz xs U F):dK s sz xs U F:=⟨h.1,h.2.imp id λ⟨b,d,g,i,p,a,j,m⟩=>⟨b,0,d,g,i,p,a,O,by simpa using m⟩⟩
theorem dK.fX (h:dK s sz xs U F):cV s sz xs U F:=by
 refine⟨h.1,?_⟩;rcases h.2 with⟨hl,_⟩|⟨b,o,cs,hq,ha,hb,_,_,ht⟩
 ·left;have:=h.1;rw[hl]at this;simpa using this
 ·refine .inr ⟨b,o,cs,hq,ha,hb.q,λj a=>?_⟩;rw[←ht,zl,lj,zC a]
theorem dK.cap (h:dK s sz xs U F):s.len<=s.cap:=by
 rcases h.2 with⟨q1,q2⟩|⟨_,_,_,_,_,_,q,_⟩
 ·omega
 ·exact q
theorem dK.app {x:Sl}{bytes e:Nat}{zs ys:List Value}{K:Sl->Hp->Prop}(ho:dK s sz xs U F)(hz:zs.length=sz)
 (hy:ys.length=x.len*sz) (hr:Rd U x.a ys) (h1:∀v∈ys,dY v=true) (hb:(s.len+x.len)*bytes<=2^46) (hc:s.len+x.len<=2^62)
 (hx:0<x.len) (hK:∀s' h',s'.len=s.len+x.len->Ext F U h'->dK s' sz (xs++ys) h' (Grow F U)->K s' h'):App s sz bytes e zs x U K:=by
 refine⟨xs,ys,ho.1,hy,ho.fX.rd,hr,h1,hb,hc,λg=>?_,λr c i=>?_⟩
 ·rcases ho.2 with⟨hl,hcap⟩|⟨b,o,cs,hQ,ha,hk,hle,hcl,ht⟩
  ·omega
  ·rw[ha];simp only;rw[add_lit];have u:(s.len+x.len)*sz<=s.cap*sz:=mq _ g;rw[zo]at u;have d:=ho.1;refine V2 hk O λh' p m=>hK _ h' rfl (Ext.eV p hQ) ⟨?_,.inr ⟨b,o,_,.inl hQ,rfl,m,g,?_,?_⟩⟩
   ·simp[d,hy,zo]
   ·simp;omega
   ·rw[zK,d,ko];have e1:(cs.take (o+s.len*sz)++ys++cs.drop (o+s.len*sz+ys.length)).drop o=(cs.drop o).take (s.len*sz)++(ys++cs.drop (o+s.len*sz+ys.length)):=by
     rw[zk,List.drop_append_of_le_length (by rw[zY];omega),List.drop_take]
     congr 2;omega
    have j:(cs.drop o).take (s.len*sz)=xs:=by rw[←d];exact ht
    rw[e1,j,←zk,pc aE,lP aE]
 ·refine hK _ _ rfl (Ext.push _ _ _) ⟨by simp[ho.1,hy,zo],.inr ⟨U.size,0,xs++ys++(List.replicate (c-(s.len+x.len)) zs).flatten,.inr (zD _),rfl,⟨e,by simp⟩,i,?_,?_⟩⟩
  ·simp only[zK,wW,wy,wG,ho.1,hy,hz,←zo];rw[zH];congr 1;omega
  ·rw[yN,pc aA,lP aA]
theorem dK.Bp {x:Sl}{bytes e:Nat}{zs:List Value}{K:Sl->Hp->Prop}(ho:dK s sz xs U F)(hx:x.len=0)(hb:s.len*bytes<=2^46)(hc:s.len<=2^62)(hK:dK ⟨s.a,s.len,s.cap⟩ sz xs U F->K ⟨s.a,s.len,s.cap⟩ U):App s sz bytes e zs x U K:=by
 have d:=ho.cap;refine⟨xs,[],ho.1,by simp[hx],ho.fX.rd,by cases x.a<;>simp[Rd],by simp,by rw[hx];exact hb,O,λg=>?_,λb=>absurd O b⟩
 rw[hx];have:=hK ho;cases ha:s.a<;>(rw[ha]at this;exact this)
theorem dK.from (h:dK s sz xs U F){lo:Nat}(h1:lo<=s.len):dK ⟨if s.cap=lo then s.a else s.a.map (·.add (lo*sz)),s.len-lo,s.cap-lo⟩ sz (xs.drop (lo*sz)) U F:=by
 have d:=h.1;refine⟨by rw[ky,d,Nat.sub_mul],?_⟩;rcases h.2 with⟨q1,q2⟩|⟨b,o,cs,hq,ha,hb,hle,hcl,ht⟩
 ·left;simp only;omega
 ·by_cases hm:s.cap=lo
  ·left;simp only;omega
  ·refine .inr ⟨b,o+lo*sz,cs,hq,by simp only[zB hm,ha,ze,add_lit],hb,by simp only;omega,?_,?_⟩
   ·have:lo*sz<=s.cap*sz:=mq _ O;rw[hcl,Nat.sub_mul];omega
   ·rw[ky]
    conv=>rhs;rw[←ht]
    rw[List.drop_take,List.drop_drop]
end Go.Vc
namespace Go.Ar
open Go Go.Vc Go.Proofs
variable {U:Hp}{F G:Rg}{Y:gW}{tb:List cA}{bud:Nat}{ls:List Li}{b k:Nat}{l:Li}{c:cA}
theorem Ζ {s:Sl}{xs:List (Int×Int×Int)}(ha:iy U s xs)(dD:Int){R:Option Addr->Int->Hp->Prop}(h0:QY xs=false->∀σ',aF U σ'->R none 2 σ')
 (h1:QY xs=true->¬(0<=dD/\dD<=65536)->∀σ',aF U σ'->R none 1 σ')
 (h2:QY xs=true->0<=dD->dD<=65536->∀σ' Y,aF U σ'->eL σ' (λq=>U.size<=q) Y (xs.map QH) dD.toNat (List.replicate (xs.map QH).length ir)->R (some ⟨Y.p,0,none⟩) 0 σ') :
 KB.c s dD U R:=by
 refine KB.o ?_;unfold KB.v;refine yQ ha λv e=>?_;cases hv:QY xs
 ·exact cF rfl (h0 hv v e)
 refine cD rfl (bX.intro (cP (λw=>cF rfl (h1 hv O v e)) λw=>cP (λA=>h1 hv O v e) λA=>?_));have j:=Qv ha e;have C:=(QU xs).1 hv;refine Uk j hv λdG b e1 d=>uh λg E e2 z=>nw (cs:=[.slice dG.a dG.len dG.cap,.int .i64 dD,.map (some b.size)]) λv3 D m B=>?_;have s1:=e1.1;have s0:=e.1;refine h2 hv O O v3 ⟨g.size,b.size,dG,[]⟩ (((e.trans e1).trans e2).trans m) ⟨by rw[zj];omega,λc y=>?_,by simp,by simp,?_⟩
 ·obtain⟨i,hi⟩:=zP y;exact(HZ j hv hi).2
 ·refine⟨λq=>if q=g.size then .hd else if q=b.size then .mp else .dG,λi=>?_⟩
  cases i with
  | hd=>
   refine⟨⟨by show U.size<=g.size;omega,by simp⟩,?_⟩;have:((dD.toNat:Nat):Int)=dD:=by omega
   simp only[B7,this];exact B
  | mp=>
   refine⟨⟨by show U.size<=b.size;omega,?_⟩,m.fW (z .i64 .p) id⟩;show(if b.size=g.size then tI.hd else if b.size=b.size then tI.mp else tI.dG)=.mp
   rw[zB O,zC rfl]
  | dG=>
   have u:=aH.bP (aH.bP (aH.mono d (G:=λq=>v.size<=q/\q<b.size) λq r x=>⟨x,r⟩) e2) m;refine aH.mono u λq _ r=>⟨O,?_⟩;show(if q=g.size then tI.hd else if q=b.size then tI.mp else tI.dG)=.dG
   rw[zB O,zB O]
  | li k=>
   simp only[CC,oV,iW,List.find?_nil,Option.map_none];cases hk:(List.replicate (xs.map QH).length ir)[k]? with
   | none=>trivial
   | some l=>simp only[m6]at hk;split at hk<;>simp_all
def kJ (f:Nat->Nat)(l:List (Int×Option Addr)):Nat:=(l.map λx=>f x.1.toNat).sum
theorem IL (f:Nat->Nat):∀{l:List (Int×Option Addr)} {n:Int} {x:Option Addr},(l.map (·.1)).Nodup->(n,x)∈l->kJ f l=f n.toNat+kJ f (l.filter λy=>!(y.1==n))
 | [],_,_,_,h=>by simp at h
 | y::l,n,x,hn,h=>by
  simp only[zR,zr]at hn;rcases zW.1 h with h1|h1
  ·subst h1;have:l.filter (λy=>!(y.1==n))=l:=by
    rw[qv];intro z hz;have:z.1≠n:=λe=>hn.1 (zE.2 ⟨z,hz,e⟩);simpa using this
   rw[wu aA,this];simp[kJ]
  ·have a:y.1≠n:=λe=>hn.1 (zE.2 ⟨_,h1,e.symm⟩);rw[vp (by simpa using a)];have:=IL f hn.2 h1;simp only[kJ,zR,oB]at *;omega
theorem Sd (n a v:Nat):((List.range n).map λj=>if j=a then v else 0).sum=if a<n then v else 0:=by
 induction n with
 | zero=>simp
 | succ n ih=>
  rw[qO,zm,List.sum_append,ih];by_cases h:a=n
  ·subst h;simp
  ·by_cases h2:a<n
   ·rw[zC h2,zC O];simp[Ne.symm h]
   ·rw[zB h2,zB O];simp[Ne.symm h]
theorem Ι (l:List Nat)(f g:Nat->Nat):(l.map λj=>f j+g j).sum=(l.map f).sum+(l.map g).sum:=by
 induction l with
 | nil=>rfl
 | cons x l ih=>simp only[zR,oB,ih];omega
theorem Lo (f:Nat->Nat)(n:Nat):∀(ps:List (Nat×Nat)),(ps.map (·.1)).Nodup->(∀x∈ps,x.1<n)->(ps.map λx=>f x.1).sum=((List.range n).map λj=>if j∈ps.map (·.1)then f j else 0).sum
 | [],_,_=>by
  have:((List.range n).map λj=>if j∈([]:List (Nat×Nat)).map (·.1)then f j else 0)=(List.range n).map λ_=>0:=by simp
  rw[this]
  induction n with
  | zero=>rfl
  | succ n a=>rw[qO,zm,List.sum_append];simp at *;exact a
 | x::ps,hn,hl=>by
  simp only[zR,zr]at hn;have a:=Lo f n ps hn.2 λy b=>hl y (by simp[b]);rw[zR,oB,a];have e:((List.range n).map λj=>if j∈(x::ps).map (·.1)then f j else 0)=(List.range n).map λj=>(if j=x.1 then f x.1 else 0)+(if j∈ps.map (·.1)then f j else 0):=by
   apply kB;intro j _;by_cases hj:j=x.1
   ·subst hj;rw[zC aA,zC rfl,zB hn.1];rfl
   ·rw[zB hj,zH];by_cases hm:j∈ps.map (·.1)
    ·rw[zC hm,zC (by simp only[zR,zW];exact .inr hm)]
    ·rw[zB hm,zB (by simp only[zR,zW,not_or];exact⟨hj,hm⟩)]
  rw[e,Ι,Sd,zC (hl x aA)]
def qx (tb:List cA)(ls:List Li)(k:Nat):Nat:=match tb[k]?,ls[k]? with
 | some c,some l=>c.size*l.os.length
 | _,_=>0
theorem JT:∀(tb:List cA) (ls:List Li),ls.length=tb.length->KC tb ls=((List.range tb.length).map (qx tb ls)).sum
 | [],[],_=>rfl
 | c::tb,l::ls,h=>by
  have ih:=JT tb ls (by simpa using h);simp only[KC]at ih;simp only[KC,List.zip_cons_cons,zR,oB,zS,ih,List.range_succ_eq_map,lK];rfl
 | [],_::_,h=>by simp at h
 | _::_,[],h=>by simp at h
theorem eL.nil (h:eL U F Y tb bud ls)(hf:iW Y.ps k=none)(hl:ls[k]?=some l):l=ir:=by
 obtain⟨G,_,hi⟩:=h.sep.get (.li k);simp only[CC,oV,hf,hl]at hi;exact hi
theorem eL.wE (h:eL U F Y tb bud ls):(Y.ps.map (·.1)).Nodup:=by
 have:=h.map.nodup;have e:(kh Y.ps).map (·.1)=(Y.ps.map (·.1)).map λ(n:Nat)=>(n:Int):=by simp[kh]
 rw[e]at this;exact List.Pairwise.of_map (λ(n:Nat)=>(n:Int)) (λa b d e=>d (by rw[e])) this
theorem eL.bytes (h:eL U F Y tb bud ls):kJ (qx tb ls) (kh Y.ps)=KC tb ls:=by
 have e1:kJ (qx tb ls) (kh Y.ps)=(Y.ps.map λx=>qx tb ls x.1).sum:=by simp[kJ,kh,Function.comp_def]
 rw[e1,Lo _ tb.length _ h.wE h.keys,JT _ _ h.len]
 congr 1
 apply kB;intro j hj;have a:=zg.1 hj;by_cases hm:j∈Y.ps.map (·.1)
 ·rw[zC hm]
 ·rw[zB hm];have g:iW Y.ps j=none:=by
   unfold iW;simp only[sj,ox,zU];exact λx d e=>hm (zE.2 ⟨x,d,e⟩)
  have b:ls[j]?=some (ls[j]'(by rw[h.len];exact a)):=cW _;have:=h.nil g b;unfold qx;rw[cW a,b,this];rfl
theorem Le:∀(tb:List cA) (ls:List Li),(∀c∈tb,c.ok)->(∀l∈ls,fP l)->KC tb ls<=tb.length*131072
 | [],_,_,_=>by simp[KC]
 | _::_,[],_,_=>by simp[KC]
 | c::tb,l::ls,h1,h2=>by
  have ih:=Le tb ls (λc a=>h1 c (by simp[a])) (λl d=>h2 l (by simp[d]));simp only[KC]at ih;simp only[KC,List.zip_cons_cons,zR,oB,zS];have a:=h1 c aA;unfold cA.ok at a;have b:=(h2 l aA).many;have g:c.size*l.os.length<=512*256:=mr O b;omega
theorem Sq (h:eL U F Y tb bud ls)(hok:∀l∈ls,fP l):KC tb ls<=5242880:=by
 have a:=Le tb ls h.ok hok;have b:=h.nG;omega
theorem eL.Sz (h:eL U F Y tb bud ls):∀l∈ls,fP l:=by
 intro l hl;obtain⟨k,a⟩:=zP hl;cases hf:iW Y.ps k with
 | none=>rw[h.nil hf a];exact fP.nil
 | some b=>
  obtain⟨G,_,d,_⟩:=h.ye hf a;exact d.2.1
theorem En (h:eL U F Y tb bud ls){R:aN}(hR:∀σ',aF U σ'->R ((KC tb ls:Nat):Int) σ'):X6.c (aW Y.p) U R:=by
 refine X6.o ?_;unfold X6.v;have hle:=Sq h h.Sz;have hT:=h.bytes;refine HP h (cD rfl (bL (h.hd.rM rfl ?_)));refine wU (a:=bO) h.map (λg (z:Int) v=>∃n:Nat,z=(n:Int)/\n+kJ (qx tb ls) g=KC tb ls/\(∀e∈g,e∈kh Y.ps)/\(g.map (·.1)).Nodup/\aF U v) ?_ ?_ ?_
 ·intro v hz e;exact⟨0,rfl,by rw[hT];omega,λe he=>he,h.map.nodup,e⟩
 ·rintro z v ⟨n,rfl,H,_,_,e⟩;simp only[kJ,pq,List.sum_nil,ko]at H;rw[H];exact hR v e
 ·rintro g n x z v v' J ⟨m,rfl,H,r,A,e⟩ V ho hlt hJ;have Z:aF U v':=e.only ho (.inr (zD _));have K:=h.bP Z;have j:=r _ V;simp only[kh,zE,Prod.mk.injEq]at j;obtain⟨⟨k,b⟩,B,w,D⟩:=j;simp only at w D;subst w;subst D;have E:=h.keys _ B;simp only at E;have L:tb[k]?=some tb[k]:=cW E;have N:ls[k]?=some (ls[k]'(by rw[h.len];exact E)):=cW _;generalize tb[k]=c at L;generalize (ls[k]'(by rw[h.len];exact E))=l at N;have M:iW Y.ps k=some b:=Fz h.map.nodup B;obtain⟨G,hG,hL,_⟩:=K.ye M N;obtain⟨_,hok,s,Q,S,X⟩:=hL;have P:s.len=l.os.length:=by have:=S.1;simp[Wx]at this;omega
  have hb:qx tb ls k=c.size*l.os.length:=by unfold qx;rw[L,N]
  have u:=IL (qx tb ls) A V;simp only[dF]at u;refine bL (K.hd.rS rfl (uV K.jL L (d:=0) O ?_));simp only[zT];refine bL (Q.rS rfl ?_);have C:m+c.size*l.os.length+kJ (qx tb ls) (List.filter (λy=>!(y.1==(k:Int))) g)=KC tb ls:=by
   have W:=u;rw[hb]at W;rw[←H,W,yx]
  refine cT (m:=c.size*l.os.length) (by simp only[P];simp) O (cT (m:=m+c.size*l.os.length) O O (hJ _ v' rfl rfl ⟨_,rfl,C,λy hy=>r y (zL.1 hy).1,A.sublist (List.filter_sublist.map _),Z⟩))
theorem RG (h:eL U F Y tb bud ls){R:aO}(hR:∀σ',aF U σ'->R (decide (bud<KC tb ls)) σ'):Yx.c (aW Y.p) U R:=by
 refine Yx.o ?_;unfold Yx.v;have e:decide (((KC tb ls:Nat):Int)>(bud:Int))=decide (bud<KC tb ls):=by rw[decide_eq_decide];omega
 refine Jn.intro (HP h (cF rfl (bL ⟨En h λσ' a=>(a.bV h.hd id).rI rfl ?_,h.hd.rI rfl (En h λσ' a=>?_)⟩)))
 ·rw[e];exact hR σ' a
 ·rw[e];exact hR σ' a
def CX (f:cA->Li->List Int×Li)(fn:Nat):Prop:=∀{U:Hp} {G:Rg} {b:Nat} {l:Li} {c:cA},jd b l U G->c.ok->∀{R:Sl->Hp->Prop},
 (∀s z σ',Ext (· = b) U σ'->U.size<=z->bT s 1 (Wx (f c l).1) σ' (λq=>U.size<=q/\q<z)->jd b (f c l).2 σ' (λq=>q=b\/z<=q)->R s σ') →
 VO Tryz.prog ⟨fn,#[],#[]⟩ [.pointer (some ⟨b,0,none⟩),.int .i64 (c.batch:Int)] [.one .s] U R
theorem Wih:CX Qc 243:=by
 intro U G b l c h hc R hR;refine GH (all := #[.pointer (some ⟨b,0,none⟩),.int .i64 (c.batch:Int)]) (by kernel_rfl) aA ?_;refine YO.o ?_;unfold YO.v;have j:=h;obtain⟨_,m,s,d,g,i⟩:=h;have a:s.len=l.os.length:=by have:=g.1;simp[Wx]at this;omega
 refine bL (d.rS rfl ?_);simp only[a];exact Gq j (zD _) hR
theorem OB:CX Vz 241:=by
 intro U G b l c h hc R hR;refine GH (all := #[.pointer (some ⟨b,0,none⟩),.int .i64 (c.batch:Int)]) (by kernel_rfl) aA ?_;refine XJ.o ?_;unfold XJ.v;have M:=h;obtain⟨_,g,s,y,V,L⟩:=h;have o1:=g.low;have o2:=g.many;have o3:=g.lim;have w:=Ii hc g;unfold cA.ok at hc;refine bL (y.rI rfl (cT (m:=l.low+1) O O (nz aB (cT (m:=(l.low+1)/2) (by rw[YS O];omega) O ?_))));refine Gq M O λout z v e P Q r=>?_;have K:=r;obtain⟨_,S,s1,d,u,C⟩:=r;have A:s1.len=(gO ((l.low+1)/2) l).2.os.length:=by have:=u.1;simp[Wx]at this;omega
 refine Jn.intro ?_;have i:∀(p:Hp) (lim:Nat),Ext (· = b) v p->lim=(if l.lim>c.batch then max (l.lim-c.batch) c.batch else l.lim)->bY p b (np s1 {(gO ((l.low+1)/2) l).2 with lim:=lim}) →
  bW (some ⟨b,0,none⟩) λB=>jD (B.add 0) p λE=>bW (some ⟨b,0,none⟩) λF=>dQ (F.add 2) (.int .i64 ((E.len:Nat):Int)) p λv2=>R out v2:=by
  intro p lim e1 hlim a;refine bL (a.rS rfl (bL (a.s1 (by simp[np]) λv2 o2 x=>?_)));have e2:=e1.trans o2.ext;have N:=d.lt;refine hR out z v2 (e.trans e2) P (aI.bS Q e2 λq _ J H=>?_) ?_
  ·have:=y.lt;omega
  ·refine⟨.inl rfl,w,s1,?_,aH.bS u e2 λq _ J H=>J.2 H,C⟩;simp only[A]at x;subst hlim;exact x
 refine bL (d.rI rfl ?_);refine cP (λD=>?_) λD=>?_
 ·have j:l.lim>c.batch:=by simp only[gO]at D;omega
  refine bL (d.rI rfl (cT (m:=l.lim-c.batch) (by simp only[gO];omega) O (bL (d.s1 (by simp[np]) λp o1 a=>i p (max (l.lim-c.batch) c.batch) o1.ext (by rw[zC j]) ?_))));have:(if(c.batch:Int)>((l.lim-c.batch:Nat):Int)then(c.batch:Int)else((l.lim-c.batch:Nat):Int))=((max (l.lim-c.batch) c.batch:Nat):Int):=by split<;>omega
  rw[this]at a;exact a
 ·have j:¬l.lim>c.batch:=by simp only[gO]at D;omega
  exact i v l.lim (Ext.refl _ _) (by rw[zB j]) d
def oE (x:Nat×Sl):List Value:=[.int .i64 (x.1:Int),.slice x.2.a x.2.len x.2.cap]
def fM (l:List (Nat×Sl)):List Value:=l.flatMap oE
theorem Vq (l:List (Nat×Sl)):(fM l).length=l.length*2:=by
 induction l with
 | nil=>rfl
 | cons x l ih=>
  have e:fM (x::l)=oE x++fM l:=rfl;have e2:(oE x).length=2:=rfl;rw[e,zK,ih,e2,zS];omega
theorem Hs (a b:List (Nat×Sl)):fM (a++b)=fM a++fM b:=by simp[fM]
theorem HU {l:List (Nat×Sl)}:∀v∈fM l,dY v=true:=by
 intro v hv;obtain⟨p,_,a⟩:=List.mem_flatMap.1 hv;simp only[oE,zW,yV,or_false]at a;rcases a with rfl|rfl<;>rfl
theorem PT {l:List (Nat×Sl)}{i:Nat}{p:Nat×Sl}(h:l[i]?=some p){d:Nat}(hd:d<2):(fM l)[2*i+d]?=(oE p)[d]? := by
 induction l generalizing i with
 | nil=>simp at h
 | cons x l ih=>
  have e:fM (x::l)=oE x++fM l:=rfl;have e2:(oE x).length=2:=rfl;rw[e];cases i with
  | zero=>
   simp at h;subst h;rw[zd O];congr 1;omega
  | succ i=>
   rw[zp O,e2,show 2*(i+1)+d-2=2*i+d by omega];exact ih (by simpa using h)
def kO (ps:List (Nat×Sl))(bs:List Bt)(U:Hp)(D:Rg):Prop:=ps.length=bs.length/\∀(i:Nat) p x,ps[i]?=some p->bs[i]?=some x->p.1=x.1/\cV p.2 1 (Wx x.2) U D/\p.2.len<=p.2.cap
theorem kO.loc (ps:List (Nat×Sl))(bs:List Bt):dN (kO ps bs):=λU j F G h d g=>⟨h.1,λi p x a b=>⟨(h.2 i p x a b).1,cV.loc _ _ _ _ _ _ _ (h.2 i p x a b).2.1 d g,(h.2 i p x a b).2.2⟩⟩
def wa (ps:List (Nat×Sl)):Prop:=ps.Pairwise λp q=>∀a a',p.2.a=some a->q.2.a=some a'->a.block≠a'.block
theorem wa.snoc {ps:List (Nat×Sl)}{bs:List Bt}{U v:Hp}{D X:Rg}{s:Sl}{xs:List Int}(h:wa ps)(hB:kO ps bs U D)(hne:∀x∈bs,x.2≠[])(hs:cV s 1 (Wx xs) v X)(hx:xs≠[])(hd:∀b,b<U.size->D b->¬X b)(k:Nat):wa (ps++[(k,s)]):=by
 refine qP.2 ⟨h,List.pairwise_singleton _ _,λp w q r=>?_⟩;rw[zN]at r;subst r;intro a a' h1 h2 e;obtain⟨i,hi⟩:=zP w;have d:=(cY.1 hi).1;have g:bs[i]?=some (bs[i]'(by rw[←hB.1];exact d)):=cW _;generalize (bs[i]'(by rw[←hB.1];exact d))=y at g;obtain⟨_,j,_⟩:=hB.2 i p y hi g;have m:=j.bV (by simpa[Wx]using hne y (zG g)) ⟨a,h1,rfl⟩;have u:=hs.bV (by simpa[Wx]using hx) ⟨a',h2,rfl⟩;rw[e]at m;exact hd _ m.2 m.1 u.1
def iF (s:Sl)(bs:List Bt):Hp->Rg->Prop:=λU F=>∃(ps:List (Nat×Sl)) (D:Rg),dK s 2 (fM ps) U (λq=>F q/\¬D q)/\kO ps bs U D/\(∀q,D q->F q)/\wa ps/\∀x∈bs,x.2≠[]
theorem iF.loc (s:Sl)(bs:List Bt):dN (iF s bs):=λU u F G ⟨m,D,r,j,g,p⟩ i b=>
 ⟨m,λq=>D q/\q<U.size,dK.loc _ _ _ _ _ _ _ r i λq a d=>⟨⟨(b q a d.1).1,λhd=>d.2 hd.1⟩,(b q a d.1).2⟩,kO.loc _ _ _ _ _ _ j i λq a hd=>⟨⟨hd,a⟩,(b q a (g q hd)).2⟩,λq a=>(b q a.2 (g q a.1)).1,p⟩
theorem iF.nil (U:Hp)(F:Rg)(a:Option Addr):iF ⟨a,0,0⟩ [] U F:=⟨[],λ_=>False,dK.nil _ _ _ _,⟨rfl,λi p x h=>by simp at h⟩,λq h=>h.elim,List.Pairwise.nil,by simp⟩
theorem iF.len {s:Sl}{bs:List Bt}(h:iF s bs U F):s.len=bs.length:=by
 obtain⟨d,D,b,a,_⟩:=h;have:=b.1;rw[Vq]at this;have:=a.1;omega
theorem iF.cap {s:Sl}{bs:List Bt}(h:iF s bs U F):s.len<=s.cap:=by
 obtain⟨b,D,a,_⟩:=h;exact a.cap
def om:Prop:=∀{U:Hp} {F:Rg} {s:Sl} {xs:List (Nat×Sl)},bT s 2 (fM xs) U F->(∀x∈xs,x.1<64)->xs.length<=1000->∀{R:aP},
 (∀xs' σ',xs'.Perm xs->xs'.Pairwise (λa b=>a.1<=b.1)->Ext F U σ'->bT s 2 (fM xs') σ' F->R σ')->Qx.c s ⟨298,#[],#[]⟩ U R
theorem FN:∀{a b:List Nat},a.Pairwise (· < ·)->b.Pairwise (· < ·)->(∀x,x∈a↔x∈b)->a=b
 | [],[],_,_,_=>rfl
 | [],y::b,_,_,h=>by have:=(h y).2 aA;simp at this
 | x::a,[],_,_,h=>by have:=(h x).1 aA;simp at this
 | x::a,y::b,ha,hb,h=>by
  rw[sG]at ha hb;have e:x=y:=by
   rcases zW.1 ((h x).1 aA)with h1|h1
   ·exact h1
   ·rcases zW.1 ((h y).2 aA)with h2|h2
    ·exact h2.symm
    ·have:=ha.1 y h2;have:=hb.1 x h1;omega
  subst e
  congr 1
  refine FN ha.2 hb.2 λz=>?_;have d:=h z;simp only[zW]at d;constructor
  ·intro hza;have:=ha.1 z hza;rcases d.1 (.inr hza)with h1|h1
   ·omega
   ·exact h1
  ·intro hzb;have:=hb.1 z hzb;rcases d.2 (.inr hzb)with h1|h1
   ·omega
   ·exact h1
theorem HL {f:cA->Li->List Int×Li}{x:Bt}:x∈KN f tb ls↔∃c l,tb[x.1]?=some c/\ls[x.1]?=some l/\x.2=(f c l).1/\x.2≠[]:=by
 unfold KN;rw[xo];constructor
 ·rintro⟨k,hk,h⟩;split at h
  ·rename_i c l hc hl;split at h
   ·cases h
   ·rename_i hne;cases h;exact⟨c,l,hc,hl,rfl,hne⟩
  ·cases h
 ·rintro⟨c,l,hc,hl,e,hne⟩;refine⟨x.1,zg.2 (cY.1 hc).1,?_⟩;rw[hc,hl];simp only;rw[zB (by rw[←e];exact hne),←e]
theorem OU {f:cA->Li->List Int×Li}:((KN f tb ls).map (·.1)).Pairwise (· < ·):=by
 unfold KN;have key:∀(n:Nat),(((List.range n).filterMap λk=>match tb[k]?,ls[k]? with
  | some c,some l=>if(f c l).1=[]then none else some ((k,(f c l).1):Bt)
  | _,_=>none).map (·.1)).Pairwise (· < ·)/\∀x∈((List.range n).filterMap λk=>match tb[k]?,ls[k]? with
  | some c,some l=>if(f c l).1=[]then none else some ((k,(f c l).1):Bt)
  | _,_=>none),x.1<n:=by
  intro n
  induction n with
  | zero=>simp
  | succ n ih=>
   rw[qO,xN,zm];refine⟨qP.2 ⟨ih.1,?_,?_⟩,?_⟩
   ·simp only[DQ,List.filterMap_nil];split<;>simp
   ·intro a ha b hb;obtain⟨x,i,rfl⟩:=zE.1 ha;obtain⟨y,g,rfl⟩:=zE.1 hb;have p:=ih.2 x i;obtain⟨m,j,d⟩:=xo.1 g;clear g hb ha;simp only[zN]at j;subst j;split at d
    ·split at d
     ·cases d
     ·cases d;exact p
    ·cases d
   ·intro x i;rcases zM.1 i with i|i
    ·have:=ih.2 x i;omega
    ·obtain⟨m,j,g⟩:=xo.1 i;simp only[zN]at j;subst j;split at g
     ·split at g
      ·cases g
      ·cases g;omega
     ·cases g
 exact(key tb.length).1
def m8 (todo:List (Int×Option Addr))(k:Nat):Prop:=((k:Nat):Int)∈todo.map (·.1)
instance (todo:List (Int×Option Addr)) (k:Nat):Decidable (m8 todo k):=by unfold m8;infer_instance
theorem Gi {todo:List (Int×Option Addr)}{m k:Nat}:m8 (todo.filter λy=>!(y.1==(m:Int))) k↔m8 todo k/\k≠m:=by
 unfold m8;simp only[zE,zL,mI,mP];constructor
 ·rintro⟨y,⟨h1,h2⟩,h3⟩;exact⟨⟨y,h1,h3⟩,λe=>h2 O⟩
 ·rintro⟨⟨y,h1,h3⟩,h2⟩;exact⟨y,⟨h1,λe=>h2 O⟩,h3⟩
structure Ba (f:cA->Li->List Int×Li) (tb:List cA) (ls:List Li) (todo:List (Int×Option Addr)) (ls':List Li) (outs:List Bt):Prop where
 l:∀k c l,tb[k]?=some c->ls[k]?=some l->ls'[k]?=some (if m8 todo k then l else(f c l).2)
 n:(outs.map (·.1)).Nodup
 o:∀x:Bt,x∈outs↔∃c l,tb[x.1]?=some c/\ls[x.1]?=some l/\¬m8 todo x.1/\x.2=(f c l).1/\x.2≠[]
theorem Ba.step {f:cA->Li->List Int×Li}{todo:List (Int×Option Addr)}{ls':List Li}{outs:List Bt}(h:Ba f tb ls todo ls' outs)(hc:tb[k]?=some c)(hl:ls[k]?=some l)(hk:m8 todo k) :
 Ba f tb ls (todo.filter λy=>!(y.1==(k:Int))) (ls'.set k (f c l).2) (if(f c l).1=[]then outs else outs++[(k,(f c l).1)]):=by
 have s:=h.l k c l hc hl;have z:=(cY.1 s).1;have r:∀x∈outs,x.1≠k:=λx g e=>by
  obtain⟨_,_,_,_,A,_⟩:=(h.o x).1 g;rw[e]at A;exact A hk
 refine⟨λj d m hd p=>?_,?_,λx=>?_⟩
 ·by_cases hj:j=k
  ·subst hj;rw[hc]at hd;cases hd;rw[hl]at p;cases p;rw[zO z,zB (by rw[Gi];exact λg=>g.2 rfl)]
  ·rw[zh (Ne.symm hj),h.l j d m hd p]
   congr 1
   by_cases hi:m8 todo j
   ·rw[zC hi,zC (Gi.2 ⟨hi,hj⟩)]
   ·rw[zB hi,zB λg=>hi (Gi.1 g).1]
 ·split
  ·exact h.n
  ·rw[zm,nk];refine⟨h.n,by simp,λa C b B e=>?_⟩;simp only[zR,pq,zN]at B;subst B;obtain⟨x,g,e2⟩:=zE.1 C;exact r x g (e2.trans e)
 ·have u:(∃d m,tb[x.1]?=some d/\ls[x.1]?=some m/\¬m8 (todo.filter λy=>!(y.1==(k:Int))) x.1/\x.2=(f d m).1/\x.2≠[])↔x∈outs\/(x=(k,(f c l).1)/\(f c l).1≠[]):=by
   constructor
   ·rintro⟨d,m,hd,p,hi,e,i⟩;by_cases hj:x.1=k
    ·right;rw[hj]at hd p;rw[hc]at hd;cases hd;rw[hl]at p;cases p;exact⟨Prod.ext hj e,by rw[←e];exact i⟩
    ·left;exact(h.o x).2 ⟨d,m,hd,p,λg=>hi (Gi.2 ⟨g,hj⟩),e,i⟩
   ·rintro(g|⟨rfl,i⟩)
    ·obtain⟨d,m,hd,p,hi,e,i⟩:=(h.o x).1 g;exact⟨d,m,hd,p,λw=>hi (Gi.1 w).1,e,i⟩
    ·exact⟨c,l,hc,hl,λw=>(Gi.1 w).2 rfl,rfl,i⟩
  rw[u];split
  ·rename_i he;constructor
   ·exact .inl
   ·rintro(g|⟨_,i⟩)
    ·exact g
    ·exact absurd he i
  ·rename_i he;rw[zM,zN];constructor
   ·rintro(g|g)
    ·exact .inl g
    ·exact .inr ⟨g,he⟩
   ·rintro(g|g)
    ·exact .inl g
    ·exact .inr g.1
set_option maxRecDepth 4000 in
theorem E6 (hso:om){f:cA->Li->List Int×Li}{fn:Nat}(hf:CX f fn)(hnil:∀c,c.ok->f c ir=([],ir))(h:eL U F Y tb bud ls){R:Sl->Hp->Prop}
 (hR:∀σ' s (Q:Rg),Ext F U σ'->(∀q,Q q->U.size<=q)->eL σ' (λq=>Grow F U q/\¬Q q) Y tb bud (KI f tb ls)->iF s (KN f tb ls) σ' Q->R s σ') :
 Xy.c (aW Y.p) ⟨fn,#[],#[]⟩ U R:=by
 refine Xy.o ?_;unfold Xy.v;refine HP h (cD rfl (bL (h.hd.rM rfl ?_)));have htb:=h.nG;refine wU (a:=.s) h.map (λC (out:Sl) v=>∃(ls':List Li) (w:List Bt) (Q D:Rg) (ps:List (Nat×Sl)),Ext F U v/\(∀q,Q q->U.size<q)/\eL v (λq=>(Cut F U q\/U.size<q)/\¬Q q) Y tb bud ls' ∧
  bT out 2 (fM ps) v (λq=>Q q/\¬D q)/\kO ps w v D/\(∀q,D q->Q q)/\Ba f tb ls C ls' w/\(∀e∈C,e∈kh Y.ps)/\(C.map (·.1)).Nodup/\wa ps) ?_ ?_ ?_
 ·intro v hz e;refine⟨ls,[],λ_=>False,λ_=>False,[],aF.to e,λq g=>g.elim,((eL.loc.bP h.cut e).mono λq _ g=>⟨.inl g,id⟩),bT.nil _ _ _ _,⟨rfl,λi p x K=>by simp at K⟩,λq g=>g.elim,⟨λk c l E N=>?_,by simp,λx=>?_⟩,λe P=>P,h.map.nodup,List.Pairwise.nil⟩
  ·by_cases hi:m8 (kh Y.ps) k
   ·rw[zC hi,N]
   ·rw[zB hi];have hf0:iW Y.ps k=none:=by
     unfold iW;simp only[sj,ox,zU];exact λx r e=>hi (zE.2 ⟨((x.1:Int),some ⟨x.2,0,none⟩),zE.2 ⟨x,r,rfl⟩,by rw[e]⟩)
    have:=h.nil hf0 N;rw[N,this,hnil c (h.ok c (zG E))]
  ·simp only[yV,false_iff];rintro⟨c,l,E,N,hi,e,hne⟩;have hf0:iW Y.ps x.1=none:=by
    unfold iW;simp only[sj,ox,zU];exact λy X e=>hi (zE.2 ⟨((y.1:Int),some ⟨y.2,0,none⟩),zE.2 ⟨y,X,rfl⟩,by rw[e]⟩)
   have:=h.nil hf0 N;rw[this,hnil c (h.ok c (zG E))]at e;exact hne e
 ·rintro out v ⟨ls',w,Q,D,ps,e,hQ,hC,Z,hB,hD,hI,_,_,S⟩;have hno:∀k,¬m8 [] k:=λk hk=>by simp[m8]at hk
  have hls:ls'=KI f tb ls:=by
   apply zt;intro k;by_cases hk:k<tb.length
   ·have E:tb[k]?=some tb[k]:=cW hk;have N:ls[k]?=some (ls[k]'(by rw[h.len];exact hk)):=cW _;rw[hI.l k _ _ E N,zB (hno k)];simp[KI,BR,E,N]
   ·rw[zX (by rw[hC.len];omega),zX (by simp[KI,h.len];omega)]
  subst hls;have hk1:∀(i:Nat) p,ps[i]?=some p->∃x,w[i]?=some x/\p.1=x.1/\cV p.2 1 (Wx x.2) v D/\p.2.len<=p.2.cap:=λi p K=>by
   have hi:=(cY.1 K).1;have r:w[i]?=some (w[i]'(by rw[←hB.1];exact hi)):=cW _;exact⟨_,r,hB.2 i p _ K r⟩
  have B:ps.map (·.1)=w.map (·.1):=by
   apply zt;intro i;simp only[zZ];cases K:ps[i]? with
   | none=>
    have:w[i]?=none:=by
     rw[List.getElem?_eq_none_iff]at K ⊢;rw[←hB.1];exact K
    rw[this];rfl
   | some p=>
    obtain⟨x,r,e1,_⟩:=hk1 i p K;rw[r];simp[e1]
  have W:∀x∈w,x.1<40:=λx r=>by
   obtain⟨c,l,E,_⟩:=(hI.o x).1 r;have:=(cY.1 E).1;omega
  have hlen:ps.length<=40:=by
   have hn:=hI.n;rw[←B]at hn;have:=hn.length_le_of_subset (l₂:=List.range 40) λj S=>by
    rw[B]at S;obtain⟨x,r,rfl⟩:=zE.1 S;exact zg.2 (W x r)
   simpa using this
  refine hso Z (λp K=>?_) O λps' v' L hsort e' hrow'=>?_
  ·have:p.1∈w.map (·.1):=by rw[←B];exact zE.2 ⟨p,K,rfl⟩
   obtain⟨x,r,e1⟩:=zE.1 this;have:=W x r;omega
  ·have hnd:(ps'.map (·.1)).Nodup:=(L.map _).nodup_iff.2 (by rw[B];exact hI.n);have hinc:(ps'.map (·.1)).Pairwise (· < ·):=by
    refine List.Pairwise.map (R:=λa b:Nat×Sl=>a.1<b.1) _ (λa b ab=>ab) ?_;have A:ps'.Pairwise λa b=>a.1≠b.1:=sR.1 hnd;exact(hsort.and A).imp λ{a b} ab=>by have:=ab.1;have:=ab.2;omega
   have hkk:ps'.map (·.1)=(KN f tb ls).map (·.1):=by
    refine FN hinc OU λj=>?_;rw[(L.map _).mem_iff,B];constructor
    ·intro S;obtain⟨x,r,rfl⟩:=zE.1 S;obtain⟨c,l,E,N,_,e1,e2⟩:=(hI.o x).1 r;exact zE.2 ⟨x,HL.2 ⟨c,l,E,N,e1,e2⟩,rfl⟩
    ·intro S;obtain⟨x,r,rfl⟩:=zE.1 S;obtain⟨c,l,E,N,e1,e2⟩:=HL.1 r;exact zE.2 ⟨x,(hI.o x).2 ⟨c,l,E,N,hno _,e1,e2⟩,rfl⟩
   have eQ:Ext F U v':=e.dX e' λq g=>.inr (sF (hQ q g.1));refine hR v' out Q eQ (λq g=>sF (hQ q g)) ?_ ⟨ps',D,hrow'.o,⟨?_,λi p x K r=>?_⟩,hD,(L.pairwise_iff λ{a b} ab x y A h2 e=>ab y x h2 A e.symm).2 S,λx r=>by
    obtain⟨_,_,_,_,_,h2⟩:=HL.1 r;exact h2⟩
   ·refine(eL.loc.bS hC e' λq _ g hq2=>g.2 hq2.1).mono λq _ g=>⟨?_,g.2⟩;rcases g.1 with r|r
    ·exact .inl r.1
    ·exact .inr (sF r)
   ·have:=congrArg List.length hkk;simpa using this
   ·have e1:p.1=x.1:=by
     have:=congrArg (λl=>l[i]?) hkk;simp only[zZ,K,r,ze,Option.some.injEq]at this;exact this
    obtain⟨j,S⟩:=zP (L.mem_iff.1 (zG K));obtain⟨y,X,e2,hs,hcap⟩:=hk1 j p S;have e3:x.2=y.2:=by
     obtain⟨c,l,E,N,_,A,_⟩:=(hI.o y).1 (zG X);obtain⟨c',l',hc',hl',h2,_⟩:=HL.1 (zG r);rw[←e1,e2,E]at hc';cases hc';rw[←e1,e2,N]at hl';cases hl';rw[A,h2]
    rw[e3];exact⟨e1,aH.bS hs e' λq _ g hq2=>hq2.2 g,hcap⟩
 ·rintro C n x out v v' J ⟨ls',w,Q,D,ps,e,hQ,hC,Z,hB,hD,hI,hsub,hnd,S⟩ r ho hlt hJ;have e1:Ext F U v':=e.only ho (.inr (zD _));have V:eL v' (λq=>(Cut F U q\/U.size<q)/\¬Q q) Y tb bud ls':=eL.loc.bS hC ho.ext λq _ g P=>by
   rcases g.1 with A|A
   ·have:=A.2;omega
   ·omega
  have hrow1:bT out 2 (fM ps) v' (λq=>(Q q/\¬D q)/\q<v'.size):=aI.cut (aI.bS Z ho.ext λq _ g P=>by have:=hQ q g.1;omega);have hB1:kO ps w v' (λq=>D q/\q<v'.size):=(kO.loc _ _).cut ((kO.loc _ _).bS hB ho.ext λq _ g P=>by have:=hQ q (hD q g);omega);have hmem:=hsub _ r;simp only[kh,zE,Prod.mk.injEq]at hmem;obtain⟨⟨k,b⟩,hkb,hk1,hx1⟩:=hmem;simp only at hk1 hx1;subst hk1;subst hx1;have hk:=h.keys _ hkb;simp only at hk;have E:tb[k]?=some tb[k]:=cW hk;have N:ls[k]?=some (ls[k]'(by rw[h.len];exact hk)):=cW _;generalize tb[k]=c at E;generalize (ls[k]'(by rw[h.len];exact hk))=l at N;have hcok:=h.ok c (zG E);have hlk:iW Y.ps k=some b:=Fz h.map.nodup hkb;have hin:m8 C k:=zE.2 ⟨_,r,rfl⟩;have hl':ls'[k]?=some l:=by rw[hI.l k c l E N,zC hin]
  have M:=hI.step E N hin;have hmF:(λq=>(Cut F U q\/U.size<q)/\¬Q q) Y.m:=by
   obtain⟨H,hH,hm⟩:=V.sep.get .mp;exact hH _ hm.1
  obtain⟨G,hG,hL,hGm,hput⟩:=V.ye hlk hl';have aa:=hG b hL.1;have hbm:b≠Y.m:=λe=>hGm (e▸hL.1);have hbs:b≠U.size:=λe=>by
   subst e;rcases aa.1 with A|A
   ·have:=A.2;omega
   ·omega
  have hblt:b<v'.size:=by obtain⟨_,_,s,hbk,_⟩:=hL;exact hbk.lt
  have hsz1:=ho.1;refine bL (V.hd.rS rfl (uV V.jL E (d:=2) O ?_));simp only[zB (show ¬(2=0) by omega),zB (show ¬(2=1) by omega)];refine hf hL hcok λs z v5 e5 hz hr hL5=>?_;have hs5:=e5.1;obtain⟨eF,h5⟩:=hput v5 _ (λq=>q=b\/z<=q) (e5.sub λq g=>by rw[g];exact hL.1) (λq g=>g.imp (λ(r:q=b)=>by rw[r];exact hL.1) λ(r:z<=q)=>O) hL5;have h5:=h5.cut;have eF5:Ext F U v5:=e1.dX eF λq g=>by
   rcases g.1 with A|A
   ·exact .inl A.1
   ·exact .inr (sF A)
  have hnb:∀q,Q q->q≠b:=λq g hqb=>aa.2 (hqb▸g);have hrow5:=aI.bS hrow1 e5 λq _ g P=>hnb q g.1.1 P;have hB5:=(kO.loc _ _).bS hB1 e5 λq _ g P=>hnb q (hD q g.1) P;have hsl:s.len=(f c l).1.length:=by have:=hr.1;simp[Wx]at this;omega
  have hsub':∀y∈C.filter (λy=>!(y.1==(k:Int))),y∈kh Y.ps:=λy X=>hsub y (zL.1 X).1;have hnd':((C.filter λy=>!(y.1==(k:Int))).map (·.1)).Nodup:=hnd.sublist (List.filter_sublist.map _);by_cases hemp:(f c l).1=[]
  ·rw[zC hemp]at M;refine fZ (by rw[hsl,hemp];simp) (hJ out v5 (e5.2 _ O λP=>hbs P.symm) (e5.2 _ V.map.lt λP=>hbm P.symm) ?_);refine⟨_,w,λq=>Q q/\q<v'.size,λq=>D q/\q<v'.size,ps,eF5,λq g=>hQ q g.1,h5.mono λq _ g=>?_,aI.mono hrow5 λq _ g=>⟨⟨g.1.1,g.2⟩,λhd=>g.1.2 hd.1⟩,hB5,λq g=>⟨hD q g.1,g.2⟩,M,hsub',hnd',S⟩;rcases g.1 with A|A|A
   ·exact⟨A.1.1,λr=>A.1.2 r.1⟩
   ·subst A;exact⟨aa.1,λr=>aa.2 r.1⟩
   ·exact⟨.inr O,λr=>O⟩
  ·rw[zB hemp]at M;have hpos:=pT.2 hemp;refine l0 (by rw[hsl];omega) (nw (cs:=oE (k,s)) λv6 hz6 e6 hb6=>?_);have hrow6:=aI.bP hrow5 e6;have hB6:=(kO.loc _ _).bP hB5 e6;have hr6:=aI.bP (aI.cut hr) e6;have hpl:out.len=ps.length:=by have:=Z.1;rw[Vq]at this;omega
   have hol:ps.length<=40:=by
    have B:w.map (·.1)⊆List.range 40:=λj S=>by
     obtain⟨x,r,rfl⟩:=zE.1 S;obtain⟨c,l,E,_⟩:=(hI.o x).1 r;have:=(cY.1 E).1;exact zg.2 O
    have:=hI.n.length_le_of_subset B;rw[hB.1];simpa using this
   refine hrow6.app (ys:=oE (k,s)) rfl rfl ?_ (λv hv=>HU (l:=[(k,s)]) v (by simpa[fM]using hv)) ?_ ?_ nh λs' v7 hl7 e7 hr7=>?_
   ·intro j u hu;rw[add_lit,zH,hb6.cell];exact hu
   ·simp only;have:(out.len+1)*32<=41*32:=mr O O;omega
   ·simp only;omega
   have hs7:=e7.1;have e57:Ext (λq=>(Q q/\¬D q)/\q<v'.size) v5 v7:=(aF.to e6).trans e7;refine hJ s' v7 ?_ ?_ ?_
   ·rw[e57.2 _ O λr=>by have:=hQ _ r.1.1;omega];exact e5.2 _ O λP=>hbs P.symm
   ·rw[e57.2 _ (by have:=V.map.lt;omega) λr=>hmF.2 r.1.1];exact e5.2 _ V.map.lt λP=>hbm P.symm
   refine⟨_,_,λq=>Q q/\q<v'.size\/(v'.size<=q/\q<z)\/v5.size<=q,λq=>D q/\q<v'.size\/(v'.size<=q/\q<z)/\q<v5.size,ps++[(k,s)],eF5.dX e57 λq g=>.inr (sF (hQ q g.1.1)),λq g=>?_,(eL.loc.bS h5 e57 λq hq5 g r=>?_).mono λq _ g=>?_,?_,⟨?_,λi p y K X=>?_⟩,λq g=>?_,M,hsub',hnd',S.snoc hB1 (λx r=>by
    obtain⟨_,_,_,_,_,_,h2⟩:=(hI.o x).1 r;exact h2) hr.fX hemp (λb hb r X=>by have:=r.2;have:=X.1;omega) k⟩
   ·rcases g with g|g|g
    ·exact hQ q g.1
    ·omega
    ·omega
   ·rcases g.1 with A|A|A
    ·exact A.1.2 r.1.1
    ·exact hnb q r.1.1 A
    ·have:=r.2;omega
   ·have hq5:=g.2;rcases g.1 with A|A|A
    ·exact⟨A.1.1,λr=>by
      rcases r with r|r|r
      ·exact A.1.2 r.1
      ·have:=A.2.1;omega
      ·omega⟩
    ·subst A;exact⟨aa.1,λr=>by
      rcases r with r|r|r
      ·exact aa.2 r.1
      ·omega
      ·omega⟩
    ·exact⟨.inr O,λr=>by
      rcases r with r|r|r<;>omega⟩
   ·rw[Hs];have:fM [(k,s)]=oE (k,s):=by simp[fM]
    rw[this];refine aI.mono hr7 λq _ g=>?_;rcases g with g|g
    ·exact⟨.inl ⟨g.1.1,g.2⟩,λhd=>by
      rcases hd with hd|hd
      ·exact g.1.2 hd.1
      ·omega⟩
    ·exact⟨.inr (.inr O),λhd=>by
      rcases hd with hd|hd<;>omega⟩
   ·rw[zK,zK,hB.1];rfl
   ·rcases kr i ps.length with hi|hi
    ·rw[zd hi]at K;rw[zd (by rw[←hB.1];exact hi)]at X;obtain⟨a1,a2,a3⟩:=hB6.2 i p y K X;exact⟨a1,aH.mono (aH.bS a2 e7 λq _ g r=>r.1.2 g.1) λq _ g=>.inl g,a3⟩
    ·rw[zp hi]at K;rw[zp (by rw[←hB.1];exact hi)]at X;have hi0:i-ps.length=0:=by
      have:=(cY.1 K).1;simp at this;omega
     rw[hi0]at K;rw[show i-w.length=0 by rw[←hB.1];exact hi0]at X;simp at K X;subst K;subst X;exact⟨rfl,aH.mono (aH.bS hr6.fX e7 λq _ g r=>by have:=r.2;have:=g.1;omega) λq _ g=>.inr g,bT.pj hr⟩
   ·rcases g with g|g
    ·exact .inl ⟨hD q g.1,g.2⟩
    ·exact .inr (.inl g.1)
theorem Wll (hso:om)(h:eL U F Y tb bud ls){R:Sl->Hp->Prop}
 (hR:∀σ' s (Q:Rg),Ext F U σ'->(∀q,Q q->U.size<=q)->eL σ' (λq=>Grow F U q/\¬Q q) Y tb bud (KI Qc tb ls)->iF s (KN Qc tb ls) σ' Q->R s σ'):X7.c (aW Y.p) U R:=by
 refine X7.o ?_;unfold X7.v;exact E6 hso Wih (λc _=>N9 c) h hR
theorem L8 (hso:om)(h:eL U F Y tb bud ls){R:Sl->Hp->Prop}
 (hR:∀σ' s (Q:Rg),Ext F U σ'->(∀q,Q q->U.size<=q)->eL σ' (λq=>Grow F U q/\¬Q q) Y tb bud (KI Vz tb ls)->iF s (KN Vz tb ls) σ' Q->R s σ'):Xn.c (aW Y.p) U R:=by
 refine Xn.o ?_;unfold Xn.v;exact E6 hso OB T0 h hR
end Go.Ar