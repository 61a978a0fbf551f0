/- Texts joined. -/
import Derived.Lib.Overlaps
import Derived.Laws.Externs
import Derived.Test.YtehhfakcnbnipaaGreatDoorI2
set_option linter.unusedVariables false
set_option linter.unusedSimpArgs false
namespace Go.Ar
open Go Go.Vc Go.Proofs
open Go.Bu (Y3)
variable {U:Hp}{F:Rg}{p q:Nat}{st:List Nat}
theorem Ht {s:Sl}{vs:List Value}(h:SlR s 1 vs U F)(h1:∀v∈vs,one1 v=true)(hl:s.len<=1000000){R:Sl->Hp->Prop}
 (hR:∀s' σ',s'.len=s.len->Ext0 U σ'->RowR s' 1 vs σ' (λb=>U.size<=b)->R s' σ'):WE.c s U R:=by
 refine WE.o ?_;unfold WE.v;exact GT h (by decide) rfl h1 (by decide) hl hR
theorem HE (n:Nat)(P:Nat->Bool):(List.range (n+1)).filter P=(List.range n).filter P++(if P n then[n]else[]):=by
 rw[zr,zFA]
 congr 1
 cases h:P n<;>simp[h]
theorem Wjw (h:TrH U p q st)(k:Nat){R:Sl->Hp->Prop}(hR:∀s σ',Ext0 U σ'->RowR s 1 (ints (Kc st k)) σ' (λb=>U.size<=b)->R s σ'):XY.c (some ⟨p,0,none⟩) (k:Int) U R:=by
 refine XY.o ?_;unfold XY.v;have n2:=h.n2;refine U6 h (ifF rfl (Wgz h ?_));refine VO (a:=.s) (bb:=.i .i64) (λ(out:Sl) (t:Int) h'=>∃i:Nat,t=(i:Int)/\i<=st.length/16/\Ext0 U h'/\RowR out 1 (ints ((List.range i).filter λh=>st.getD (16*h) 0 != 0&&KG st h==k)) h' (λb=>U.size<=b))
  (λ_ t _=>st.length/16-t.toNat) ⟨0,rfl,by omega,Ext.refl _ _,RowR.nil _ _ _ _⟩ ?_
 rintro out t h' ⟨i,rfl,hi,e,hrow⟩;have hT:=h.keep0 e;refine ifD (λhlt=>?_) λhge=>?_
 ·have hx:16*i+16<=st.length:=by omega
  refine Wgh hT hx λc=>hT.first (c:=c) hx (JnB.intro ?_);have hlen:=hrow.lenN;have hle:((List.range i).filter λh=>st.getD (16*h) 0 != 0&&KG st h==k).length<=i:=zN (zAZ _ _) (by simp);have next:∀(r:Bool),r=(st.getD (16*i) 0 != 0&&KG st i==k)->If r
   (Nw (.cells #[.int .i64 (i:Int)] 3 (0,0)) h' λn31 v5=>App out 1 8 3 [.int .i64 0] ⟨some n31,1,1⟩ v5 λout1 v6=>Ar .i64 ((i:Int)+1) λt33=>
    (∃j:Nat,t33=(j:Int)/\j<=st.length/16/\Ext0 U v6/\RowR out1 1 (ints ((List.range j).filter λh=>st.getD (16*h) 0 != 0&&KG st h==k)) v6 (λb=>U.size<=b))/\st.length/16-t33.toNat<st.length/16-(i:Int).toNat)
   (Ar .i64 ((i:Int)+1) λt33=>(∃j:Nat,t33=(j:Int)/\j<=st.length/16/\Ext0 U h'/\RowR out 1 (ints ((List.range j).filter λh=>st.getD (16*h) 0 != 0&&KG st h==k)) h' (λb=>U.size<=b))/\st.length/16-t33.toNat<st.length/16-(i:Int).toNat):=by
   intro r hr;have hf:=HE i λh=>st.getD (16*h) 0 != 0&&KG st h==k;rw[←hr]at hf;cases r
   ·refine ifF rfl (arN (m:=i+1) (by omega) (by omega) ⟨⟨i+1,rfl,by omega,e,?_⟩,by omega⟩);rw[hf];simpa using hrow
   ·refine ifT rfl (hrow.push (vs:=[.int .i64 (i:Int)]) (λb hb=>zN e.1 hb) rfl rfl (by simp[one1]) (by omega) (by omega) λs' v6 hl' e' ho'=>?_);refine arN (m:=i+1) (by omega) (by omega) ⟨⟨i+1,rfl,by omega,Ext.fresh e e' λ_ h=>h,?_⟩,by omega⟩;rw[hf,KU];exact ho'
  rw[Wmp];cases e1:(st.getD (16*i) 0 != 0)
  ·exact ifF rfl (next false (by rw[e1];rfl))
  ·refine ifT rfl (WdL hT hx ?_);rw[beqN];exact next _ (by rw[e1];rfl)
 ·have:i=st.length/16:=by omega
  subst this;exact hR _ _ e hrow
theorem Wkr (h:TrH U p q st){R:Sl->Hp->Prop}(hR:∀s σ',Ext0 U σ'->RowR s 1 (ints (Kc st 0)) σ' (λb=>U.size<=b)->R s σ'):Ys.c (some ⟨p,0,none⟩) U R:=by
 refine Ys.o ?_;unfold Ys.v;exact Wjw h 0 hR
theorem WmC {n:Nat}(h1:16<=n)(h2:n<=1024)(h3:n%16=0){R:Option Addr->Int->Hp->Prop}(hR:∀σ' p q,Ext0 U σ'->U.size<=p->U.size<=q->TrH σ' p q (List.replicate n 0)->R (some ⟨p,0,none⟩) 0 σ'):Kv.c (n:Int) U R:=by
 refine Kv.o ?_;unfold Kv.v;refine JnB.intro (ifDF (by omega) (JnB.intro (ifDF (by omega) (nz (by decide) ?_))));rw[QF (by omega)];have:(((n:Int)%16) != 0)=false:=by
  have:((n:Int)%16)=0:=by omega
  rw[this];rfl
 rw[this];refine ifF rfl (mk (by omega) (by omega) λv hz e hb=>nw (cs:=[.slice (some ⟨U.size,0,none⟩) n n]) λv2 hz2 e2 hb2=>?_);have hf:(List.replicate n [Value.int .i64 0]).flatten=ints (List.replicate n 0):=by
  have:[Value.int .i64 0]=ints [0]:=rfl;rw[this];clear hb hR
  induction n with
  | zero=>rfl
  | succ n ih=>simp[zEH,ints]
 rw[hf]at hb;refine hR _ _ _ (e.trans e2) (by omega) (zC _) ⟨⟨n,by simp,by simpa using hb2⟩,⟨[],by simpa using e2.blk hb id⟩,by omega,by simpa using h1,by simpa using h2,by simpa using h3⟩
end Go.Ar
namespace Go.Proofs
open Go.Vc
set_option maxRecDepth 100000
def ZD.h:Hn:=.q .o1 (.q (.q .o3 (.c (.q .o2 .l) .l)) (.q (.reg (.tail 10 (RI.ops 10) [.op])) .l))
def ZD.v (a:R2)(b:Hp)(c:Int->Int->Hp->Prop):Prop:=Nw (.cells #[.I 0,.I 0] 212 (0,0)) b λd e=>Ym.c a e λf g=>If (!f) (St1 (d.add 0) (.I 0) g λh=>St1 (d.add 1) (.I 0) h λi=>LdI .i64 (d.add 0) i λj=>LdI .i64 (d.add 1) i λk=>c j k i) (NilP a λl=>LdI .i64 (l.add 0) g λm=>NilP a λn=>LdI .i64 ((n.add 1).add 1) g λo=>St1 (d.add 0) (.I m) g λp=>St1 (d.add 1) (.I o) p λq=>LdI .i64 (d.add 0) q λr=>LdI .i64 (d.add 1) q λs=>c r s q)
theorem ZD.o {a b c}(d:ZD.v a b c):ZD.c a b c:=Wa Tryz.func181 (x:=ZD.h) (R0 d)
def Ym.h:Hn:=.q .o1 (.q (.reg (.seq [.op,.op,.op,.grd true 6 (RI.ops 6),.op])) .l)
def Ym.v (a:R2)(b:Hp)(c:Bool->Hp->Prop):Prop:=JnB (λd e=>c d e) λf=>If (!a.isNone) (NilP a λg=>LdS (g.add 4) b λh=>f (decide (((h.len:Nat):Int)>0)) b) (f false b)
theorem Ym.o {a b c}(d:Ym.v a b c):Ym.c a b c:=Wa Tryz.func212 (x:=Ym.h) (R0 d)
def X4.h:Hn:=.q .o2 (.q (.q .o3 (.c (.q .o2 .l) .l)) (.q .o5 (.q (.q (.reg (.heldJ false [] [(32,.one .b)] (.take 0 (.take 1 (.all [(2,.take 3 (.take 4 (.split 18 (.take 5 (.take 6 (.take 7 (.take 8 (.take 9 (.take 10 (.take 11 (.take 12 (.take 13 (.take 14 (.take 15 (.take 16 (.take 17 (.take 18 (.done))))))))))))))) (.take 5 (.take 6 (.take 7 (.take 8 (.take 11 (.take 12 (.take 13 (.take 14 (.all [(9,.take 10 (.all [(15,.take 16 (.take 17 (.take 18 (.done))))])),(15,.all [(9,.take 10 (.take 16 (.take 17 (.take 18 (.done)))))])]))))))))))))]))))) (.c (.q .o2 .l) .l)) (.q .o9 .l))))
def X4.v (a:R2)(b:Int)(c:Hp)(d:Int->Int->Hp->Prop):Prop:=Ym.c a c λe f=>If (!e) (d 0 5 f) (Yu.c a 0 f λg h=>Ar .i64 (b-g) λi=>Jn [.b] (λ(j:Bool) k=>If j (d 0 8 k) (NilP a λl=>LdI .i64 ((l.add 1).add 0) k λm=>Nz m<|Ar .i64 (i.tdiv m) λn=>d n 0 k)) λo=>Yu.c a 0 h λp q=>If (b<p) (o true q) (NilP a λr=>NilP a λs=>(LdS (r.add 4) q λt=>LdI .i64 ((s.add 1).add 0) q λu=>Ar .i64 (((t.len:Nat):Int)*u) λv=>o (decide (i≥v)) q) ∧ (LdI .i64 ((s.add 1).add 0) q λw=>LdS (r.add 4) q λx=>Ar .i64 (((x.len:Nat):Int)*w) λy=>o (decide (i≥y)) q)))
theorem X4.o {a b c d}(e:X4.v a b c d):X4.c a b c d:=Wa Tryz.func216 (x:=X4.h) (R0 e)
def Kw.h:Hn:=.q .o3 (.q .o7 (.q (.q (.reg (.seq [.op,.op,.op,.grd false 2 [.op,.op],.op,.grd false 5 (RI.ops 5)])) (.c (.q .o2 .l) .l)) (.q (.reg (.held true [] (.take 0 (.take 1 (.take 2 (.all [(3,.take 4 (.all [(5,.take 6 (.take 7 (.done)))]))])))))) .l)))
def Kw.v (a b c d:Int)(e:Hp)(f:Option Addr->Int->Hp->Prop):Prop:=Nw (.cells #[.I b,.I c,.I d] 79 (0,0)) e λg h=>LdI .i64 (g.add 0) h λi=>LdI .i64 (g.add 1) h λj=>LdI .i64 (g.add 2) h λk=>Zt.c i j k h λl m n=>JnB (λo p=>JnB (λq r=>If q (f none 1 r) (Held r λs=>LdH s (.i .i64) (g.add 0) λ(t:Int)=>LdH s (.i .i64) (g.add 1) λ(u:Int)=>LdH s (.i .i64) (g.add 2) λ(v:Int)=>Mk l l 8 3 [.I 0] r λw x=>And (s x) <| Nw (.cells #[.I a,.I t,.I u,.I v,.slice w.a w.len w.cap,.I 0] 297 (0,0)) x λy z=>And (s z) <| f (some y) 0 z)) λaa=>If o (aa true p) (LdI .i64 (g.add 1) p λab=>Ar .i64 (1024-ab) λac=>aa (decide (a>ac)) p)) λad=>If (m != 0) (ad true n) (ad (decide (a<0)) n)
theorem Kw.o {a b c d e f}(g:Kw.v a b c d e f):Kw.c a b c d e f:=Wa Tryz.func224 (x:=Kw.h) (R0 g)
def Zr.h:Hn:=.q .o1 (.q .o8 (.q (.k (.q .o3 (.c (.q .o2 .l) (.q .o9 (.c (.q .o1 .l) .l))))) (.q .o4 (.q .o1 .l))))
def Zr.v (a:R2)(b:Int)(c:Hp)(d:Int->Hp->Prop):Prop:=X3.c a b c λe f g=>If (f != 0) (d f g) (NilP a λh=>LdS (h.add 4) g λi=>Ix i.a i.len e 1 λj=>LdI .i64 j g λk=>If (k==0) (d 9 g) (Nw (.cells #[.I e] 3 (0,0)) g λl m=>Y8.c a 0 ⟨some l,1,1⟩ m λn=>d 0 n))
theorem Zr.o {a b c d}(e:Zr.v a b c d):Zr.c a b c d:=Wa Tryz.func243 (x:=Zr.h) (R0 e)
def Yu.h:Hn:=.q .o1 (.q (.oq 14) .l)
def Yu.v (a:R2)(b:Int)(c:Hp)(d:Int->Hp->Prop):Prop:=NilP a λe=>LdI .i64 (e.add 0) c λf=>Ar .i64 (f*256) λg=>NilP a λh=>LdI .i64 ((h.add 1).add 0) c λi=>Ar .i64 (b*i) λj=>Ar .i64 (g+j) λk=>d k c
theorem Yu.o {a b c d}(e:Yu.v a b c d):Yu.c a b c d:=Wa Tryz.func252 (x:=Yu.h) (R0 e)
def Yr.h:Hn:=.q .o1 (.q (.q .o3 (.c (.q .o1 .l) .l)) (.q .o6 .l))
def Yr.v (a:R2)(b:Hp)(c:Int->Hp->Prop):Prop:=Ym.c a b λd e=>If (!d) (c 0 e) (NilP a λf=>LdS (f.add 4) e λg=>c ((g.len:Nat):Int) e)
theorem Yr.o {a b c}(d:Yr.v a b c):Yr.c a b c:=Wa Tryz.func254 (x:=Yr.h) (R0 d)
def Zp.h:Hn:=.q .o2 (.q (.q .o3 (.c (.q .o2 .l) .l)) (.q .o6 (.q (.q .o2 (.c (.q .o2 .l) .l)) (.q .o4 (.q .o5 .l)))))
def Zp.v (a:R2)(b:Hp)(c:Int->Int->Hp->Prop):Prop:=Ym.c a b λd e=>If (!d) (c 0 5 e) (NilP a λf=>LdS (f.add 4) e λg=>WD.c g 0 e λh i=>If (h<0) (c 0 6 i) (Nw (.cells #[.I h] 3 (0,0)) i λj k=>Y8.c a 1 ⟨some j,1,1⟩ k λl=>Yu.c a h l λm n=>c m 0 n))
theorem Zp.o {a b c}(d:Zp.v a b c):Zp.c a b c:=Wa Tryz.func256 (x:=Zp.h) (R0 d)
def Yo.h:Hn:=.q .o2 (.q .o8 (.q (.q .o2 (.c (.q .o3 .l) .l)) (.q .o10 .l)))
def Yo.v (a:R2)(b:Int)(c:Hp)(d:Bool->Int->Hp->Prop):Prop:=X3.c a b c λe f g=>If (f != 0) (d false f g) (NilP a λh=>LdS (h.add 4) g λi=>Ix i.a i.len e 1 λj=>LdI .i64 j g λk=>d (k==1) 0 g)
theorem Yo.o {a b c d}(e:Yo.v a b c d):Yo.c a b c d:=Wa Tryz.func264 (x:=Yo.h) (R0 e)
def X3.h:Hn:=.q .o2 (.q .o8 (.q (.q (.reg (.seq [.op,.op,.op,.grd true 5 (RI.ops 5)])) (.c (.q .o2 .l) .l)) (.q .o4 .l)))
def X3.v (a:R2)(b:Int)(c:Hp)(d:Int->Int->Hp->Prop):Prop:=X4.c a b c λe f g=>JnB (λh i=>If h (d 0 8 i) (d e f i)) λj=>If (f==0) (Yu.c a e g λk l=>j (k != b) l) (j false g)
theorem X3.o {a b c d}(e:X3.v a b c d):X3.c a b c d:=Wa Tryz.func276 (x:=X3.h) (R0 e)
def Y8.h:Hn:=.q .o3 (.k (.loop [(10,.I)] (.q .o1 (.q (.c .l .l) (.q (.k (.q .o3 (.q (.reg (.tail 16 (RI.ops 16) [.op])) .o8))) .o2)))))
def Y8.v (a:R2)(b:Int)(c:Sl)(d:Hp)(e:Hp->Prop):Prop:=Xo [(.i .i64)] (λf=>f 0 d) λg (h:Int) i=>If (h<((c.len:Nat):Int)) (Ix c.a c.len h 1 λj=>LdI .i64 j i λk=>NilP a λl=>LdI .i64 (l.add 5) i λm=>NilP a λn=>LdS (n.add 4) i λo=>Ix o.a o.len k 1 λp=>LdI .i64 p i λq=>Ar .i64 (b-q) λr=>Ar .i64 (m+r) λs=>NilP a λt=>St1 (t.add 5) (.I s) i λu=>NilP a λv=>LdS (v.add 4) u λw=>Ix w.a w.len k 1 λx=>St1 x (.I b) u λy=>Ar .i64 (h+1) λz=>g z y) (e i)
theorem Y8.o {a b c d e}(f:Y8.v a b c d e):Y8.c a b c d e:=Wa Tryz.func277 (x:=Y8.h) (R0 f)
end Go.Proofs
namespace Go.Ar
open Go Go.Vc Go.Proofs
variable {U:Hp}{F:Rg}{p q:Nat}{c:Cls}{s:SpA}
def tkN (tk:List Bool):List Nat:=tk.map λb=>if b then 1 else 0
theorem WaC (tk:List Bool):(tkN tk).length=tk.length:=by simp[tkN]
theorem HA {tk:List Bool}{i:Nat}{b:Bool}(h:tk[i]?=some b):(tkN tk)[i]?=some (if b then 1 else 0):=by simp[tkN,h]
theorem Wmz (tk:List Bool)(i:Nat)(b:Bool):tkN (tk.set i b)=(tkN tk).set i (if b then 1 else 0):=by simp[tkN,zDP]
structure SpH (U:Hp) (p q:Nat) (c:Cls) (s:SpA):Prop where
 hd:∃cap,c.n<=cap/\Blk U p [.int .i64 (s.st:Int),.int .i64 (c.size:Int),.int .i64 (c.pages:Int),.int .i64 (c.batch:Int),.slice (some ⟨q,0,none⟩) c.n cap,.int .i64 (s.many:Int)]
 row:∃rest,Blk U q (ints (tkN s.tk)++rest)
 ne:p≠q
 len:s.tk.length=c.n
 ok:c.ok
 fit:s.st+c.pages<=1024
theorem SpH.keep {σ':Hp}(h:SpH U p q c s)(e:Ext F U σ')(hp:¬F p)(hq:¬F q):SpH σ' p q c s:=
 ⟨by obtain⟨c,h1,h2⟩:=h.hd;exact⟨c,h1,e.blk h2 hp⟩,by obtain⟨r,h1⟩:=h.row;exact⟨r,e.blk h1 hq⟩,h.ne,h.len,h.ok,h.fit⟩
theorem SpH.keep0 {σ':Hp}(h:SpH U p q c s)(e:Ext0 U σ'):SpH σ' p q c s:=h.keep e id id
theorem SpH.lt (h:SpH U p q c s):p<U.size/\q<U.size:=by
 obtain⟨_,_,h1⟩:=h.hd;obtain⟨_,h2⟩:=h.row;exact⟨h1.lt,h2.lt⟩
theorem SpH.rS (h:SpH U p q c s){K:Sl->Prop}(hK:∀cap,c.n<=cap->K ⟨some ⟨q,0,none⟩,c.n,cap⟩):LdS (Addr.add ⟨p,0,none⟩ 4) U K:=by
 obtain⟨cp,h1,h2⟩:=h.hd;exact h2.rS rfl (hK cp h1)
theorem SpH.rI (h:SpH U p q c s){i:Nat}{x:Int}(hx:∀a b:Value,([.int .i64 (s.st:Int),.int .i64 (c.size:Int),.int .i64 (c.pages:Int),.int .i64 (c.batch:Int),a,.int .i64 (s.many:Int)]:List Value)[0+i]?=some (.int .i64 x)){K:Int->Prop}(hK:K x):LdI .i64 (Addr.add ⟨p,0,none⟩ i) U K:=by
 obtain⟨cp,h1,h2⟩:=h.hd;exact h2.rI (hx _ .nilFunc) hK
theorem SpH.rI2 (h:SpH U p q c s){i j:Nat}{x:Int}(hx:∀a b:Value,([.int .i64 (s.st:Int),.int .i64 (c.size:Int),.int .i64 (c.pages:Int),.int .i64 (c.batch:Int),a,.int .i64 (s.many:Int)]:List Value)[0+i+j]?=some (.int .i64 x)){K:Int->Prop}(hK:K x):LdI .i64 (Addr.add (Addr.add ⟨p,0,none⟩ i) j) U K:=by
 obtain⟨cp,h1,h2⟩:=h.hd;exact h2.rI2 (hx _ .nilFunc) hK
theorem SpH.states (h:SpH U p q c s)(cap:Nat):SlR ⟨some ⟨q,0,none⟩,c.n,cap⟩ 1 (ints (tkN s.tk)) U (· = q):=by
 obtain⟨r,h2⟩:=h.row;refine h2.slR (o:=0) rfl (by rw[Qy,WaC,h.len];simp) λj hj=>?_;rw[zJ,zf hj]
theorem GM (h:SpH U p q c s){R:Bool->Hp->Prop}(hR:R true U):Ym.c (some ⟨p,0,none⟩) U R:=by
 refine Ym.o ?_;unfold Ym.v;refine JnB.intro (ifT rfl (nilP (h.rS λcap _=>?_)));have:=h.ok.n_pos;rw[zI (by simp only;omega)];exact hR
theorem Web (h:SpH U p q c s){R:Int->Hp->Prop}(hR:R (c.n:Int) U):Yr.c (some ⟨p,0,none⟩) U R:=by
 refine Yr.o ?_;unfold Yr.v;exact GM h (ifF rfl (nilP (h.rS λcap _=>hR)))
theorem WbU (h:SpH U p q c s)(i:Nat)(hi:i<=1000){R:Int->Hp->Prop}(hR:R ((at_ c s i:Nat):Int) U):Yu.c (some ⟨p,0,none⟩) (i:Int) U R:=by
 refine Yu.o ?_;unfold Yu.v;have hc:=h.ok;unfold Cls.ok at hc;have:=h.fit;have h2:i*c.size<=1000*512:=zAJ hi (by omega);refine nilP (h.rI (λ_ _=>rfl) (arN (m:=s.st*256) (by simp) (by omega) (nilP (h.rI2 (λ_ _=>rfl) ?_))));exact arN (m:=i*c.size) (by simp) (by omega) (arN (m:=at_ c s i) (by simp[at_]) (by unfold at_;omega) hR)
theorem Wco (h:SpH U p q c s)(x:Int)(hx2:x<=9223372036854775807){R:Int->Int->Hp->Prop}(h1:∀i,idx c s x=some i->R (i:Int) 0 U)(h0:idx c s x=none->R 0 8 U):X4.c (some ⟨p,0,none⟩) x U R:=by
 refine X4.o ?_;unfold X4.v;have hc:=h.ok;unfold Cls.ok at hc;have hn:=h.ok.n_le;have hfit:=h.fit;have hlen:=h.len;have hm:c.n*c.size<=128*512:=zAJ hn (by omega);refine GM h (ifF rfl (WbU h 0 (by omega) ?_));have e0:at_ c s 0=s.st*256:=by simp[at_]
 rw[e0];refine arW ?_;refine Jn.intro (WbU h 0 (by omega) ?_);rw[e0];refine ifD (λhlt=>ifT rfl (h0 ?_)) λhge=>?_
 ·unfold idx;rw[zB (by omega)]
 ·rw[UE (by omega) (by omega)];obtain⟨y,hy⟩:=ze (show 0<=x by omega);have key:If (decide (x-((s.st*256:Nat):Int)≥((c.n*c.size:Nat):Int))) (R 0 8 U)
   (NilP (some ⟨p,0,none⟩) λa35=>LdI .i64 ((a35.add 1).add 0) U λt38=>Nz t38<|Ar .i64 ((x-((s.st*256:Nat):Int)).tdiv t38) λt39=>R t39 0 U):=by
   refine ifD (λhge2=>h0 ?_) λhlt2=>nilP (h.rI2 (λ_ _=>rfl) (nz (by omega) ?_))
   ·unfold idx;rw[hlen,zB (by omega)]
   ·have:idx c s x=some ((x-((s.st*256:Nat):Int)).toNat/c.size):=by unfold idx;rw[hlen,zA (by omega)]
    refine arN (m:=(x-((s.st*256:Nat):Int)).toNat/c.size) ?_ ?_ (h1 _ this)
    ·rw[Xm (by omega)];have:x-((s.st*256:Nat):Int)=(((x-((s.st*256:Nat):Int)).toNat:Nat):Int):=by omega
     rw[this];simp
    ·have:=Nat.div_le_self (x-((s.st*256:Nat):Int)).toNat c.size;omega
  refine nilP (nilP ⟨h.rS λcap hcap=>h.rI2 (λ_ _=>rfl) (arN (m:=c.n*c.size) (by simp) (by omega) key),h.rI2 (λ_ _=>rfl) (h.rS λcap hcap=>arN (m:=c.n*c.size) (by simp) (by omega) key)⟩)
theorem Wcs (h:SpH U p q c s)(x:Int)(hx2:x<=9223372036854775807){R:Int->Int->Hp->Prop}(h1:∀i,obj c s x=some i->i<c.n->R (i:Int) 0 U)(h0:obj c s x=none->R 0 8 U):X3.c (some ⟨p,0,none⟩) x U R:=by
 refine X3.o ?_;unfold X3.v;have hc:=h.ok;unfold Cls.ok at hc;have hn:=h.ok.n_le;refine Wco h x hx2 (λi hi=>JnB.intro (ifT rfl ?_)) λhi=>JnB.intro (ifF rfl (ifF rfl (h0 (by unfold obj;rw[hi]))));have hin:=((V2 (by omega)).1 hi).2.2;rw[h.len]at hin;refine WbU h i (by omega) (iff_ (λhe=>h0 ?_) λhe=>h1 i ?_ hin)
 ·have:¬x=((at_ c s i:Nat):Int):=λe=>by rw[e]at he;simp at he
  unfold obj;rw[hi];simp[this]
 ·have:x=((at_ c s i:Nat):Int):=by
   have:((at_ c s i:Nat):Int)=x:=by simpa using he
   exact this.symm
  unfold obj;rw[hi];simp[this]
def SpA.is (s:SpA)(i:Nat):Bool:=s.tk.getD i false
theorem SpA.is_get {s:SpA}{i:Nat}(hi:i<s.tk.length):s.tk[i]?=some (s.is i):=by
 simp[SpA.is,zL,gGe hi]
theorem Wen (h:SpH U p q c s)(x:Int)(hx2:x<=9223372036854775807){R:Bool->Int->Hp->Prop}(h1:∀i,obj c s x=some i->R (s.is i) 0 U)(h0:obj c s x=none->R false 8 U):Yo.c (some ⟨p,0,none⟩) x U R:=by
 refine Yo.o ?_;unfold Yo.v;refine Wcs h x hx2 (λi hi hin=>ifF rfl (nilP (h.rS λcap hcap=>?_))) λhi=>ifT rfl (h0 hi);rw[←h.len]at hin;refine(h.states cap).ixN (HA (SpA.is_get hin)) ?_;have:=h1 i hi;cases hb:s.is i<;>rw[hb]at this<;>simpa using this
theorem GR {s:SpA}{i:Nat}(hi:i<s.tk.length)(v:Bool):((s.put i v).many:Int)=s.many+((if v then 1 else 0)-(if s.is i then 1 else 0)):=by
 have key:∀(l:List Bool) (i:Nat) (b:Bool),l[i]?=some b->(((l.set i v).count true:Nat):Int)=(l.count true:Nat)+((if v then 1 else 0)-(if b then 1 else 0)):=by
  intro l
  induction l with
  | nil=>intro i b h;simp at h
  | cons x l ih=>
   intro i b h;cases i with
   | zero=>
    simp at h;subst h;cases v<;>cases x<;>simp[List.count_cons]<;>omega
   | succ i=>
    have:=ih i b (by simpa using h);simp only[zCQ,List.count_cons]
    push_cast
    omega
 exact key s.tk i _ (SpA.is_get hi)
theorem Wcd (s:SpA):s.many<=s.tk.length:=zEY
theorem Wil (h:SpH U p q c s){i:Nat}(hi:i<c.n)(v:Bool){sl:Sl}{G:Rg}(hs:SlR sl 1 (ints [i]) U G){R:Hp->Prop}(hR:∀σ',Ext (λb=>b=p\/b=q) U σ'->SpH σ' p q c (s.put i v)->R σ') :
 Y8.c (some ⟨p,0,none⟩) (if v then 1 else 0) sl U R:=by
 refine Y8.o ?_;unfold Y8.v;have hl1:sl.len=1:=hs.lenN;have hn:=h.ok.n_le;have hlen:=h.len;have hm:=Wcd s;have hit:i<s.tk.length:=by omega
 have hmany:=GR hit v;refine Zx (a:=.i .i64) (λ(t:Int) h'=>t=0/\h'=U\/t=1/\Ext (λb=>b=p\/b=q) U h'/\SpH h' p q c (s.put i v)) (λt _=>1-t.toNat) (.inl ⟨rfl,rfl⟩) ?_;rintro t h' (⟨rfl,rfl⟩|⟨rfl,e,hS⟩)
 ·refine ifDT (by omega) ?_;refine hs.ixN (i:=0) (x:=i) rfl (nilP (h.rI (λ_ _=>rfl) (nilP (h.rS λcap hcap=>?_))));refine(h.states cap).ixN (HA (SpA.is_get hit)) ?_;have hb1:(0:Int)<=(if v then 1 else 0)/\(if v then(1:Int)else 0)<=1:=by cases v<;>simp
  have hb2:(0:Int)<=((if s.is i then 1 else 0:Nat):Int)/\((if s.is i then 1 else 0:Nat):Int)<=1:=by cases s.is i<;>simp
  have hcast:((if s.is i then 1 else 0:Nat):Int)=(if s.is i then 1 else 0):=by cases s.is i<;>rfl
  refine ar (by omega) (by omega) (ar (by omega) (by omega) (nilP ?_));obtain⟨cp,hcp,hd⟩:=h.hd;obtain⟨r,hrow⟩:=h.row;refine hd.s1 (by simp) λh2 ho2 hd2=>?_;have hrow2:=Ws ho2 hrow (Ne.symm h.ne);refine nilP (hd2.rS rfl (ix (by omega) (by simp only;omega) ?_));rw[add_lit];refine hrow2.s0 (by simp[Qy,WaC];omega) λh3 ho3 hr3=>?_;refine arN (m:=1) (by omega) (by omega) ⟨.inr ⟨rfl,?_,?_⟩,by decide⟩
  ·exact(Ext.of_only (F:=λb=>b=p\/b=q) ho2 (.inl rfl)).trans (Ext.of_only ho3 (.inr rfl))
  ·refine⟨⟨cp,hcp,?_⟩,⟨r,?_⟩,h.ne,by simp[SpA.put,h.len],h.ok,h.fit⟩
   ·have:=Ws ho3 hd2 h.ne;rw[hmany,←hcast];exact this
   ·have e:(ints (tkN s.tk)++r).set (0+(i:Int).toNat*1) (.int .i64 (if v then 1 else 0))=ints (tkN (s.put i v).tk)++r:=by
     rw[List.set_append_left _ _ (by simp[Qy,WaC];omega)]
     congr 1
     simp only[SpA.put,Wmz,ints,zDP];have:(0+(i:Int).toNat*1)=i:=by omega
     rw[this]
     congr 1
     cases v<;>rfl
    rw[e]at hr3;exact hr3
 ·exact ifDF (by omega) (hR _ e hS)
theorem Wlt (h:SpH U p q c s){x:Int}{i:Nat}(hx2:x<=9223372036854775807)(ho:obj c s x=some i)(ht:s.is i=true){R:Int->Hp->Prop}(hR:∀σ',Ext (λb=>b=p\/b=q) U σ'->SpH σ' p q c (s.put i false)->R 0 σ') :
 Zr.c (some ⟨p,0,none⟩) x U R:=by
 refine Zr.o ?_;unfold Zr.v;refine Wcs h x hx2 (λj hj hin=>ifF rfl (nilP (h.rS λcap hcap=>?_))) λhn=>by rw[ho]at hn;cases hn
 rw[ho]at hj;cases hj;have hin':i<s.tk.length:=by rw[h.len];exact hin
 refine(h.states cap).ixN (HA (SpA.is_get hin')) ?_;rw[ht];refine ifF rfl (nw (cs:=ints [i]) λv hz e hb=>?_);have hq:=h.lt;exact Wil (h.keep0 e) hin false (Waz hb rfl) λσ' e' h'=>hR σ' (e.to.trans e') h'
theorem WkF (h:SpH U p q c s){i:Nat}(hlow:low s=some i){R:Int->Int->Hp->Prop}(hR:∀σ',Ext (λb=>b=p\/b=q) U σ'->SpH σ' p q c (s.put i true)->R ((at_ c s i:Nat):Int) 0 σ') :
 Zp.c (some ⟨p,0,none⟩) U R:=by
 refine Zp.o ?_;unfold Zp.v;have hn:=h.ok.n_le;have hlow':=zBC.1 hlow;obtain⟨hi,hf,hb⟩:=hlow';have hfi:s.tk[i]=false:=by simpa using hf
 refine GM h (ifF rfl (nilP (h.rS λcap hcap=>?_)));refine Wfh (h.states cap) (by simp[WaC,h.len];omega) 0 (λj hj hno=>?_) λhno=>?_
 ·have hjl:j<s.tk.length:=by
   have:=(gSi.1 hj).1
   rwa [WaC]at this
  have hji:j=i:=by
   rcases zBT j i with h1|h1|h1
   ·have:=hb j h1;rw[HA (gGe hjl)]at hj;have:s.tk[j]=true:=by simpa using this
    simp[this]at hj
   ·exact h1
   ·exact absurd (by rw[HA (gGe hi),hfi];rfl) (hno i h1)
  subst hji;rw[h.len]at hi;refine ifDF (by omega) (nw (cs:=ints [j]) λv hz e hb'=>?_);refine Wil (h.keep0 e) hi true (Waz hb' rfl) λσ' e' h'=>WbU h' j (by omega) (hR σ' (e.to.trans e') h')
 ·exfalso;apply hno;exact zD (i:=i) (by rw[HA (gGe hi),hfi];rfl)
theorem Wnw (h:SpH U p q c s){R:Int->Int->Hp->Prop}(hR:∀σ',Ext0 U σ'->R (s.st:Int) (c.pages:Int) σ'):ZD.c (some ⟨p,0,none⟩) U R:=by
 refine ZD.o ?_;unfold ZD.v;refine nw (cs:=[.int .i64 0,.int .i64 0]) λv hz e hb=>?_;have h1:=h.keep0 e;refine GM h1 (ifF rfl (nilP (h1.rI (λ_ _=>rfl) (nilP (h1.rI2 (λ_ _=>rfl) ?_)))));refine hb.s1 (by simp) λv2 ho2 hb2=>hb2.s1 (by simp) λv3 ho3 hb3=>?_;refine hb3.rI rfl (hb3.rI rfl (hR _ ?_));exact Ext.fresh (Ext.fresh e (Ext.of_only (F:=(· = U.size)) ho2 rfl) λi hi=>by omega) (Ext.of_only (F:=(· = U.size)) ho3 rfl) λi hi=>by omega
theorem Wgf (n:Nat):(List.replicate n [Value.int .i64 0]).flatten=ints (List.replicate n 0):=by
 induction n with
 | zero=>rfl
 | succ n ih=>simp only[zEH,zDW,ih];rfl
theorem Wl8 (hc:c.ok){st:Nat}(hf:st+c.pages<=1024){R:Option Addr->Int->Hp->Prop}(hR:∀σ' p q,Ext0 U σ'->U.size<=p->U.size<=q->SpH σ' p q c ⟨st,List.replicate c.n false⟩->R (some ⟨p,0,none⟩) 0 σ') :
 Kw.c (st:Int) c.size c.pages c.batch U R:=by
 refine Kw.o ?_;unfold Kw.v;have hk:=hc;unfold Cls.ok at hk;have hn:=hc.n_le;refine nw (cs:=[.int .i64 c.size,.int .i64 c.pages,.int .i64 c.batch]) λv hz e hb=>?_;refine hb.rI rfl (hb.rI rfl (hb.rI rfl (Wbr _ _ _ (λc' hc' e1 e2 e3 v1 ex=>?_) λhno=>?_)))
 case refine_2=>rw[(Wdi c).2 hc]at hno;cases hno
 have:c'=c:=by
  obtain⟨a,b,d⟩:=c;obtain⟨a',b',d'⟩:=c';simp only at e1 e2 e3
  congr 1<;>omega
 subst this;have hb1:=ex.blk hb id;refine JnB.intro (ifF rfl (JnB.intro (ifDF (by omega) (hb1.rI rfl (arN (m:=1024-c'.pages) (by omega) (by omega) (ifDF (by omega) ?_))))));refine⟨λh'=>Blk h' U.size [.int .i64 c'.size,.int .i64 c'.pages,.int .i64 c'.batch],hb1,⟨_,λh' hS=>by rw[add_lit,hS.cell];rfl,⟨_,λh' hS=>by rw[add_lit,hS.cell];rfl,⟨_,λh' hS=>by rw[add_lit,hS.cell];rfl,?_⟩⟩⟩⟩;refine mk (by omega) (by omega) λv2 hz2 ex2 hb2=>⟨ex2.blk hb1 id,nw (cs:=[.int .i64 (st:Int),.int .i64 c'.size,.int .i64 c'.pages,.int .i64 c'.batch,.slice (some ⟨v1.size,0,none⟩) c'.n c'.n,.int .i64 0]) λv3 hz3 ex3 hb3=>⟨(ex2.trans ex3).blk hb1 id,?_⟩⟩;rw[Wgf]at hb2;have hsz:=ex.1;refine hR _ _ _ (((e.trans ex).trans ex2).trans ex3) (by omega) (show U.size<=v1.size by omega) ⟨⟨c'.n,zC _,?_⟩,⟨[],?_⟩,by omega,by simp,hc,hf⟩
 ·have:SpA.many ⟨st,List.replicate c'.n false⟩=0:=by simp[SpA.many,zFB]
  rw[this];exact hb3
 ·have:tkN (List.replicate c'.n false)=List.replicate c'.n 0:=by simp[tkN]
  rw[this,zAC];exact ex3.blk hb2 id
end Go.Ar
namespace Go.Proofs
open Go.Vc
set_option maxRecDepth 100000
def WU.h:Hn:=.q .o1 (.q (.q .o3 (.c (.q .o1 .l) .l)) (.q .o1 (.q .o10 (.q .o2 .l))))
def WU.v (a:R2)(b:Hp)(c:Sl->Hp->Prop):Prop:=WK.c a b λd e=>If (!d) (c ⟨none,0,0⟩ e) (Nw (.cells #[.slice none 0 0] 206 (0,0)) e λf g=>NilP a λh=>LdS (h.add 3) g λi=>Wf.c i ⟨180,#[],#[.pointer (some f)]⟩ g λj k=>NilP a λl=>St1 (l.add 3) (.slice j.a j.len j.cap) k λm=>LdS f m λn=>c n m)
theorem WU.o {a b c}(d:WU.v a b c):WU.c a b c:=Wa Tryz.func129 (x:=WU.h) (R0 d)
def WK.h:Hn:=.q .o1 (.q (.reg (.seq [.op,.op,.op,.grd true 6 (RI.ops 6),.op])) .l)
def WK.v (a:R2)(b:Hp)(c:Bool->Hp->Prop):Prop:=JnB (λd e=>c d e) λf=>If (!a.isNone) (NilP a λg=>LdI .i64 ((g.add 0).add 0) b λh=>f (decide (h>0)) b) (f false b)
theorem WK.o {a b c}(d:WK.v a b c):WK.c a b c:=Wa Tryz.func149 (x:=WK.h) (R0 d)
def Yq.h:Hn:=.q .o2 (.q (.q .o3 (.c (.q .o2 .l) .l)) (.q .o4 (.q (.q .o2 (.c (.q .o2 .l) .l)) (.q (.o 11) (.q (.oq 16) .l)))))
def Yq.v (a:R2)(b:Int)(c:Hp)(d:Int->Int->Hp->Prop):Prop:=WK.c a c λe f=>If (!e) (d 0 5 f) (XL.c a b f λg h=>If g.isNone (d 0 8 h) (NilP g λi=>LdP (i.add 2) h λj=>X4.c j b h λk l m=>NilP g λn=>LdI .i64 ((n.add 0).add 1) m λo=>Ar .i64 (o*256) λp=>NilP a λq=>LdI .i64 ((q.add 0).add 0) m λr=>Ar .i64 (k*r) λs=>Ar .i64 (p+s) λt=>d t 0 m))
theorem Yq.o {a b c d}(e:Yq.v a b c d):Yq.c a b c d:=Wa Tryz.func157 (x:=Yq.h) (R0 e)
def Qe.h:Hn:=.q .o3 (.q (.q .o7 (.q .o2 (.c (.q .o2 .l) .l))) (.q .o5 .l))
def Qe.v (a b c:Int)(d:Hp)(e:Option Addr->Int->Hp->Prop):Prop:=Nw (.cells #[.I a,.I b,.I c] 79 (0,0)) d λf g=>LdI .i64 (f.add 0) g λh=>LdI .i64 (f.add 1) g λi=>LdI .i64 (f.add 2) g λj=>Zt.c h i j g λk l m=>If (l != 0) (e none 1 m) (LdI .i64 (f.add 0) m λn=>LdI .i64 (f.add 1) m λo=>LdI .i64 (f.add 2) m λp=>Nw (.cells #[.I n,.I o,.I p,.slice none 0 0] 234 (0,0)) m λq r=>e (some q) 0 r)
theorem Qe.o {a b c d e}(f:Qe.v a b c d e):Qe.c a b c d e:=Wa Tryz.func160 (x:=Qe.h) (R0 f)
def Xa.h:Hn:=.q .o2 (.q (.k (.q .o4 (.c (.q .o2 .l) (.q .o3 (.c (.q .o2 .l) .l))))) (.q .o1 (.q (.k (.loop [(6,.one .s)] (.q (.q .o4 (.c .l .l)) (.k (.q .o7 (.q (.q .o2 (.c .l .l)) .o5)))))) (.q .o3 .l))))
def Xa.v (a:R2)(b:Int)(c:Hp)(d:Sl->Int->Hp->Prop):Prop:=WK.c a c λe f=>If (!e) (d ⟨none,0,0⟩ 5 f) (If (b<0) (d ⟨none,0,0⟩ 1 f) (Xo [.s] (λg=>g ⟨none,0,0⟩ f) λh (i:Sl) j=>If (((i.len:Nat):Int)<b) (YY.c a j λk l m=>If (!l) (d i 0 m) (Nw (.cells #[.I k] 3 (0,0)) m λn o=>App i 1 8 3 [.I 0] ⟨some n,1,1⟩ o λp q=>h p q)) (d i 0 j)))
theorem Xa.o {a b c d}(e:Xa.v a b c d):Xa.c a b c d:=Wa Tryz.func165 (x:=Xa.h) (R0 e)
def YV.h:Hn:=.q .o1 (.q (.q .o3 (.c (.q .o1 .l) .l)) (.q (.o 11) (.q (.q .o2 (.c (.q .o2 .l) .l)) (.q (.q .o6 (.k (.loop [(31,.I)] (.q .o1 (.q (.c .l .l) (.q (.k (.q .o4 (.q (.oq 17) (.c (.q .o1 .l) .l)))) .o2)))))) (.q (.o 11) (.q (.o 15) (.q .o1 .l)))))))
def YV.v (a:R2)(b:Int)(c:Hp)(d:Int->Hp->Prop):Prop:=WK.c a c λe f=>If (!e) (d 5 f) (NilP a λg=>LdI .i64 ((g.add 0).add 0) f λh=>LdI .i64 ((g.add 0).add 1) f λi=>LdI .i64 ((g.add 0).add 2) f λj=>Kw.c b h i j f λk l m=>If (l != 0) (d l m) (NilP a λn=>LdS (n.add 3) m λo=>Xo [(.i .i64)] (λp=>p 0 m) λq (r:Int) s=>If (r<((o.len:Nat):Int)) (Ix o.a o.len r 3 λt=>LdI .i64 (t.add 0) s λu=>LdI .i64 (t.add 1) s λv=>LdP (t.add 2) s λw=>Nw (.cells #[.I 0,.I 0,.pointer none] 239 (0,0)) s λx y=>St1 (x.add 0) (.I u) y λz=>St1 (x.add 1) (.I v) z λaa=>St1 (x.add 2) (.pointer w) aa λab=>LdI .i64 ((x.add 0).add 1) ab λac=>LdI .i64 ((x.add 0).add 1) ab λad=>Ar .i64 ((if b>ac then b else ac)-(if b<ad then b else ad)) λae=>NilP a λaf=>LdI .i64 ((af.add 0).add 1) ab λag=>If (ae<ag) (d 9 ab) (Ar .i64 (r+1) λah=>q ah ab)) (NilP a λai=>LdS (ai.add 3) s λaj=>Wb.c aj b ⟨226,#[],#[]⟩ s λak al am=>NilP a λan=>LdS (an.add 3) am λao=>Nw (.cells #[.I 0,.I b,.pointer k] 239 (0,0)) am λap aq=>Wg.c ao ak ⟨some ap,1,1⟩ aq λar au=>NilP a λav=>St1 (av.add 3) (.slice ar.a ar.len ar.cap) au λaw=>d 0 aw)))
theorem YV.o {a b c d}(e:YV.v a b c d):YV.c a b c d:=Wa Tryz.func167 (x:=YV.h) (R0 e)
def X0.h:Hn:=.q .o2 (.sjn [] (.q .o4 (.c (.reg (.held true [6] (.take 0 (.take 1 (.take 2 (.all [(3,.all [(4,.all [(5,.all [(6,.done)])])])])))))) .l)) (.q .o5 .l))
def X0.v (a b:Int)(c:R2)(d:Addr)(e:Hp)(f:Bool->Hp->Prop):Prop:=Nw (.cells #[.I a,.I b,.pointer c] 239 (0,0)) e λg h=>Jn [] (λi=>LdI .i64 ((g.add 0).add 0) i λj=>f (j==0) i) λk=>LdI .i64 ((g.add 0).add 0) h λl=>If (l==0) (Held h λm=>LdH m .s d λ(n:Sl)=>LdH m .p (g.add 2) λ(o:R2)=>ZD.c o h λp q r=>And (m r) <| Nw (.cells #[.I p,.I q] 212 (0,0)) r λs t=>And (m t) <| App n 2 16 212 [.I 0,.I 0] ⟨some s,1,1⟩ t λu v=>And (m v) <| St1 d (.slice u.a u.len u.cap) v λw=>k w) (k h)
theorem X0.o {a b c d e f}(g:X0.v a b c d e f):X0.c a b c d e f:=Wa Tryz.func180 (x:=X0.h) (R0 g)
def YP.h:Hn:=.q .o2 (.q (.q .o3 (.c (.q .o2 .l) .l)) (.q .o1 (.q (.q .o3 (.k (.loop [(6,.one .b),(19,.I)] (.q .o1 (.q (.c .l .l) (.q (.k (.q .o5 (.q .o8 (.q (.q .o2 (.c (.q .o3 .l) .l)) (.reg (.seq [.op,.op,.grd false 2 [.op,.op],.op,.grd false 5 (RI.ops 5),.op])))))) .o2)))))) (.q (.q .o1 (.c (.q .o2 .l) .l)) (.q (.q .o3 (.k (.loop [(49,.I)] (.q .o1 (.q (.c .l .l) (.q (.k (.q .o3 (.q .o4 (.q .o6 .o10)))) .o2)))))) (.q .o4 .l))))))
def YP.v (a:R2)(b:Sl)(c:Hp)(d:Sl->Int->Hp->Prop):Prop:=WK.c a c λe f=>If (!e) (d ⟨none,0,0⟩ 5 f) (Xo [.b,(.i .i64)] (λg=>g false 0 f) λh (i:Bool) (j:Int) k=>If (j<((b.len:Nat):Int)) (Ix b.a b.len j 1 λl=>LdI .i64 l k λm=>W6.c a m k λn o p=>If (o != 0) (d ⟨none,0,0⟩ o p) (JnB (λq r=>JnB (λs t=>Ar .i64 (j+1) λu=>h s u t) λv=>If q (v true r) (SlcL b 1 0 j (b.cap:Nat) λw=>Wo.c w m r λx y=>v x y)) λz=>If i (z true p) (z (!n) p))) (If i (d ⟨none,0,0⟩ 9 k) (Xo [(.i .i64)] (λaa=>aa 0 k) λab (ac:Int) ad=>If (ac<((b.len:Nat):Int)) (Ix b.a b.len ac 1 λae=>LdI .i64 ae ad λaf=>XL.c a af ad λag ah=>NilP ag λai=>LdP (ai.add 2) ah λaj=>Zr.c aj af ah λak al=>NilP ag λam=>LdI .i64 ((am.add 0).add 0) al λan=>Ar .i64 (an-1) λao=>NilP ag λap=>St1 ((ap.add 0).add 0) (.I ao) al λaq=>Ar .i64 (ac+1) λar=>ab ar aq) (WU.c a ad λau av=>d au 0 av))))
theorem YP.o {a b c d}(e:YP.v a b c d):YP.c a b c d:=Wa Tryz.func199 (x:=YP.h) (R0 e)
def XL.h:Hn:=.q .o1 (.q (.q .o6 (.k (.loop [(13,.I)] (.q .o1 (.q (.c .l .l) (.q (.k (.q .o2 (.q (.o 15) (.q .o2 (.c (.q .o7 .l) .l))))) .o2)))))) (.q .o1 .l))
def XL.v (a:R2)(b:Int)(c:Hp)(d:Option Addr->Hp->Prop):Prop:=NilP a λe=>LdS (e.add 3) c λf=>Xo [(.i .i64)] (λg=>g 0 c) λh (i:Int) j=>If (i<((f.len:Nat):Int)) (NilP a λk=>LdS (k.add 3) j λl=>Ix l.a l.len i 3 λm=>LdP (m.add 2) j λn=>X4.c n b j λo p q=>If (p==0) (NilP a λr=>LdS (r.add 3) q λs=>Ix s.a s.len i 3 λt=>d (some t) q) (Ar .i64 (i+1) λu=>h u q)) (d none j)
theorem XL.o {a b c d}(e:XL.v a b c d):XL.c a b c d:=Wa Tryz.func215 (x:=XL.h) (R0 e)
def YY.h:Hn:=.q .o2 (.q .o1 (.q (.q .o6 (.k (.loop [(4,.one .p),(14,.I)] (.q .o1 (.q (.c .l .l) (.q (.k (.q .o2 (.q .o7 (.q (.reg (.heldJ true [] [(48,.one .b)] (.take 0 (.take 1 (.take 2 (.take 3 (.take 4 (.take 5 (.take 6 (.take 7 (.take 8 (.all [(9,.take 10 (.take 11 (.split 34 (.take 12 (.take 13 (.take 14 (.split 37 (.take 15 (.take 16 (.take 17 (.take 18 (.take 19 (.take 20 (.take 21 (.take 22 (.take 23 (.take 24 (.take 25 (.done)))))))))))) (.take 15 (.take 16 (.take 17 (.take 19 (.take 20 (.take 21 (.all [(18,.all [(22,.all [(23,.take 24 (.take 25 (.done)))])]),(22,.all [(18,.all [(23,.take 24 (.take 25 (.done)))])])]))))))))))) (.take 12 (.take 13 (.take 14 (.take 15 (.take 16 (.take 17 (.take 18 (.take 19 (.take 20 (.take 21 (.take 22 (.take 23 (.take 24 (.take 25 (.done))))))))))))))))))])))))))))))) (.c .o2 .l))))) .o2)))))) (.q (.q .o2 (.c (.q .o2 .l) .l)) (.q .o10 (.q .o10 (.q .o3 .l))))))
def YY.v (a:R2)(b:Hp)(c:Int->Bool->Hp->Prop):Prop:=NilP a λd=>LdS (d.add 3) b λe=>Xo [.p,(.i .i64)] (λf=>f none 0 b) λg (h:R2) (i:Int) j=>If (i<((e.len:Nat):Int)) (NilP a λk=>LdS (k.add 3) j λl=>Ix l.a l.len i 3 λm=>Jn [.b] (λ(n:Bool) o=>If n (Ar .i64 (i+1) λp=>g (some m) p o) (Ar .i64 (i+1) λq=>g h q o)) λr=>Held j λs=>NilP (some m) λt=>LdH s (.i .i64) ((t.add 0).add 0) λ(u:Int)=>NilP (some m) λv=>LdH s .p (v.add 2) λ(w:R2)=>Yr.c w j λx y=>And (s y) <| If (u<x) (If h.isNone (r true y) (NilP (some m) λz=>NilP h λaa=>(LdI .i64 ((z.add 0).add 0) y λab=>LdI .i64 ((z.add 0).add 1) y λac=>And (s y) <| LdI .i64 ((aa.add 0).add 0) y λad=>LdI .i64 ((aa.add 0).add 1) y λae=>And (s y) <| W3.c ab ac ad ae y λaf ag=>And (s ag) <| r af ag) ∧ (LdI .i64 ((aa.add 0).add 0) y λah=>LdI .i64 ((aa.add 0).add 1) y λai=>And (s y) <| LdI .i64 ((z.add 0).add 0) y λaj=>LdI .i64 ((z.add 0).add 1) y λak=>And (s y) <| W3.c aj ak ah ai y λal am=>And (s am) <| r al am))) (r false y)) (If h.isNone (c 0 false j) (NilP h λan=>LdP (an.add 2) j λao=>Zp.c ao j λap aq ar=>NilP h λau=>LdI .i64 ((au.add 0).add 0) ar λav=>Ar .i64 (av+1) λaw=>NilP h λax=>St1 ((ax.add 0).add 0) (.I aw) ar λay=>c ap true ay))
theorem YY.o {a b c}(d:YY.v a b c):YY.c a b c:=Wa Tryz.func219 (x:=YY.h) (R0 d)
def YG.h:Hn:=.q .o2 (.q .o6 .l)
def YG.v (a b:Int)(c:R2)(d:Int)(e:Hp)(f:Int->Hp->Prop):Prop:=Nw (.cells #[.I a,.I b,.pointer c] 239 (0,0)) e λg h=>LdI .i64 ((g.add 0).add 1) h λi=>Ar .i64 (i-d) λj=>f j h
theorem YG.o {a b c d e f}(g:YG.v a b c d e f):YG.c a b c d e f:=Wa Tryz.func226 (x:=YG.h) (R0 g)
def W6.h:Hn:=.q .o2 (.q (.q .o3 (.c (.q .o2 .l) .l)) (.q .o4 (.q (.q .o2 (.c (.q .o2 .l) .l)) (.q .o10 .l))))
def W6.v (a:R2)(b:Int)(c:Hp)(d:Bool->Int->Hp->Prop):Prop:=WK.c a c λe f=>If (!e) (d false 5 f) (XL.c a b f λg h=>If g.isNone (d false 8 h) (NilP g λi=>LdP (i.add 2) h λj=>Yo.c j b h λk l m=>d k l m))
theorem W6.o {a b c d}(e:W6.v a b c d):W6.c a b c d:=Wa Tryz.func231 (x:=W6.h) (R0 e)
def W3.h:Hn:=.q .o3 (.q (.reg (.seq [.op,.op,.op,.op,.op,.op,.grd false 12 [.op,.op,.op,.op,.op,.op,.grd true 5 (RI.ops 5)],.op])) .l)
def W3.v (a b c d:Int)(e:Hp)(f:Bool->Hp->Prop):Prop:=Nw (.cells #[.I a,.I b] 236 (0,0)) e λg h=>Nw (.cells #[.I c,.I d] 236 (0,0)) h λi j=>LdI .i64 (g.add 0) j λk=>LdI .i64 (i.add 0) j λl=>JnB (λm n=>f m n) λo=>If (k>l) (o true j) (LdI .i64 (g.add 0) j λp=>LdI .i64 (i.add 0) j λq=>JnB (λr s=>o r s) λt=>If (p==q) (LdI .i64 (g.add 1) j λu=>LdI .i64 (i.add 1) j λv=>t (decide (u<v)) j) (t false j))
theorem W3.o {a b c d e f}(g:W3.v a b c d e f):W3.c a b c d e f:=Wa Tryz.func255 (x:=W3.h) (R0 g)
end Go.Proofs
namespace Go.Ar
open Go Go.Vc Go.Proofs
variable {U:Hp}{F:Rg}{p:Nat}{c:Cls}{ps:List (Nat×Nat)}{ss:List SpA}
def blks (ps:List (Nat×Nat)):List Nat:=ps.flatMap λx=>[x.1,x.2]
theorem U7 {ps:List (Nat×Nat)}{b:Nat}:b∈blks ps↔∃x∈ps,b=x.1\/b=x.2:=by simp[blks]
def entV:List (Nat×Nat)->List SpA->List Value
 | x::ps,s::ss=>.int .i64 (s.many:Int) :: .int .i64 (s.st:Int) :: .pointer (some ⟨x.1,0,none⟩)::entV ps ss
 | _,_=>[]
theorem Q5:∀{ps:List (Nat×Nat)} {ss:List SpA},ps.length=ss.length->(entV ps ss).length=3*ss.length
 | [],[],_=>rfl
 | x::ps,s::ss,h=>by simp only[entV,zV]at *;rw[Q5 (by omega)];omega
theorem QS:∀{ps:List (Nat×Nat)} {ss:List SpA} {i:Nat} {x:Nat×Nat} {s:SpA},ps[i]?=some x->ss[i]?=some s →
 (entV ps ss)[3*i]?=some (.int .i64 (s.many:Int))/\(entV ps ss)[3*i+1]?=some (.int .i64 (s.st:Int))/\(entV ps ss)[3*i+2]?=some (.pointer (some ⟨x.1,0,none⟩))
 | [],_,_,_,_,h,_=>by simp at h
 | _::_,[],_,_,_,_,h=>by simp at h
 | y::ps,t::ss,0,x,s,h1,h2=>by simp at h1 h2;subst h1;subst h2;simp[entV]
 | y::ps,t::ss,i+1,x,s,h1,h2=>by
  have:=QS (ps:=ps) (ss:=ss) (i:=i) (by simpa using h1) (by simpa using h2);simp only[entV];rw[show 3*(i+1)=3*i+3 by omega];simpa using this
theorem KV:∀{ps ps':List (Nat×Nat)} {ss ss':List SpA},ps.length=ss.length->entV (ps++ps') (ss++ss')=entV ps ss++entV ps' ss'
 | [],_,[],_,_=>rfl
 | x::ps,_,s::ss,_,h=>by simp only[zAF,entV,KV (ps:=ps) (ss:=ss) (by simpa using h)]
theorem Wdo:∀{ps:List (Nat×Nat)} {ss:List SpA},∀v∈entV ps ss,one1 v=true
 | [],_,v,h=>by simp[entV]at h
 | _::_,[],v,h=>by simp[entV]at h
 | x::ps,s::ss,v,h=>by
  simp only[entV,zR]at h;rcases h with rfl|rfl|rfl|h
  ·rfl
  ·rfl
  ·rfl
  ·exact Wdo v h
structure CeH (U:Hp) (F:Rg) (p:Nat) (c:Cls) (ps:List (Nat×Nat)) (ss:List SpA):Prop where
 hd:∃sl:Sl,Blk U p [.int .i64 (c.size:Int),.int .i64 (c.pages:Int),.int .i64 (c.batch:Int),.slice sl.a sl.len sl.cap]/\RowR sl 3 (entV ps ss) U (λb=>F b/\b≠p/\b∉blks ps)
 sp:∀(i:Nat) (x:Nat×Nat) s,ps[i]?=some x->ss[i]?=some s->SpH U x.1 x.2 c s
 fp:F p
 fb:∀b∈blks ps,F b
 nd:(p::blks ps).Nodup
 len:ps.length=ss.length
 ok:c.ok
 srt:ss.Pairwise (λa b=>a.st<b.st)
theorem CeH.loc:Lcl λU F=>CeH U F p c ps ss:=λU σ' F G h hz hs=>by
 obtain⟨sl,hb,hr⟩:=h.hd;have keep:∀b,b<U.size->F b->σ'[b]?=U[b]? := λb hb hf=>(hs b hb hf).2;have kb:∀{b:Nat} {cs:List Value},Blk U b cs->F b->Blk σ' b cs:=by
  rintro b cs ⟨e,he⟩ hf;exact⟨e,(keep b (Blk.lt ⟨e,he⟩) hf).trans he⟩
 have lt:∀b∈blks ps,b<U.size:=by
  intro b hb;obtain⟨x,hx,hbx⟩:=U7.1 hb;obtain⟨i,hi⟩:=zM hx;have hil:=(gSi.1 hi).1;have:=(h.sp i x _ hi (gGe (by rw[←h.len];exact hil))).lt;rcases hbx with rfl|rfl
  ·exact this.1
  ·exact this.2
 refine⟨⟨sl,kb hb h.fp,RowR.loc _ _ _ _ _ _ _ hr hz λb hb hf=>⟨⟨(hs b hb hf.1).1,hf.2⟩,(hs b hb hf.1).2⟩⟩,λi x s hx hsx=>?_,(hs p hb.lt h.fp).1,λb hb=>(hs b (lt b hb) (h.fb b hb)).1,h.nd,h.len,h.ok,h.srt⟩;have h1:=h.sp i x s hx hsx;have m1:x.1∈blks ps:=U7.2 ⟨x,zD hx,.inl rfl⟩;have m2:x.2∈blks ps:=U7.2 ⟨x,zD hx,.inr rfl⟩;obtain⟨cp,hc,hd⟩:=h1.hd;obtain⟨r,hr⟩:=h1.row;exact⟨⟨cp,hc,kb hd (h.fb _ m1)⟩,⟨r,kb hr (h.fb _ m2)⟩,h1.ne,h1.len,h1.ok,h1.fit⟩
theorem CeH.keep0 {σ':Hp}(h:CeH U F p c ps ss)(e:Ext0 U σ'):CeH σ' F p c ps ss:=Lcl.keep0 CeH.loc h e
theorem CeH.few (h:CeH U F p c ps ss):ss.length<=1024:=by
 have key:∀i (hi:i<ss.length),i<=ss[i].st:=by
  intro i
  induction i with
  | zero=>intro _;omega
  | succ i ih=>
   intro hi;have h1:=ih (by omega);have h2:=zAI.1 h.srt i (i+1) (by omega) hi (by omega);omega
 rcases zEF ss.length with h0|h0
 ·omega
 ·have hl:ss.length-1<ss.length:=by omega
  have h1:=key _ hl;have hp:ss.length-1<ps.length:=by rw[h.len];exact hl
  have h2:=(h.sp _ _ _ (gGe hp) (gGe hl)).fit;have:=h.ok.2.2.2.1;omega
structure EnR (U:Hp) (F:Rg) (p:Nat) (ps:List (Nat×Nat)) (ss:List SpA) (sl:Sl) (rb:Nat) (cs:List Value):Prop where
 a:sl.a=some ⟨rb,0,none⟩
 blk:Blk U rb cs
 fr:F rb/\rb≠p/\rb∉blks ps
 get:∀{j:Nat} {v:Value},(entV ps ss)[j]?=some v->cs[j]?=some v
 lenC:3*ss.length<=cs.length
theorem CeH.sl (h:CeH U F p c ps ss):∃sl:Sl,Blk U p [.int .i64 (c.size:Int),.int .i64 (c.pages:Int),.int .i64 (c.batch:Int),.slice sl.a sl.len sl.cap]/\sl.len=ss.length/\(ss≠[]->∃rb cs,EnR U F p ps ss sl rb cs):=by
 obtain⟨sl,hb,hr⟩:=h.hd;have hl:=hr.1;rw[Q5 h.len]at hl;refine⟨sl,hb,by omega,λhne=>?_⟩;have hpos:0<ss.length:=zBZ.2 hne;rcases hr.2 with⟨h0,_⟩|⟨b,cs,hq,ha,hbb,hle,hcl,ht⟩
 ·omega
 ·refine⟨b,cs,ha,hbb,hq,λ{j v} hj=>?_,?_⟩
  ·rw[←ht,zX]at hj;split at hj
   ·exact hj
   ·cases hj
  ·have:=congrArg List.length ht;rw[zT,Q5 h.len]at this;omega
theorem CeH.at_i (h:CeH U F p c ps ss){i:Nat}(hi:i<ss.length):∃x s,ps[i]?=some x/\ss[i]?=some s/\SpH U x.1 x.2 c s:=by
 have hi2:i<ps.length:=by rw[h.len];exact hi
 have h1:ps[i]?=some ps[i]:=gGe hi2;exact⟨_,_,h1,gGe hi,h.sp i _ _ h1 (gGe hi)⟩
theorem VW (h:CeH U F p c ps ss){R:Bool->Hp->Prop}(hR:R true U):WK.c (some ⟨p,0,none⟩) U R:=by
 refine WK.o ?_;unfold WK.v;obtain⟨sl,hb,hl,hr⟩:=h.sl;have hc:=h.ok;unfold Cls.ok at hc;refine JnB.intro (ifT rfl (nilP (hb.rI2 rfl ?_)));rw[zI (by omega)];exact hR
def I63 (x:Int):Prop:=x<=9223372036854775807
theorem Wg5 (h:CeH U F p c ps ss)(x:Int)(hx:I63 x){R:Option Addr->Hp->Prop}(h0:ofS c ss x=none->R none U)
 (h1:∀(i:Nat) sl rb cs,ofS c ss x=some i->i<ss.length->Blk U p [.int .i64 (c.size:Int),.int .i64 (c.pages:Int),.int .i64 (c.batch:Int),.slice sl.a sl.len sl.cap]->EnR U F p ps ss sl rb cs->R (some ⟨rb,3*i,none⟩) U):XL.c (some ⟨p,0,none⟩) x U R:=by
 refine XL.o ?_;unfold XL.v;obtain⟨sl,hb,hl,hr⟩:=h.sl;have hfew:=h.few;refine nilP (hb.rS rfl ?_);refine Zx (a:=.i .i64) (λ(t:Int) h'=>∃i:Nat,t=(i:Int)/\i<=ss.length/\h'=U/\∀(j:Nat) s,j<i->ss[j]?=some s->idx c s x=none) (λt _=>ss.length-t.toNat) ⟨0,rfl,by omega,rfl,λj s hj=>by omega⟩ ?_;rintro t h' ⟨i,rfl,hi,rfl,hno⟩;refine ifD (λhlt=>?_) λhge=>?_
 ·simp only at hlt;have hi':i<ss.length:=by omega
  obtain⟨xx,s,hp,hs,hS⟩:=h.at_i hi';obtain⟨rb,cs,E⟩:=hr (by rintro rfl;simp at hi');have eg:=QS hp hs;refine nilP (hb.rS rfl ?_);rw[E.a];refine ix (by omega) (by omega) ?_;rw[add_lit];refine E.blk.rP (x:=some ⟨xx.1,0,none⟩) ?_ ?_
  ·have:=E.get eg.2.2;rw[show 0+(i:Int).toNat*3+2=3*i+2 by omega];exact this
  have hfind:∀r,idx c s x=some r->ofS c ss x=some i:=by
   intro r hr';refine zBC.2 ⟨hi',?_,λj hj=>?_⟩
   ·have:ss[i]=s:=by rw[gGe hi']at hs;simpa using hs
    rw[this,hr'];rfl
   ·rw[hno j _ hj (gGe (by omega))];simp
  refine Wco hS x hx (λr hr'=>ifT rfl (nilP (hb.rS rfl ?_))) λhn=>ifF rfl ?_
  ·rw[E.a];refine ix (by omega) (by omega) ?_;rw[add_lit,show 0+(i:Int).toNat*3=3*i by omega];exact h1 i sl rb cs (hfind r hr') hi' hb E
  ·refine arN (m:=i+1) (by omega) (by omega) ⟨⟨i+1,rfl,by omega,rfl,λj s' hj hs'=>?_⟩,by omega⟩;by_cases e:j=i
   ·subst e;rw[hs]at hs';cases hs';exact hn
   ·exact hno j s' (by omega) hs'
 ·refine h0 ?_;refine zDH.2 λs hs=>?_;obtain⟨j,hj⟩:=zM hs;have:=(gSi.1 hj).1;rw[hno j s (by simp only at hge;omega) hj];rfl
theorem VF {x:Int}{k:Nat}{s:SpA}(hk:ofS c ss x=some k)(hs:ss[k]?=some s):isTk c ss x=(obj c s x).map s.is:=by
 unfold isTk;rw[hk];simp only[hs];rfl
theorem Waa {x:Int}(hk:ofS c ss x=none):isTk c ss x=none:=by unfold isTk;rw[hk]
theorem Was (h:CeH U F p c ps ss)(x:Int)(hx:I63 x){R:Bool->Int->Hp->Prop}(h1:∀b,isTk c ss x=some b->R b 0 U)(h0:isTk c ss x=none->R false 8 U):W6.c (some ⟨p,0,none⟩) x U R:=by
 refine W6.o ?_;unfold W6.v;refine VW h (ifF rfl (Wg5 h x hx (λhn=>ifT rfl (h0 (Waa hn))) λi sl rb cs hof hi hb E=>ifF rfl (nilP ?_)));obtain⟨xx,s,hp,hs,hS⟩:=h.at_i hi;have eg:=QS hp hs;refine E.blk.rP (x:=some ⟨xx.1,0,none⟩) (E.get eg.2.2) ?_;have hk:=VF hof hs;exact Wen hS x hx (λj hj=>h1 _ (by rw[hk,hj];rfl)) λhn=>h0 (by rw[hk,hn];rfl)
theorem HC {x:Int}{k:Nat}{s:SpA}(hk:ofS c ss x=some k)(hs:ss[k]?=some s):Wb3 c ss x=(idx c s x).map (at_ c s):=by
 unfold Wb3;rw[hk];simp only[hs]
theorem Wbt {x:Int}(hk:ofS c ss x=none):Wb3 c ss x=none:=by unfold Wb3;rw[hk]
theorem Wls {x:Int}{k:Nat}{s:SpA}(hk:ofS c ss x=some k)(hs:ss[k]?=some s):∃i,idx c s x=some i:=by
 obtain⟨hi,hf,_⟩:=zBC.1 hk;have:ss[k]=s:=by rw[gGe hi]at hs;simpa using hs
 rw[this]at hf;exact zBU.1 hf
theorem WkV (h:CeH U F p c ps ss)(x:Int)(hx:I63 x){R:Int->Int->Hp->Prop}(h1:∀a,Wb3 c ss x=some a->R (a:Int) 0 U)(h0:Wb3 c ss x=none->R 0 8 U):Yq.c (some ⟨p,0,none⟩) x U R:=by
 refine Yq.o ?_;unfold Yq.v;refine VW h (ifF rfl (Wg5 h x hx (λhn=>ifT rfl (h0 (Wbt hn))) λi sl rb cs hof hi hb E=>ifF rfl (nilP ?_)));obtain⟨xx,s,hp,hs,hS⟩:=h.at_i hi;have eg:=QS hp hs;obtain⟨r,hr⟩:=Wls hof hs;have hk:=HC hof hs;have hc:=h.ok;unfold Cls.ok at hc;have hrl:=((V2 (by omega)).1 hr).2.2;rw[hS.len]at hrl;have hn:=h.ok.n_le;have hfit:=hS.fit;have hm:r*c.size<=128*512:=zAJ (by omega) (by omega);refine E.blk.rP (x:=some ⟨xx.1,0,none⟩) (E.get eg.2.2) ?_;refine Wco hS x hx (λr' hr'=>?_) λhn=>by rw[hr]at hn;cases hn
 rw[hr]at hr';cases hr';refine nilP (E.blk.rI2 (x:=s.st) (E.get eg.2.1) (arN (m:=s.st*256) (by simp) (by omega) (nilP (hb.rI2 rfl ?_))));refine arN (m:=r*c.size) (by simp) (by omega) (arN (m:=at_ c s r) (by simp[at_]) (by unfold at_;omega) (h1 _ (by rw[hk,hr];rfl)))
theorem WcS {h:Hp}{rb i:Nat}{cs:List Value}{x y:Int}{z:Option Addr}{e:Nat}(hb:Blk h rb cs)(h0:cs[3*i]?=some (.int .i64 x))(h1:cs[3*i+1]?=some (.int .i64 y))(h2:cs[3*i+2]?=some (.pointer z))
 {K:Int->Int->Option Addr->Prop} (hK:K x y z):LdI .i64 (Addr.add ⟨rb,3*i,none⟩ 0) h λu=>LdI .i64 (Addr.add ⟨rb,3*i,none⟩ 1) h λv=>LdP (Addr.add ⟨rb,3*i,none⟩ 2) h λw=>K u v w:=
 hb.rI h0 (hb.rI h1 (hb.rP h2 hK))
theorem Wk6 {h:Hp}{x y:Int}{z:Option Addr}{e:Nat}{K:Addr->Hp->Prop}(hK:∀h',Ext0 h h'->Blk h' h.size [.int .i64 x,.int .i64 y,.pointer z]->K ⟨h.size,0,none⟩ h') :
 Nw (.cells #[.int .i64 0,.int .i64 0,.pointer none] e (0,0)) h λn v=>St1 (n.add 0) (.int .i64 x) v λv1=>St1 (n.add 1) (.int .i64 y) v1 λv2=>St1 (n.add 2) (.pointer z) v2 λv3=>K n v3:=by
 refine nw (cs:=[.int .i64 0,.int .i64 0,.pointer none]) λv hz e hb=>hb.s1 (by simp) λv1 o1 b1=>b1.s1 (by simp) λv2 o2 b2=>b2.s1 (by simp) λv3 o3 b3=>?_;refine hK v3 ?_ b3;exact Ext.fresh (Ext.fresh (Ext.fresh e o1.ext λi hi=>by omega) o2.ext λi hi=>by omega) o3.ext λi hi=>by omega
def runV (c:Cls)(l:List Nat):List Value:=l.flatMap λ(s:Nat)=>[.int .i64 (s:Int),.int .i64 (c.pages:Int)]
theorem Wjk (c:Cls)(l:List Nat):(runV c l).length=2*l.length:=by
 induction l with
 | nil=>rfl
 | cons x l ih=>simp only[runV,zBR,zQ,zV,zAK]at *;omega
theorem WmO (hc:c.ok){R:Option Addr->Int->Hp->Prop}(hR:∀σ' p,Ext0 U σ'->U.size<=p->p<σ'.size->CeH σ' (· = p) p c [] []->R (some ⟨p,0,none⟩) 0 σ'):Qe.c c.size c.pages c.batch U R:=by
 refine Qe.o ?_;unfold Qe.v;refine nw (cs:=[.int .i64 c.size,.int .i64 c.pages,.int .i64 c.batch]) λv hz e hb=>?_;refine hb.rI rfl (hb.rI rfl (hb.rI rfl (Wbr _ _ _ (λc' hc' e1 e2 e3 v1 ex=>?_) λhno=>?_)))
 case refine_2=>rw[(Wdi c).2 hc]at hno;cases hno
 have hb1:=ex.blk hb id;refine ifF rfl (hb1.rI rfl (hb1.rI rfl (hb1.rI rfl (nw (cs:=[.int .i64 c.size,.int .i64 c.pages,.int .i64 c.batch,.slice none 0 0]) λv2 hz2 ex2 hb2=>?_))));exact hR _ _ ((e.trans ex).trans ex2) (by have:=ex.1;omega) (by omega) ⟨⟨⟨none,0,0⟩,hb2,RowR.nil _ _ _ _⟩,by simp,rfl,by simp[blks],by simp[blks],rfl,hc,by simp⟩
theorem Whc (a b a' b':Nat){R:Bool->Hp->Prop}(hR:∀σ',Ext0 U σ'->R (decide (a>a')||(a==a'&&decide (b<b'))) σ'):W3.c (a:Int) (b:Int) (a':Int) (b':Int) U R:=by
 refine W3.o ?_;unfold W3.v;refine nw (cs:=[.int .i64 a,.int .i64 b]) λv hz e hb=>nw (cs:=[.int .i64 a',.int .i64 b']) λv1 hz1 e1 hb1=>?_;have hb':=e1.blk hb id;have hR':=hR _ (e.trans e1);refine hb'.rI rfl (hb1.rI rfl (JnB.intro (ifD (λh=>?_) λh=>?_)))
 ·have:decide (a>a')=true:=by simpa using h
  rw[this,Bool.true_or]at hR';exact hR'
 ·have:decide (a>a')=false:=by simpa using h
  rw[this,zCD]at hR';refine hb'.rI rfl (hb1.rI rfl (JnB.intro ?_));rw[beqN];refine iff_ (λhe=>?_) λhe=>?_
  ·rw[he,zEI]at hR';refine hb'.rI rfl (hb1.rI rfl ?_);have:decide ((b:Int)<(b':Int))=decide (b<b'):=by rw[decide_eq_decide];omega
   rw[this];exact hR'
  ·rw[he,zDA]at hR';exact hR'
theorem QR:∀{i k:Nat},Zg ss i=some k->k<i/\∃s,ss[k]?=some s/\s.many<s.tk.length
 | 0,_,h=>by simp[Zg]at h
 | i+1,k,h=>by
  have up:Zg ss i=some k->k<i+1/\∃s,ss[k]?=some s/\s.many<s.tk.length:=λh=>by
   have:=QR h;exact⟨by omega,this.2⟩
  simp only[Zg]at h;split at h
  ·rename_i x hx;split at h
   ·rename_i hlt;have here:i<i+1/\∃s,ss[i]?=some s/\s.many<s.tk.length:=⟨by omega,x,hx,hlt⟩;split at h
    ·rename_i j hj;split at h
     ·split at h
      ·cases h;exact here
      ·cases h;exact up hj
     ·cases h;exact here
    ·cases h;exact here
   ·exact up h
  ·exact up h
theorem GK {s:SpA}(h:s.many<s.tk.length):∃i,low s=some i/\i<s.tk.length/\s.is i=false:=by
 unfold low;cases hf:s.tk.findIdx? (· == false)with
 | some i=>
  obtain⟨hi,hb,_⟩:=zBC.1 hf;refine⟨i,rfl,hi,?_⟩;have:s.tk[i]=false:=by simpa using hb
  simp[SpA.is,zL,gGe hi,this]
 | none=>
  exfalso;have h1:=zDH.1 hf;have:s.many=s.tk.length:=by
   unfold SpA.many;rw[List.count_eq_length];intro x hx;have:=h1 x hx;cases x
   ·simp at this
   ·rfl
  omega
theorem Wfu:∀{ps:List (Nat×Nat)} {ss:List SpA} {k:Nat} {s s':SpA},ps.length=ss.length->ss[k]?=some s->s'.st=s.st->entV ps (ss.set k s')=(entV ps ss).set (3*k) (.int .i64 (s'.many:Int))
 | [],[],_,_,_,_,h,_=>by simp at h
 | [],_::_,_,_,_,h,_,_=>by simp at h
 | _::_,[],_,_,_,_,h,_=>by simp at h
 | x::ps,t::ss,0,s,s',_,h,e=>by simp at h;subst h;simp[entV,e]
 | x::ps,t::ss,k+1,s,s',hl,h,e=>by
  simp only[zCQ,entV];rw[Wfu (ps:=ps) (ss:=ss) (s:=s) (by simpa using hl) (by simpa using h) e];rw[show 3*(k+1)=3*k+1+1+1 by omega];simp
theorem WfN {h:Hp}{b:Nat}{cs cs':List Value}(h1:Blk h b cs)(h2:Blk h b cs'):cs=cs':=by
 obtain⟨e,he⟩:=h1;obtain⟨e',he'⟩:=h2;rw[he]at he';simp only[Option.some.injEq,Obj.cells.injEq]at he';simpa using congrArg Array.toList he'.1
theorem Qr {x:Nat×Nat}{i:Nat}(hx:ps[i]?=some x):x.1∈blks ps/\x.2∈blks ps:=
 ⟨U7.2 ⟨x,zD hx,.inl rfl⟩,U7.2 ⟨x,zD hx,.inr rfl⟩⟩
theorem WbA:∀{ps:List (Nat×Nat)},(blks ps).Nodup->∀{i j:Nat} {x y:Nat×Nat},ps[i]?=some x->ps[j]?=some y->i≠j->∀b,(b=x.1\/b=x.2)->¬(b=y.1\/b=y.2)
 | [],_,_,_,_,_,h,_,_=>by simp at h
 | z::ps,hn,i,j,x,y,h1,h2,hij=>by
  have hn':z.1∉blks ps/\z.2∉blks ps/\z.1≠z.2/\(blks ps).Nodup:=by
   simp only[blks,zBR,zAF,zBX,zq,zR,not_or]at hn;exact⟨hn.1.2,hn.2.1,hn.1.1,hn.2.2⟩
  intro b hb hb'
  match i,j,hij with
  | 0,0,h=>exact h rfl
  | 0,j+1,_=>
   simp at h1;subst h1;have:=Qr (ps:=ps) (i:=j) (by simpa using h2);rcases hb with rfl|rfl<;>rcases hb' with e|e<;>rw[e]at hn'<;>simp[this]at hn'
  | i+1,0,_=>
   simp at h2;subst h2;have:=Qr (ps:=ps) (i:=i) (by simpa using h1);rcases hb with rfl|rfl<;>rcases hb' with e|e<;>rw[←e]at hn'<;>simp[this]at hn'
  | i+1,j+1,h=>exact WbA hn'.2.2.2 (by simpa using h1) (by simpa using h2) (by omega) b hb hb'
theorem CeH.turn (h:CeH U F p c ps ss){k:Nat}{x:Nat×Nat}{s s':SpA}(hx:ps[k]?=some x)(hs:ss[k]?=some s)(hst:s'.st=s.st){σ1:Hp}(e1:Ext (λb=>b=x.1\/b=x.2) U σ1)(hS:SpH σ1 x.1 x.2 c s')
 {sl:Sl} {rb:Nat} {cs:List Value} (hb:Blk U p [.int .i64 (c.size:Int),.int .i64 (c.pages:Int),.int .i64 (c.batch:Int),.slice sl.a sl.len sl.cap]) (E:EnR U F p ps ss sl rb cs)
 {K:Hp->Prop} (hK:∀σ2,Ext F U σ2->CeH σ2 F p c ps (ss.set k s')->K σ2):St1 ⟨rb,3*k,none⟩ (.int .i64 (s'.many:Int)) σ1 K:=by
 obtain⟨sl',hb',hr⟩:=h.hd;have hsl:sl'=sl:=by
  have:=WfN hb' hb;simp at this;obtain⟨a,n,c⟩:=sl;obtain⟨a',n',c'⟩:=sl';simp at this ⊢;exact this
 subst hsl;have hm:=Qr hx;have hnd:=h.nd;simp only[zq]at hnd;have hki:=(gSi.1 hs).1;have hr1:=(RowR.loc sl' 3 (entV ps ss)).keep hr e1 λb hb hf=>λhh=>hf.2.2 (by rcases hh with rfl|rfl;exact hm.1;exact hm.2);have hb1:=e1.blk hb λhh=>hnd.1 (by rcases hh with h|h<;>rw[h];exact hm.1;exact hm.2)
 refine hr1.st (j:=3*k) (by rw[Q5 h.len];omega) (λb hba=>by rw[E.a]at hba;cases hba;rfl) λσ2 e2 hr2=>?_;have e12:Ext F U σ2:=(e1.sub λi hi=>h.fb i (by rcases hi with rfl|rfl;exact hm.1;exact hm.2)).trans (e2.sub λi hi=>hi.1);refine hK σ2 e12 ⟨⟨sl',e2.blk hb1 λhh=>hh.2.1 rfl,?_⟩,λi y t hy ht=>?_,h.fp,h.fb,h.nd,by simpa using h.len,h.ok,?_⟩
 ·rw[Wfu h.len hs hst];exact hr2
 ·have hmy:=Qr hy;have k2:SpH σ1 y.1 y.2 c t:=by
   by_cases hik:i=k
   ·subst hik;rw[hx]at hy;cases hy;rw[zK hki]at ht;cases ht;exact hS
   ·rw[zd (Ne.symm hik)]at ht;have ap:=WbA hnd.2 hy hx hik;exact(h.sp i y t hy ht).keep e1 (ap _ (.inl rfl)) (ap _ (.inr rfl))
  exact k2.keep e2 (λhh=>hh.2.2 hmy.1) (λhh=>hh.2.2 hmy.2)
 ·have:(ss.set k s').map (·.st)=ss.map (·.st):=by
   apply zm;intro i;simp only[zg];by_cases hik:i=k
   ·subst hik;rw[zK hki,hs];simp[hst]
   ·rw[zd (Ne.symm hik)]
  have h2:=h.srt;rw[←zDQ (f:=SpA.st) (R:=(· < ·))]at h2 ⊢;rw[this];exact h2
theorem Wmk (h:CeH U F p c ps ss){R:Int->Bool->Hp->Prop}(h1:∀x ss',oneS c ss=some (x,ss')->∀σ',Ext F U σ'->CeH σ' F p c ps ss'->R (x:Int) true σ')(h0:oneS c ss=none->∀σ',Ext0 U σ'->R 0 false σ') :
 YY.c (some ⟨p,0,none⟩) U R:=by
 refine YY.o ?_;unfold YY.v;obtain⟨sl,hb,hl,hr⟩:=h.sl;have hfew:=h.few;have hn:=h.ok.n_le;obtain⟨rb,cs,E⟩:∃rb cs,ss≠[]->EnR U F p ps ss sl rb cs:=by
  by_cases hne:ss=[]
  ·exact⟨0,[],λh=>absurd hne h⟩
  ·obtain⟨rb,cs,E⟩:=hr hne;exact⟨rb,cs,λ_=>E⟩
 refine nilP (hb.rS rfl ?_);refine VO (a:=.p) (bb:=.i .i64) (λ(best:Option Addr) (t:Int) h'=>∃i:Nat,t=(i:Int)/\i<=ss.length/\Ext0 U h'/\best=(Zg ss i).map λk=>⟨rb,3*k,none⟩) (λ_ t _=>ss.length-t.toNat) ⟨0,rfl,by omega,Ext.refl _ _,rfl⟩ ?_;rintro best t h' ⟨i,rfl,hi,e,rfl⟩;refine ifD (λhlt=>?_) λhge=>?_
 ·simp only at hlt;have hi':i<ss.length:=by omega
  have E:=E (by rintro rfl;simp at hi');obtain⟨xx,s,hp,hs,hS⟩:=h.at_i hi';have eg:=QS hp hs;have hsl:=hS.len;refine nilP ((e.blk hb id).rS rfl ?_);rw[E.a];refine ix (by omega) (by omega) ?_;rw[add_lit,show 0+(i:Int).toNat*3=3*i by omega];have Eb:=e.blk E.blk id;have bf:Zg ss (i+1)=if s.many<s.tk.length then(match Zg ss i with
   | some j=>match ss[j]? with
    | some y=>if Wa7 s y then some i else some j
    | none=>some i
   | none=>some i)else Zg ss i:=by
   simp only[Zg,hs];rfl
  have J:∀(r:Bool) (v:Hp),Ext0 U v->(if r then some i else Zg ss i)=Zg ss (i+1) →
   If r (Ar .i64 ((i:Int)+1) λt50=>(∃j:Nat,t50=(j:Int)/\j<=ss.length/\Ext0 U v/\some (⟨rb,3*i,none⟩:Addr)=(Zg ss j).map λk=>⟨rb,3*k,none⟩)/\ss.length-t50.toNat<ss.length-(i:Int).toNat)
    (Ar .i64 ((i:Int)+1) λt50=>(∃j:Nat,t50=(j:Int)/\j<=ss.length/\Ext0 U v/\((Zg ss i).map λk=>(⟨rb,3*k,none⟩:Addr))=(Zg ss j).map λk=>⟨rb,3*k,none⟩)/\ss.length-t50.toNat<ss.length-(i:Int).toNat):=by
   intro r v ev hr';cases r
   ·refine ifF rfl (arN (m:=i+1) (by omega) (by omega) ⟨⟨i+1,rfl,by omega,ev,?_⟩,by omega⟩);rw[←hr'];rfl
   ·refine ifT rfl (arN (m:=i+1) (by omega) (by omega) ⟨⟨i+1,rfl,by omega,ev,?_⟩,by omega⟩);rw[←hr'];rfl
  refine Jn.intro ⟨λh''=>Blk h'' rb cs,Eb,nilP ⟨_,λh'' hS=>by rw[add_lit,add_lit,hS.cell];exact E.get eg.1,nilP ⟨_,λh'' hS=>by rw[add_lit,hS.cell];exact E.get eg.2.2,?_⟩⟩⟩;refine Web (hS.keep0 e) ⟨Eb,?_⟩;refine ifD (λhlt2=>?_) λhge2=>?_
  ·have hm:s.many<s.tk.length:=by omega
   rw[zB hm]at bf;cases hbf:Zg ss i with
   | none=>
    rw[hbf]at bf J;exact ifT rfl (J true h' e bf.symm)
   | some j=>
    rw[hbf]at bf J;obtain⟨hji,y,hy,hym⟩:=QR hbf;simp only[hy]at bf;have hpj:j<ps.length:=by rw[h.len];omega
    have egj:=QS (gGe hpj) hy;have fin:W3.c (s.many:Int) (s.st:Int) (y.many:Int) (y.st:Int) h' λt46 v3=>Blk v3 rb cs ∧
     If t46 (Ar .i64 ((i:Int)+1) λt50=>(∃j:Nat,t50=(j:Int)/\j<=ss.length/\Ext0 U v3/\some (⟨rb,3*i,none⟩:Addr)=(Zg ss j).map λk=>⟨rb,3*k,none⟩)/\ss.length-t50.toNat<ss.length-(i:Int).toNat)
      (Ar .i64 ((i:Int)+1) λt50=>(∃j':Nat,t50=(j':Int)/\j'<=ss.length/\Ext0 U v3/\((some j).map λk=>(⟨rb,3*k,none⟩:Addr))=(Zg ss j').map λk=>⟨rb,3*k,none⟩)/\ss.length-t50.toNat<ss.length-(i:Int).toNat):=by
     refine Whc _ _ _ _ λv3 e3=>⟨e3.blk Eb id,J _ v3 (e.trans e3) ?_⟩;rw[bf];rfl
    refine ifF rfl (nilP (nilP ⟨?_,?_⟩))
    ·exact Eb.rI2 (E.get eg.1) (Eb.rI2 (E.get eg.2.1) ⟨Eb,Eb.rI2 (E.get egj.1) (Eb.rI2 (E.get egj.2.1) ⟨Eb,fin⟩)⟩)
    ·exact Eb.rI2 (E.get egj.1) (Eb.rI2 (E.get egj.2.1) ⟨Eb,Eb.rI2 (E.get eg.1) (Eb.rI2 (E.get eg.2.1) ⟨Eb,fin⟩)⟩)
  ·have hm:¬s.many<s.tk.length:=by omega
   rw[zA hm]at bf;exact J false h' e bf.symm
 ·have hii:i=ss.length:=by simp only at hge;omega
  subst hii;cases hbf:Zg ss ss.length with
  | none=>
   refine ifT rfl (h0 ?_ _ e);simp[oneS,best,hbf]
  | some k=>
   obtain⟨hk,s,hs,hsm⟩:=QR hbf;have E:=E (by rintro rfl;simp at hk);obtain⟨xx,s',hp,hs',hS⟩:=h.at_i hk;rw[hs]at hs';cases hs';have eg:=QS hp hs;obtain⟨r,hlow,hr1,hr2⟩:=GK hsm;have h':=h.keep0 e;have one:oneS c ss=some (at_ c s r,ss.set k (s.put r true)):=by simp[oneS,best,hbf,hs,hlow]
   have E':EnR _ F p ps ss sl rb cs:=⟨E.a,e.blk E.blk id,E.fr,E.get,E.lenC⟩;refine ifF rfl (nilP (E'.blk.rP (x:=some ⟨xx.1,0,none⟩) (E.get eg.2.2) ?_));refine WkF (hS.keep0 e) hlow λv5 e5 hS5=>nilP ?_;have hmx:=Qr hp;have nrb:¬(rb=xx.1\/rb=xx.2):=λhh=>E.fr.2.2 (by rcases hh with h|h<;>rw[h];exact hmx.1;exact hmx.2)
   have hml:=Wcd s;have hmany:=GR hr1 true;rw[hr2]at hmany;have hmany':(s.put r true).many=s.many+1:=by simp at hmany;omega
   have hsl:=hS.len;refine(e5.blk E'.blk nrb).rI2 (E.get eg.1) (arN (m:=s.many+1) (by omega) (by omega) (nilP ?_));rw[add_lit,add_lit,zo,zo,←hmany'];exact h'.turn (s':=s.put r true) hp hs rfl e5 hS5 (e.blk hb id) E' λv6 e6 h6=>h1 _ _ one v6 (e.to.trans e6) h6
theorem Whg {k:Nat}{s s':SpA}(hs:ss[k]?=some s):GW (ss.set k s')+(s.tk.length-s.many)=GW ss+(s'.tk.length-s'.many):=by
 unfold GW
 induction ss generalizing k with
 | nil=>simp at hs
 | cons x ss ih=>
  cases k with
  | zero=>simp at hs;subst hs;simp;omega
  | succ k=>
   have:=ih (by simpa using hs);simp only[zCQ,zW,zAU];omega
theorem WhG {x:Nat}{ss':List SpA}(h:oneS c ss=some (x,ss')):GW ss'+1=GW ss:=by
 unfold oneS at h;split at h
 ·rename_i k hk;obtain⟨_,s,hs,hsm⟩:=QR hk;rw[hs]at h;simp only at h;split at h
  ·rename_i i hi;cases h;obtain⟨r,hr,hrl,hri⟩:=GK hsm;rw[hi]at hr;cases hr;have h1:=Whg (s':=s.put i true) hs;have h2:=GR hrl true;rw[hri]at h2;have h3:(s.put i true).tk.length=s.tk.length:=by simp[SpA.put]
   simp at h2;omega
  ·cases h
 ·cases h
theorem CeH.room (h:CeH U F p c ps ss):GW ss<=131072:=by
 have key:∀l:List SpA,(∀s∈l,s.tk.length<=128)->GW l<=128*l.length:=by
  intro l
  induction l with
  | nil=>intro _;simp[GW]
  | cons x l ih=>
   intro hl;have h1:=hl x (by simp);have h2:=ih λs hs=>hl s (by simp[hs]);simp only[GW,zW,zAU,zV]at *;omega
 have:=key ss λs hs=>by
  obtain⟨i,hi⟩:=zM hs;have hil:=(gSi.1 hi).1;obtain⟨x,s',_,hs',hS⟩:=h.at_i hil;rw[hi]at hs';cases hs';rw[hS.len];exact h.ok.n_le
 have:=h.few;omega
theorem HZ {m:Nat}{x:Nat}{ss':List SpA}(h:oneS c ss=some (x,ss')):Q7 c (m+1) ss=(x::(Q7 c m ss').1,(Q7 c m ss').2):=by
 simp[Q7,h]
theorem Wjv (h:CeH U F p c ps ss)(m:Int)(hm:0<=m){R:Sl->Int->Hp->Prop}
 (hR:∀s σ',Ext F U σ'->RowR s 1 (ints (Q7 c m.toNat ss).1) σ' (λb=>U.size<=b)->CeH σ' (Cut F U) p c ps (Q7 c m.toNat ss).2->R s 0 σ'):Xa.c (some ⟨p,0,none⟩) m U R:=by
 refine Xa.o ?_;unfold Xa.v;have h:=CeH.loc.cut h;have hroom:=CeH.room h;refine VW h (ifF rfl (ifDF (by omega) ?_));refine Zx (a:=.s) (λ(out:Sl) h'=>∃xs ss',Ext F U h'/\RowR out 1 (ints xs) h' (λb=>U.size<=b)/\CeH h' (Cut F U) p c ps ss'/\xs.length<=m.toNat/\xs.length+GW ss'=GW ss/\Q7 c m.toNat ss=(xs++(Q7 c (m.toNat-xs.length) ss').1,(Q7 c (m.toNat-xs.length) ss').2))
  (λout _=>m.toNat-out.len) ⟨[],ss,Ext.refl _ _,RowR.nil _ _ _ _,h,by simp,by simp,by simp⟩ ?_
 rintro out h' ⟨xs,ss',e,hrow,hC,hle,hrm,htk⟩;have hlen:=hrow.lenN;refine ifD (λhlt=>?_) λhge=>?_
 ·have hsucc:m.toNat-xs.length=(m.toNat-(xs.length+1))+1:=by omega
  refine Wmk hC (λx ss2 hone v2 e2 hC2=>ifF rfl ?_) λhnone v2 e2=>ifT rfl ?_
  ·have e02:Ext F U v2:=e.trans (e2.sub λi hi=>hi.1);have hrow2:=(RowR.loc _ _ _).keep hrow e2 λb _ hb hc=>by have:=hc.2;omega
   refine hrow2.push (vs:=[.int .i64 (x:Int)]) (λb hb=>zN e02.1 hb) rfl rfl (by simp[one1]) (by omega) (by omega) λs' v4 hl' e' ho'=>?_;have hr2:=WhG hone;refine⟨⟨xs++[x],ss2,e02.newT e' λi hi=>.inr hi,by rw[KU];exact ho',CeH.loc.keep hC2 e' λb _ hb hc=>(by have:=hb.2;omega),by simp;omega,by simp;omega,?_⟩,by omega⟩;rw[htk,hsucc,HZ hone];simp
  ·have:Q7 c (m.toNat-xs.length) ss'=([],ss'):=by rw[hsucc];simp[Q7,hnone]
   rw[this]at htk;have hr:=hR out v2 (e.trans e2.to);rw[htk,zAC]at hr;exact hr ((RowR.loc _ _ _).keep0 hrow e2) (hC.keep0 e2)
 ·have hz:m.toNat-xs.length=0:=by omega
  rw[hz]at htk;have hr:=hR out h' e;rw[htk]at hr;simp only[Q7,zAC]at hr;exact hr hrow hC
theorem Wiy (h:CeH U F p c ps ss)(m:Int)(hm:m<0){R:Sl->Int->Hp->Prop}(hR:R ⟨none,0,0⟩ 1 U):Xa.c (some ⟨p,0,none⟩) m U R:=by
 refine Xa.o ?_;unfold Xa.v;exact VW h (ifF rfl (ifDT (by omega) hR))
def kps:List (Nat×Nat)->List SpA->List (Nat×Nat)
 | x::ps,s::ss=>if s.many != 0 then x::kps ps ss else kps ps ss
 | _,_=>[]
theorem HY:∀{ps:List (Nat×Nat)} {ss:List SpA},ps.length=ss.length->(kps ps ss).length=(sweep ss).length
 | [],[],_=>rfl
 | x::ps,s::ss,h=>by
  have ih:=HY (ps:=ps) (ss:=ss) (by simpa using h);simp only[kps,sweep,zCJ]at *;split<;>simp[ih]
theorem Wd8:∀{ps:List (Nat×Nat)} {ss:List SpA},(kps ps ss).Sublist ps
 | [],_=>by simp[kps]
 | _::_,[]=>by simp[kps]
 | x::ps,s::ss=>by
  simp only[kps];split
  ·exact Wd8.cons_cons x
  ·exact Wd8.cons x
theorem Wbf:∀{ps ps':List (Nat×Nat)} {ss ss':List SpA},ps.length=ss.length->kps (ps++ps') (ss++ss')=kps ps ss++kps ps' ss'
 | [],_,[],_,_=>rfl
 | x::ps,_,s::ss,_,h=>by
  simp only[zAF,kps,Wbf (ps:=ps) (ss:=ss) (by simpa using h)];split<;>rfl
theorem Whe:∀{ps:List (Nat×Nat)} {ss:List SpA} {i:Nat} {x:Nat×Nat} {s:SpA},ps.length=ss.length->(kps ps ss)[i]?=some x->(sweep ss)[i]?=some s->∃j:Nat,ps[j]?=some x/\ss[j]?=some s
 | [],[],_,_,_,_,h,_=>by simp[kps]at h
 | y::ps,t::ss,i,x,s,hl,h1,h2=>by
  have ih:=λi=>Whe (ps:=ps) (ss:=ss) (i:=i) (x:=x) (s:=s) (by simpa using hl);simp only[kps,sweep,zCJ]at h1 h2;cases hm:(t.many != 0)
  ·rw[hm]at h1 h2;obtain⟨j,h3,h4⟩:=ih i h1 h2;exact⟨j+1,by simpa using h3,by simpa using h4⟩
  ·rw[hm]at h1 h2;cases i with
   | zero=>simp at h1 h2;exact⟨0,by simp[h1],by simp[h2]⟩
   | succ i=>
    obtain⟨j,h3,h4⟩:=ih i (by simpa using h1) (by simpa[sweep]using h2);exact⟨j+1,by simpa using h3,by simpa using h4⟩
theorem Wcx (a b:List SpA):sweep (a++b)=sweep a++sweep b:=by simp[sweep]
theorem Wc4 (a b:List SpA):Z6 (a++b)=Z6 a++Z6 b:=by simp[Z6]
theorem Wex (c:Cls)(a b:List Nat):runV c (a++b)=runV c a++runV c b:=by simp[runV]
theorem Wdg {a b:List (Nat×Nat)}(h:a.Sublist b):(blks a).Sublist (blks b):=by
 induction h with
 | slnil=>exact List.Sublist.refl _
 | cons x _ ih=>exact(ih.cons _).cons _
 | cons_cons x _ ih=>exact(ih.cons_cons _).cons_cons _
theorem WcF {h:Hp}{Q:Rg}{n3:Nat}{o:Sl}{l:List Nat}{x1 x2:Nat}{s:SpA}(hb:Blk h n3 [.slice o.a o.len o.cap])(hrow:RowR o 2 (runV c l) h Q)(hQ:∀b,Q b->n3<b)(hl:l.length<=2000)(hS:SpH h x1 x2 c s){R:Bool->Hp->Prop}
 (hR:∀h' o',Ext (λb=>b=n3\/Q b) h h'->Blk h' n3 [.slice (Sl.a o') o'.len o'.cap]->RowR o' 2 (runV c (l++if s.many=0 then[s.st]else[])) h' (Grow Q h)->R (s.many==0) h') :
 V1 Tryz.prog ⟨180,#[],#[.pointer (some ⟨n3,0,none⟩)]⟩ [.agg #[.int .i64 (s.many:Int),.int .i64 (s.st:Int),.pointer (some ⟨x1,0,none⟩)]] [.one .b] h R:=by
 refine Gq (all := #[.agg #[.int .i64 (s.many:Int),.int .i64 (s.st:Int),.pointer (some ⟨x1,0,none⟩)],.pointer (some ⟨n3,0,none⟩)]) (by kernel_rfl) (by simp) ?_;refine X0.o ?_;unfold X0.v;refine nw (cs:=[.int .i64 (s.many:Int),.int .i64 (s.st:Int),.pointer (some ⟨x1,0,none⟩)]) λv hz e hb1=>?_;have hn3:=hb.lt;have hbv:=e.blk hb id;have hrow:=(RowR.loc o 2 (runV c l)).mono hrow (G:=λb=>Q b/\b<h.size) λb hb hf=>⟨hf,hb⟩;refine Jn.intro (hb1.rI2 rfl ?_);rw[Wf1];refine iff_ (λhm=>?_) λhm=>?_
 ·have hm':s.many=0:=by simpa using hm
  rw[zB hm']at hR;refine⟨λh'=>Blk h' h.size [.int .i64 (s.many:Int),.int .i64 (s.st:Int),.pointer (some ⟨x1,0,none⟩)]/\Blk h' n3 [.slice o.a o.len o.cap],⟨hb1,hbv⟩,⟨o,λh' hS=>by rw[hS.2.cell];rfl,⟨some ⟨x1,0,none⟩,λh' hS=>by rw[add_lit,hS.1.cell];rfl,?_⟩⟩⟩;refine Wnw (hS.keep0 e) λv2 e2=>⟨⟨e2.blk hb1 id,e2.blk hbv id⟩,?_⟩;have e02:=e.trans e2;have hrow2:=(RowR.loc _ _ _).keep0 hrow e02;have hlen:=hrow2.1;rw[Wjk]at hlen;refine nw (cs:=[.int .i64 (s.st:Int),.int .i64 (c.pages:Int)]) λv3 hz3 e3 hb3=>⟨⟨(e2.trans e3).blk hb1 id,(e2.trans e3).blk hbv id⟩,?_⟩;have hrow3:=(RowR.loc _ _ _).keep0 hrow2 e3;have hs2:=e02.1;refine hrow3.app (ys:=[.int .i64 (s.st:Int),.int .i64 (c.pages:Int)]) rfl rfl ?_ (by simp[one1]) ?_ ?_ zBI λs' v4 hl' e4 ho'=>?_
  ·intro j u hu;rw[add_lit,zJ,hb3.cell];exact hu
  ·simp only;have:(o.len+1)*16<=2001*16:=zAJ (by omega) (by omega);omega
  ·simp only;omega
  ·have b1:Blk v4 h.size [.int .i64 (s.many:Int),.int .i64 (s.st:Int),.pointer (some ⟨x1,0,none⟩)]:=e4.blk ((e2.trans e3).blk hb1 id) λhh=>by have:=hh.2;omega
   have b2:Blk v4 n3 [.slice o.a o.len o.cap]:=e4.blk ((e2.trans e3).blk hbv id) λhh=>by have:=hQ _ hh.1;omega
   refine⟨⟨b1,b2⟩,b2.s0 (by simp) λv5 o5 b5=>(Ws o5 b1 (by omega)).rI2 rfl ?_⟩;have e05:Ext (λb=>b=n3\/Q b) h v5:=(Ext0.to ((e.trans e2).trans e3)).trans (e4.sub λi hi=>.inr hi.1)|>.trans (o5.ext.sub λi hi=>.inl hi);rw[Wf1];refine hR v5 s' e05 b5 ?_;rw[Wex];have:runV c [s.st]=[.int .i64 (s.st:Int),.int .i64 (c.pages:Int)]:=rfl;rw[this];have k1:=(RowR.loc _ _ _).mono ho' (G:=Grow Q h) λb _ hg=>by
    rcases hg with h|h
    ·exact .inl h.1
    ·exact .inr (by omega)
   exact(RowR.loc _ _ _).keep k1 o5.ext λb _ hf he=>by
    rcases hf with h|h
    ·have:=hQ _ h;omega
    ·omega
 ·have hm':¬s.many=0:=by simpa using hm
  rw[zA hm',zAC]at hR;refine hb1.rI2 rfl ?_;rw[Wf1];exact hR v o e.to hbv ((RowR.loc _ _ _).keep0 ((RowR.loc _ _ _).mono hrow λb _ hf=>.inl hf.1) e)
def WjT (n3:Nat)(c:Cls)(l:List Nat)(h:Hp):Prop:=∃o:Sl,Blk h n3 [.slice o.a o.len o.cap]/\RowR o 2 (runV c l) h (λb=>n3<b)
theorem set3 {A D:List Value}{x y z:Value}{k:Nat}(hk:k=A.length)(hD:3<=D.length):(((A++D).set k x).set (k+1) y).set (k+2) z=A++[x,y,z]++D.drop 3:=by
 subst hk
 match D,hD with
 | d0::d1::d2::D,_=>simp[List.set_append]
theorem HU {i:Nat}{s:SpA}(hs:ss[i]?=some s):Z6 (ss.take (i+1))=Z6 (ss.take i)++(if s.many=0 then[s.st]else[]):=by
 rw[zAG,hs,Wc4]
 congr 1
 by_cases hm:s.many=0<;>simp[Z6,hm]
theorem H6 {i:Nat}{s:SpA}(hs:ss[i]?=some s):sweep (ss.take (i+1))=sweep (ss.take i)++(if s.many=0 then[]else[s]):=by
 rw[zAG,hs,Wcx]
 congr 1
 by_cases hm:s.many=0<;>simp[sweep,hm]
theorem Wb5 {i:Nat}{x:Nat×Nat}{s:SpA}(hl:ps.length=ss.length)(hx:ps[i]?=some x)(hs:ss[i]?=some s):kps (ps.take (i+1)) (ss.take (i+1))=kps (ps.take i) (ss.take i)++(if s.many=0 then[]else[x]):=by
 rw[zAG,zAG,hs,hx,Wbf (by simp[hl])]
 congr 1
 by_cases hm:s.many=0<;>simp[kps,hm]
theorem Wik (l:List SpA):(Z6 l).length<=l.length:=by unfold Z6;rw[zh];exact zAZ _ _
theorem WiP (l:List SpA):(sweep l).length<=l.length:=zAZ _ _
theorem Whn (h:CeH U F p c ps ss){sl:Sl}{rb n3:Nat}{cs:List Value}{σ1:Hp}(e1:Ext0 U σ1)(hlen:sl.len=ss.length)(hn3:U.size<=n3)(hE:ss≠[]->EnR U F p ps ss sl rb cs/\sl.len<=sl.cap/\cs.length=sl.cap*3)(h0:WjT n3 c [] σ1){R:Sl->Hp->Prop}
 (hR:∀h' sl',Ext (λb=>F b/\b≠p/\b∉blks ps\/n3<=b) σ1 h'->WjT n3 c (Z6 ss) h'->(sl'=sl/\Z6 ss=[]/\sweep ss=ss/\kps ps ss=ps/\Ext (λb=>n3<=b) σ1 h'\/(RowR sl' 3 (entV (kps ps ss) (sweep ss)) h' (λb=>F b/\b≠p/\b∉blks ps)))->R sl' h') :
 Wf.c sl ⟨180,#[],#[.pointer (some ⟨n3,0,none⟩)]⟩ σ1 R:=by
 refine Wf.o ?_;unfold Wf.v;refine Wi.o ?_;unfold Wi.v;have hfew:=h.few;have hpl:=h.len;refine Zx (a:=.i .i64) (λ(t:Int) h'=>∃i:Nat,t=(i:Int)/\i<=ss.length/\Ext (λb=>n3<=b) σ1 h'/\WjT n3 c [] h'/\Z6 (ss.take i)=[]/\sweep (ss.take i)=ss.take i/\kps (ps.take i) (ss.take i)=ps.take i) (λt _=>ss.length-t.toNat) ⟨0,rfl,by omega,Ext.refl _ _,h0,by simp[Z6],by simp[sweep],by simp[kps]⟩ ?_;rintro t h' ⟨i,rfl,hi,e,⟨o,hbo,hro⟩,q1,q2,q3⟩;have eo:∀{v:Hp},Ext (λb=>n3<=b) σ1 v->Ext (λb=>n3<=b) U v:=λe=>e1.to.trans e;refine ifD (λhlt=>?_) λhge=>?_
 ·have hi':i<ss.length:=by omega
  obtain⟨E,hcap,hcl⟩:=hE (by rintro rfl;simp at hi');obtain⟨xx,s,hp,hs,hS⟩:=h.at_i hi';have eg:=QS hp hs;have hrl:=E.blk.lt;have hSl:=hS.lt;rw[E.a];refine ix (by omega) (by omega) ?_;rw[add_lit,show 0+(i:Int).toNat*3=3*i by omega];refine WcS (e:=0) ((eo e).blk E.blk (by omega)) (E.get eg.1) (E.get eg.2.1) (E.get eg.2.2) ?_;have hn3h:n3<h'.size:=hbo.lt;refine WcF hbo hro (λb h=>h) (by simp) (hS.keep (eo e) (by omega) (by omega)) λh2 o2 e2 hb2 hr2=>?_;have e2:Ext (λb=>n3<=b) h' h2:=e2.sub λb hb=>by omega
  have hr2:=(RowR.loc _ _ _).mono hr2 (G:=λb=>n3<b) λb _ hb=>by
   rcases hb with h|h
   ·exact h
   ·omega
  refine iff_ (λhm=>?_) λhm=>?_
  ·-- the first that goes
   have hm':s.many=0:=by simpa using hm
   rw[zB hm',zBX]at hr2;have hne1:((i:Int)==(-1))=false:=by rw[zAA];omega
   show If ((i:Int)==(-1)) _ _;refine ifF hne1 (arN (m:=i+1) (by omega) (by omega) ?_);have q1':Z6 (ss.take (i+1))=[s.st]:=by rw[HU hs,q1,zB hm'];rfl
   have q2':sweep (ss.take (i+1))=ss.take i:=by rw[H6 hs,q2,zB hm',zAC]
   have q3':kps (ps.take (i+1)) (ss.take (i+1))=ps.take i:=by rw[Wb5 hpl hp hs,q3,zB hm',zAC]
   have hke:∀k,k<=ss.length->(entV (kps (ps.take k) (ss.take k)) (sweep (ss.take k))).length=3*(sweep (ss.take k)).length:=λk _=>Q5 (HY (by simp[hpl]));have Eb2:Blk h2 rb cs:=(eo (e.trans e2)).blk E.blk (by omega);refine VO (a:=.i .i64) (bb:=.i .i64) (λ(i1 j1:Int) v=>∃j:Nat,j1=(j:Int)/\i<j/\j<=ss.length/\i1=((sweep (ss.take j)).length:Int)/\(sweep (ss.take j)).length<j/\Ext (λb=>b=rb\/n3<=b) σ1 v/\WjT n3 c (Z6 (ss.take j)) v ∧
    Blk v rb (entV (kps (ps.take j) (ss.take j)) (sweep (ss.take j))++cs.drop (3*(sweep (ss.take j)).length))) (λ_ j1 _=>ss.length-j1.toNat) ?_ ?_
   ·refine⟨i+1,rfl,by omega,by omega,?_,?_,(e.trans e2).sub λb hb=>.inr hb,?_,?_⟩
    ·rw[q2',zT];omega
    ·rw[q2',zT];omega
    ·rw[q1'];exact⟨o2,hb2,hr2⟩
    ·rw[q2',q3',zT,zCG (by omega)];have:entV (ps.take i) (ss.take i)++cs.drop (3*i)=cs:=by
      have h1:(entV (ps.take i) (ss.take i)).length=3*i:=by rw[Q5 (by simp[hpl]),zT];omega
      apply zm;intro k;rcases zAH k (3*i)with hk|hk
      ·rw[zf (by omega)];have h2:(entV ps ss)[k]?=(entV (ps.take i) (ss.take i))[k]? := by
        conv=>lhs;rw[←zBG i ps,←zBG i ss,KV (by simp[hpl])]
        rw[zf (by omega)]
       rw[←h2];have h3:k<(entV ps ss).length:=by rw[Q5 hpl];omega
       rw[gGe h3];exact(E.get (gGe h3)).symm
      ·rw[zn (by omega),zj,h1]
       congr 1;omega
     rw[this];exact Eb2
   ·rintro i1 j1 v ⟨j,rfl,hij,hj,rfl,hKj,ev,⟨o3,hbo3,hro3⟩,hrow⟩;have hK1:=hke j hj;have evo:Ext (λb=>b=rb\/n3<=b) U v:=e1.to.trans ev;refine ifD (λhlt2=>?_) λhge2=>?_
    ·have hj':j<ss.length:=by omega
     obtain⟨yy,u,hpy,hsu,hSu⟩:=h.at_i hj';have egu:=QS hpy hsu;have hSul:=hSu.lt;have hm1:=Qr hpy;refine ix (by omega) (by omega) ?_;rw[add_lit,show 0+(j:Int).toNat*3=3*j by omega];have get:∀d,d<3->∀w,(entV ps ss)[3*j+d]?=some w->(entV (kps (ps.take j) (ss.take j)) (sweep (ss.take j))++cs.drop (3*(sweep (ss.take j)).length))[3*j+d]?=some w:=by
      intro d hd w hw;rw[zn (by omega),zj,hK1,show 3*(sweep (ss.take j)).length+(3*j+d-3*(sweep (ss.take j)).length)=3*j+d by omega];exact E.get hw
     refine WcS (e:=0) hrow (get 0 (by omega) _ egu.1) (get 1 (by omega) _ egu.2.1) (get 2 (by omega) _ egu.2.2) (Wk6 λv5 e5 b5=>b5.rI rfl (b5.rI rfl (b5.rP rfl ?_)));have hn3v:n3<v.size:=hbo3.lt;have hcut:=(RowR.loc _ _ _).mono hro3 (G:=λb=>n3<b/\b<v.size) λb hb hf=>⟨hf,hb⟩;have hswl:=Wik (ss.take j);rw[zT]at hswl;refine WcF (e5.blk hbo3 id) ((RowR.loc _ _ _).keep0 hcut e5) (λb hb=>hb.1) (by omega) ((hSu.keep evo (λhh=>by rcases hh with h|h;exact E.fr.2.2 (h▸hm1.1);omega) (λhh=>by rcases hh with h|h;exact E.fr.2.2 (h▸hm1.2);omega)).keep0 e5) λv6 o6 e6 hb6 hr6=>?_;have hsz5:=e5.1;have hr6:=(RowR.loc _ _ _).mono hr6 (G:=λb=>n3<b) λb _ hb=>by
      rcases hb with h|h
      ·exact h.1
      ·omega
     have b6:Blk v6 v.size [.int .i64 (u.many:Int),.int .i64 (u.st:Int),.pointer (some ⟨yy.1,0,none⟩)]:=e6.blk b5 λhh=>by rcases hh with h|h;omega;have:=h.2;omega
     have hrb:rb<U.size:=E.blk.lt;have row6:=e6.blk (e5.blk hrow id) λhh=>by rcases hh with h|h;omega;have:=h.1;omega
     have ev6:Ext (λb=>b=rb\/n3<=b) σ1 v6:=(ev.trans e5.to).trans (e6.sub λb hb=>by rcases hb with h|h;omega;have:=h.1;omega);rw[←HU hsu]at hr6;have st:=H6 hsu;have kt:=Wb5 hpl hpy hsu;by_cases hum:u.many=0
     ·rw[zB hum,zAC]at st kt;have:(u.many==0)=true:=by simp[hum]
      rw[this];refine ifF rfl (arN (m:=j+1) (by omega) (by omega) ⟨⟨j+1,rfl,by omega,by omega,?_,?_,ev6,⟨o6,hb6,hr6⟩,?_⟩,by omega⟩)
      ·rw[st]
      ·rw[st];omega
      ·rw[st,kt];exact row6
     ·rw[zA hum]at st kt;have:(u.many==0)=false:=by simp[hum]
      rw[this];refine ifT rfl (b6.rI rfl (b6.rI rfl (b6.rP rfl (ix (by omega) (by omega) ?_))));rw[add_lit,show 0+((sweep (ss.take j)).length:Int).toNat*3=3*(sweep (ss.take j)).length by omega];have hlen6:(entV (kps (ps.take j) (ss.take j)) (sweep (ss.take j))++cs.drop (3*(sweep (ss.take j)).length)).length=cs.length:=by
       rw[zQ,hK1,zl];omega
      refine row6.s1 (by omega) λv7 o7 b7=>b7.s1 (by simp;omega) λv8 o8 b8=>b8.s1 (by simp;omega) λv9 o9 b9=>?_;rw[zo,set3 hK1.symm (by rw[zl];omega),List.drop_drop]at b9;have ev9:Ext (λb=>b=rb\/n3<=b) σ1 v9:=((ev6.trans (o7.ext.sub λb hb=>.inl hb)).trans (o8.ext.sub λb hb=>.inl hb)).trans (o9.ext.sub λb hb=>.inl hb);have e69:Ext (· = rb) v6 v9:=(o7.ext.trans o8.ext).trans o9.ext;refine arN (m:=(sweep (ss.take j)).length+1) (by omega) (by omega) (arN (m:=j+1) (by omega) (by omega) ⟨⟨j+1,rfl,by omega,by omega,?_,?_,ev9,⟨o6,e69.blk hb6 (by omega),(RowR.loc _ _ _).keep hr6 e69 λb _ hb he=>by omega⟩,?_⟩,by omega⟩)
      ·rw[st];simp
      ·rw[st];simp;omega
      ·rw[st,kt,KV (HY (by simp[hpl]))];simp only[zQ,zV,zAK,entV];rw[show 3*((sweep (ss.take j)).length+(0+1))=3*(sweep (ss.take j)).length+3 by omega];exact b9
    ·have hjj:j=ss.length:=by omega
     subst hjj;rw[zAT]at *;have htl:ps.take ss.length=ps:=by rw[←hpl,zAT]
     rw[htl]at hrow hK1;have hswl:=WiP ss;refine slc (by omega) (by omega) (by omega) ?_;have hK3:3*(sweep ss).length<=cs.length:=by omega
     have hlt3:(sweep ss).length<ss.length:=hKj;rw[zA (by omega)];simp only[E.a,zc,add_lit,zJ];refine⟨by simp[one1],?_⟩;simp only;have hz:(List.replicate (sl.len-(sweep ss).length) [Value.int .i64 0,.int .i64 0,.pointer none]).flatten.length=3*(sl.len-(sweep ss).length):=by
      rw[zED,zDM,zEE];simp;omega
     refine VX (o:=(sweep ss).length*3) (i:=0) hrow (by rw[hz,zQ,hK1,zl];omega) λv10 o10 b10=>?_;refine slc (lo:=0) (by omega) (by omega) (by omega) ?_;have ev10:Ext (λb=>b=rb\/n3<=b) σ1 v10:=ev.trans (o10.ext.sub λb hb=>.inl hb);refine hR v10 _ (ev10.sub λb hb=>?_) ⟨o3,Ws o10 hbo3 (by have:=E.blk.lt;omega),(RowR.loc _ _ _).keep hro3 o10.ext λb _ hb he=>by have:=E.blk.lt;omega⟩ (.inr ?_)
     ·rcases hb with rfl|h
      ·exact .inl E.fr
      ·exact .inr h
     ·refine⟨by rw[Q5 (HY hpl)];simp;omega,.inr ⟨rb,_,E.fr,?_,b10,?_,?_,?_⟩⟩
      ·simp only[E.a];split<;>simp[add_lit]
      ·simp only;omega
      ·simp only[zQ,zT,zl,hz,hK1];omega
      ·rw[Q5 (HY hpl),zo,show(sweep ss).length*3=3*(sweep ss).length by omega];rw[zt,zBQ (by rw[zT,zQ,hK1];omega),zFC,Nat.min_self];rw[zBQ (by omega),zAX (by omega)]
  ·have hm':¬s.many=0:=by simpa using hm
   rw[zA hm',zAC]at hr2;refine arN (m:=i+1) (by omega) (by omega) ⟨⟨i+1,rfl,by omega,e.trans e2,⟨o2,hb2,hr2⟩,?_,?_,?_⟩,by omega⟩
   ·rw[HU hs,q1,zA hm'];rfl
   ·rw[H6 hs,q2,zA hm',zAG,hs];rfl
   ·rw[Wb5 hpl hp hs,q3,zA hm',zAG,hp];rfl
 ·have hii:i=ss.length:=by omega
  subst hii;rw[zAT]at *;have htl:ps.take ss.length=ps:=by rw[←hpl,zAT]
  rw[htl]at q3;have hne1:((-1:Int)==(-1))=true:=rfl;refine ifT hne1 (hR h' sl (e.sub λb hb=>.inr hb) ?_ (.inl ⟨rfl,q1,q2,q3,e⟩));rw[q1];exact⟨o,hbo,hro⟩
theorem CeH.sl' (h:CeH U F p c ps ss):∃sl:Sl,Blk U p [.int .i64 (c.size:Int),.int .i64 (c.pages:Int),.int .i64 (c.batch:Int),.slice sl.a sl.len sl.cap]/\sl.len=ss.length/\RowR sl 3 (entV ps ss) U (λb=>F b/\b≠p/\b∉blks ps) ∧
 ∃rb cs,(ss≠[]->EnR U F p ps ss sl rb cs/\sl.len<=sl.cap/\cs.length=sl.cap*3):=by
 obtain⟨sl,hb,hr⟩:=h.hd;have hl:=hr.1;rw[Q5 h.len]at hl;refine⟨sl,hb,by omega,hr,?_⟩;rcases hr.2 with⟨h0,_⟩|⟨b,cs,hq,ha,hbb,hle,hcl,ht⟩
 ·exact⟨0,[],λhne=>by have:=zBZ.2 hne;omega⟩
 ·refine⟨b,cs,λ_=>⟨⟨ha,hbb,hq,λ{j v} hj=>?_,?_⟩,hle,hcl⟩⟩
  ·rw[←ht,zX]at hj;split at hj
   ·exact hj
   ·cases hj
  ·have:=congrArg List.length ht;rw[zT,Q5 h.len]at this;omega
theorem Wfl (h:CeH U F p c ps ss){R:Sl->Hp->Prop}
 (hR:∀o σ',Ext F U σ'->RowR o 2 (runV c (Z6 ss)) σ' (λb=>U.size<=b)->CeH σ' (Cut F U) p c (kps ps ss) (sweep ss)->R o σ'):WU.c (some ⟨p,0,none⟩) U R:=by
 refine WU.o ?_;unfold WU.v;have h:=CeH.loc.cut h;obtain⟨sl,hb,hl,hrow,rb,cs,hE⟩:=h.sl';refine VW h (ifF rfl (nw (cs:=[.slice none 0 0]) λv1 hz1 e1 hb1=>nilP ((e1.blk hb id).rS rfl ?_)));refine Whn h e1 hl (zC _) hE ⟨⟨none,0,0⟩,hb1,RowR.nil _ _ _ _⟩ λv2 sl' e2 ⟨o,hbo,hro⟩ hcase=>nilP ?_;have hplt:=hb.lt;have hnd:=h.nd;have hsub:=Wdg (Wd8 (ps:=ps) (ss:=ss));simp only[zq]at hnd;refine(e2.blk (e1.blk hb id) λhh=>by rcases hh with h|h;exact h.2.1 rfl;omega).s1 (by simp) λv3 o3 hb3=>?_;have hbo3:=Ws o3 hbo (by have:=hbo.lt;omega);refine hbo3.rS0 rfl (hR o v3 ?_ ((RowR.loc _ _ _).keep ((RowR.loc _ _ _).mono hro λb _ hb=>by omega) o3.ext λb _ hb he=>by omega) ?_)
 ·refine(e1.to.newT e2 λb hb=>?_).newT o3.ext λb hb=>?_
  ·rcases hb with h|h
   ·exact .inl h.1.1
   ·exact .inr h
  ·subst hb;exact .inl h.fp.1
 ·have esp:∀b,b∈blks ps->b<U.size->¬(Cut F U b/\b≠p/\b∉blks ps\/U.size<=b):=λb hb hlt hh=>by
   rcases hh with h|h
   ·exact h.2.2 hb
   ·omega
  refine⟨⟨sl',hb3,?_⟩,λi x s hx hs=>?_,h.fp,λb hb=>h.fb b (hsub.subset hb),?_,HY h.len,h.ok,h.srt.sublist zCK⟩
  ·rcases hcase with⟨rfl,_,q2,q3,ex⟩|hr
   ·rw[q2,q3];exact(RowR.loc _ _ _).keep ((RowR.loc _ _ _).keep ((RowR.loc _ _ _).keep0 hrow e1) ex λb _ hb he=>by have:=hb.1.2;omega) o3.ext λb _ hb he=>hb.2.1 he
   ·exact(RowR.loc _ _ _).keep ((RowR.loc _ _ _).mono hr λb _ hb=>⟨hb.1,hb.2.1,λhm=>hb.2.2 (hsub.subset hm)⟩) o3.ext λb _ hb he=>hb.2.1 he
  ·obtain⟨j,hxj,hsj⟩:=Whe h.len hx hs;have hS:=h.sp j x s hxj hsj;have hm:=Qr hxj;have hl:=hS.lt;exact((hS.keep0 e1).keep e2 (esp _ hm.1 hl.1) (esp _ hm.2 hl.2)).keep o3.ext (λhe=>hnd.1 (he▸hm.1)) (λhe=>hnd.1 (he▸hm.2))
  ·simp only[zq];exact⟨λhm=>hnd.1 (hsub.subset hm),hnd.2.sublist hsub⟩
theorem WmW {x:Int}{k i:Nat}{s:SpA}(hc:0<c.size)(hk:ofS c ss x=some k)(hs:ss[k]?=some s)(v:Bool)(y:Int):ofS c (ss.set k (s.put i v)) y=ofS c ss y:=by
 have hid:∀t:SpA,∀j w z,idx c (t.put j w) z=idx c t z:=λt j w z=>by unfold idx SpA.put;simp only[zBM]
 unfold ofS;have hki:=(gSi.1 hs).1;have:(ss.set k (s.put i v)).map (λs=>(idx c s y).isSome)=ss.map (λs=>(idx c s y).isSome):=by
  apply zm;intro j;simp only[zg];by_cases hjk:j=k
  ·subst hjk;rw[zK hki,hs];simp[hid]
  ·rw[zd (Ne.symm hjk)]
 have h2:∀l:List SpA,l.findIdx? (λs=>(idx c s y).isSome)=(l.map λs=>(idx c s y).isSome).findIdx? id:=λl=>by rw[List.findIdx?_map];rfl
 rw[h2,h2,this]
def AllT (c:Cls)(ss:List SpA)(xs:List Int):Prop:=(∀x∈xs,isTk c ss x=some true)/\xs.Nodup
theorem Gz {x:Int}{b:Bool}(h:isTk c ss x=some b):∃k s i,ofS c ss x=some k/\ss[k]?=some s/\obj c s x=some i/\s.is i=b:=by
 unfold isTk at h;split at h
 ·rename_i k hk;split at h
  ·rename_i s hs;cases ho:obj c s x with
   | none=>rw[ho]at h;cases h
   | some i=>rw[ho]at h;exact⟨k,s,i,hk,hs,ho,by simpa[SpA.is]using h⟩
  ·cases h
 ·cases h
theorem WbO {x:Int}{k i:Nat}{s:SpA}(hk:ofS c ss x=some k)(hs:ss[k]?=some s)(ho:obj c s x=some i):put1 c ss x=ss.set k (s.put i false):=by
 simp[put1,hk,hs,ho]
theorem Whf {x y:Int}(hc:0<c.size)(hx:isTk c ss x=some true)(hne:y≠x):isTk c (put1 c ss x) y=isTk c ss y:=by
 obtain⟨k,s,i,hk,hs,ho,_⟩:=Gz hx;rw[WbO hk hs ho];have hki:=(gSi.1 hs).1;have hof:=WmW hc hk hs false (i:=i) y;have hob:∀t:SpA,∀j w z,obj c (t.put j w) z=obj c t z:=λt j w z=>by unfold obj idx at_ SpA.put;simp only[zBM]
 cases hy:ofS c ss y with
 | none=>rw[Waa (hof.trans hy),Waa hy]
 | some m=>
  by_cases hmk:m=k
  ·subst hmk;rw[VF (hof.trans hy) (zK hki),VF hy hs,hob];cases hoy:obj c s y with
   | none=>rfl
   | some j=>
    simp only[zc,Option.some.injEq];have hij:i≠j:=λe=>by
     subst e;exact hne (((UA hc).1 hoy).1.trans ((UA hc).1 ho).1.symm)
    simp[SpA.is,SpA.put,zL,zd hij]
  ·have hml:m<ss.length:=(zBC.1 hy).1;rw[VF (hof.trans hy) ((zd (Ne.symm hmk)).trans (gGe hml)),VF hy (gGe hml)]
theorem AllT.next {x:Int}{xs:List Int}(hc:0<c.size)(h:AllT c ss (x::xs)):AllT c (put1 c ss x) xs:=by
 have hn:=zq.1 h.2;refine⟨λy hy=>?_,hn.2⟩;rw[Whf hc (h.1 x (by simp)) λe=>hn.1 (e▸hy)];exact h.1 y (by simp[hy])
theorem Wg9 {xs:List Int}(h:putE c ss xs=0):AllT c ss xs:=by
 unfold putE at h;split at h
 ·cases h
 ·rename_i h1;split at h
  ·cases h
  ·rename_i h2;simp only[zAR,not_or,zCF,zAO,Bool.not_eq_false',zP,zY]at h1 h2;refine⟨λx hx=>?_,h2.2⟩;have a:=h1 x hx;have b:=h2.1 x hx;cases ht:isTk c ss x with
   | none=>rw[ht]at a;simp at a
   | some v=>
    cases v
    ·rw[ht]at b;exact absurd rfl b
    ·rfl
theorem Wgu {sl:Sl}{xs:List Int}{X:Rg}(h:CeH U F p c ps ss)(hs:SlR sl 1 (xs.map (Value.int .i64)) U X)(hX:∀b,X b->¬F b)(hi:∀x∈xs,I63 x)(hA:AllT c ss xs)(hl:xs.length<=1000000){K:Hp->Prop}
 (hK:∀σ',Ext F U σ'->CeH σ' F p c ps (xs.foldl (put1 c) ss)->K σ') :
 Xo [(.i .i64)] (λI1=>I1 0 U) λJ3 (t49:Int) v6=>If (decide (t49<((sl.len:Nat):Int))) (Ix sl.a sl.len t49 1 λa51=>LdI .i64 a51 v6 λaddr1=>
  XL.c (some ⟨p,0,none⟩) addr1 v6 λvx v7=>NilP vx λa57=>LdP (a57.add 2) v7 λt59=>Zr.c t59 addr1 v7 λt61 v8=>NilP vx λa63=>LdI .i64 ((a63.add 0).add 0) v8 λt66=>
  Ar .i64 (t66-1) λt67=>NilP vx λa68=>St1 ((a68.add 0).add 0) (.int .i64 t67) v8 λv9=>Ar .i64 (t49+1) λt71=>J3 t71 v9) (K v6):=by
 have hlen:sl.len=xs.length:=by have:=hs.1;simp at this;omega
 have hcs:0<c.size:=by have:=h.ok.1;omega
 refine Zx (a:=.i .i64) (λ(t:Int) h'=>∃(i:Nat) (ss':List SpA),t=(i:Int)/\i<=xs.length/\Ext F U h'/\CeH h' F p c ps ss'/\AllT c ss' (xs.drop i)/\(xs.drop i).foldl (put1 c) ss'=xs.foldl (put1 c) ss) (λt _=>xs.length-t.toNat) ⟨0,ss,rfl,by omega,Ext.refl _ _,h,by simpa using hA,by simp⟩ ?_;rintro t h' ⟨i,ss',rfl,hil,e,hC,hA',hf⟩;refine ifD (λhlt=>?_) λhge=>?_
 ·have hi':i<xs.length:=by omega
  have hx:xs[i]?=some xs[i]:=gGe hi';have hd:xs.drop i=xs[i]::xs.drop (i+1):=zBY hi';rw[hd]at hA' hf;refine((SlR.loc _ _ _).keep hs e λb _ hb hF=>hX b hb hF).ixI hx ?_;obtain⟨k,s,j,hk,hss,ho,hit⟩:=Gz (hA'.1 xs[i] zBA);have hix:=hi xs[i] (zk hi');refine Wg5 hC xs[i] hix (λhn=>by rw[hk]at hn;cases hn) λk' sl' rb cs hof hkl hb E=>nilP ?_;rw[hk]at hof;cases hof;obtain⟨yy,s',hp,hs',hS⟩:=hC.at_i hkl;rw[hss]at hs';cases hs';have eg:=QS hp hss;have hj:=((UA hcs).1 ho).2;refine E.blk.rP (x:=some ⟨yy.1,0,none⟩) (E.get eg.2.2) ?_;refine Wlt hS hix ho hit λv8 e8 hS8=>nilP ?_;have hmx:=Qr hp;have nrb:¬(rb=yy.1\/rb=yy.2):=λhh=>E.fr.2.2 (by rcases hh with h|h<;>rw[h];exact hmx.1;exact hmx.2)
  have hml:=Wcd s;have hmany:=GR hj false;rw[hit]at hmany;have hsl:=hS.len;have hnl:=hS.ok.n_le;have hmany':((s.put j false).many:Int)=s.many-1:=by simp at hmany;omega
  refine(e8.blk E.blk nrb).rI2 (E.get eg.1) (ar (by omega) (by omega) (nilP ?_));simp only[add_lit,zo];rw[←hmany'];refine hC.turn (s':=s.put j false) hp hss rfl e8 hS8 hb E λv9 e9 hC9=>?_;refine arN (m:=i+1) (by omega) (by omega) ⟨⟨i+1,_,rfl,by omega,e.trans e9,hC9,?_,?_⟩,by omega⟩
  ·have:=AllT.next hcs hA'
   rwa [WbO hk hss ho]at this
  ·rw[zAB,WbO hk hss ho]at hf;exact hf
 ·have:i=xs.length:=by omega
  subst this;rw[List.drop_length,List.foldl_nil]at hf;subst hf;exact hK h' e hC
theorem WlT (h:CeH U F p c ps ss){sl:Sl}{xs:List Int}{X:Rg}(hs:SlR sl 1 (xs.map (Value.int .i64)) U X)(hX:∀b,X b->¬F b)(hi:∀x∈xs,I63 x)(hl:xs.length<=1000000)(hcap:sl.len<=sl.cap){R:Sl->Int->Hp->Prop}
 (h0:putE c ss xs≠0->R ⟨none,0,0⟩ (putE c ss xs) U)
 (h1:putE c ss xs=0->∀o σ',Ext F U σ'->RowR o 2 (runV c (Z6 (xs.foldl (put1 c) ss))) σ' (λb=>U.size<=b)->CeH σ' (Cut F U) p c (kps ps (xs.foldl (put1 c) ss)) (sweep (xs.foldl (put1 c) ss))->R o 0 σ') :
 YP.c (some ⟨p,0,none⟩) sl U R:=by
 refine YP.o ?_;unfold YP.v;have hlen:sl.len=xs.length:=by have:=hs.1;simp at this;omega
 refine VW h (ifF rfl ?_);have tw:∀i,(xs.take i).any (λx=>isTk c ss x==some false)=true\/¬(xs.take i).Nodup->(∀x∈xs,(isTk c ss x).isSome=true)->putE c ss xs=9:=by
  intro i hb hall;unfold putE;rw[zA,zB]
  ·rcases hb with hb|hb
   ·rw[zz]at hb;obtain⟨x,hx,hx2⟩:=hb;have:xs.any (λx=>isTk c ss x==some false)=true:=zz.2 ⟨x,zCP hx,hx2⟩;rw[this];rfl
   ·have:¬xs.Nodup:=λhn=>hb (hn.sublist (zGB _ _));simp[this]
  ·simp only[zCF,zAO];intro x hx;have:=hall x hx;cases ht:isTk c ss x
   ·rw[ht]at this;cases this
   ·simp
 refine VO (a:=.b) (bb:=.i .i64) (λ(tw:Bool) (t:Int) h'=>∃i:Nat,t=(i:Int)/\i<=xs.length/\h'=U/\(∀x∈xs.take i,(isTk c ss x).isSome=true)/\(tw=true↔(xs.take i).any (λx=>isTk c ss x==some false)=true\/¬(xs.take i).Nodup)) (λ_ t _=>xs.length-t.toNat)
  ⟨0,rfl,by omega,rfl,by simp,by simp⟩ ?_
 rintro tw' t h' ⟨i,rfl,hil,rfl,hsome,htw⟩;refine ifD (λhlt=>?_) λhge=>?_
 ·have hi':i<xs.length:=by omega
  have hx:xs[i]?=some xs[i]:=gGe hi';have hix:=hi xs[i] (zk hi');have htk:xs.take (i+1)=xs.take i++[xs[i]]:=by rw[zAG,hx];rfl
  refine hs.ixI hx (Was h xs[i] hix (λb hb=>ifF rfl ?_) λhn=>ifT rfl ?_)
  ·have hsome':∀x∈xs.take (i+1),(isTk c ss x).isSome=true:=by
    rw[htk];intro x hx;rcases zS.1 hx with h1|h1
    ·exact hsome x h1
    ·simp at h1;subst h1;rw[hb];rfl
   have fin:∀r1:Bool,(r1=true↔(xs.take (i+1)).any (λx=>isTk c ss x==some false)=true\/¬(xs.take (i+1)).Nodup)->Ar .i64 ((i:Int)+1) λt45=>
    (∃j:Nat,t45=(j:Int)/\j<=xs.length/\h'=h'/\(∀x∈xs.take j,(isTk c ss x).isSome=true)/\(r1=true↔(xs.take j).any (λx=>isTk c ss x==some false)=true\/¬(xs.take j).Nodup))/\xs.length-t45.toNat<xs.length-(i:Int).toNat:=
    λr1 hr1=>arN (m:=i+1) (by omega) (by omega) ⟨⟨i+1,rfl,by omega,rfl,hsome',hr1⟩,by omega⟩
   have hnd:∀y:Int,(xs.take i++[y]).Nodup↔(xs.take i).Nodup/\y∉xs.take i:=λy=>by
    rw[zBN];constructor
    ·exact λh=>⟨h.1,λhm=>h.2.2 y hm y (by simp) rfl⟩
    ·exact λh=>⟨h.1,by simp,λa ha z hz e=>by simp at hz;subst hz;exact h.2 (e▸ha)⟩
   have ex:(xs.take (i+1)).any (λx=>isTk c ss x==some false)=true\/¬(xs.take (i+1)).Nodup↔(tw'=true\/b=false)\/xs[i]∈xs.take i:=by
    rw[htk,hnd,List.any_append,htw];simp only[List.any_cons,List.any_nil,Bool.or_false,zAR,hb];have hbb:((some b==some false)=true)↔b=false:=by cases b<;>simp
    rw[hbb];constructor
    ·rintro((h|h)|h)
     ·exact .inl (.inl (.inl h))
     ·exact .inl (.inr h)
     ·by_cases hn:(xs.take i).Nodup
      ·by_cases hm:xs[i]∈xs.take i
       ·exact .inr hm
       ·exact absurd ⟨hn,hm⟩ h
      ·exact .inl (.inl (.inr hn))
    ·rintro(((h|h)|h)|h)
     ·exact .inl (.inl h)
     ·exact .inr λhh=>h hh.1
     ·exact .inl (.inr h)
     ·exact .inr λhh=>hh.2 h
   have J1:∀r:Bool,(r=true↔tw'=true\/b=false)->JnB (λr1 v4=>Ar .i64 ((i:Int)+1) λt45=>
    (∃j:Nat,t45=(j:Int)/\j<=xs.length/\v4=h'/\(∀x∈xs.take j,(isTk c ss x).isSome=true)/\(r1=true↔(xs.take j).any (λx=>isTk c ss x==some false)=true\/¬(xs.take j).Nodup))/\xs.length-t45.toNat<xs.length-(i:Int).toNat) λJ2=>
    If r (J2 true h') (SlcL sl 1 0 (i:Int) (sl.cap:Nat) λt41=>Wo.c t41 xs[i] h' λt43 v5=>J2 t43 v5):=by
    intro r hr;refine JnB.intro ?_;cases r
    ·refine ifF rfl ?_;refine slc (lo:=0) (by omega) (by omega) (by omega) ?_;have hsub:SlR ⟨if sl.cap=0 then sl.a else sl.a.map (·.add (0*1)),i-0,sl.cap-0⟩ 1 ((xs.take i).map (Value.int .i64)) h' X:=by
      refine⟨by simp;omega,?_⟩;rcases hs.2 with h0|⟨b',o',cs',hf',ha',hb',hc'⟩
      ·left;have:xs=[]:=by simpa using h0
       simp[this]
      ·refine .inr ⟨b',o',cs',hf',?_,hb',λj hj=>?_⟩
       ·rw[zA (by omega),ha'];simp[add_lit]
       ·simp only[zh,zT]at hj;rw[hc' j (by simp;omega),List.map_take,zX,zB (by omega)]
     refine Wdf hsub (by simp;omega) _ (fin _ ?_);rw[ex,←hr];simp
    ·refine ifT rfl (fin true ?_);rw[ex,←hr];simp
   refine JnB.intro ?_;cases tw'
   ·refine ifF rfl (J1 _ ?_);cases b<;>simp
   ·exact ifT rfl (J1 _ (by simp))
  ·have:putE c ss xs=8:=by
    unfold putE;rw[zB];exact zz.2 ⟨xs[i],zk hi',by rw[hn];rfl⟩
   have h0:=h0 (by rw[this];decide);rw[this]at h0;exact h0
 ·have:i=xs.length:=by omega
  subst this;rw[zAT]at *;cases tw'
  ·refine ifF rfl ?_;have hE:putE c ss xs=0:=by
    unfold putE;have h2:¬(xs.any (λx=>isTk c ss x==some false)=true\/¬xs.Nodup):=λhh=>by have:=htw.2 hh;cases this
    rw[zA,zA]
    ·simp only[not_or,zCF,Decidable.not_not]at h2;rw[h2.1];simp[h2.2]
    ·simp only[zCF,zAO];intro x hx;have:=hsome x hx;cases ht:isTk c ss x
     ·rw[ht]at this;cases this
     ·simp
   refine Wgu (CeH.loc.cut h) hs (λb hb hf=>hX b hb hf.1) hi (Wg9 hE) hl λv6 e6 hC6=>?_;refine Wfl hC6 λo v10 e10 hro hC10=>?_;exact h1 hE o v10 ((e6.trans e10).sub λb hb=>hb.1) ((RowR.loc _ _ _).mono hro λb _ hb=>zN e6.1 hb) (CeH.loc.mono hC10 λb _ hb=>hb.1)
  ·refine ifT rfl ?_;have h9:=tw xs.length (by rw[zAT];exact htw.1 rfl) hsome;have h0:=h0 (by rw[h9];decide);rw[h9]at h0;exact h0
theorem Weo {x y:Sl}{a o b o':Nat}{cs ds:List Value}(hx:x.a=some ⟨a,o,none⟩)(hy:y.a=some ⟨b,o',none⟩)(ha:Blk U a cs)(hb:Blk U b ds)(hne:a≠b)(hd:ds≠[]){K:Bool->Hp->Prop}(hK:K false U) :
 ExtB Tryz.prog 261 [.slice x.a x.len x.cap,.slice y.a y.len y.cap] U K:=by
 rintro w rfl;obtain⟨ea,ha⟩:=ha;obtain⟨eb,hb⟩:=hb;refine⟨false,w,?_,.refl _,hK⟩;rw[hx,hy,run_callFunc_extern Tryz.func261 (by kernel_rfl) (by kernel_rfl) (by kernel_rfl) (e:=Extern.SlicesOverlaps.overlaps #[232,232] #[4]) (by kernel_rfl)];have:=Lib.run_overlaps_apart (P:=Tryz.prog) w 232 4 239 Tryz.underlying232 3 Tryz.sizeOf239
  ⟨a,o,none⟩ ⟨b,o',none⟩ x.len x.cap y.len y.cap hne ea eb cs.length ds.length (by simp[World.shape?,ha]) (by simp[World.shape?,hb]) (by simpa using hd) (by simp[World.frozen?,ha]) (by simp[World.frozen?,ha])
 rw[this];rfl
theorem WiE {Q:Rg}{s:Sl}{xs:List Value}{i m vb:Nat}{x y z:Value}(h:RowR s 3 xs U Q)(hlen:s.len=m)(hm:m<=2000)(hi:i<=m)(hv:Blk U vb [x,y,z])(hvb:¬Q vb)(h1:∀v∈xs,one1 v=true)(h2:one1 x=true/\one1 y=true/\one1 z=true)
 {R:Sl->Hp->Prop} (hR:∀s' σ',Ext Q U σ'->RowR s' 3 (xs.take (3*i)++[x,y,z]++xs.drop (3*i)) σ' (Grow Q U)->R s' σ') :
 Wg.c s (i:Int) ⟨some ⟨vb,0,none⟩,1,1⟩ U R:=by
 refine Wg.o ?_;unfold Wg.v;have hxl:=h.1;have hcap:s.len<=s.cap:=by
  rcases h.2 with⟨h0,h0'⟩|⟨b,cs,_,_,_,hle,_⟩
  ·omega
  ·exact hle
 have hrd:Rd U (some ⟨vb,0,none⟩) [x,y,z]:=by
  intro j u hu;rw[add_lit,zJ,hv.cell];exact hu
 have ho:∀v∈[x,y,z],one1 v=true:=by simp[h2]
 refine slc (by omega) (by omega) (by omega) (ifF rfl (iff_ (λhe=>?_) λhe=>?_))
 ·have hie:i=m:=by
   have:(i:Int)=((s.len:Nat):Int):=by simpa using he
   omega
  refine h.app (ys:=[x,y,z]) rfl rfl hrd ho (by first|omega | (simp only;omega)) (by first|omega | (simp only;omega)) zBI λs' h' hl' e' ho'=>hR s' h' e' ?_
  rw[zAX (by omega),List.drop_of_length_le (by omega),zAC];exact ho'
 ·have hie:i<m:=by
   have:¬(i:Int)=((s.len:Nat):Int):=by simpa using he
   omega
  obtain⟨b,cs,hQ,ha,hb,hle,hcl,ht⟩:∃b cs,Q b/\s.a=some ⟨b,0,none⟩/\Blk U b cs/\s.len<=s.cap/\cs.length=s.cap*3/\cs.take xs.length=xs:=by
   rcases h.2 with⟨h0,_⟩|h
   ·omega
   ·exact h
  have hbv:vb≠b:=λe=>hvb (e▸hQ);have hxcs:∀j v,xs[j]?=some v->cs[j]?=some v:=λj v hj=>by
   rw[←ht,zX]at hj;split at hj
   ·exact hj
   ·cases hj
  refine arN (m:=m+1) (by first|omega | (simp only;omega)) (by omega) (ifD (λhgt=>?_) λhle2=>?_)
  ·-- no room: a new row
   refine slc (lo:=0) (by omega) (by omega) (by omega) (arN (m:=m+1) (by first|omega | (simp only;omega)) (by omega) (arN (m:=m+1-i) (by omega) (by omega) ?_))
   have hcz:¬s.cap=0:=by omega
   rw[zA hcz];simp only[ha,zc,add_lit,zDK,zo,Nat.sub_zero];refine⟨by omega,xs.take (3*i),by rw[zT];simp only;omega,?_,by simp[one1],by simp only;omega,by simp only;omega,by omega,λhin=>by simp only at hin;omega,λ_ cc hcc=>?_⟩
   ·intro j v hj;rw[add_lit,zJ,hb.cell];rw[zX]at hj;split at hj
    ·exact hxcs j v hj
    ·cases hj
   simp only[iTn]at hcc ⊢;have hi1:i+(m+1-i)=m+1:=by omega
   rw[hi1]at hcc ⊢;refine nw λv2 hz2 e2 hb2=>?_;have hzl:∀k,(List.replicate k [Value.int .i64 0,.int .i64 0,.pointer none]).flatten.length=3*k:=λk=>by
    rw[zED,zDM,zEE];simp;omega
   have htl:(xs.take (3*i)).length=3*i:=by rw[zT];omega
   refine slc (by first|omega | (simp only;omega)) (by first|omega | (simp only;omega)) (by first|omega | (simp only;omega)) ?_
   have hv2:=e2.blk hv id;have n1:(if cc=i then(some ⟨U.size,0,none⟩:Option Addr)else(some ⟨U.size,0,none⟩:Option Addr).map (·.add (i*3)))=some ⟨U.size,i*3,none⟩:=by
    have:¬cc=i:=by omega
    rw[zA this];simp[add_lit]
   rw[n1];refine⟨[x,y,z],by simp only;rw[zCG (by omega)];rfl,?_,ho,?_⟩
   ·intro j u hu;rw[add_lit,zJ,hv2.cell];exact hu
   simp only;refine VX (o:=i*3) (i:=0) hb2 (by simp only[zQ,htl,hzl,zV,zAK];omega) λv3 o3 b3=>?_;refine arN (m:=i+1) (by first|omega | (simp only;omega)) (by omega) (slc (by first|omega | (simp only;omega)) (by first|omega | (simp only;omega)) (by first|omega | (simp only;omega)) (slc (by omega) (by omega) (by omega) ?_))
   have hb3':Blk v3 b cs:=Ws o3 (e2.blk hb id) (by have:=hb.lt;omega);have hdl:(xs.drop (3*i)).length=3*(m-i):=by rw[zl];omega
   refine⟨xs.drop (3*i),by simp only;rw[zCG (by omega),hdl];omega,?_,λv hv=>h1 v (zCE hv),?_⟩
   ·have hci:¬s.cap=i:=by omega
    rw[zA hci];simp only[ha,zc,add_lit];intro j v hj;rw[add_lit,hb3'.cell];rw[zj]at hj;have:=hxcs _ _ hj;rw[show 0+i*3+j=3*i+j by omega];exact this
   have hbig:(xs.take (3*i)++(List.replicate (m+1-i) [Value.int .i64 0,.int .i64 0,.pointer none]).flatten++(List.replicate (cc-(m+1)) [Value.int .i64 0,.int .i64 0,.pointer none]).flatten).length=3*cc:=by
    simp only[zQ,htl,hzl];omega
   have tk:∀L:List Value,((xs.take (3*i)++(List.replicate (m+1-i) [Value.int .i64 0,.int .i64 0,.pointer none]).flatten++(List.replicate (cc-(m+1)) [Value.int .i64 0,.int .i64 0,.pointer none]).flatten).take (3*i))=xs.take (3*i):=λ_=>by
    rw[zt,zBQ (by omega),zAX (by omega)]
   have fin:∀v4,QK v3 v4 U.size->Blk v4 U.size ((xs.take (3*i)++[x,y,z])++xs.drop (3*i)++((xs.take (3*i)++(List.replicate (m+1-i) [Value.int .i64 0,.int .i64 0,.pointer none]).flatten++(List.replicate (cc-(m+1)) [Value.int .i64 0,.int .i64 0,.pointer none]).flatten).drop (3*i+3)).drop (3*(m-i)))->R ⟨some ⟨U.size,0,none⟩,m+1,cc⟩ v4:=by
    intro v4 o4 b4;refine hR _ v4 ?_ ⟨?_,.inr ⟨U.size,_,.inr (zC _),rfl,b4,by simp only;omega,?_,?_⟩⟩
    ·exact((e2.to.newT o3.ext λi hi=>by subst hi;exact .inr (zC _)).newT o4.ext λi hi=>by subst hi;exact .inr (zC _))
    ·simp only[zQ,htl,hdl,zV,zAK];omega
    ·simp only[zQ,htl,hdl,zV,zAK,zl,hzl];omega
    ·rw[zt (xs.take (3*i)++[x,y,z]),←zt,zFD];rfl
   have e3:(xs.take (3*i)++(List.replicate (m+1-i) [Value.int .i64 0,.int .i64 0,.pointer none]).flatten++(List.replicate (cc-(m+1)) [Value.int .i64 0,.int .i64 0,.pointer none]).flatten).take (i*3+0)=xs.take (3*i):=by
    rw[show i*3+0=3*i by omega];exact tk []
   rw[e3]at b3;have hlen3:(xs.take (3*i)++[x,y,z]++(xs.take (3*i)++(List.replicate (m+1-i) [Value.int .i64 0,.int .i64 0,.pointer none]).flatten++(List.replicate (cc-(m+1)) [Value.int .i64 0,.int .i64 0,.pointer none]).flatten).drop (i*3+0 + [x,y,z].length)).length=3*cc:=by
    simp only[zQ,zl,htl,hzl,zV,zAK];omega
   by_cases hci:cc=i+1
   ·exfalso;omega
   ·rw[zA hci];simp only[zc,add_lit,zJ];refine VX (o:=(i+1)*3) (i:=0) b3 (by rw[hlen3,hdl];omega) λv4 o4 b4=>fin v4 o4 ?_;have q1:(i+1)*3+0=(xs.take (3*i)++[x,y,z]).length:=by rw[zQ,htl];simp;omega
    have q2:(i+1)*3+0+(xs.drop (3*i)).length=(xs.take (3*i)++[x,y,z]).length+3*(m-i):=by rw[hdl,q1]
    rw[q2,q1,zFD,List.drop_append]at b4
    ·rw[List.drop_of_length_le (show(xs.take (3*i)++[x,y,z]).length<=(xs.take (3*i)++[x,y,z]).length+3*(m-i) by omega),zBX]at b4;have q3:i*3+0 + [x,y,z].length=3*i+3:=by simp;omega
     rw[q3]at b4;have q4:(xs.take (3*i)++[x,y,z]).length+3*(m-i)-(xs.take (3*i)++[x,y,z]).length=3*(m-i):=by omega
     rw[q4]at b4;exact b4
    ·rfl
  ·-- room: the rest moves
   have hle3:m+1<=s.cap:=by omega
   have hcz:¬s.cap=0:=by omega
   have hci:¬s.cap=i:=by omega
   refine arN (m:=m+1) (by first|omega | (simp only;omega)) (by omega) (slc (lo:=0) (by omega) (by omega) (by omega) ?_)
   rw[zA hcz];simp only[ha,zc,add_lit,zDK,zo,Nat.sub_zero];refine arN (m:=i+1) (by first|omega | (simp only;omega)) (by omega) (slc (by first|omega | (simp only;omega)) (by first|omega | (simp only;omega)) (by first|omega | (simp only;omega)) ?_)
   have hxcs':cs.take (3*m)=xs:=by rw[←hlen,show 3*s.len=xs.length by omega];exact ht
   have na:∃o',(if s.cap=i+1 then(some ⟨b,0,none⟩:Option Addr)else(some ⟨b,0,none⟩:Option Addr).map (·.add ((i+1)*3)))=some ⟨b,o',none⟩:=by
    split
    ·exact⟨0,rfl⟩
    ·exact⟨_,by simp[add_lit];rfl⟩
   obtain⟨o',na⟩:=na;refine Weo (x:=⟨some ⟨vb,0,none⟩,1,1⟩) (a:=vb) (o:=0) (b:=b) rfl na hv hb hbv (λe=>by rw[e]at hcl;simp at hcl;omega) (ifT rfl ?_);refine arN (m:=i+1) (by first|omega | (simp only;omega)) (by omega) (slc (by first|omega | (simp only;omega)) (by first|omega | (simp only;omega)) (by first|omega | (simp only;omega)) (slc (by first|omega | (simp only;omega)) (by first|omega | (simp only;omega)) (by first|omega | (simp only;omega)) ?_))
   have hne1:¬s.cap=i+1:=by omega
   rw[zA hne1,zA hci];simp only[zc,add_lit,zJ];have hdl:(xs.drop (3*i)).length=3*(m-i):=by rw[zl];omega
   refine⟨xs.drop (3*i),by simp only;rw[Nat.min_eq_right (by omega),hdl];omega,?_,λv hv=>h1 v (zCE hv),?_⟩
   ·intro j v hj;rw[add_lit,hb.cell];rw[zj]at hj;have:=hxcs _ _ hj;rw[show i*3+j=3*i+j by omega];exact this
   refine VX (o:=(i+1)*3) (i:=0) hb (by rw[hdl];omega) λv3 o3 b3=>?_;refine slc (by first|omega | (simp only;omega)) (by first|omega | (simp only;omega)) (by first|omega | (simp only;omega)) ?_
   rw[zA hci];simp only[zc,add_lit,zJ];have hv3:=Ws o3 hv hbv;refine⟨[x,y,z],by simp only;rw[zCG (by omega)];rfl,?_,ho,?_⟩
   ·intro j u hu;rw[add_lit,zJ,hv3.cell];exact hu
   have hl3:(cs.take ((i+1)*3+0)++xs.drop (3*i)++cs.drop ((i+1)*3+0+(xs.drop (3*i)).length)).length=cs.length:=by
    simp only[zQ,zT,zl,hdl];omega
   refine VX (o:=i*3) (i:=0) b3 (by rw[hl3];simp;omega) λv4 o4 b4=>?_;have a1:(cs.take ((i+1)*3+0)).length=3*i+3:=by rw[zT];omega
   have htl:(xs.take (3*i)).length=3*i:=by rw[zT];omega
   have p1:(cs.take ((i+1)*3+0)++xs.drop (3*i)++cs.drop ((i+1)*3+0+(xs.drop (3*i)).length)).take (i*3+0)=xs.take (3*i):=by
    rw[zt,zBQ (by omega),zFC,zCG (by omega),←hxcs',zFC,zCG (by omega)]
    congr 1;omega
   have p2:(cs.take ((i+1)*3+0)++xs.drop (3*i)++cs.drop ((i+1)*3+0+(xs.drop (3*i)).length)).drop (i*3+0 + [x,y,z].length)=xs.drop (3*i)++cs.drop ((i+1)*3+0+(xs.drop (3*i)).length):=by
    rw[zt,List.drop_left'];rw[a1];simp;omega
   rw[p1,p2,←zt]at b4;refine hR _ v4 ((Ext.of_only (F:=Q) o3 hQ).trans (Ext.of_only o4 hQ)) ⟨?_,.inr ⟨b,_,.inl hQ,rfl,b4,(by first|omega | (simp only;omega)),?_,?_⟩⟩
   ·simp only[zQ,htl,zV,zAK,hdl];omega
   ·simp only[zQ,htl,zl,zV,zAK,hdl];omega
   ·rw[zFD];rfl
def Zi (ss:List SpA)(st:Nat):Nat:=(ss.takeWhile (λs=>s.st<st)).length
theorem H5 (l:List SpA)(P:SpA->Bool):l.takeWhile P=l.take (l.takeWhile P).length/\l.dropWhile P=l.drop (l.takeWhile P).length:=by
 induction l with
 | nil=>simp
 | cons x l ih=>
  simp only[zEJ,zGC];cases P x
  ·simp
  ·simp only[zO,zV,zCR,zFE];exact⟨by rw[←ih.1],ih.2⟩
theorem WaL (c:Cls)(ss:List SpA)(st:Nat):addS c ss st=ss.take (Zi ss st)++⟨st,List.replicate c.n false⟩::ss.drop (Zi ss st):=by
 have:=H5 ss (λs=>decide (s.st<st));unfold addS Zi;rw[this.2,←this.1]
theorem HW (hs:ss.Pairwise (λa b=>a.st<b.st))(st:Nat):Zi ss st<=ss.length/\∀(i:Nat) s,ss[i]?=some s->(s.st<st↔i<Zi ss st):=by
 unfold Zi
 induction ss with
 | nil=>simp
 | cons x ss ih=>
  have hp:=zAY.1 hs;obtain⟨h1,h2⟩:=ih hp.2;simp only[zEJ];by_cases hx:x.st<st
  ·simp only[hx,decide_true,zO,zV];refine⟨by omega,λi s hi=>?_⟩;cases i with
   | zero=>simp at hi;subst hi;simp[hx]
   | succ i=>have:=h2 i s (by simpa using hi);omega
  ·simp only[hx,decide_false,za,zp,zAK,Nat.zero_le,Nat.not_lt_zero,iff_false,zDD];intro i s hi;cases i with
   | zero=>simp at hi;subst hi;exact hx
   | succ i=>
    have:=hp.1 s (zD (i:=i) (by simpa using hi));omega
theorem Wg3 (h:CeH U F p c ps ss){σ1:Hp}(e1:Ext0 U σ1){sl:Sl}{rb:Nat}{cs:List Value}(hl:sl.len=ss.length)(hE:ss≠[]->EnR U F p ps ss sl rb cs)(st:Nat)(hst:st<=1024){R:Int->Bool->Hp->Prop}(hR:∀σ' b,Ext0 σ1 σ'->R (Zi ss st:Int) b σ') :
 Wb.c sl (st:Int) ⟨226,#[],#[]⟩ σ1 R:=by
 refine Wb.o ?_;unfold Wb.v;have hfew:=h.few;obtain⟨hp1,hp2⟩:=HW h.srt st;have cmp:∀(k:Nat) (x:Nat×Nat) s (v:Hp) (K:Int->Hp->Prop),ps[k]?=some x->ss[k]?=some s->Ext0 σ1 v->(∀v',Ext0 v v'->K ((s.st:Int)-(st:Int)) v') →
  V1 Tryz.prog ⟨226,#[],#[]⟩ [.agg #[.int .i64 (s.many:Int),.int .i64 (s.st:Int),.pointer (some ⟨x.1,0,none⟩)],.int .i64 (st:Int)] [.one (.i .i64)] v K:=by
  intro k x s v K hx hs ev hK;refine Gq (all := #[.agg #[.int .i64 (s.many:Int),.int .i64 (s.st:Int),.pointer (some ⟨x.1,0,none⟩)],.int .i64 (st:Int)]) (by kernel_rfl) (by simp) ?_;refine YG.o ?_;unfold YG.v;have hf:=(h.sp k x s hx hs).fit;refine nw (cs:=[.int .i64 (s.many:Int),.int .i64 (s.st:Int),.pointer (some ⟨x.1,0,none⟩)]) λv1 hz e hb=>hb.rI2 rfl (ar (by omega) (by omega) (hK v1 e))
 refine VO (a:=.i .i64) (bb:=.i .i64) (λ(i j:Int) v=>∃a b:Nat,i=(a:Int)/\j=(b:Int)/\a<=Zi ss st/\Zi ss st<=b/\b<=ss.length/\Ext0 σ1 v) (λi j _=>j.toNat-i.toNat) ⟨0,ss.length,rfl,by rw[hl],by omega,hp1,by omega,Ext.refl _ _⟩ ?_;rintro i j v ⟨a,b,rfl,rfl,ha,hb,hbl,ev⟩;have ev0:Ext0 U v:=e1.trans ev;refine ifD (λhlt=>?_) λhge=>?_
 ·have hne:ss≠[]:=by rintro rfl;simp at hbl;omega
  have E:=hE hne;refine arN (m:=a+b) (by omega) (by omega) ?_;have hw:IntKind.u64.wrap ((a+b:Nat):Int)=((a+b:Nat):Int):=by
   unfold IntKind.wrap;simp[IntKind.bits,IntKind.signed];omega
  refine arW ?_;rw[hw];refine nn (by omega) ?_;have hm1:min (1:Int).toNat IntKind.u64.bits=1:=by decide
  rw[hm1,Wcl];have hmid:(((a+b:Nat):Int)/2^1)=(((a+b)/2:Nat):Int):=by omega
  refine arN (m:=(a+b)/2) hmid (by omega) ?_;have hml:(a+b)/2<ss.length:=by omega
  obtain⟨x,s,hx,hs,hS⟩:=h.at_i hml;have eg:=QS hx hs;rw[E.a];refine ix (by omega) (by omega) ?_;rw[add_lit,show 0+(((a+b)/2:Nat):Int).toNat*3=3*((a+b)/2) by omega];refine WcS (e:=0) (ev0.blk E.blk id) (E.get eg.1) (E.get eg.2.1) (E.get eg.2.2) (cmp _ x s v _ hx hs ev λv' e'=>?_);have hiff:=hp2 _ s hs;show If (decide (((s.st:Int)-(st:Int))<0)) _ _;refine ifD (λhneg=>?_) λhpos=>?_
  ·exact arN (m:=(a+b)/2+1) (by omega) (by omega) ⟨⟨_,b,rfl,rfl,by have:=hiff.1 (by omega);omega,hb,hbl,ev.trans e'⟩,by omega⟩
  ·exact⟨⟨a,_,rfl,rfl,ha,by
    apply Classical.byContradiction;intro hc;have:=hiff.2 (by omega);omega,by omega,ev.trans e'⟩,by omega⟩
 ·have hab:a=Zi ss st:=by omega
  subst hab;refine JnB.intro (ifD (λhlt2=>?_) λhge2=>hR v _ ev);have hml:Zi ss st<ss.length:=by omega
  have hne:ss≠[]:=by rintro rfl;simp at hml
  have E:=hE hne;obtain⟨x,s,hx,hs,hS⟩:=h.at_i hml;have eg:=QS hx hs;rw[E.a];refine ix (by omega) (by omega) ?_;rw[add_lit,show 0+(Zi ss st:Int).toNat*3=3*Zi ss st by omega];refine WcS (e:=0) (ev0.blk E.blk id) (E.get eg.1) (E.get eg.2.1) (E.get eg.2.2) (cmp _ x s v _ hx hs ev λv' e'=>hR v' _ (ev.trans e'))
theorem Wmq (h:CeH U F p c ps ss){st:Nat}(hf:st+c.pages<=1024){R:Int->Hp->Prop}(h9:Gs c ss st=9->∀σ',Ext0 U σ'->R 9 σ')
 (h0:Gs c ss st=0->∀σ' ps',Ext F U σ'->CeH σ' (Grow F U) p c ps' (addS c ss st)->R 0 σ'):YV.c (some ⟨p,0,none⟩) (st:Int) U R:=by
 refine YV.o ?_;unfold YV.v;have h:=CeH.loc.cut h;obtain⟨sl,hb,hl,hrow,rb,cs,hE⟩:=h.sl';have hfew:=h.few;have hc:=h.ok;have hck:=hc;unfold Cls.ok at hck;refine VW h (ifF rfl (nilP (hb.rI2 rfl (hb.rI2 rfl (hb.rI2 rfl ?_)))));refine Wl8 hc hf λv1 pn qn e1 hpn hqn hSn=>ifF rfl (nilP ((e1.blk hb id).rS rfl ?_));have hplt:=hb.lt;refine Zx (a:=.i .i64) (λ(t:Int) v=>∃i:Nat,t=(i:Int)/\i<=ss.length/\Ext0 v1 v/\∀(j:Nat) s,j<i->ss[j]?=some s->¬max s.st st-min s.st st<c.pages) (λt _=>ss.length-t.toNat) ⟨0,rfl,by omega,Ext.refl _ _,λj s hj=>by omega⟩ ?_;rintro t v ⟨i,rfl,hi,ev,hno⟩;have ev0:=e1.trans ev;refine ifD (λhlt=>?_) λhge=>?_
 ·simp only at hlt;have hi':i<ss.length:=by omega
  obtain⟨E,hcap,hcl⟩:=hE (by rintro rfl;simp at hi');obtain⟨x,s,hx,hs,hS⟩:=h.at_i hi';have eg:=QS hx hs;have hsf:=hS.fit;rw[E.a];refine ix (by omega) (by omega) ?_;rw[add_lit,show 0+(i:Int).toNat*3=3*i by omega];refine WcS (e:=0) (ev0.blk E.blk id) (E.get eg.1) (E.get eg.2.1) (E.get eg.2.2) (Wk6 λv6 e6 b6=>b6.rI2 rfl (b6.rI2 rfl ?_));have hd:(if(st:Int)>(s.st:Int)then(st:Int)else(s.st:Int))-(if(st:Int)<(s.st:Int)then(st:Int)else(s.st:Int))=((max s.st st-min s.st st:Nat):Int):=by
   split<;>split<;>omega
  refine arN (m:=max s.st st-min s.st st) hd (by omega) (nilP (((ev0.trans e6).blk hb id).rI2 rfl ?_));refine ifD (λhlt2=>h9 ?_ _ (ev0.trans e6)) λhge2=>?_
  ·unfold Gs;rw[zB];exact zz.2 ⟨s,zD hs,by simpa using(by omega:max s.st st-min s.st st<c.pages)⟩
  ·refine arN (m:=i+1) (by omega) (by omega) ⟨⟨i+1,rfl,by omega,ev.trans e6,λj s' hj hs'=>?_⟩,by omega⟩;by_cases e:j=i
   ·subst e;rw[hs]at hs';cases hs';omega
   ·exact hno j s' (by omega) hs'
 ·have hii:i=ss.length:=by simp only at hge;omega
  subst hii;have hE0:Gs c ss st=0:=by
   unfold Gs;rw[zA];simp only[zCF,zAO,zP];intro s hs;obtain⟨j,hj⟩:=zM hs;exact hno j s (gSi.1 hj).1 hj
  refine nilP ((ev0.blk hb id).rS rfl ?_);refine Wg3 h ev0 hl (λhne=>(hE hne).1) st (by omega) λv7 bb e7=>nilP (((ev0.trans e7).blk hb id).rS rfl ?_);have e07:=ev0.trans e7;obtain⟨hp1,hp2⟩:=HW h.srt st;refine nw (cs:=[.int .i64 0,.int .i64 st,.pointer (some ⟨pn,0,none⟩)]) λv8 hz8 e8 hb8=>?_;have e08:=e07.trans e8;have hrow8:=(RowR.loc _ _ _).keep0 hrow e08;have hsz7:=e07.1;refine WiE hrow8 hl (by omega) hp1 hb8 (λhh=>by have:=hh.1.2;omega) Wdo ⟨rfl,rfl,rfl⟩ λs' v9 e9 hr9=>nilP ?_;have hb9:=e9.blk (e08.blk hb id) λhh=>hh.2.1 rfl;refine hb9.s1 (by simp) λv10 o10 hb10=>?_;have hpl:=h.len;have hnd:=h.nd;simp only[zq]at hnd;have hlt:=hSn.lt;have hsz1:=(ev.trans e7).trans e8 |>.1;have hlow:∀b∈blks ps,b<U.size:=λb hb=>(h.fb b hb).2;have hS9:∀{a b s'},SpH v8 a b c s'->¬(Cut F U a/\a≠p/\a∉blks ps)->¬(Cut F U b/\b≠p/\b∉blks ps)->a≠p->b≠p->SpH v10 a b c s':=λhS n1 n2 m1 m2=>(hS.keep e9 n1 n2).keep o10.ext m1 m2;have hnew:=((hSn.keep0 ev).keep0 e7).keep0 e8;have hent:entV (ps.take (Zi ss st)++(pn,qn)::ps.drop (Zi ss st)) (ss.take (Zi ss st)++⟨st,List.replicate c.n false⟩::ss.drop (Zi ss st)) =
   (entV ps ss).take (3*Zi ss st)++[.int .i64 0,.int .i64 st,.pointer (some ⟨pn,0,none⟩)]++(entV ps ss).drop (3*Zi ss st):=by
   rw[KV (by simp[hpl])];have h1:entV ps ss=entV (ps.take (Zi ss st)) (ss.take (Zi ss st))++entV (ps.drop (Zi ss st)) (ss.drop (Zi ss st)):=by
    rw[←KV (by simp[hpl]),zBG,zBG]
   have h2:(entV (ps.take (Zi ss st)) (ss.take (Zi ss st))).length=3*Zi ss st:=by rw[Q5 (by simp[hpl]),zT];omega
   rw[h1,zFD h2,List.drop_left' h2,zt];have:SpA.many ⟨st,List.replicate c.n false⟩=0:=by simp[SpA.many,zFB]
   simp[entV,this]
  refine h0 hE0 v10 (ps.take (Zi ss st)++(pn,qn)::ps.drop (Zi ss st)) ?_ ?_
  ·refine(((Ext0.to e08).trans (e9.sub λb hb=>hb.1.1))).trans (o10.ext.sub λb hb=>hb▸h.fp.1)
  ·have hperm:(blks (ps.take (Zi ss st)++(pn,qn)::ps.drop (Zi ss st))).Perm (pn::qn::blks ps):=by
    have:blks ps=blks (ps.take (Zi ss st))++blks (ps.drop (Zi ss st)):=by
     conv=>lhs;rw[←zBG (Zi ss st) ps]
     simp only[blks,List.flatMap_append]
    rw[this];have h3:blks (ps.take (Zi ss st)++(pn,qn)::ps.drop (Zi ss st))=blks (ps.take (Zi ss st))++pn::qn::blks (ps.drop (Zi ss st)):=by simp[blks]
    rw[h3];exact List.perm_middle.trans ((List.perm_middle).cons pn)
   have hbl:∀b,b∈blks (ps.take (Zi ss st)++(pn,qn)::ps.drop (Zi ss st))↔b=pn\/b=qn\/b∈blks ps:=by
    intro b;rw[hperm.mem_iff];simp
   refine⟨⟨s',hb10,?_⟩,λi x s hx hs=>?_,.inl h.fp.1,λb hb=>?_,?_,?_,hc,?_⟩
   ·rw[WaL,hent];refine(RowR.loc _ _ _).keep ((RowR.loc _ _ _).mono hr9 λb _ hb=>?_) o10.ext λb _ hb he=>hb.2.1 he;rw[hbl];rcases hb with hb|hb
    ·exact⟨.inl hb.1.1,hb.2.1,λhh=>by
      rcases hh with h|h|h
      ·have:=hb.1.2;omega
      ·have:=hb.1.2;omega
      ·exact hb.2.2 h⟩
    ·exact⟨.inr (by omega),by omega,λhh=>by
      rcases hh with h|h|h
      ·omega
      ·omega
      ·have:=hlow b h;omega⟩
   ·rw[WaL]at hs;have hpl':(ps.take (Zi ss st)).length=Zi ss st:=by rw[zT];omega
    have hsl':(ss.take (Zi ss st)).length=Zi ss st:=by rw[zT];omega
    have old:∀j:Nat,ps[j]?=some x->ss[j]?=some s->SpH v10 x.1 x.2 c s:=λj h1 h2=>by
     have hm:=Qr h1;exact hS9 ((h.sp j x s h1 h2).keep0 e08) (λhh=>hh.2.2 hm.1) (λhh=>hh.2.2 hm.2) (λe=>hnd.1 (e▸hm.1)) (λe=>hnd.1 (e▸hm.2))
    rcases zBT i (Zi ss st)with hlt'|heq|hgt
    ·rw[zf (by omega),zX,zB hlt']at hx hs;exact old i hx hs
    ·rw[zn (by omega)]at hx hs;rw[hpl',heq,zBS]at hx;rw[hsl',heq,zBS]at hs;simp at hx hs;subst hx;subst hs;exact hS9 hnew (λhh=>by have:=hh.1.2;simp only at this;omega) (λhh=>by have:=hh.1.2;simp only at this;omega) (by simp only;omega) (by simp only;omega)
    ·rw[zn (by omega)]at hx hs;rw[hpl']at hx;rw[hsl']at hs;obtain⟨k,hk⟩:∃k,i-Zi ss st=k+1:=⟨i-Zi ss st-1,by omega⟩;rw[hk,zFY,zj]at hx hs;exact old _ hx hs
   ·rcases(hbl b).1 hb with h1|h1|h1
    ·subst h1;exact .inr hpn
    ·subst h1;exact .inr hqn
    ·exact .inl (h.fb b h1).1
   ·simp only[zq];refine⟨λhm=>?_,?_⟩
    ·rcases(hbl p).1 hm with h1|h1|h1
     ·omega
     ·omega
     ·exact hnd.1 h1
    ·rw[hperm.nodup_iff];simp only[zq,zR,not_or];have hne:=hSn.ne;exact⟨⟨hne,λhm=>by have:=hlow _ hm;omega⟩,λhm=>by have:=hlow _ hm;omega,hnd.2⟩
   ·rw[WaL];simp[hpl]
   ·rw[WaL];rw[zBO];have hsr:=h.srt;refine⟨hsr.sublist (zGB _ _),zAY.2 ⟨λs hs=>?_,hsr.sublist (zGD _ _)⟩,λa ha b hb=>?_⟩
    ·obtain⟨j,hj⟩:=zM hs;rw[zj]at hj;have h1:=hp2 _ s hj;have h2:s.st≠st:=λe=>by
      have:=hno (Zi ss st+j) s (gSi.1 hj).1 hj;rw[e]at this;simp at this;omega
     show st<s.st;omega
    ·obtain⟨i,hi⟩:=zM ha;rw[zX]at hi;split at hi
     ·rename_i hlt';have hat:=(hp2 i a hi).2 hlt';rcases zR.1 hb with rfl|hb
      ·exact hat
      ·obtain⟨j,hj⟩:=zM hb;rw[zj]at hj;obtain⟨hi1,hi2⟩:=gSi.1 hi;obtain⟨hj1,hj2⟩:=gSi.1 hj;have:=zAI.1 hsr i (Zi ss st+j) hi1 hj1 (by omega);rw[hi2,hj2]at this;exact this
     ·cases hi
end Go.Ar
namespace Go.Proofs
open Go.Vc
set_option maxRecDepth 100000
def Xi.h:Hn:=.q .o1 (.q .o4 .l)
def Xi.v (a:R2)(b:Hp)(c:Sl->Hp->Prop):Prop:=XE.c a ⟨198,#[],#[]⟩ b λd e=>c d e
theorem Xi.o {a b c}(d:Xi.v a b c):Xi.c a b c:=Wa Tryz.func137 (x:=Xi.h) (R0 d)
def W1.h:Hn:=.q .o1 (.q (.reg (.seq [.op,.op,.op,.grd true 5 (RI.ops 5),.op])) .l)
def W1.v (a:R2)(b:Hp)(c:Bool->Hp->Prop):Prop:=JnB (λd e=>c d e) λf=>If (!a.isNone) (NilP a λg=>LdI .i64 (g.add 0) b λh=>f (decide (h>0)) b) (f false b)
theorem W1.o {a b c}(d:W1.v a b c):W1.c a b c:=Wa Tryz.func151 (x:=W1.h) (R0 d)
def ZW.h:Hn:=.q .o2 (.q (.q (.reg (.seq [.op,.op,.op,.grd false 2 [.op,.op],.op,.grd false 2 [.op,.op],.op,.grd false 2 [.op,.op]])) (.c (.q .o2 .l) .l)) (.q .o6 .l))
def ZW.v (a b:Int)(c:Hp)(d:Option Addr->Int->Hp->Prop):Prop:=JnB (λe f=>JnB (λg h=>JnB (λi j=>If i (d none 1 j) (Nw (.cells #[.I a,.I b,.I 0,.slice none 0 0] 242 (0,0)) j λk l=>d (some k) 0 l)) λm=>If g (m true h) (m (decide (b>8)) h)) λn=>If e (n true f) (n (decide (b<0)) f)) λo=>If (a<1) (o true c) (o (decide (a>32)) c)
theorem ZW.o {a b c d}(e:ZW.v a b c d):ZW.c a b c d:=Wa Tryz.func161 (x:=ZW.h) (R0 e)
def Wy.h:Hn:=.q .o2 (.q (.k (.q .o4 (.c (.q .o2 .l) (.q .o7 (.c (.q .o2 .l) .l))))) (.q .o7 (.q .o8 (.q .o10 (.q .o10 (.q .o3 .l))))))
def Wy.v (a:R2)(b:Hp)(c:Sl->Int->Hp->Prop):Prop:=W1.c a b λd e=>If (!d) (c ⟨none,0,0⟩ 5 e) (NilP a λf=>LdS (f.add 3) e λg=>If (((g.len:Nat):Int)==0) (c ⟨none,0,0⟩ 4 e) (NilP a λh=>LdS (h.add 3) e λi=>Ar .i64 (((i.len:Nat):Int)-1) λj=>NilP a λk=>LdS (k.add 3) e λl=>Ix l.a l.len j 1 λm=>LdS m e λn=>NilP a λo=>LdS (o.add 3) e λp=>SlcL p 1 0 j (p.cap:Nat) λq=>NilP a λr=>St1 (r.add 3) (.slice q.a q.len q.cap) e λs=>NilP a λt=>LdI .i64 (t.add 2) s λu=>NilP a λv=>St1 (v.add 2) (.I (if j<u then j else u)) s λw=>c n 0 w))
theorem Wy.o {a b c}(d:Wy.v a b c):Wy.c a b c:=Wa Tryz.func164 (x:=Wy.h) (R0 d)
def XE.h:Hn:=.q .o2 (.q (.q .o3 (.c (.q .o1 .l) .l)) (.q .o5 (.q .o8 (.q (.o 11) (.q .o9 (.q .o2 .l))))))
def XE.v (a:R2)(b:Fv)(c:Hp)(d:Sl->Hp->Prop):Prop:=Nw (.cells #[.func (.func b.f) b.first b.captured] 280 (0,0)) c λe f=>W1.c a f λg h=>If (!g) (d ⟨none,0,0⟩ h) (LdF (e.add 0) h λi=>V1 Tryz.prog i [.pointer a] [.I] h λj k=>NilP a λl=>LdS (l.add 3) k λm=>SlcL m 1 0 j j λn=>NilP a λo=>LdS (o.add 3) k λp=>SlcL p 1 j (p.len:Nat) (p.cap:Nat) λq=>WN.c q k λr s=>NilP a λt=>St1 (t.add 3) (.slice r.a r.len r.cap) s λu=>NilP a λv=>LdS (v.add 3) u λw=>NilP a λx=>St1 (x.add 2) (.I ((w.len:Nat):Int)) u λy=>d n y)
theorem XE.o {a b c d}(e:XE.v a b c d):XE.c a b c d:=Wa Tryz.func197 (x:=XE.h) (R0 e)
def XC.h:Hn:=.q .o1 (.q .o7 .l)
def XC.v (a:R2)(b:Hp)(c:Int->Hp->Prop):Prop:=NilP a λd=>LdI .i64 (d.add 2) b λe=>Ar .i64 (e+1) λf=>Nz 2<|Ar .i64 (f.tdiv 2) λg=>c g b
theorem XC.o {a b c}(d:XC.v a b c):XC.c a b c:=Wa Tryz.func198 (x:=XC.h) (R0 d)
def W9.h:Hn:=.q .o2 (.q (.k (.q .o4 (.c (.q .o2 .l) (.q .o8 (.c (.q .o2 .l) (.q (.oq 11) (.c (.q .o2 .l) .l))))))) (.q (.reg (.held true [8,11] (.take 0 (.take 1 (.take 2 (.take 3 (.take 4 (.take 5 (.all [(6,.all [(7,.all [(8,.take 9 (.take 10 (.all [(11,.done)])))])])]))))))))) (.q .o2 .l)))
def W9.v (a:R2)(b:Sl)(c:Hp)(d:Bool->Int->Hp->Prop):Prop:=W1.c a c λe f=>If (!e) (d false 5 f) (NilP a λg=>LdI .i64 (g.add 0) f λh=>If (((b.len:Nat):Int) != h) (d false 1 f) (NilP a λi=>LdS (i.add 3) f λj=>NilP a λk=>LdI .i64 (k.add 1) f λl=>If (((j.len:Nat):Int)≥l) (d false 0 f) (Held f λm=>NilP a λn=>LdH m .s (n.add 3) λ(o:Sl)=>WE.c b f λp q=>And (m q) <| Nw (.cells #[.slice p.a p.len p.cap] 22 (0,0)) q λr s=>And (m s) <| App o 1 24 22 [.slice none 0 0] ⟨some r,1,1⟩ s λt u=>NilP a λv=>St1 (v.add 3) (.slice t.a t.len t.cap) u λw=>d true 0 w)))
theorem W9.o {a b c d}(e:W9.v a b c d):W9.c a b c d:=Wa Tryz.func232 (x:=W9.h) (R0 e)
end Go.Proofs
namespace Go.Ar
open Go Go.Vc Go.Proofs
variable {U:Hp}{F:Rg}{p batch room:Nat}{t:TrA}
def slV (s:Sl):Value:=.slice s.a s.len s.cap
def WB (xs:List Int):List Value:=xs.map (Value.int .i64)
theorem VK {l:List Int}:∀v∈WB l,one1 v=true:=by
 intro v hv;simp only[WB,zE]at hv;obtain⟨x,_,rfl⟩:=hv;rfl
theorem WkO {l:List Sl}:∀v∈l.map slV,one1 v=true:=by
 intro v hv;simp only[zE]at hv;obtain⟨x,_,rfl⟩:=hv;rfl
def Bat (sls:List Sl)(bs:List (List Int))(U:Hp)(D:Rg):Prop:=sls.length=bs.length/\∀(i:Nat) s xs,sls[i]?=some s->bs[i]?=some xs->SlR s 1 (WB xs) U D/\s.len<=s.cap
theorem Bat.loc (sls:List Sl)(bs:List (List Int)):Lcl (Bat sls bs):=λU σ' F G h hz hs=>⟨h.1,λi s xs h1 h2=>⟨SlR.loc _ _ _ _ _ _ _ (h.2 i s xs h1 h2).1 hz hs,(h.2 i s xs h1 h2).2⟩⟩
def Dj (sls:List Sl):Prop:=sls.Pairwise λs t=>∀a a',s.a=some a->t.a=some a'->a.block≠a'.block
def InB (s:Sl)(b:Nat):Prop:=∃a,s.a=some a/\a.block=b
theorem _root_.Go.Vc.SlR.inB {s:Sl}{sz:Nat}{xs:List Value}{D:Rg}(h:SlR s sz xs U D):SlR s sz xs U λb=>D b/\InB s b:=
 ⟨h.1,h.2.imp id λ⟨b,o,cs,hq,ha,r⟩=>⟨b,o,cs,⟨hq,_,ha,rfl⟩,ha,r⟩⟩
theorem _root_.Go.Vc.SlR.blk {s:Sl}{sz:Nat}{xs:List Value}{D:Rg}(h:SlR s sz xs U D)(hx:xs≠[]){b:Nat}(hb:InB s b):D b/\b<U.size:=by
 rcases h.2 with h0|⟨b',o,cs,hq,ha,hc,_⟩
 ·exact absurd h0 hx
 ·obtain⟨a,h1,rfl⟩:=hb;rw[ha]at h1;cases h1;exact⟨hq,hc.lt⟩
theorem Dj.snoc {sls:List Sl}{bs:List (List Int)}{D:Rg}{z:Nat}{s':Sl}{xs:List Value}{v:Hp}(h:Dj sls)(hB:Bat sls bs U D)(hne:∀xs∈bs,xs≠[])(hz:∀b,D b->b<z)(hs:RowR s' 1 xs v λb=>z<=b)(hx:xs≠[]):Dj (sls++[s']):=by
 refine zBO.2 ⟨h,List.pairwise_singleton _ _,λs hs1 u hu a a' h1 h2=>?_⟩;rw[zZ]at hu;subst hu;obtain⟨i,hi⟩:=zM hs1;have hil:=(gSi.1 hi).1;have hbi:bs[i]?=some (bs[i]'(by rw[←hB.1];exact hil)):=gGe _;have hb:=((hB.2 i s _ hi hbi).1.blk (by simp only[WB,ne_eq,zEO];exact hne _ (zD hbi)) ⟨a,h1,rfl⟩).1;have h3:=(hs.slR.blk hx ⟨a',h2,rfl⟩).1;have:=hz _ hb;omega
structure TfH (U:Hp) (F:Rg) (p batch room:Nat) (t:TrA):Prop where
 mem:∃(sl:Sl) (sls:List Sl) (D:Rg),Blk U p [.int .i64 (batch:Int),.int .i64 (room:Int),.int .i64 (t.low:Int),.slice sl.a sl.len sl.cap]/\RowR sl 1 (sls.map slV) U (λb=>F b/\b≠p/\¬D b)/\Bat sls t.bs U D/\(∀b,D b->F b/\b≠p)/\Dj sls
 fp:F p
 b1:1<=batch/\batch<=32
 r1:room<=8
 few:t.bs.length<=room
 low:t.low<=t.bs.length
 all:∀xs∈t.bs,xs.length=batch
theorem TfH.loc:Lcl λU F=>TfH U F p batch room t:=λU σ' F G h hz hs=>by
 obtain⟨sl,sls,D,hb,hr,hB,hD,hJ⟩:=h.mem;refine⟨⟨sl,sls,λb=>D b/\b<U.size,?_,?_,?_,λb hb=>⟨(hs b hb.2 (hD b hb.1).1).1,(hD b hb.1).2⟩,hJ⟩,(hs p hb.lt h.fp).1,h.b1,h.r1,h.few,h.low,h.all⟩
 ·obtain⟨e,he⟩:=hb;exact⟨e,(hs p (Blk.lt ⟨e,he⟩) h.fp).2.trans he⟩
 ·exact RowR.loc _ _ _ _ _ _ _ hr hz λb hb hf=>⟨⟨(hs b hb hf.1).1,hf.2.1,λhd=>hf.2.2 hd.1⟩,(hs b hb hf.1).2⟩
 ·exact Bat.loc _ _ _ _ _ _ hB hz λb hb hd=>⟨⟨hd,hb⟩,(hs b hb (hD b hd).1).2⟩
theorem TfH.keep0 {σ':Hp}(h:TfH U F p batch room t)(e:Ext0 U σ'):TfH σ' F p batch room t:=Lcl.keep0 TfH.loc h e
theorem GE (h:TfH U F p batch room t){R:Bool->Hp->Prop}(hR:R true U):W1.c (some ⟨p,0,none⟩) U R:=by
 refine W1.o ?_;unfold W1.v;obtain⟨sl,sls,D,hb,_⟩:=h.mem;have:=h.b1;refine JnB.intro (ifT rfl (nilP (hb.rI rfl ?_)));rw[zI (by omega)];exact hR
theorem _root_.Go.Vc.SlR.ixS {s:Sl}{F:Rg}{sls:List Sl}(h:SlR s 1 (sls.map slV) U F){i:Nat}{x:Sl}(hx:sls[i]?=some x){K:Sl->Prop}(hK:K x):Ix s.a s.len (i:Int) 1 λa=>LdS a U K:=by
 have hi:=(gSi.1 hx).1;obtain⟨b,o,ha,hc⟩:=h.cell (j:=i) (v:=slV x) (by simp[hx]);have hl:=h.1;rw[zh]at hl;rw[ha];refine ix (by omega) (by omega) ?_;rw[add_lit];exact ldS (by simpa[slV]using hc) hK
theorem WlA (h1:1<=batch)(h2:batch<=32)(h3:room<=8){R:Option Addr->Int->Hp->Prop}(hR:∀σ' p,Ext0 U σ'->U.size<=p->p<σ'.size->TfH σ' (· = p) p batch room ⟨0,[]⟩->R (some ⟨p,0,none⟩) 0 σ'):ZW.c batch room U R:=by
 refine ZW.o ?_;unfold ZW.v;refine JnB.intro (ifDF (by omega) (JnB.intro (ifDF (by omega) (JnB.intro (ifDF (by omega) (ifDF (by omega) ?_))))));refine nw (cs:=[.int .i64 batch,.int .i64 room,.int .i64 0,.slice none 0 0]) λv hz e hb=>?_;exact hR v _ e (zC _) (by omega) ⟨⟨⟨none,0,0⟩,[],λ_=>False,hb,RowR.nil _ _ _ _,⟨rfl,λi s xs h=>by simp at h⟩,λb h=>h.elim,List.Pairwise.nil⟩,rfl,⟨h1,h2⟩,h3,by simp,by simp,by simp⟩
theorem Wio (h:TfH U F p batch room t){sl:Sl}{xs:List Int}{X:Rg}(hs:SlR sl 1 (WB xs) U X)(hl:xs.length<=1000000){R:Bool->Int->Hp->Prop}(h1:xs.length≠batch->R false 1 U)(h2:xs.length=batch->room<=t.bs.length->R false 0 U)
 (h3:xs.length=batch->t.bs.length<room->∀σ',Ext F U σ'->TfH σ' (Grow F U) p batch room {t with bs:=t.bs++[xs]}->R true 0 σ'):W9.c (some ⟨p,0,none⟩) sl U R:=by
 refine W9.o ?_;unfold W9.v;have h:=TfH.loc.cut h;obtain⟨so,sls,D,hb,hr,hB,hD,hJ⟩:=h.mem;have hlen:sl.len=xs.length:=by have:=hs.1;simp[WB]at this;omega
 have hso:so.len=t.bs.length:=by have:=hr.1;rw[zh,hB.1]at this;omega
 have hr8:=h.r1;have hb1:=h.b1;refine GE h (ifF rfl (nilP (hb.rI rfl ?_)));rw[bneN];refine iff_ (λhne=>h1 (by rw[←hlen];simpa using hne)) λheq=>?_;have heq':xs.length=batch:=by rw[←hlen];simpa using heq
 refine nilP (hb.rS rfl (nilP (hb.rI rfl (ifD (λhge=>h2 heq' (by simp only at hge;omega)) λhlt=>?_))));simp only at hlt;refine⟨λh'=>Blk h' p [.int .i64 (batch:Int),.int .i64 (room:Int),.int .i64 (t.low:Int),.slice so.a so.len so.cap],hb,nilP ⟨so,λh' hS=>by rw[add_lit,hS.cell];rfl,?_⟩⟩;refine Ht hs VK (by omega) λs' v1 hl1 e1 hr1=>⟨e1.blk hb id,?_⟩;refine nw (cs:=[.slice s'.a s'.len s'.cap]) λv2 hz2 e2 hb2=>⟨(e1.trans e2).blk hb id,?_⟩;have hr2:=(RowR.loc _ _ _).keep0 ((RowR.loc _ _ _).keep0 hr e1) e2;refine hr2.app (ys:=[slV s']) rfl rfl ?_ (by simp[one1,slV]) ?_ ?_ zBI λs2 v3 hl3 e3 hr3=>nilP ?_
 ·intro j u hu;rw[add_lit,zJ,hb2.cell];exact hu
 ·simp only;have:(so.len+1)*24<=9*24:=zAJ (by omega) (by omega);omega
 ·simp only;omega
 ·have hb3:=e3.blk ((e1.trans e2).blk hb id) λhh=>hh.2.1 rfl;have hplt:=hb.lt;have hs1:=e1.1;refine hb3.s1 (by simp) λv4 o4 hb4=>h3 heq' (by omega) v4 ?_ ?_
  ·exact((Ext0.to (e1.trans e2)).trans (e3.sub λb hb=>hb.1.1)).trans (o4.ext.sub λb hb=>hb▸h.fp.1)
  ·refine⟨⟨s2,sls++[s'],λb=>D b/\b<U.size\/U.size<=b/\b<v1.size,hb4,?_,⟨by simp[hB.1],λi s ys hi hy=>?_⟩,λb hb=>?_,?_⟩,.inl h.fp.1,h.b1,h.r1,by simp;omega,by have:=h.low;simp;omega,λys hy=>?_⟩
   ·rw[zAQ];refine(RowR.loc _ _ _).keep ((RowR.loc _ _ _).mono hr3 λb _ hb=>?_) o4.ext λb _ hb he=>hb.2.1 he;rcases hb with hb|hb
    ·exact⟨.inl hb.1.1,hb.2.1,λhd=>by
      rcases hd with hd|hd
      ·exact hb.2.2 hd.1
      ·have:=hb.1.2;omega⟩
    ·exact⟨.inr (by omega),by omega,λhd=>by rcases hd with hd|hd<;>omega⟩
   ·have mv:∀{s:Sl} {ys:List Int} {G:Rg},SlR s 1 (WB ys) v2 G->(∀b,G b->b≠p/\¬(Cut F U b/\b≠p/\¬D b))->SlR s 1 (WB ys) v4 G:=λhS hn=>
     (SlR.loc _ _ _).keep ((SlR.loc _ _ _).keep hS e3 λb _ hb=>(hn b hb).2) o4.ext λb _ hb he=>(hn b hb).1 he
    rcases zAH i sls.length with hi'|hi'
    ·rw[zf hi']at hi;rw[zf (by rw[←hB.1];exact hi')]at hy;obtain⟨k1,k2⟩:=hB.2 i s ys hi hy;refine⟨(SlR.loc _ _ _).mono (mv ((SlR.loc _ _ _).keep0 ((SlR.loc _ _ _).keep0 ((SlR.loc _ _ _).mono k1 (G:=λb=>D b/\b<U.size) λb hb hd=>⟨hd,hb⟩) e1) e2) λb hd=>⟨(hD b hd.1).2,λhh=>hh.2.2 hd.1⟩) λb _ hd=>.inl hd,k2⟩
    ·rw[zn hi']at hi;rw[zn (by rw[←hB.1];exact hi')]at hy;have hi0:i-sls.length=0:=by
      have:=(gSi.1 hi).1;simp at this;omega
     rw[hi0]at hi;rw[show i-t.bs.length=0 by rw[←hB.1];exact hi0]at hy;simp at hi hy;subst hi;subst hy;have hcap:s'.len<=s'.cap:=by
      rcases hr1.2 with⟨q1,q2⟩|⟨_,_,_,_,_,q,_⟩
      ·omega
      ·exact q
     refine⟨(SlR.loc _ _ _).mono (mv ((SlR.loc _ _ _).keep0 ((SlR.loc _ _ _).mono hr1.slR (G:=λb=>U.size<=b/\b<v1.size) λb hb hd=>⟨hd,hb⟩) e2) λb hd=>⟨by omega,λhh=>by have:=hh.1.2;omega⟩) λb _ hd=>.inr hd,hcap⟩
   ·rcases hb with hd|hd
    ·exact⟨.inl (hD b hd.1).1.1,(hD b hd.1).2⟩
    ·exact⟨.inr hd.1,by omega⟩
   ·have hne:∀ys∈t.bs,ys≠[]:=λys hy e=>by have:=TfH.all ‹_› ys hy;rw[e]at this;simp at this;omega
    exact hJ.snoc hB hne (λb hd=>(hD b hd).1.2) hr1 (by simp only[WB,ne_eq,zEO];intro e;rw[e]at heq';simp at heq';omega)
   ·rcases zS.1 hy with h|h
    ·exact TfH.all ‹_› ys h
    ·simp at h;subst h;exact heq'
theorem Wd3 (h:TfH U F p batch room t)(h0:t.bs=[]){R:Sl->Int->Hp->Prop}(hR:R ⟨none,0,0⟩ 4 U):Wy.c (some ⟨p,0,none⟩) U R:=by
 refine Wy.o ?_;unfold Wy.v;obtain⟨so,sls,D,hb,hr,hB,hD,hJ⟩:=h.mem;have hso:so.len=t.bs.length:=by have:=hr.1;rw[zh,hB.1]at this;omega
 refine GE h (ifF rfl (nilP (hb.rS rfl (ifT ?_ hR))));simp[hso,h0]
theorem WiF (h:TfH U F p batch room t)(h0:t.bs≠[]){R:Sl->Int->Hp->Prop}(hR:∀out σ',Ext F U σ'->(∀b,InB out b->F b)->SlR out 1 (WB (t.bs.getLast?.getD [])) σ' (InB out)->out.len<=out.cap->TfH σ' (λb=>F b/\¬InB out b) p batch room t.rem->R out 0 σ'):Wy.c (some ⟨p,0,none⟩) U R:=by
 refine Wy.o ?_;unfold Wy.v;obtain⟨so,sls,D,hb,hr,hB,hD,hJ⟩:=h.mem;have hso:so.len=t.bs.length:=by have:=hr.1;rw[zh,hB.1]at this;omega
 have hpos:=zBZ.2 h0;have hr8:=h.r1;have hfw:=h.few;have hlow:=h.low;have hl0:t.bs.length-1<sls.length:=by rw[hB.1];omega
 obtain⟨o,ho⟩:∃o,sls[t.bs.length-1]?=some o:=⟨_,gGe hl0⟩;have hlast:t.bs[t.bs.length-1]?=some (t.bs.getLast?.getD []):=by
  rw[List.getLast?_eq_getElem?,gGe (by omega)];rfl
 obtain⟨k1,k2⟩:=hB.2 _ o _ ho hlast;refine GE h (ifF rfl (nilP (hb.rS rfl (ifF ?_ ?_))))
 ·simp only[zAA];omega
 refine nilP (hb.rS rfl (arN (m:=t.bs.length-1) (by simp only;omega) (by omega) (nilP (hb.rS rfl ?_))));refine hr.slR.ixS ho (nilP (hb.rS rfl ?_));have hcap:so.len<=so.cap:=by
  rcases hr.2 with⟨q1,q2⟩|⟨_,_,_,_,_,q,_⟩
  ·omega
  ·exact q
 refine slc (lo:=0) (by omega) (by first|omega | (simp only;omega)) (by first|omega | (simp only;omega)) (nilP (hb.s1 (by simp) λv1 o1 hb1=>nilP (hb1.rI rfl (nilP ?_))))
 refine hb1.s1 (by simp) λv2 o2 hb2=>?_;have e12:Ext (· = p) U v2:=o1.ext.trans o2.ext;have hmin:(if((t.bs.length-1:Nat):Int)<(t.low:Int)then((t.bs.length-1:Nat):Int)else(t.low:Int))=((min t.low (t.bs.length-1):Nat):Int):=by split<;>omega
 rw[hmin]at hb2;have hne:∀xs∈t.bs,xs≠[]:=λxs hx e=>by have h1:=h.all xs hx;have h2:=h.b1;rw[e]at h1;simp at h1;omega
 have hoD:∀b,InB o b->D b:=λb hb=>(k1.blk (by simp only[WB,ne_eq,zEO];exact hne _ (zD hlast)) hb).1;refine hR o v2 (e12.sub λb hb=>hb▸h.fp) (λb hb=>(hD b (hoD b hb)).1) ((SlR.loc _ _ _).mono ((SlR.loc _ _ _).keep k1 e12 λb _ hb he=>(hD b hb).2 he).inB λb _ hd=>hd.2) k2 ⟨⟨_,sls.dropLast,λb=>D b/\¬InB o b,hb2,?_,⟨by simp[hB.1,TrA.rem],λi s xs hi hx=>?_⟩,λb hd=>⟨⟨(hD b hd.1).1,hd.2⟩,(hD b hd.1).2⟩,List.Pairwise.sublist (List.dropLast_sublist _) hJ⟩,⟨h.fp,λhb=>(hD p (hoD p hb)).2 rfl⟩,h.b1,h.r1,by simp[TrA.rem];omega,by simp[TrA.rem];omega,λxs hx=>h.all xs (List.dropLast_subset _ hx)⟩
 ·refine(RowR.loc _ _ _).keep ?_ e12 λb _ hb he=>hb.2.1 he;refine⟨by simp[hB.1],?_⟩;rcases hr.2 with⟨q1,q2⟩|⟨b,cs,hq,ha,hbb,hle,hcl,ht⟩
  ·omega
  ·refine .inr ⟨b,cs,⟨⟨hq.1,λhb=>hq.2.2 (hoD b hb)⟩,hq.2.1,λhd=>hq.2.2 hd.1⟩,?_,hbb,by simp only;omega,by simp only;omega,?_⟩
   ·simp only[ha];split<;>simp[add_lit]
   ·simp only[zh]at ht ⊢;have hd:sls.dropLast.map slV=(sls.map slV).take (sls.length-1):=by rw[zFF,List.map_take]
    rw[hd,←ht,zFC,zFX]
    congr 1;omega
 ·have hil:i<t.bs.length-1:=by
   have:=(gSi.1 hx).1;simpa[TrA.rem]using this
  rw[zFF,zX]at hi;simp only[TrA.rem,zFF,zX]at hx;rw[zB (by rw[hB.1];exact hil)]at hi;rw[zB hil]at hx;obtain⟨m1,m2⟩:=hB.2 i s xs hi hx;refine⟨(SlR.loc _ _ _).mono ((SlR.loc _ _ _).keep m1 e12 λb _ hb he=>(hD b hb).2 he).inB λb _ hb=>⟨hb.1,λhb2=>?_⟩,m2⟩;obtain⟨a,ha,e1⟩:=hb.2;obtain⟨a',ha',e2⟩:=hb2;obtain⟨hi1,rfl⟩:=gSi.1 hi;obtain⟨hl1,rfl⟩:=gSi.1 ho;exact zAI.1 hJ i _ hi1 hl1 hil a a' ha ha' (e1.trans e2.symm)
theorem Wig {s:Sl}{vs:List Value}(h:SlR s 1 vs U F)(h1:∀v∈vs,one1 v=true)(hl:s.len<=1000000){R:Sl->Hp->Prop}
 (hR:∀s' σ',s'.len=s.len->Ext0 U σ'->RowR s' 1 vs σ' (λb=>U.size<=b)->R s' σ'):WN.c s U R:=by
 refine WN.o ?_;unfold WN.v;exact GT h (by decide) rfl h1 (by decide) hl hR
def OutR (out:Sl)(bs:List (List Int))(U:Hp)(G:Rg):Prop:=∃sls:List Sl,SlR out 1 (sls.map slV) U G/\Bat sls bs U G
theorem OutR.loc (out:Sl)(bs:List (List Int)):Lcl (OutR out bs):=λU σ' F G ⟨sls,h1,h2⟩ hz hs=>⟨sls,SlR.loc _ _ _ _ _ _ _ h1 hz hs,Bat.loc _ _ _ _ _ _ h2 hz hs⟩
theorem WlR (h:TfH U F p batch room t){R:Sl->Hp->Prop}(hR:∀out σ',Ext F U σ'->OutR out t.out σ' F->TfH σ' (Grow F U) p batch room t.tick->R out σ'):Xi.c (some ⟨p,0,none⟩) U R:=by
 refine Xi.o ?_;unfold Xi.v;refine XE.o ?_;unfold XE.v;have hFF:=h;have h:=TfH.loc.cut h;obtain⟨so,sls,D,hb,hr,hB,hD,hJ⟩:=h.mem;have hso:so.len=t.bs.length:=by have:=hr.1;rw[zh,hB.1]at this;omega
 have hr8:=h.r1;have hfw:=h.few;have hlow:=h.low;obtain⟨n,hn⟩:∃n,n=(t.low+1)/2:=⟨_,rfl⟩;have hnl:n<=t.bs.length:=by omega
 refine nw (cs:=[.func (.func 198) #[] #[]]) λv1 hz1 e1 hb1=>?_;have h1:=h.keep0 e1;have hbv:=e1.blk hb id;refine GE h1 (ifF rfl ?_);refine⟨⟨198,#[],#[]⟩,by rw[add_lit,hb1.cell];rfl,?_⟩;refine Gq (all := #[.pointer (some ⟨p,0,none⟩)]) (by kernel_rfl) (by simp) ?_;refine XC.o ?_;unfold XC.v;refine nilP (hbv.rI rfl (arN (m:=t.low+1) (by omega) (by omega) (nz (by decide) (arN (m:=n) (by rw[Xm (by omega)];omega) (by omega) ?_))));refine nilP (hbv.rS rfl ?_);have hcap:so.len<=so.cap:=by
  rcases hr.2 with⟨q1,q2⟩|⟨_,_,_,_,_,q,_⟩
  ·omega
  ·exact q
 have hr1:=(RowR.loc _ _ _).keep0 hr e1;have hB1:=(Bat.loc _ _).keep0 hB e1;refine slc (lo:=0) (by omega) (by omega) (by first|omega | (simp only;omega)) (nilP (hbv.rS rfl (slc (by first|omega | (simp only;omega)) (by first|omega | (simp only;omega)) (by first|omega | (simp only;omega)) ?_)))
 have hsub:∀(s:Sl) (a m:Nat),(s.len=m)->a+m<=sls.length->(m=0\/∀b,so.a=some ⟨b,0,none⟩->s.a=some ⟨b,a,none⟩)->SlR s 1 (((sls.drop a).take m).map slV) v1 (λb=>Cut F U b/\b≠p/\¬D b):=by
  intro s a m hs ham hsa;refine⟨by simp;omega,?_⟩;rcases zEF m with h0|h0
  ·left;subst h0;simp
  ·rcases hr1.slR.2 with q|⟨b,o,cs,q1,q2,q3,q4⟩
   ·have:sls=[]:=by simpa using q
    subst this;simp at ham;omega
   ·rcases hr1.2 with⟨z1,z2⟩|⟨b',cs',w1,w2,w3,w4,w5,w6⟩
    ·rw[hB.1]at ham;omega
    ·rcases hsa with hm|hsa
     ·omega
     ·refine .inr ⟨b',a,cs',w1,hsa b' w2,w3.q,λj hj=>?_⟩;simp only[zh,zT,zl]at hj;have:cs'[a+j]?=(sls.map slV)[a+j]? := by
       rw[←w6,zX,zB (by rw[zh];omega)]
      rw[this];simp only[zg,zX,zj];rw[zB (by omega)]
 have hso2:so.len=sls.length:=by rw[hB.1];exact hso
 refine Wig (hsub _ n (sls.length-n) (by simp only;omega) (by omega) ?_) WkO (by simp only;omega) λs' v3 hl3 e3 hr3=>?_
 ·by_cases hz:so.cap=n
  ·left;omega
  ·right;intro b hbs;simp only[zA hz,hbs];simp[add_lit]
 have hb3:=e3.blk hbv id;refine nilP (hb3.s1 (by simp) λv4 o4 hb4=>nilP (hb4.rS rfl (nilP (hb4.s1 (by simp) λv5 o5 hb5=>?_))));have e45:Ext (· = p) v3 v5:=o4.ext.trans o5.ext;have hs1:=e1.1;have hs3:=e3.1;have hplt:=hb.lt;have htk:(sls.drop 0).take n=sls.take n:=by simp
 refine hR _ v5 ?_ ⟨sls.take n,?_,?_⟩ ⟨⟨s',sls.drop n,λb=>D b/\b<U.size,?_,?_,?_,?_,List.Pairwise.sublist (zGD _ _) hJ⟩,.inl hFF.fp,h.b1,h.r1,?_,?_,?_⟩
 ·exact(Ext0.to (e1.trans e3)).trans (e45.sub λb hb=>hb▸hFF.fp)
 ·have:=hsub ⟨if n=0 then so.a else so.a.map (·.add (0*1)),n-0,n-0⟩ 0 n (by simp) (by omega) (by
   by_cases hz:n=0
   ·exact .inl hz
   ·right;intro b hbs;simp only[zA hz,hbs];simp[add_lit])
  rw[htk]at this;exact(SlR.loc _ _ _).mono ((SlR.loc _ _ _).keep ((SlR.loc _ _ _).keep0 this e3) e45 λb _ hb he=>hb.2.1 he) λb _ hb=>hb.1.1
 ·refine⟨by simp[hB.1,TrA.out,hn],λi s xs hi hx=>?_⟩;simp only[TrA.out,←hn]at hx;rw[zX]at hi hx;split at hi
  ·rename_i hin;rw[zB hin]at hx;obtain⟨m1,m2⟩:=hB1.2 i s xs hi hx;exact⟨(SlR.loc _ _ _).mono ((SlR.loc _ _ _).keep ((SlR.loc _ _ _).keep0 m1 e3) e45 λb _ hb he=>(hD b hb).2 he) λb _ hb=>(hD b hb).1.1,m2⟩
  ·cases hi
 ·have:((s'.len:Nat):Int)=((t.tick.low:Nat):Int):=by
   rw[hl3];simp only[TrA.tick,zl,←hn];omega
  rw[this]at hb5;exact hb5
 ·have hh:((sls.drop n).take (sls.length-n))=sls.drop n:=zAX (by simp);rw[hh]at hr3;refine(RowR.loc _ _ _).keep ((RowR.loc _ _ _).mono hr3 λb _ hb=>?_) e45 λb _ hb he=>hb.2.1 he;exact⟨.inr (by omega),by omega,λhd=>by omega⟩
 ·refine⟨by simp[hB.1,TrA.tick,hn],λi s xs hi hx=>?_⟩;simp only[TrA.tick,←hn]at hx;rw[zj]at hi hx;obtain⟨m1,m2⟩:=hB.2 _ s xs hi hx;exact⟨(SlR.loc _ _ _).keep ((SlR.loc _ _ _).keep0 ((SlR.loc _ _ _).keep0 ((SlR.loc _ _ _).mono m1 (G:=λb=>D b/\b<U.size) λb hb hd=>⟨hd,hb⟩) e1) e3) e45 λb _ hb he=>(hD b hb.1).2 he,m2⟩
 ·exact λb hd=>⟨.inl (hD b hd.1).1.1,(hD b hd.1).2⟩
 ·simp only[TrA.tick,zl];omega
 ·simp[TrA.tick]
 ·exact λxs hx=>h.all xs (zCE hx)
end Go.Ar
namespace Go.Ar
open Go Go.Vc Go.Proofs
open Go.Bu (Y3)
variable {U:Hp}{F:Rg}{p:Nat}{ow:Nat->Nat}
end Go.Ar
namespace Go.Proofs
open Go.Vc
set_option maxRecDepth 100000
def YT.h:Hn:=.q .o2 (.q (.q .o4 (.q .o2 (.c (.q .o3 .l) .l))) (.q .o6 .l))
def YT.v (a:R2)(b:Int)(c:Hp)(d:Int->Int->Hp->Prop):Prop:=Xw.c a b 1 c λe f=>If (e != 0) (d 0 e f) (Nz 8<|Ar .i64 (b.tdiv 8) λg=>Y7.c a g f λh i=>d h 0 i)
theorem YT.o {a b c d}(e:YT.v a b c d):YT.c a b c d:=Wa Tryz.func67 (x:=YT.h) (R0 e)
def Yw.h:Hn:=.q .o1 (.q (.q .o4 (.q .o2 (.c (.q .o2 .l) .l))) (.q .o5 (.q .o1 .l)))
def Yw.v (a:R2)(b c:Int)(d:Hp)(e:Int->Hp->Prop):Prop:=Xw.c a b 1 d λf g=>If (f != 0) (e f g) (Nz 8<|Ar .i64 (b.tdiv 8) λh=>Zd.c a h c g λi=>e 0 i)
theorem Yw.o {a b c d e}(f:Yw.v a b c d e):Yw.c a b c d e:=Wa Tryz.func72 (x:=Yw.h) (R0 f)
def XG.h:Hn:=.q .o1 (.q (.reg (.seq [.op,.op,.op,.grd true 6 (RI.ops 6),.op])) .l)
def XG.v (a:R2)(b:Hp)(c:Bool->Hp->Prop):Prop:=JnB (λd e=>c d e) λf=>If (!a.isNone) (NilP a λg=>LdS (g.add 0) b λh=>f (decide (((h.len:Nat):Int)>0)) b) (f false b)
theorem XG.o {a b c}(d:XG.v a b c):XG.c a b c:=Wa Tryz.func86 (x:=XG.h) (R0 d)
def XO.h:Hn:=.q .o1 (.q (.q .o3 (.c (.q .o1 .l) .l)) (.q .o6 .l))
def XO.v (a:R2)(b:Hp)(c:Int->Hp->Prop):Prop:=XG.c a b λd e=>If (!d) (c 0 e) (NilP a λf=>LdS (f.add 0) e λg=>c ((g.len:Nat):Int) e)
theorem XO.o {a b c}(d:XO.v a b c):XO.c a b c:=Wa Tryz.func89 (x:=XO.h) (R0 d)
def Xw.h:Hn:=.q .o1 (.q (.k (.q .o4 (.c (.q .o1 .l) (.q .o3 (.c (.q .o1 .l) (.q (.reg (.seq [.op,.op,.op,.grd false 3 (RI.ops 3),.op])) (.c (.q .o1 .l) .l))))))) (.q .o10 (.q (.q (.reg (.heldJ true [] [(50,.one .b)] (.take 0 (.take 1 (.take 2 (.take 3 (.take 4 (.take 5 (.take 6 (.take 7 (.split 39 (.take 8 (.take 9 (.take 10 (.take 11 (.take 12 (.take 13 (.take 14 (.take 15 (.take 16 (.take 17 (.take 18 (.done)))))))))))) (.take 8 (.take 9 (.take 10 (.take 11 (.take 12 (.take 13 (.take 14 (.take 15 (.take 16 (.all [(17,.take 18 (.done))]))))))))))))))))))))) (.c (.q .o1 .l) .l)) (.q .o1 .l))))
def Xw.v (a:R2)(b c:Int)(d:Hp)(e:Int->Hp->Prop):Prop:=XG.c a d λf g=>If (!f) (e 5 g) (If (c==0) (e 0 g) (JnB (λh i=>If h (e 7 i) (Nz 256<|Ar .i64 (b.tdiv 256) λj=>Nz 8<|Ar .i64 (b.tdiv 8) λk=>Ar .i64 (k+c) λl=>Ar .i64 (l-1) λm=>Nz 32<|Ar .i64 (m.tdiv 32) λn=>Jn [.b] (λ(o:Bool) p=>If o (e 7 p) (e 0 p)) λq=>Held i λr=>NilP a λs=>LdH r .s (s.add 0) λ(t:Sl)=>If (n≥((t.len:Nat):Int)) (q true i) (NilP a λu=>LdH r .s (u.add 0) λ(v:Sl)=>Ar .i64 (n+1) λw=>SlcL v 2 j w (v.cap:Nat) λx=>LdH r .b ((Addr.mk 0 0 none).add 0) λ(y:Bool)=>LdH r .b ((Addr.mk 0 0 none).add 1) λ(z:Bool)=>Wj.c x y z i λaa ab=>And (r ab) <| q aa ab))) λac=>If (b<0) (ac true g) (Nz 8 <| ac ((b.tmod 8) != 0) g)))
theorem Xw.o {a b c d e}(f:Xw.v a b c d e):Xw.c a b c d e:=Wa Tryz.func96 (x:=Xw.h) (R0 f)
def Y7.h:Hn:=.q .o1 (.q (.q (.o 12) (.q .o1 (.c (.q .o6 .l) .l))) (.q .o1 .l))
def Y7.v (a:R2)(b:Int)(c:Hp)(d:Int->Hp->Prop):Prop:=NilP a λe=>LdM (e.add 1) c λf=>Nz 32<|Ar .i64 (b.tdiv 32) λg=>Lk .i64 .s f g c λh=>If h.isSome (Nz 32 <| Ix (h.getD ⟨none,0,0⟩).a (h.getD ⟨none,0,0⟩).len (b.tmod 32) 1 λi=>LdI .i64 i c λj=>d j c) (d 0 c)
theorem Y7.o {a b c d}(e:Y7.v a b c d):Y7.c a b c d:=Wa Tryz.func97 (x:=Y7.h) (R0 e)
def Zd.h:Hn:=.q .o3 (.sjn [] (.q (.oq 9) (.c (.q (.reg (.tail 7 (RI.ops 7) [.op])) (.q (.reg (.held true [6] (.take 0 (.take 1 (.take 2 (.take 3 (.take 4 (.all [(5,.all [(6,.done)])])))))))) (.reg (.tail 13 (RI.ops 13) [.op])))) .l)) (.o 11))
def Zd.v (a:R2)(b c:Int)(d:Hp)(e:Hp->Prop):Prop:=Nz 32<|Ar .i64 (b.tdiv 32) λf=>Jn [] (λg=>NilP a λh=>LdM (h.add 1) g λi=>Lk .i64 .s i f g λj=>Nz 32 <| Ix (j.getD ⟨none,0,0⟩).a (j.getD ⟨none,0,0⟩).len (b.tmod 32) 1 λk=>St1 k (.I c) g λl=>e l) λm=>NilP a λn=>LdS (n.add 0) d λo=>Ix o.a o.len f 2 λp=>LdB (p.add 0) d λq=>LdB (p.add 1) d λr=>LdB ((Addr.mk 1 0 none).add 0) d λs=>LdB ((Addr.mk 1 0 none).add 1) d λt=>If (!((q==s)&&((r==t)&&true))) (NilP a λu=>LdS (u.add 0) d λv=>LdB ((Addr.mk 1 0 none).add 0) d λw=>LdB ((Addr.mk 1 0 none).add 1) d λx=>Ix v.a v.len f 2 λy=>St1 (y.add 0) (.bool w) d λz=>St1 (y.add 1) (.bool x) z λaa=>Held aa λab=>NilP a λac=>LdH ab .m (ac.add 1) λ(ad:Option Nat)=>Mk 32 32 8 3 [.I 0] aa λae af=>And (ab af) <| MSet .i64 .s ad f ae af λag=>NilP a λah=>LdI .i64 (ah.add 2) ag λai=>NilP a λaj=>LdM (aj.add 1) ag λak=>MLen .i64 .s ak ag λal=>NilP a λam=>St1 (am.add 2) (.I (if al>ai then al else ai)) ag λan=>m an) (m d)
theorem Zd.o {a b c d e}(f:Zd.v a b c d e):Zd.c a b c d e:=Wa Tryz.func99 (x:=Zd.h) (R0 f)
def QZ.h:Hn:=.q .o2 (.q (.q (.reg (.seq [.op,.op,.op,.grd false 2 [.op,.op]])) (.c (.q .o2 .l) .l)) (.q .o7 .l))
def QZ.v (a:Int)(b:Hp)(c:Option Addr->Int->Hp->Prop):Prop:=JnB (λd e=>If d (c none 1 e) (Mk a a 2 245 [.bool false,.bool false] e λf g=>Nw (.map #[] 0) g λh i=>Nw (.cells #[.slice f.a f.len f.cap,.map (some h.block),.I 0] 139 (0,0)) i λj k=>c (some j) 0 k)) λl=>If (a<1) (l true b) (l (decide (a>1024)) b)
theorem QZ.o {a b c}(d:QZ.v a b c):QZ.c a b c:=Wa Tryz.func106 (x:=QZ.h) (R0 d)
def XA.h:Hn:=.q .o1 (.q .o6 .l)
def XA.v (a:R2)(b c:Int)(d:Hp)(e:Int->Hp->Prop):Prop:=LdB ((Addr.mk 2 0 none).add 0) d λf=>LdB ((Addr.mk 2 0 none).add 1) d λg=>XR.c a b c f g d λh i=>e h i
theorem XA.o {a b c d e}(f:XA.v a b c d e):XA.c a b c d e:=Wa Tryz.func132 (x:=XA.h) (R0 f)
def Yx.h:Hn:=.q .o1 (.q .o6 .l)
def Yx.v (a:R2)(b c:Int)(d:Hp)(e:Int->Hp->Prop):Prop:=LdB ((Addr.mk 0 0 none).add 0) d λf=>LdB ((Addr.mk 0 0 none).add 1) d λg=>XR.c a b c f g d λh i=>e h i
theorem Yx.o {a b c d e}(f:Yx.v a b c d e):Yx.c a b c d e:=Wa Tryz.func136 (x:=Yx.h) (R0 f)
def XR.h:Hn:=.q .o2 (.q .o9 (.q (.k (.q .o3 (.c (.q .o2 .l) (.q .o4 (.c (.q .o1 .l) .l))))) (.q .o5 (.q .o1 .l))))
def XR.v (a:R2)(b c:Int)(d e:Bool)(f:Hp)(g:Int->Hp->Prop):Prop:=Nw (.cells #[.bool d,.bool e] 245 (0,0)) f λh i=>YJ.c a b c i λj k l=>If (k != 0) (g k l) (LdB ((Addr.mk 0 0 none).add 0) l λm=>LdB ((Addr.mk 0 0 none).add 1) l λn=>Wj.c j m n l λo p=>If o (g 7 p) (LdB (h.add 0) p λq=>LdB (h.add 1) p λr=>YN.c a b c q r p λs=>g 0 s))
theorem XR.o {a b c d e f g}(h:XR.v a b c d e f g):XR.c a b c d e f g:=Wa Tryz.func189 (x:=XR.h) (R0 h)
def YJ.h:Hn:=.q .o2 (.q (.k (.q .o4 (.c (.q .o2 .l) (.q (.reg (.seq [.op,.op,.op,.grd false 2 [.op,.op],.op,.grd false 7 (RI.ops 7),.op,.grd false 9 (RI.ops 9),.op])) (.c (.q .o2 .l) .l))))) (.q (.o 11) .l))
def YJ.v (a:R2)(b c:Int)(d:Hp)(e:Sl->Int->Hp->Prop):Prop:=XG.c a d λf g=>If (!f) (e ⟨none,0,0⟩ 5 g) (JnB (λh i=>JnB (λj k=>JnB (λl m=>If l (e ⟨none,0,0⟩ 1 m) (NilP a λn=>LdS (n.add 0) m λo=>Ar .i64 (b+c) λp=>SlcL o 2 b p (o.cap:Nat) λq=>e q 0 m)) λr=>If j (r true k) (NilP a λs=>LdS (s.add 0) k λt=>Ar .i64 (((t.len:Nat):Int)-b) λu=>r (decide (c>u)) k)) λv=>If h (v true i) (NilP a λw=>LdS (w.add 0) i λx=>v (decide (b>((x.len:Nat):Int))) i)) λy=>If (b<0) (y true g) (y (decide (c<1)) g))
theorem YJ.o {a b c d e}(f:YJ.v a b c d e):YJ.c a b c d e:=Wa Tryz.func239 (x:=YJ.h) (R0 f)
def YN.h:Hn:=.q .o1 (.q .o2 (.k (.loop [(8,.I)] (.q (.q .o5 (.c .l .l)) (.q (.k (.q (.reg (.tail 7 (RI.ops 7) [.op])) .o6)) .o3)))))
def YN.v (a:R2)(b c:Int)(d e:Bool)(f:Hp)(g:Hp->Prop):Prop:=Nw (.cells #[.bool d,.bool e] 245 (0,0)) f λh i=>Xo [(.i .i64)] (λj=>j b i) λk (l:Int) m=>Ar .i64 (b+c) λn=>If (l<n) (NilP a λo=>LdS (o.add 0) m λp=>LdB (h.add 0) m λq=>LdB (h.add 1) m λr=>Ix p.a p.len l 2 λs=>St1 (s.add 0) (.bool q) m λt=>St1 (s.add 1) (.bool r) t λu=>NilP a λv=>LdM (v.add 1) u λw=>MDel .i64 .s w l u λx=>Ar .i64 (l+1) λy=>k y x) (g m)
theorem YN.o {a b c d e f g}(h:YN.v a b c d e f g):YN.c a b c d e f g:=Wa Tryz.func240 (x:=YN.h) (R0 h)
def Y6.h:Hn:=.q .o1 (.q .o9 (.q (.k (.q .o3 (.c (.q .o2 .l) (.q .o3 (.c (.q .o1 .l) .l))))) (.q .o5 (.q .o1 .l))))
def Y6.v (a:R2)(b c:Int)(d:Hp)(e:Int->Hp->Prop):Prop:=YJ.c a b c d λf g h=>If (g != 0) (e g h) (Wh.c f ⟨281,#[],#[]⟩ h λi j=>If i (e 5 j) (LdB ((Addr.mk 2 0 none).add 0) j λk=>LdB ((Addr.mk 2 0 none).add 1) j λl=>YN.c a b c k l j λm=>e 0 m))
theorem Y6.o {a b c d e}(f:Y6.v a b c d e):Y6.c a b c d e:=Wa Tryz.func259 (x:=Y6.h) (R0 f)
def YD.h:Hn:=.q .o2 (.q .o4 .l)
def YD.v (a b:Bool)(c:Hp)(d:Bool->Hp->Prop):Prop:=Nw (.cells #[.bool a,.bool b] 245 (0,0)) c λe f=>LdB (e.add 0) f λg=>LdB (e.add 1) f λh=>LdB ((Addr.mk 0 0 none).add 0) f λi=>LdB ((Addr.mk 0 0 none).add 1) f λj=>d (!((g==i)&&((h==j)&&true))) f
theorem YD.o {a b c d}(e:YD.v a b c d):YD.c a b c d:=Wa Tryz.func281 (x:=YD.h) (R0 e)
end Go.Proofs
namespace Go.Ar
open Go Go.Vc Go.Proofs
open Go.Bu (Y3)
variable {U:Hp}{F:Rg}{p q r:Nat}{sp:Sp}
structure Gl (U:Hp):Prop where
 c0:cell U ⟨2,0,none⟩=some (.bool true)
 c1:cell U ⟨2,1,none⟩=some (.bool false)
 u0:cell U ⟨0,0,none⟩=some (.bool false)
 u1:cell U ⟨0,1,none⟩=some (.bool false)
structure Gd (U:Hp):Prop where
 d0:cell U ⟨1,0,none⟩=some (.bool true)
 d1:cell U ⟨1,1,none⟩=some (.bool true)
def Off (F:Rg):Prop:=∀b,F b->b≠2/\b≠0
theorem Kg {h:Hp}{b o:Nat}{v:Value}(hc:cell h ⟨b,o,none⟩=some v):b<h.size:=(Why hc).1
theorem Gl.keep {σ':Hp}(g:Gl U)(e:Ext F U σ')(hF:Off F):Gl σ':=by
 have n1:¬F 2:=λh=>(hF _ h).1 rfl;have n2:¬F 0:=λh=>(hF _ h).2 rfl;exact⟨(Kn e (Kg g.c0) n1).trans g.c0,(Kn e (Kg g.c1) n1).trans g.c1,(Kn e (Kg g.u0) n2).trans g.u0,(Kn e (Kg g.u1) n2).trans g.u1⟩
theorem Gd.keep {σ':Hp}(g:Gd U)(e:Ext F U σ')(hF:¬F 1):Gd σ':=⟨(Kn e (Kg g.d0) hF).trans g.d0,(Kn e (Kg g.d1) hF).trans g.d1⟩
theorem Gd.keep0 {σ':Hp}(g:Gd U)(e:Ext0 U σ'):Gd σ':=g.keep e id
theorem Gl.keep0 {σ':Hp}(g:Gl U)(e:Ext0 U σ'):Gl σ':=g.keep e λ_ h=>h.elim
theorem Off.grow (hF:Off F)(g:Gl U):Off (Grow F U):=λb hb=>by
 rcases hb with h|h
 ·exact hF b h
 ·have h1:=Kg g.c0;have h2:=Kg g.u0;exact⟨by omega,by omega⟩
theorem Off.sub {G:Rg}(hF:Off F)(h:∀b,G b->F b):Off G:=λb hb=>hF b (h b hb)
def pgC:Nat->Bool×Bool
 | 0=>(false,false)
 | 1=>(true,false)
 | _=>(true,true)
def pgV (st:List Nat):List Value:=st.flatMap λx=>[.bool (pgC x).1,.bool (pgC x).2]
theorem VA (l:List Nat):(pgV l).length=2*l.length:=by
 induction l with
 | nil=>rfl
 | cons x l ih=>simp only[pgV,zBR,zQ,zV,zAK]at *;omega
theorem Wii {l:List Nat}{i x:Nat}(h:l[i]?=some x):(pgV l)[2*i]?=some (.bool (pgC x).1)/\(pgV l)[2*i+1]?=some (.bool (pgC x).2):=by
 induction l generalizing i with
 | nil=>simp at h
 | cons y l ih=>
  have e:pgV (y::l)=[.bool (pgC y).1,.bool (pgC y).2]++pgV l:=by simp[pgV]
  rw[e];cases i with
  | zero=>simp at h;subst h;simp
  | succ i=>
   have:=ih (i:=i) (by simpa using h);rw[show 2*(i+1)=2*i+2 by omega];simpa using this
theorem Wg1 {l:List Nat}{i v:Nat}(h:i<l.length)(rest:List Value):((pgV l++rest).set (2*i) (.bool (pgC v).1)).set (2*i+1) (.bool (pgC v).2)=pgV (l.set i v)++rest:=by
 induction l generalizing i with
 | nil=>simp at h
 | cons y l ih=>
  have e:∀z m,pgV (z::m)=.bool (pgC z).1 :: .bool (pgC z).2::pgV m:=λz m=>by simp[pgV]
  cases i with
  | zero=>simp[e]
  | succ i=>
   have:=ih (i:=i) (by simpa using h);rw[zCQ,e,e,show 2*(i+1)=2*i+1+1 by omega];simp only[zAF,zCQ];rw[this]
theorem WgY {x y:Nat}(hx:x<=2)(hy:y<=2):(((pgC x).1==(pgC y).1)&&(((pgC x).2==(pgC y).2)&&true))=(x==y):=by
 match x,y,hx,hy with
 | 0,0,_,_=>rfl
 | 1,1,_,_=>rfl
 | 2,2,_,_=>rfl
 | 0,1,_,_=>rfl
 | 0,2,_,_=>rfl
 | 1,0,_,_=>rfl
 | 1,2,_,_=>rfl
 | 2,0,_,_=>rfl
 | 2,1,_,_=>rfl
theorem Kl {α:Type}(x:Int×α)(l:List (Int×α))(k:Int):mget (x::l) k=if x.1=k then some x.2 else mget l k:=by
 unfold mget;rw[zDF];by_cases h:x.1=k
 ·simp[h]
 ·have:(x.1==k)=false:=by simpa using h
  rw[this,zA h]
theorem Wjm {α:Type}(l:List (Int×α))(n k:Int)(v:α):mget (l.map λx=>if x.1==n then(n,v)else x) k=if k=n then(if l.any (λx=>x.1==n)then some v else none)else mget l k:=by
 induction l with
 | nil=>simp[mget]
 | cons x l ih=>
  rw[zW,Kl,ih,Kl,List.any_cons];by_cases hx:x.1=n
  ·by_cases hk:k=n
   ·subst hk;simp[hx]
   ·have:¬n=k:=λe=>hk e.symm;simp[hx,hk,this]
  ·have hx':(x.1==n)=false:=by simpa using hx
   simp only[hx',za,zp,zCD];by_cases hk:k=n
   ·subst hk;simp[hx]
   ·simp[hk]
theorem WiR {α:Type}(l:List (Int×α))(n k:Int)(v:α)(h:l.any (λx=>x.1==n)=false):mget (l++[(n,v)]) k=if k=n then some v else mget l k:=by
 induction l with
 | nil=>
  rw[zBX,Kl];by_cases hk:k=n
  ·simp[hk]
  ·have:¬n=k:=λe=>hk e.symm;simp[hk,this,mget]
 | cons x l ih=>
  rw[List.any_cons,zFG]at h;rw[zAF,Kl,ih h.2,Kl];have hx:¬x.1=n:=by simpa using h.1
  by_cases hk:k=n
  ·subst hk;simp[hx]
  ·simp[hk]
theorem G7 {α:Type}(l:List (Int×α))(n k:Int)(v:α):mget (mset l n v) k=if k=n then some v else mget l k:=by
 unfold mset;cases h:l.any (λx=>x.1==n)
 ·rw[zA (by simp),WiR l n k v h]
 ·rw[zB rfl,Wjm,h];simp
theorem WcY {α:Type}(l:List (Int×α))(n k:Int):mget (mdel l n) k=if k=n then none else mget l k:=by
 unfold mdel
 induction l with
 | nil=>simp[mget]
 | cons x l ih=>
  rw[zCJ,Kl];by_cases hx:x.1=n
  ·have:(!(x.1==n))=false:=by simp[hx]
   rw[this];simp only[za,zp,ih];by_cases hk:k=n
   ·simp[hk]
   ·have:¬x.1=k:=λe=>hk (e.symm.trans hx);simp[hk,this]
  ·have:(!(x.1==n))=true:=by simpa using hx
   rw[this,zB rfl,Kl,ih];by_cases hk:k=n
   ·subst hk;simp[hx]
   ·simp[hk]
theorem GB {α:Type}{l:List (Int×α)}{k:Int}{v:α}(h:mget l k=some v):(k,v)∈l:=by
 unfold mget at h;cases hf:l.find? (λx=>x.1==k)with
 | none=>rw[hf]at h;cases h
 | some x=>
  rw[hf]at h;have h1:=zCY hf;have h2:=zCZ hf;have h3:x.1=k:=by simpa using h1
  have h4:x.2=v:=by simpa using h
  rw[←h3,←h4];exact h2
theorem Wd9 {α:Type}{l:List (Int×α)}{k:Int}:(mget l k).isSome=true↔k∈l.map (·.1):=by
 unfold mget;rw[Option.isSome_map,zGE];simp
def WdH (U:Hp)(s:Sl)(b:Nat)(f:Nat->Int):Prop:=s.a=some ⟨b,0,none⟩/\s.len=32/\32<=s.cap/\∃cs,Blk U b cs/\32<=cs.length/\∀j,j<32->cs[j]?=some (.int .i64 (f j))
structure SpH2 (U:Hp) (F:Rg) (p q r:Nat) (l:List (Int×Sl)) (B:Nat->Nat) (sp:Sp):Prop where
 hd:∃cap,sp.st.length<=cap/\Blk U p [.slice (some ⟨q,0,none⟩) sp.st.length cap,.map (some r),.int .i64 (sp.pk:Int)]
 row:∃rest,Blk U q (pgV sp.st++rest)
 map:MapL U r .i64 .s l
 keys:∀x:Int,(mget l x).isSome=true↔∃k:Nat,x=k/\sp.st[k]?=some 2
 wd:∀(k:Nat) s,mget l (k:Int)=some s->WdH U s (B k) λj=>sp.wd (32*k+j)
 inj:∀k k':Nat,sp.st[k]?=some 2->sp.st[k']?=some 2->B k=B k'->k=k'
 out:∀k:Nat,sp.st[k]?=some 2->F (B k)/\B k≠p/\B k≠q/\B k≠r
 fs:F p/\F q/\F r/\p≠q/\p≠r/\q≠r
 zero:∀w:Nat,sp.st[w/32]?≠some 2->sp.wd w=0
 n1:1<=sp.st.length
 n2:sp.st.length<=1024
 le2:∀x∈sp.st,x<=2
 pk:sp.pk<=1024
def SpH3 (U:Hp)(F:Rg)(p:Nat)(sp:Sp):Prop:=∃q r l B,SpH2 U F p q r l B sp
theorem SpH2.entry {l:List (Int×Sl)}{B:Nat->Nat}(h:SpH2 U F p q r l B sp){k:Nat}(hk:sp.st[k]?=some 2):∃s,mget l (k:Int)=some s/\WdH U s (B k) λj=>sp.wd (32*k+j):=by
 have:=(h.keys (k:Int)).2 ⟨k,rfl,hk⟩;obtain⟨s,hs⟩:=zBU.1 this;exact⟨s,hs,h.wd k s hs⟩
theorem SpH2.dirty {l:List (Int×Sl)}{B:Nat->Nat}(h:SpH2 U F p q r l B sp){k:Nat}{s:Sl}(hs:mget l (k:Int)=some s):sp.st[k]?=some 2:=by
 obtain⟨k',e,hk⟩:=(h.keys (k:Int)).1 (by rw[hs];rfl);have:k=k':=by omega
 subst this;exact hk
theorem SpH3.loc:Lcl λU F=>SpH3 U F p sp:=λU σ' F G ⟨q,r,l,B,h⟩ hz hs=>by
 have kb:∀{b:Nat} {cs:List Value},Blk U b cs->F b->Blk σ' b cs/\G b:=by
  rintro b cs ⟨e,he⟩ hf;have:=hs b (Blk.lt ⟨e,he⟩) hf;exact⟨⟨e,this.2.trans he⟩,this.1⟩
 obtain⟨c,hc,hd⟩:=h.hd;obtain⟨rest,hrow⟩:=h.row;obtain⟨es,clk,hr,hm⟩:=h.map;have hrr:=hs r (zAL.1 hr).1 h.fs.2.2.1;refine⟨q,r,l,B,⟨c,hc,(kb hd h.fs.1).1⟩,⟨rest,(kb hrow h.fs.2.1).1⟩,⟨es,clk,hrr.2.trans hr,hm⟩,h.keys,λk s hk=>?_,h.inj,λk hk=>?_,⟨(kb hd h.fs.1).2,(kb hrow h.fs.2.1).2,hrr.1,h.fs.2.2.2⟩,h.zero,h.n1,h.n2,h.le2,h.pk⟩
 ·obtain⟨w1,w2,w3,cs,w4,w5⟩:=h.wd k s hk;exact⟨w1,w2,w3,cs,(kb w4 (h.out k (h.dirty hk)).1).1,w5⟩
 ·obtain⟨s,hsk,w1,w2,w3,cs,w4,w5⟩:=h.entry hk;exact⟨(kb w4 (h.out k hk).1).2,(h.out k hk).2⟩
theorem SpH3.keep0 {σ':Hp}(h:SpH3 U F p sp)(e:Ext0 U σ'):SpH3 σ' F p sp:=Lcl.keep0 SpH3.loc h e
variable {l:List (Int×Sl)}{B:Nat->Nat}
theorem SpH2.rS (h:SpH2 U F p q r l B sp){K:Sl->Prop}(hK:∀cap,sp.st.length<=cap->K ⟨some ⟨q,0,none⟩,sp.st.length,cap⟩):LdS (Addr.add ⟨p,0,none⟩ 0) U K:=by
 obtain⟨c,hc,hd⟩:=h.hd;exact hd.rS rfl (hK c hc)
theorem SpH2.rM (h:SpH2 U F p q r l B sp){K:Option Nat->Prop}(hK:K (some r)):LdM (Addr.add ⟨p,0,none⟩ 1) U K:=by
 obtain⟨c,hc,hd⟩:=h.hd;exact hd.rM rfl hK
theorem SpH2.rPg (h:SpH2 U F p q r l B sp){i x:Nat}(hx:sp.st[i]?=some x){K:Bool->Bool->Prop}(hK:K (pgC x).1 (pgC x).2):LdB (Addr.add ⟨q,2*i,none⟩ 0) U λa=>LdB (Addr.add ⟨q,2*i,none⟩ 1) U λb=>K a b:=by
 obtain⟨rest,hrow⟩:=h.row;have hi:=(gSi.1 hx).1;have hg:=Wii hx;refine hrow.rB (x:=(pgC x).1) ?_ (hrow.rB (x:=(pgC x).2) ?_ hK)
 ·rw[zo,zf (by rw[VA];omega)];exact hg.1
 ·rw[zf (by rw[VA];omega)];exact hg.2
theorem WaF (h:SpH3 U F p sp){R:Bool->Hp->Prop}(hR:R true U):XG.c (some ⟨p,0,none⟩) U R:=by
 refine XG.o ?_;unfold XG.v;obtain⟨q,r,l,B,h⟩:=h;have:=h.n1;refine JnB.intro (ifT rfl (nilP (h.rS λcap _=>?_)));rw[zI (by simp only;omega)];exact hR
theorem We0 (h:SpH3 U F p sp){R:Int->Hp->Prop}(hR:R (sp.st.length:Int) U):XO.c (some ⟨p,0,none⟩) U R:=by
 refine XO.o ?_;unfold XO.v;have h':=h;obtain⟨q,r,l,B,h⟩:=h;exact WaF h' (ifF rfl (nilP (h.rS λcap _=>hR)))
theorem SpH2.len_l (h:SpH2 U F p q r l B sp):l.length=sp.st.count 2:=by
 have hn:=h.map.nodup;have hp:(l.map (·.1)).Perm (((List.range sp.st.length).filter λk=>sp.st[k]?==some 2).map λk=>((k:Nat):Int)):=by
  rw[zFV hn]
  ·intro x;rw[←Wd9,h.keys];simp only[zE,zG,zb,zY];constructor
   ·rintro⟨k,rfl,hk⟩;exact⟨k,⟨(gSi.1 hk).1,hk⟩,rfl⟩
   ·rintro⟨k,⟨_,hk⟩,rfl⟩;exact⟨k,rfl,hk⟩
  ·have hnd:((List.range sp.st.length).filter λk=>sp.st[k]?==some 2).Pairwise (· ≠ ·):=List.Pairwise.sublist zCK List.nodup_range;exact List.Pairwise.map _ (λa b (hne:a≠b) hab=>hne (by exact_mod_cast hab)) hnd
 have hl:=hp.length_eq;simp only[zh]at hl;rw[hl,←zEX];have key:∀st:List Nat,(List.range st.length).countP (λk=>st[k]?==some 2)=st.count 2:=by
  intro st
  induction st with
  | nil=>rfl
  | cons x st ih=>
   rw[zV,zGF,zEK,List.countP_map,List.count_cons,←ih]
   congr 1
 exact key sp.st
end Go.Ar
namespace Go.Ar
open Go Go.Vc Go.Proofs
open Go.Bu (Y3)
variable {U:Hp}{F:Rg}{p q r:Nat}{sp:Sp}{l:List (Int×Sl)}{B:Nat->Nat}
theorem Wj9 (l:List Nat)(n:Nat):pgV (l.take n)=(pgV l).take (2*n):=by
 induction l generalizing n with
 | nil=>simp[pgV]
 | cons y l ih=>
  have e:∀z m,pgV (z::m)=.bool (pgC z).1 :: .bool (pgC z).2::pgV m:=λz m=>by simp[pgV]
  cases n with
  | zero=>simp[pgV]
  | succ n=>
   rw[zCR,e,e,ih,show 2*(n+1)=2*n+1+1 by omega];simp
theorem Wjb (l:List Nat)(n:Nat):pgV (l.drop n)=(pgV l).drop (2*n):=by
 induction l generalizing n with
 | nil=>simp[pgV]
 | cons y l ih=>
  have e:∀z m,pgV (z::m)=.bool (pgC z).1 :: .bool (pgC z).2::pgV m:=λz m=>by simp[pgV]
  cases n with
  | zero=>simp[pgV]
  | succ n=>
   rw[zFE,e,ih,show 2*(n+1)=2*n+1+1 by omega];simp
theorem WlV (n v:Nat):pgV (List.replicate n v)=(List.replicate n [Value.bool (pgC v).1,.bool (pgC v).2]).flatten:=by
 induction n with
 | zero=>rfl
 | succ n ih=>rw[zEH,zEH,zDW,←ih];simp[pgV]
theorem _root_.Go.Vc.SlR.rPg {s:Sl}{l:List Nat}(h:SlR s 2 (pgV l) U F){i x:Nat}(hx:l[i]?=some x){K:Bool->Bool->Prop}(hK:K (pgC x).1 (pgC x).2) :
 Ix s.a s.len (i:Int) 2 λa=>LdB (a.add 0) U λu=>LdB (a.add 1) U λw=>K u w:=by
 have hi:=(gSi.1 hx).1;have hg:=Wii hx;obtain⟨b,o,ha,hc⟩:=h.cell hg.1;obtain⟨b1,o1,ha1,hc1⟩:=h.cell hg.2;rw[ha]at ha1;cases ha1;have hl:=h.1;rw[VA]at hl;rw[ha];refine ix (by omega) (by omega) ?_;rw[add_lit];refine ldB ?_ (ldB ?_ hK)<;>rw[add_lit]
 ·rw[show o+(i:Int).toNat*2+0=o+2*i by omega];exact hc
 ·rw[show o+(i:Int).toNat*2+1=o+(2*i+1) by omega];exact hc1
theorem _root_.Go.Vc.SlR.lenP {s:Sl}{l:List Nat}(h:SlR s 2 (pgV l) U F):s.len=l.length:=by
 have:=h.1;rw[VA]at this;omega
theorem Wi0 {s:Sl}{xs:List Nat}(h:SlR s 2 (pgV xs) U F)(hl:xs.length<=1000000)(h2:∀x∈xs,x<=2){v:Nat}(hv:v<=2){R:Int->Hp->Prop}
 (hR:∀(t:Int) σ',Ext0 U σ'->decide (t≥0)=xs.contains v->R t σ'):Wn.c s (pgC v).1 (pgC v).2 U R:=by
 refine Wn.o ?_;unfold Wn.v;have hlen:=h.lenP;refine nw (cs:=[.bool (pgC v).1,.bool (pgC v).2]) λw hz e hb=>?_;have h:=(SlR.loc _ _ _).keep0 h e;refine Zx (a:=.i .i64) (λ(t:Int) h'=>∃i:Nat,t=(i:Int)/\i<=xs.length/\h'=w/\∀j,j<i->xs[j]?≠some v) (λt _=>xs.length-t.toNat) ⟨0,rfl,by omega,rfl,λj hj=>by omega⟩ ?_;rintro t h' ⟨i,rfl,hi,rfl,hno⟩;refine ifD (λhlt=>?_) λhge=>?_
 ·have hi':i<xs.length:=by omega
  have hx:xs[i]?=some xs[i]:=gGe hi';refine hb.rB rfl (hb.rB rfl (h.rPg hx ?_));rw[WgY hv (h2 _ (zk hi'))];refine iff_ (λhe=>?_) λhe=>?_
  ·have:v=xs[i]:=by simpa using he
   refine hR _ _ e ?_;have hc:xs.contains v=true:=by rw[this];simp
   rw[hc,zI (by omega)]
  ·have he':¬v=xs[i]:=by simpa using he
   refine arN (m:=i+1) (by omega) (by omega) ⟨⟨i+1,rfl,by omega,rfl,λj hj=>?_⟩,by omega⟩;by_cases e:j=i
   ·subst e;rw[hx];intro e2;cases e2;exact he' rfl
   ·exact hno j (by omega)
 ·refine hR _ _ e ?_;have:xs.contains v=false:=by
   simp only[zCN,decide_eq_false_iff_not];intro hm;obtain⟨j,hj⟩:=zM hm;have:=(gSi.1 hj).1;exact hno j (by omega) hj
  rw[this];rfl
theorem Gj {s:Sl}{xs:List Nat}(h:SlR s 2 (pgV xs) U F)(hl:xs.length<=1000000)(h2:∀x∈xs,x<=2){v:Nat}(hv:v<=2){R:Bool->Hp->Prop}
 (hR:∀σ',Ext0 U σ'->R (xs.contains v) σ'):Wj.c s (pgC v).1 (pgC v).2 U R:=by
 refine Wj.o ?_;unfold Wj.v;refine nw (cs:=[.bool (pgC v).1,.bool (pgC v).2]) λw hz e hb=>hb.rB rfl (hb.rB rfl ?_);refine Wi0 ((SlR.loc _ _ _).keep0 h e) hl h2 hv λt σ' e' ht=>?_;rw[ht];exact hR σ' (Ext.trans e e')
theorem Wgg (g:Gl U){x:Nat}(hx:x<=2){R:Bool->Hp->Prop}(hR:∀σ',Ext0 U σ'->R (x != 0) σ'):YD.c (pgC x).1 (pgC x).2 U R:=by
 refine YD.o ?_;unfold YD.v;refine nw (cs:=[.bool (pgC x).1,.bool (pgC x).2]) λv hz e hb=>hb.rB rfl (hb.rB rfl ?_);have g:=g.keep0 e;refine ldB (by rw[←g.u0];rfl) (ldB (by rw[←g.u1];rfl) ?_);have e0:(((pgC x).1==false)&&(((pgC x).2==false)&&true))=(x==0):=WgY hx (y:=0) (by omega);rw[e0];exact hR v e
theorem Wm1 {s:Sl}{xs:List Nat}(h:SlR s 2 (pgV xs) U F)(g:Gl U)(hl:xs.length<=1000000)(h2:∀x∈xs,x<=2){R:Bool->Hp->Prop}
 (hR:∀σ',Ext0 U σ'->R (xs.any (· != 0)) σ'):Wh.c s ⟨281,#[],#[]⟩ U R:=by
 refine Wh.o ?_;unfold Wh.v;refine Wm.o ?_;unfold Wm.v;have hlen:=h.lenP;refine Zx (a:=.i .i64) (λ(t:Int) h'=>∃i:Nat,t=(i:Int)/\i<=xs.length/\Ext0 U h'/\∀(j x:Nat),j<i->xs[j]?=some x->x=0) (λt _=>xs.length-t.toNat) ⟨0,rfl,by omega,Ext.refl _ _,λj x hj=>by omega⟩ ?_;rintro t w ⟨i,rfl,hi,e,hno⟩;refine ifD (λhlt=>?_) λhge=>?_
 ·have hi':i<xs.length:=by omega
  have hx:xs[i]?=some xs[i]:=gGe hi';refine((SlR.loc _ _ _).keep0 h e).rPg hx ?_;refine Gq (all := #[.agg #[.bool (pgC xs[i]).1,.bool (pgC xs[i]).2]]) (by kernel_rfl) (by simp) ?_;refine Wgg (g.keep0 e) (h2 _ (zk hi')) λw' e'=>?_;refine iff_ (λhe=>?_) λhe=>?_
  ·have:xs.any (· != 0)=true:=zz.2 ⟨_,zk hi',he⟩;have:=hR w' (Ext.trans e e');rw[‹xs.any (· != 0)=true›]at this;show R (decide ((i:Int)≥0)) _;rw[zI (by omega)];exact this
  ·have he':xs[i]=0:=by simpa using he
   refine arN (m:=i+1) (by omega) (by omega) ⟨⟨i+1,rfl,by omega,Ext.trans e e',λj x hj hjx=>?_⟩,by omega⟩;by_cases e:j=i
   ·subst e;rw[hx]at hjx;cases hjx;exact he'
   ·exact hno j x (by omega) hjx
 ·have:xs.any (· != 0)=false:=by
   rw[zAO];intro x hm;obtain⟨j,hj⟩:=zM hm;have:=(gSi.1 hj).1;simpa using hno j x (by omega) hj
  have:=hR w e;rw[‹xs.any (· != 0)=false›]at this;exact this
theorem SpH2.part (h:SpH2 U F p q r l B sp){x y c:Nat}(hl:x+y<=sp.st.length):SlR ⟨some ⟨q,2*x,none⟩,y,c⟩ 2 (pgV ((sp.st.drop x).take y)) U F:=by
 obtain⟨rest,hrow⟩:=h.row;have hlen:(pgV ((sp.st.drop x).take y)).length=y*2:=by rw[VA,zT,zl];omega
 refine⟨hlen,.inr ⟨q,2*x,_,h.fs.2.1,rfl,hrow.q,λj hj=>?_⟩⟩;rw[hlen]at hj;rw[zf (by rw[VA];omega),Wj9,Wjb,zX,zB (by omega),zj]
theorem Wlj (h:SpH3 U F p sp)(a m:Int){R:Sl->Int->Hp->Prop}(h0:Y3 sp.st.length a m=false->R ⟨none,0,0⟩ 1 U)
 (h1:∀(x y:Nat) s,a=x->m=y->1<=y->x+y<=sp.st.length->SlR s 2 (pgV ((sp.st.drop x).take y)) U F->R s 0 U):YJ.c (some ⟨p,0,none⟩) a m U R:=by
 refine YJ.o ?_;unfold YJ.v;have h':=h;obtain⟨q,r,l,B,h⟩:=h;have n2:=h.n2;have bad:¬(0<=a/\1<=m/\m<=sp.st.length-a)->R ⟨none,0,0⟩ 1 U:=λhn=>h0 (by simp only[Y3,←zDN];exact zH hn);refine WaF h' (ifF rfl (JnB.intro (ifD (λc1=>JnB.intro (ifT rfl (JnB.intro (ifT rfl (ifT rfl (bad (by omega))))))) λc1=>?_)));refine JnB.intro (ifD (λc2=>JnB.intro (ifT rfl (ifT rfl (bad (by omega))))) λc2=>nilP (h.rS λcap hc=>?_));simp only;refine JnB.intro (ifD (λc3=>ifT rfl (bad (by omega))) λc3=>?_);refine nilP (h.rS λcap hc=>ar (by simp only;omega) (by simp only;omega) ?_);simp only;refine ifD (λc4=>bad (by omega)) λc4=>?_;obtain⟨x,rfl⟩:=ze (show 0<=a by omega);obtain⟨y,rfl⟩:=ze (show 0<=m by omega);refine nilP (h.rS λcap hc=>arN (m:=x+y) (by omega) (by omega) ?_);refine slc (by omega) (by simp only;omega) (zC _) ?_;simp only;rw[zA (by omega)];refine h1 x y _ rfl rfl (by omega) (by omega) ?_;have:=h.part (x:=x) (y:=y) (c:=cap-x) (by omega);have e:(Option.map (λ(u:Addr)=>u.add (x*2)) (some (⟨q,0,none⟩:Addr)))=some ⟨q,2*x,none⟩:=by
  simp only[zc,add_lit];congr 2;omega
 rw[e,zGA];exact this
def Sp.set1 (s:Sp)(k v:Nat):Sp:={s with st:=s.st.set k v,wd:=λw=>if k*32<=w/\w<(k+1)*32 then 0 else s.wd w}
theorem Win {st:List Nat}(h:∀x∈st,x<=2){k v:Nat}(hv:v<=2):∀x∈st.set k v,x<=2:=by
 intro x hx;rcases zEL hx with h1|h1
 ·exact h x h1
 ·omega
theorem SpH2.set1 (h:SpH2 U F p q r l B sp){k v:Nat}(hk:k<sp.st.length)(hv:v<=1){σ':Hp}(e:Ext (λb=>b=q\/b=r) U σ'){rest:List Value}
 (hb:Blk σ' q (pgV (sp.st.set k v)++rest)) (hm:MapL σ' r .i64 .s (mdel l (k:Int))):SpH2 σ' F p q r (mdel l (k:Int)) B (sp.set1 k v):=by
 have g2:∀j:Nat,(sp.st.set k v)[j]?=some 2↔j≠k/\sp.st[j]?=some 2:=λj=>by
  rw[zBD];by_cases hjk:k=j
  ·subst hjk;rw[zB rfl,zB hk];constructor
   ·intro h;have:v=2:=by simpa using h
    omega
   ·intro h;exact absurd rfl h.1
  ·rw[zA hjk];exact⟨λh=>⟨λe=>hjk e.symm,h⟩,λh=>h.2⟩
 obtain⟨c,hc,hd⟩:=h.hd;have np:¬(p=q\/p=r):=by have:=h.fs;omega
 refine⟨⟨c,by simpa[Sp.set1]using hc,by simpa[Sp.set1]using e.blk hd np⟩,⟨rest,hb⟩,hm,λx=>?_,λj s hs=>?_,λj j' h1 h2=>?_,λj hj=>?_,h.fs,λw hw=>?_,by simpa[Sp.set1]using h.n1,by simpa[Sp.set1]using h.n2,Win h.le2 (by omega),h.pk⟩
 ·rw[WcY];by_cases hx:x=(k:Int)
  ·rw[zB hx];constructor
   ·intro h;cases h
   ·rintro⟨j,rfl,hj⟩;have:=(g2 j).1 hj;omega
  ·rw[zA hx,h.keys];constructor
   ·rintro⟨j,rfl,hj⟩;exact⟨j,rfl,(g2 j).2 ⟨by omega,hj⟩⟩
   ·rintro⟨j,rfl,hj⟩;exact⟨j,rfl,((g2 j).1 hj).2⟩
 ·rw[WcY]at hs;by_cases hx:(j:Int)=(k:Int)
  ·rw[zB hx]at hs;cases hs
  ·rw[zA hx]at hs;obtain⟨w1,w2,w3,cs,w4,w5,w6⟩:=h.wd j s hs;have ho:=h.out j (h.dirty hs);refine⟨w1,w2,w3,cs,e.blk w4 (by omega),w5,λi hi=>?_⟩;rw[w6 i hi];simp only[Sp.set1];rw[zA (by omega)]
 ·exact h.inj j j' ((g2 j).1 h1).2 ((g2 j').1 h2).2
 ·exact h.out j ((g2 j).1 hj).2
 ·simp only[Sp.set1]at hw ⊢;by_cases hin:k*32<=w/\w<(k+1)*32
  ·rw[zB hin]
  ·rw[zA hin];refine h.zero w λh2=>hw ((g2 _).2 ⟨by omega,h2⟩)
theorem Sp.set_zero (s:Sp)(a v:Nat):s.set a 0 v=s:=by
 have h1:setR s.st a (a+0) v=s.st:=by
  apply zm;intro i;rw[U8];cases s.st[i]? with
  | none=>rfl
  | some x=>simp only[zc];rw[zA (by omega)]
 have h2:(λw=>if a*32<=w/\w<(a+0)*32 then 0 else s.wd w)=s.wd:=by
  funext w;rw[zA (by omega)]
 simp only[Sp.set,h1,h2]
theorem Sp.set_succ (s:Sp)(a m v:Nat)(h:a+m<s.st.length):(s.set a m v).set1 (a+m) v=s.set a (m+1) v:=by
 have h1:(setR s.st a (a+m) v).set (a+m) v=setR s.st a (a+(m+1)) v:=by
  apply zm;intro i;rw[zBD,U8,U8,Qi];by_cases hi:a+m=i
  ·subst hi;rw[zB rfl,zB h,gGe h,zc,zB (by omega)]
  ·rw[zA hi];cases s.st[i]? with
   | none=>rfl
   | some x=>
    simp only[zc];by_cases hin:a<=i/\i<a+m
    ·rw[zB hin,zB (by omega)]
    ·rw[zA hin,zA (by omega)]
 have h2:(λw=>if(a+m)*32<=w/\w<(a+m+1)*32 then 0 else(if a*32<=w/\w<(a+m)*32 then 0 else s.wd w))=λw=>if a*32<=w/\w<(a+(m+1))*32 then 0 else s.wd w:=by
  funext w
  by_cases h1:(a+m)*32<=w/\w<(a+m+1)*32
  ·rw[zB h1,zB (by omega)]
  ·rw[zA h1];by_cases h2:a*32<=w/\w<(a+m)*32
   ·rw[zB h2,zB (by omega)]
   ·rw[zA h2,zA (by omega)]
 simp only[Sp.set,Sp.set1,h1,h2]
theorem WiM (h:SpH3 U F p sp){x y v:Nat}(hl:x+y<=sp.st.length)(hv:v<=1){R:Hp->Prop}(hR:∀σ',Ext F U σ'->SpH3 σ' F p (sp.set x y v)->R σ') :
 YN.c (some ⟨p,0,none⟩) x y (pgC v).1 (pgC v).2 U R:=by
 refine YN.o ?_;unfold YN.v;have hn2:sp.st.length<=1024:=by obtain⟨q,r,l,B,h⟩:=h;exact h.n2
 have hcut:SpH3 U (Cut F U) p sp:=Lcl.cut SpH3.loc h;refine nw (cs:=[.bool (pgC v).1,.bool (pgC v).2]) λu hz e hb=>?_;have hc:=hcut.keep0 e;refine Zx (a:=.i .i64) (λ(t:Int) w=>∃i:Nat,t=((x+i:Nat):Int)/\i<=y/\Ext (Cut F U) u w/\Blk w U.size [.bool (pgC v).1,.bool (pgC v).2]/\SpH3 w (Cut F U) p (sp.set x i v)) (λt _=>x+y-t.toNat)
  ⟨0,rfl,by omega,Ext.refl _ _,hb,by rw[Sp.set_zero];exact hc⟩ ?_
 rintro t w ⟨i,rfl,hi,ew,hbw,q,r,l,B,hw⟩;refine arN (m:=x+y) (by omega) (by omega) (ifD (λhlt=>?_) λhge=>?_)
 ·have hlen:(sp.set x i v).st.length=sp.st.length:=Qi _ _ _ _;refine nilP (hw.rS λcap hcap=>hbw.rB rfl (hbw.rB rfl (ix (by omega) (by simp only;omega) ?_)));rw[add_lit,show 0+((x+i:Nat):Int).toNat*2=2*(x+i) by omega];obtain⟨rest,hrow⟩:=hw.row;have hk:x+i<(sp.set x i v).st.length:=by omega
  refine hrow.s1 (by rw[zQ,VA];omega) λw1 o1 b1=>b1.s1 (by rw[zBM,zQ,VA];omega) λw2 o2 b2=>?_;rw[zo,Wg1 hk]at b2;have e2:Ext (· = q) w w2:=o1.ext.trans o2.ext;obtain⟨c,hc',hd⟩:=hw.hd;have hd2:=e2.blk hd hw.fs.2.2.2.1;refine nilP (hd2.rM rfl ⟨l,e2.mapL hw.map (λe=>hw.fs.2.2.2.2.2 e.symm),λw3 ho3 _ hm3=>?_⟩);have o3:=ho3 r rfl;have e3:Ext (λb=>b=q\/b=r) w w3:=(e2.sub λb hb=>.inl hb).trans (o3.ext.sub λb hb=>.inr hb);have h3:=hw.set1 hk hv e3 (Ws o3 b2 hw.fs.2.2.2.2.2) hm3;rw[Sp.set_succ _ _ _ _ (by omega)]at h3;have e4:Ext (Cut F U) w w3:=e3.sub λb hb=>by
   rcases hb with rfl|rfl
   ·exact hw.fs.2.1
   ·exact hw.fs.2.2.1
  refine arN (m:=x+(i+1)) (by omega) (by omega) ⟨⟨i+1,rfl,by omega,ew.trans e4,e4.blk hbw λhf=>by have:=hf.2;omega,_,_,_,_,h3⟩,by omega⟩
 ·have:i=y:=by omega
  subst this;refine hR w (Ext.cut (e.to.trans ew)) (Lcl.mono SpH3.loc ⟨q,r,l,B,hw⟩ λb _ hb=>hb.1)
theorem Wnv (h:SpH3 U F p sp)(g:Gl U)(hF:Off F)(a m:Int){R:Int->Hp->Prop}(hR:∀σ',Ext F U σ'->SpH3 σ' F p (mapS sp a m)->R (mapE sp a m) σ') :
 Y6.c (some ⟨p,0,none⟩) a m U R:=by
 refine Y6.o ?_;unfold Y6.v;have hle:(∀x∈sp.st,x<=2)/\sp.st.length<=1024:=by obtain⟨q,r,l,B,h⟩:=h;exact⟨h.le2,h.n2⟩
 refine Wlj h a m (λhk=>?_) λx y s hx hy h1 h2 hs=>?_
 ·have e1:mapE sp a m=1:=by unfold mapE;rw[hk];rfl
  have e2:mapS sp a m=sp:=by unfold mapS;rw[e1];rfl
  have:=hR U (Ext.refl _ _);rw[e1,e2]at this;exact ifT rfl (this h)
 ·subst hx;subst hy;have hk:Y3 sp.st.length (x:Int) (y:Int)=true:=by simp only[Y3,zF,zP];omega
  refine ifF rfl (Wm1 hs g (by rw[zT,zl];omega) (λz hz=>hle.1 z (zCE (zCP hz))) λσ1 e1=>?_);have em:mapE sp x y=if((sp.st.drop x).take y).any (· != 0)then 5 else 0:=by unfold mapE;rw[hk];rfl
  refine iff_ (λhany=>?_) λhany=>?_
  ·rw[hany]at em;have e2:mapS sp x y=sp:=by unfold mapS;rw[em];rfl
   have:=hR σ1 (Ext0.to e1);rw[em,e2]at this;exact this (h.keep0 e1)
  ·rw[hany]at em;have e2:mapS sp x y=sp.set x y 1:=by unfold mapS;rw[em];rfl
   have g1:=g.keep0 e1;refine ldB (by rw[←g1.c0];rfl) (ldB (by rw[←g1.c1];rfl) ?_);refine WiM (v:=1) (h.keep0 e1) h2 (by omega) λσ2 e3 h3=>?_;have:=hR σ2 (Ext.trans (Ext0.to e1) e3);rw[em,e2]at this;exact this h3
theorem Wfp (h:SpH3 U F p sp)(g:Gl U)(hF:Off F)(a m:Int){v:Nat}(hv:v<=1){R:Int->Hp->Prop}(hR:∀σ',Ext F U σ'->SpH3 σ' F p (leaveS sp a m v)->R (leaveE sp a m) σ') :
 XR.c (some ⟨p,0,none⟩) a m (pgC v).1 (pgC v).2 U R:=by
 refine XR.o ?_;unfold XR.v;have hle:(∀x∈sp.st,x<=2)/\sp.st.length<=1024:=by obtain⟨q,r,l,B,h⟩:=h;exact⟨h.le2,h.n2⟩
 have hcut:SpH3 U (Cut F U) p sp:=Lcl.cut SpH3.loc h;refine nw (cs:=[.bool (pgC v).1,.bool (pgC v).2]) λu hz e hb=>?_;have hu:=hcut.keep0 e;have back:∀w s',SpH3 w (Cut F U) p s'->SpH3 w F p s':=λw s' h=>Lcl.mono SpH3.loc h λb _ hb=>hb.1;refine Wlj hu a m (λhk=>?_) λx y s hx hy h1 h2 hs=>?_
 ·have e1:leaveE sp a m=1:=by unfold leaveE;rw[hk];rfl
  have e2:leaveS sp a m v=sp:=by unfold leaveS;rw[e1];rfl
  have:=hR u (Ext0.to e);rw[e1,e2]at this;exact ifT rfl (this (back _ _ hu))
 ·subst hx;subst hy;have hk:Y3 sp.st.length (x:Int) (y:Int)=true:=by simp only[Y3,zF,zP];omega
  have gu:=g.keep0 e;refine ifF rfl (ldB (by rw[←gu.u0];rfl) (ldB (by rw[←gu.u1];rfl) ?_));refine Gj (v:=0) hs (by rw[zT,zl];omega) (λz hz=>hle.1 z (zCE (zCP hz))) (by omega) λσ1 e1=>?_;have em:leaveE sp x y=if((sp.st.drop x).take y).contains 0 then 7 else 0:=by unfold leaveE;rw[hk];rfl
  refine iff_ (λhany=>?_) λhany=>?_
  ·rw[hany]at em;have e2:leaveS sp x y v=sp:=by unfold leaveS;rw[em];rfl
   have:=hR σ1 (Ext0.to (Ext.trans e e1));rw[em,e2]at this;exact this (back _ _ (hu.keep0 e1))
  ·rw[hany]at em;have e2:leaveS sp x y v=sp.set x y v:=by unfold leaveS;rw[em];rfl
   have hb1:=Ext.blk e1 hb id;refine hb1.rB rfl (hb1.rB rfl ?_);refine WiM (hu.keep0 e1) h2 hv λσ2 e3 h3=>?_;have:=hR σ2 (Ext.cut (Ext.trans (Ext0.to (Ext.trans e e1)) e3));rw[em,e2]at this;exact this (back _ _ h3)
theorem Wjo (h:SpH3 U F p sp)(g:Gl U)(hF:Off F)(a m:Int){R:Int->Hp->Prop}(hR:∀σ',Ext F U σ'->SpH3 σ' F p (leaveS sp a m 0)->R (leaveE sp a m) σ') :
 Yx.c (some ⟨p,0,none⟩) a m U R:=by
 refine Yx.o ?_;unfold Yx.v;exact ldB (n:=(pgC 0).1) g.u0 (ldB (n:=(pgC 0).2) g.u1 (Wfp (v:=0) h g hF a m (by omega) hR))
theorem Wf7 (h:SpH3 U F p sp)(g:Gl U)(hF:Off F)(a m:Int){R:Int->Hp->Prop}(hR:∀σ',Ext F U σ'->SpH3 σ' F p (leaveS sp a m 1)->R (leaveE sp a m) σ') :
 XA.c (some ⟨p,0,none⟩) a m U R:=by
 refine XA.o ?_;unfold XA.v;exact ldB (n:=(pgC 1).1) g.c0 (ldB (n:=(pgC 1).2) g.c1 (Wfp (v:=1) h g hF a m (by omega) hR))
theorem Wdr (h:SpH3 U F p sp)(g:Gl U)(x:Int)(hx:x<=9223372036854775807){R:Int->Hp->Prop}(hR:∀σ',Ext0 U σ'->R (accE sp x) σ') :
 Xw.c (some ⟨p,0,none⟩) x 1 U R:=by
 refine Xw.o ?_;unfold Xw.v;have h':=h;obtain⟨q,r,l,B,h⟩:=h;have n2:=h.n2;have bad:(x<0\/x%8≠0)->R 7 U:=λhb=>by
  have:=hR U (Ext.refl _ _);unfold accE at this;rw[zB hb]at this;exact this
 refine WaF h' (ifF rfl (ifF rfl (JnB.intro (ifD (λc1=>ifT rfl (bad (.inl c1))) λc1=>nz (by decide) ?_))));obtain⟨y,rfl⟩:=ze (show 0<=x by omega);refine iff_ (λc2=>?_) λc2=>?_
 ·refine bad (.inr ?_);rw[QF (by omega)]at c2;simpa using c2
 have h8:y%8=0:=by
  rw[QF (by omega)]at c2;have:((y:Int)%8)=0:=by simpa using c2
  omega
 have ok:¬((y:Int)<0\/(y:Int)%8≠0):=by omega
 refine nz (by decide) (arN (m:=y/256) (by rw[Xm (by omega)];simp) (by omega) (nz (by decide) (arN (m:=y/8) (by rw[Xm (by omega)];simp) (by omega) ?_)));refine arN (m:=y/8+1) (by omega) (by omega) (arN (m:=y/8) (by omega) (by omega) (nz (by decide) (arN (m:=y/256) (by rw[Xm (by omega)];simp;omega) (by omega) ?_)));have fin:∀(b:Bool) σ',Ext0 U σ'->(b=true↔sp.st.getD (y/256) 0=0)->If b (R 7 σ') (R 0 σ'):=λb σ' e hb=>by
  have:=hR σ' e;unfold accE at this;rw[zA ok]at this;refine iff_ (λh=>?_) λh=>?_
  ·rw[zB (by simpa using hb.1 h)]at this;exact this
  ·rw[zA (λhn=>by rw[hb.2 (by simpa using hn)]at h;cases h)]at this;exact this
 obtain⟨c,hc,hd⟩:=h.hd;refine Jn.intro ⟨λm=>Blk m p [.slice (some ⟨q,0,none⟩) sp.st.length c,.map (some r),.int .i64 (sp.pk:Int)]/\Gl m,⟨hd,g⟩,?_⟩;refine nilP ⟨⟨some ⟨q,0,none⟩,sp.st.length,c⟩,λm hm=>by rw[add_lit,hm.1.cell];rfl,?_⟩;refine ifD (λc3=>?_) λc3=>?_
 ·simp only at c3;refine fin _ U (Ext.refl _ _) ⟨λ_=>?_,λ_=>rfl⟩;rw[zL,zU (by omega)];rfl
 simp only at c3;refine nilP ⟨⟨some ⟨q,0,none⟩,sp.st.length,c⟩,λm hm=>by rw[add_lit,hm.1.cell];rfl,?_⟩;refine arN (m:=y/256+1) (by omega) (by omega) (slc (by omega) (by simp only;omega) (zC _) ?_);simp only;rw[zA (by omega)];refine⟨false,λm hm=>hm.2.u0,⟨false,λm hm=>hm.2.u1,?_⟩⟩;have e:(Option.map (λ(u:Addr)=>u.add (y/256*2)) (some (⟨q,0,none⟩:Addr)))=some ⟨q,2*(y/256),none⟩:=by
  simp only[zc,add_lit];congr 2;omega
 rw[e,zGA];have hp:=h.part (x:=y/256) (y:=1) (c:=c-y/256) (by omega);refine Gj (v:=0) hp (by rw[zT,zl];omega) (λz hz=>h.le2 z (zCE (zCP hz))) (by omega) λσ' e'=>?_;refine⟨⟨e'.blk hd id,g.keep0 e'⟩,fin _ σ' e' ?_⟩;have hi:y/256<sp.st.length:=by omega
 rw[zL,gGe hi,zBY hi,zCR,zFH];simp[eq_comm]
theorem Wmb (h:SpH3 U F p sp){w:Nat}(hw:w<=2305843009213693952){R:Int->Hp->Prop}(hR:R (sp.wd w) U):Y7.c (some ⟨p,0,none⟩) (w:Int) U R:=by
 refine Y7.o ?_;unfold Y7.v;obtain⟨q,r,l,B,h⟩:=h;refine nilP (h.rM (nz (by decide) (arN (m:=w/32) (by rw[Xm (by omega)];simp) (by omega) ⟨l,h.map,?_⟩)));cases hg:mget l ((w/32:Nat):Int)with
 | none=>
  refine ifF rfl ?_;have:sp.st[w/32]?≠some 2:=λhk=>by
   have:=(h.keys _).2 ⟨_,rfl,hk⟩;rw[hg]at this;cases this
  rw[h.zero w this]at hR;exact hR
 | some s=>
  obtain⟨w1,w2,w3,cs,w4,w5,w6⟩:=h.wd _ s hg;refine ifT rfl (nz (by decide) ?_);simp only[zBH];have tm:((w:Int).tmod 32)=((w%32:Nat):Int):=by rw[QF (by omega)];simp
  rw[w1,tm];refine ix (by omega) (by omega) ?_;rw[add_lit];refine w4.rI0 ?_ hR;rw[show 0+((w%32:Nat):Int).toNat*1=w%32 by omega,w6 _ (by omega)];simp only;rw[show 32*(w/32)+w%32=w by omega]
theorem WmY (h:SpH3 U F p sp)(g:Gl U)(x:Int)(hx:x<=9223372036854775807){R:Int->Int->Hp->Prop}(hR:∀σ',Ext0 U σ'->R (if accE sp x=0 then sp.wd (x.toNat/8)else 0) (accE sp x) σ') :
 YT.c (some ⟨p,0,none⟩) x U R:=by
 refine YT.o ?_;unfold YT.v;refine Wdr h g x hx λσ' e=>?_;have:=hR σ' e;refine iff_ (λhc=>?_) λhc=>?_
 ·have hne:¬accE sp x=0:=by simpa using hc
  rw[zA hne]at this;exact this
 ·have h0:accE sp x=0:=by simpa using hc
  rw[zB h0,h0]at this;have hx0:0<=x:=by
   rcases(by omega:x<0\/0<=x)with hlt|hge
   ·unfold accE at h0;rw[zB (.inl hlt)]at h0;cases h0
   ·exact hge
  obtain⟨y,rfl⟩:=ze hx0;exact nz (by decide) (arN (m:=y/8) (by rw[Xm (by omega)];simp) (by omega) (Wmb (h.keep0 e) (by omega) this))
theorem SpH2.dirt (h:SpH2 U F p q r l B sp){k:Nat}(hk:k<sp.st.length)(hn:sp.st[k]?≠some 2){σ':Hp}{b:Nat}{s:Sl}{T:Rg}(e:Ext T U σ')(hT:∀i,i<U.size->T i->i=q\/i=r)(hz:U.size<=b){rest:List Value}
 (hb:Blk σ' q (pgV (sp.st.set k 2)++rest)) (hm:MapL σ' r .i64 .s (mset l (k:Int) s)) (ha:s.a=some ⟨b,0,none⟩) (hl:s.len=32) (hc:s.cap=32) (hw:Blk σ' b (List.replicate 32 (.int .i64 0))) :
 SpH2 σ' (Grow F U) p q r (mset l (k:Int) s) (λj=>if j=k then b else B j) {sp with st:=sp.st.set k 2}:=by
 have g2:∀j:Nat,(sp.st.set k 2)[j]?=some 2↔j=k\/sp.st[j]?=some 2:=λj=>by
  rw[zBD];by_cases hjk:k=j
  ·subst hjk;rw[zB rfl,zB hk];simp
  ·rw[zA hjk];exact⟨λh=>.inr h,λh=>h.resolve_left λe=>hjk e.symm⟩
 obtain⟨c,hc',hd⟩:=h.hd;obtain⟨_,hrow⟩:=h.row;have hp:=hd.lt;have hq:=hrow.lt;have hr:=h.map.lt;have hs:=e.1;have hfs:=h.fs;have old:∀{j:Nat},sp.st[j]?=some 2->B j<U.size:=λ{j} hj=>by
  obtain⟨t,_,_,_,_,cs,w4,_⟩:=h.entry hj;exact w4.lt
 have keepB:∀{i:Nat} {cs:List Value},Blk U i cs->i≠q->i≠r->Blk σ' i cs:=λ{i cs} hi h1 h2=>e.blk hi λht=>by
  rcases hT i hi.lt ht with h|h
  ·exact h1 h
  ·exact h2 h
 refine⟨⟨c,by simpa using hc',by simpa using keepB hd hfs.2.2.2.1 hfs.2.2.2.2.1⟩,⟨rest,hb⟩,hm,λx=>?_,λj t hj=>?_,λj j' h1 h2 hbb=>?_,λj hj=>?_,⟨.inl hfs.1,.inl hfs.2.1,.inl hfs.2.2.1,hfs.2.2.2⟩,λw hw'=>?_,by simpa using h.n1,by simpa using h.n2,Win h.le2 (by omega),h.pk⟩
 ·rw[G7];by_cases hx:x=(k:Int)
  ·rw[zB hx];subst hx;simp only[Option.isSome_some,true_iff];exact⟨k,rfl,(g2 k).2 (.inl rfl)⟩
  ·rw[zA hx,h.keys];constructor
   ·rintro⟨j,rfl,hj⟩;exact⟨j,rfl,(g2 j).2 (.inr hj)⟩
   ·rintro⟨j,rfl,hj⟩;exact⟨j,rfl,((g2 j).1 hj).resolve_left (by omega)⟩
 ·rw[G7]at hj;by_cases hx:(j:Int)=(k:Int)
  ·have:j=k:=by omega
   subst this;rw[zB rfl]at hj;cases hj;rw[zB rfl];refine⟨ha,hl,by omega,_,hw,by simp,λi hi=>?_⟩;rw[zAM,zB hi];simp only;rw[h.zero _ (by rw[show(32*j+i)/32=j by omega];exact hn)]
  ·rw[zA hx]at hj;obtain⟨w1,w2,w3,cs,w4,w5,w6⟩:=h.wd j t hj;have ho:=h.out j (h.dirty hj);rw[zA (by omega)];exact⟨w1,w2,w3,cs,keepB w4 ho.2.2.1 ho.2.2.2,w5,w6⟩
 ·by_cases e1:j=k
  ·by_cases e2:j'=k
   ·omega
   ·rw[zB e1,zA e2]at hbb;have:=old (((g2 j').1 h2).resolve_left e2);omega
  ·rw[zA e1]at hbb;by_cases e2:j'=k
   ·rw[zB e2]at hbb;have:=old (((g2 j).1 h1).resolve_left e1);omega
   ·rw[zA e2]at hbb;exact h.inj j j' (((g2 j).1 h1).resolve_left e1) (((g2 j').1 h2).resolve_left e2) hbb
 ·by_cases e1:j=k
  ·rw[zB e1];exact⟨.inr hz,by omega,by omega,by omega⟩
  ·rw[zA e1];have:=h.out j (((g2 j).1 hj).resolve_left e1);exact⟨.inl this.1,this.2⟩
 ·refine h.zero w λh2=>hw' ((g2 _).2 (.inr h2))
theorem SpH2.peak (h:SpH2 U F p q r l B sp){σ':Hp}{n c:Nat}(hn:n<=1024)(ho:QK U σ' p)(hc:sp.st.length<=c)(hb:Blk σ' p [.slice (some ⟨q,0,none⟩) sp.st.length c,.map (some r),.int .i64 (n:Int)]):SpH2 σ' F p q r l B {sp with pk:=n}:=by
 have hfs:=h.fs;obtain⟨rest,hrow⟩:=h.row;refine⟨⟨c,hc,hb⟩,⟨rest,Ws ho hrow (by omega)⟩,Hi ho h.map (by omega),h.keys,λj t hj=>?_,h.inj,h.out,hfs,h.zero,h.n1,h.n2,h.le2,hn⟩;obtain⟨w1,w2,w3,cs,w4,w5,w6⟩:=h.wd j t hj;exact⟨w1,w2,w3,cs,Ws ho w4 (h.out j (h.dirty hj)).2.1,w5,w6⟩
theorem SpH2.word (h:SpH2 U F p q r l B sp){w:Nat}{v:Int}(hk:sp.st[w/32]?=some 2){σ':Hp}{cs:List Value}(h32:32<=cs.length)(ho:QK U σ' (B (w/32)))(hcs:∀j,j<32->cs[j]?=some (.int .i64 (sp.wd (32*(w/32)+j))))
 (hb:Blk σ' (B (w/32)) (cs.set (w%32) (.int .i64 v))):SpH2 σ' F p q r l B {sp with wd:=λu=>if u=w then v else sp.wd u}:=by
 have hout:=h.out _ hk;obtain⟨c,hc,hd⟩:=h.hd;obtain⟨rest,hrow⟩:=h.row;refine⟨⟨c,hc,Ws ho hd (by omega)⟩,⟨rest,Ws ho hrow (by omega)⟩,Hi ho h.map (by omega),h.keys,λj t hj=>?_,h.inj,h.out,h.fs,λu hu=>?_,h.n1,h.n2,h.le2,h.pk⟩
 ·obtain⟨w1,w2,w3,cs',w4,w5,w6⟩:=h.wd j t hj;by_cases hjk:j=w/32
  ·subst hjk;refine⟨w1,w2,w3,_,hb,by simpa using h32,λi hi=>?_⟩;rw[zBD];by_cases hiw:w%32=i
   ·rw[zB hiw,zB (by omega)];simp only;rw[zB (by omega)]
   ·rw[zA hiw];simp only;rw[zA (by omega)];exact hcs i hi
  ·have hne:B j≠B (w/32):=λe=>hjk (h.inj _ _ (h.dirty hj) hk e);refine⟨w1,w2,w3,cs',Ws ho w4 hne,w5,λi hi=>?_⟩;rw[w6 i hi];simp only;rw[zA (by omega)]
 ·have:u≠w:=λe=>by subst e;exact hu hk
  simp only;rw[zA this];exact h.zero u hu
theorem Wm4 (h:SpH3 U F p sp)(g:Gd U){w:Nat}(hw:w/32<sp.st.length)(v:Int){R:Hp->Prop}(hR:∀σ',Ext F U σ'->SpH3 σ' (Grow F U) p (putW sp w v)->R σ') :
 Zd.c (some ⟨p,0,none⟩) (w:Int) v U R:=by
 refine Zd.o ?_;unfold Zd.v;obtain⟨q,r,l,B,h⟩:=h;have hn2:=h.n2;have hx:sp.st[w/32]?=some sp.st[w/32]:=gGe hw;have tm:((w:Int).tmod 32)=((w%32:Nat):Int):=by rw[QF (by omega)];simp
 have word:∀(u:Hp) (s':Sp) (l':List (Int×Sl)) (B':Nat->Nat),Ext F U u->SpH2 u (Grow F U) p q r l' B' s'->s'.st[w/32]?=some 2->({s' with wd:=λz=>if z=w then v else s'.wd z}:Sp)=putW sp w v →
  NilP (some ⟨p,0,none⟩) λa45=>LdM (a45.add 1) u λt47=>Lk .i64 .s t47 ((w/32:Nat):Int) u λt49=>Nz 32<|Ix (t49.getD ⟨none,0,0⟩).a (t49.getD ⟨none,0,0⟩).len ((w:Int).tmod 32) 1 λa53=>St1 a53 (.int .i64 v) u λv1=>R v1:=by
  intro u s' l' B' eu hu hk he;refine nilP (hu.rM ⟨l',hu.map,nz (by decide) ?_⟩);obtain⟨s,hs,w1,w2,w3,cs,w4,w5,w6⟩:=hu.entry hk;rw[hs,tm];simp only[zBH];rw[w1];refine ix (by omega) (by omega) ?_;rw[add_lit,show 0+((w%32:Nat):Int).toNat*1=w%32 by omega];refine w4.s0 (by omega) λu2 o2 b2=>?_;have h2:=hu.word (v:=v) hk w5 o2 w6 b2;rw[he]at h2;exact hR u2 (eu.newT o2.ext λb hb=>by subst hb;exact(hu.out _ hk).1) ⟨_,_,_,_,h2⟩
 refine nz (by decide) (arN (m:=w/32) (by rw[Xm (by omega)];simp) (by omega) (Jn.intro (nilP (h.rS λcap hcap=>ix (by omega) (by simp only;omega) ?_))));rw[add_lit,show 0+((w/32:Nat):Int).toNat*2=2*(w/32) by omega];refine h.rPg hx (ldB (n:=true) g.d0 (ldB (n:=true) g.d1 ?_));have e0:(((pgC sp.st[w/32]).1==true)&&(((pgC sp.st[w/32]).2==true)&&true))=(sp.st[w/32]==2):=WgY (h.le2 _ (zk hw)) (y:=2) (by omega);rw[e0];refine iff_ (λhd=>?_) λhd=>?_
 ·have hne:sp.st[w/32]≠2:=by simpa using hd
  refine nilP (h.rS λcap hcap=>ldB (n:=true) g.d0 (ldB (n:=true) g.d1 (ix (by omega) (by simp only;omega) ?_)));rw[add_lit,show 0+((w/32:Nat):Int).toNat*2=2*(w/32) by omega];obtain⟨rest,hrow⟩:=h.row;refine hrow.s1 (by rw[zQ,VA];omega) λu1 o1 b1=>b1.s1 (by rw[zBM,zQ,VA];omega) λu2 o2 b2=>?_;rw[zo]at b2;have b2':Blk u2 q (pgV (sp.st.set (w/32) 2)++rest):=by rw[←Wg1 hw];exact b2
  have e2:Ext (· = q) U u2:=o1.ext.trans o2.ext;obtain⟨c,hc,hhd⟩:=h.hd;have hd2:=e2.blk hhd h.fs.2.2.2.1;refine⟨λm=>Blk m p [.slice (some ⟨q,0,none⟩) sp.st.length c,.map (some r),.int .i64 (sp.pk:Int)],hd2,nilP ⟨some r,λm hm=>by rw[add_lit,hm.cell];rfl,?_⟩⟩;refine mk (n:=32) (by omega) (by omega) λu3 hz3 e3 b3=>⟨Ext.blk e3 hd2 id,?_⟩;have b3':Blk u3 u2.size (List.replicate 32 (.int .i64 0)):=b3;have q3:=Ext.blk e3 b2' id;have hm2:=e2.mapL h.map (λe=>h.fs.2.2.2.2.2 e.symm);refine⟨r,l,rfl,Ext.mapL e3 hm2 id,λu4 o4 hm4=>?_⟩;have sz2:u2.size=U.size:=by rw[o2.1,o1.1]
  have hrlt:=h.map.lt;have hplt:=hhd.lt;have e4:Ext (λb=>b=q\/b=r) U u4:=((e2.sub λb hb=>.inl hb).trans (Ext0.to e3)).trans (o4.ext.sub λb hb=>.inr hb);have h4:=h.dirt hw (by rw[hx];simpa using hne) (s:=⟨some ⟨u2.size,0,none⟩,32,32⟩) (b:=u2.size) e4 (λi _ hi=>hi) (by omega) (Ws o4 q3 h.fs.2.2.2.2.2) hm4 rfl rfl rfl (Ws o4 b3' (by omega));obtain⟨c4,hc4,hd4⟩:=h4.hd;refine nilP (hd4.rI rfl (nilP (hd4.rM rfl ⟨_,h4.map,nilP ?_⟩)));rw[h4.len_l];have hcl:(sp.st.set (w/32) 2).count 2<=1024:=zN zEY (by simpa using hn2);have hpk:=h.pk;have hv:(if((List.count 2 (sp.st.set (w/32) 2):Nat):Int)>(sp.pk:Int)then((List.count 2 (sp.st.set (w/32) 2):Nat):Int)else(sp.pk:Int))=((max sp.pk ((sp.st.set (w/32) 2).count 2):Nat):Int):=by
   by_cases hgt:((List.count 2 (sp.st.set (w/32) 2):Nat):Int)>(sp.pk:Int)
   ·rw[zB hgt];omega
   ·rw[zA hgt];omega
  simp only;rw[hv];refine hd4.s1 (by simp) λu5 o5 b5=>?_;have h5:=h4.peak (by omega) o5 hc4 b5;have e5:Ext F U u5:=(e4.sub λb hb=>by
   rcases hb with rfl|rfl
   ·exact h.fs.2.1
   ·exact h.fs.2.2.1).trans (o5.ext.sub λb hb=>by subst hb;exact h.fs.1)
  refine word u5 _ _ _ e5 h5 (by simp only;rw[zBD,zB rfl,zB hw]) ?_;unfold putW;rw[zA (by rw[zL,hx];exact hne)]
 ·have heq:sp.st[w/32]=2:=by simpa using hd
  rw[heq]at hx;have hgr:SpH2 U (Grow F U) p q r l B sp:={h with out:=λk hk=>⟨.inl (h.out k hk).1,(h.out k hk).2⟩,fs:=⟨.inl h.fs.1,.inl h.fs.2.1,.inl h.fs.2.2.1,h.fs.2.2.2⟩};refine word U sp l B (Ext.refl _ _) hgr hx ?_;unfold putW;rw[zB (by rw[zL,hx];rfl)];have:sp.st.set (w/32) 2=sp.st:=by
   apply zm;intro i;rw[zBD];by_cases hi:w/32=i
   ·subst hi;rw[zB rfl,zB hw,hx]
   ·rw[zA hi]
  rw[this]
theorem WjA (h:SpH3 U F p sp)(g:Gl U)(gd:Gd U)(x:Int)(hx:x<=9223372036854775807)(v:Int){R:Int->Hp->Prop}(hR:∀σ',Ext F U σ'->SpH3 σ' (Grow F U) p (QT sp x v)->R (accE sp x) σ') :
 Yw.c (some ⟨p,0,none⟩) x v U R:=by
 refine Yw.o ?_;unfold Yw.v;have hcut:SpH3 U (Cut F U) p sp:=Lcl.cut SpH3.loc h;refine Wdr h g x hx λσ1 e=>?_;have h1:=hcut.keep0 e;have g1:=g.keep0 e;refine iff_ (λhc=>?_) λhc=>?_
 ·have hne:¬accE sp x=0:=by simpa using hc
  refine hR σ1 (Ext0.to e) ?_;unfold QT;rw[zA hne];exact Lcl.mono SpH3.loc h1 λb _ hb=>.inl hb.1
 ·have h0:accE sp x=0:=by simpa using hc
  have hx0:0<=x/\sp.st.getD (x.toNat/256) 0≠0:=by
   unfold accE at h0;by_cases hb:x<0\/x%8≠0
   ·rw[zB hb]at h0;cases h0
   ·rw[zA hb]at h0;by_cases hz:sp.st.getD (x.toNat/256) 0=0
    ·rw[zB hz]at h0;cases h0
    ·exact⟨by omega,hz⟩
  obtain⟨y,rfl⟩:=ze hx0.1;have hlt:y/8/32<sp.st.length:=by
   rcases zAH (y/256) sp.st.length with h|h
   ·omega
   ·exact absurd (by rw[zL,zU (by simpa using h)];rfl) hx0.2
  refine nz (by decide) (arN (m:=y/8) (by rw[Xm (by omega)];simp) (by omega) (Wm4 h1 (gd.keep0 e) hlt v λσ2 e2 h2=>?_));have:=hR σ2 (Ext.cut ((Ext0.to e).trans e2)) ?_
  ·rw[h0]at this;exact this
  ·unfold QT;rw[zB h0];exact Lcl.mono SpH3.loc h2 λb _ hb=>by
    rcases hb with hb|hb
    ·exact .inl hb.1
    ·exact .inr (zN e.1 hb)
def Vi (n:Nat):Sp:=⟨List.replicate n 0,λ_=>0,0⟩
theorem Wma {U:Hp}{F:Rg}{p q r n c:Nat}(h1:1<=n)(h2:n<=1024)(hc:n<=c)(hd:Blk U p [.slice (some ⟨q,0,none⟩) n c,.map (some r),.int .i64 0])(hq:Blk U q (pgV (List.replicate n 0)))(hr:MapL U r .i64 .s [])
 (hF:F p/\F q/\F r) (hne:p≠q/\p≠r/\q≠r):SpH2 U F p q r [] (λ_=>0) (Vi n):=by
 have no:∀k:Nat,(List.replicate n 0)[k]?≠some 2:=λk hk=>by
  rw[zAM]at hk;split at hk<;>cases hk
 refine⟨⟨c,by simpa[Vi]using hc,by simpa[Vi]using hd⟩,⟨[],by simpa[Vi]using hq⟩,hr,λx=>?_,λk s hs=>(by cases hs),λk k' h1=>absurd h1 (no k),λk hk=>absurd hk (no k),⟨hF.1,hF.2.1,hF.2.2,hne⟩,λw _=>rfl,by simpa[Vi]using h1,by simpa[Vi]using h2,λx hx=>?_,by simp[Vi]⟩
 ·constructor
  ·intro h;cases h
  ·rintro⟨k,_,hk⟩;exact absurd hk (no k)
 ·have:=List.eq_of_mem_replicate hx;omega
theorem Wh8 {n:Nat}(h1:1<=n)(h2:n<=1024){R:Option Addr->Int->Hp->Prop}(hR:∀σ' p',Ext0 U σ'->U.size<=p'->SpH3 σ' (λb=>U.size<=b) p' (Vi n)->R (some ⟨p',0,none⟩) 0 σ'):QZ.c (n:Int) U R:=by
 refine QZ.o ?_;unfold QZ.v;refine JnB.intro (ifDF (by omega) ?_);rw[zH (by omega)];refine ifF rfl (mk (by omega) (by omega) λu1 z1 e1 b1=>WhR λu2 z2 e2 m2=>nw (cs:=[.slice (some ⟨U.size,0,none⟩) n n,.map (some u1.size),.int .i64 0]) λu3 z3 e3 b3=>?_);have hq:=Ext.blk e3 (Ext.blk e2 b1 id) id;have hr:=Ext.mapL e3 (m2 .i64 .s) id;refine hR u3 _ (Ext.trans (Ext.trans e1 e2) e3) (by omega) ⟨U.size,u1.size,[],_,Wma h1 h2 (zC _) b3 ?_ hr ⟨by omega,by omega,by omega⟩ (by omega)⟩;rw[WlV];exact hq
end Go.Ar
namespace Go.Vc
open Go
def itN (h:Hp)(it r:Nat):Nat:=
 match h[it]?,h[r]? with
 | some (.mapIter _ _ seen _),some (.map es _)=>(es.toList.filter λe=>!seen.contains e.born).length
 | _,_=>0
variable {U:Hp}{k:IntKind}{c:CK}{l todo:List (Int×c.T)}{cur:Option (Int×c.T)}{r it:Nat}
theorem It.num {h:Hp}(hi:It h it k c (some r) l todo cur):itN h it r=todo.length:=by
 obtain⟨es,clk,seen,h1,h2,h3,h4,h5,h6,h7,h8⟩:=hi;unfold itN;rw[h1,h2];have:=congrArg List.length h7;simpa using this
theorem It.keep {h h':Hp}(hi:It h it k c (some r) l todo cur)(h1:h'[it]?=h[it]?)(h2:h'[r]?=h[r]?):It h' it k c (some r) l todo cur:=by
 obtain⟨es,clk,seen,a1,a2,rest⟩:=hi;exact⟨es,clk,seen,h1.trans a1,h2.trans a2,rest⟩
theorem rng0 {A:Hp->Prop}{body:Int->c.T->Hp->(Hp->Prop)->Prop}(hm:MapL U r k c l)(I:List (Int×c.T)->Hp->Prop)
 (h0:∀v,v.size=U.size+1->Ext0 U v->I l v)
 (hend:∀v,I [] v->A v)
 (hstep:∀todo n x v v' (J:Hp->Prop),I todo v->(n,x)∈todo->QK v v' U.size->U.size<v.size->(∀w,w[U.size]?=v'[U.size]?->w[r]?=v'[r]?->I (todo.filter λy=>!(y.1==n)) w->J w)->body n x v' J) :
 Rng k c (some r) U λit v3=>Xo [] (λI=>I v3) λJ1 v4=>Nxt k c it v4 (A v4) λ_ _ v5=>Ent k c it v5 λkey1 val1=>body key1 val1 v5 J1:=by
 refine⟨l,hm,λv hz hb hi=>?_⟩;have e0:Ext0 U v:=⟨by omega,λb hb' _=>hb b hb'⟩;refine Wnn (λw=>∃todo cur,It w U.size k c (some r) l todo cur/\I todo w/\U.size<w.size) (λw=>itN w U.size r) ⟨l,none,hi,h0 v hz e0,by omega⟩ ?_;rintro w ⟨todo,cur,hiw,hI,hlt⟩;refine⟨rfl,some r,l,todo,cur,hiw,λht=>?_,λn x hx w' ho hi'=>?_⟩
 ·subst ht;exact hend w hI
 ·refine⟨rfl,some r,l,_,n,x,hi',hstep todo n x w w' _ hI hx ho hlt λu hu1 hu2 hIu=>?_⟩;have hiu:=hi'.keep hu1 hu2;refine⟨⟨_,_,hiu,hIu,?_⟩,?_⟩
  ·obtain⟨es,clk,seen,a1,_⟩:=hiu;exact(zAL.1 a1).1
  ·rw[hiu.num,hiw.num];exact List.length_filter_lt_length_iff_exists.2 ⟨(n,x),hx,by simp⟩
theorem rng1 {a:CK}{x0:a.T}{A:a.T->Hp->Prop}{body:Int->c.T->a.T->Hp->(a.T->Hp->Prop)->Prop}(hm:MapL U r k c l)(I:List (Int×c.T)->a.T->Hp->Prop)
 (h0:∀v,v.size=U.size+1->Ext0 U v->I l x0 v)
 (hend:∀z v,I [] z v->A z v)
 (hstep:∀todo n x z v v' (J:a.T->Hp->Prop),I todo z v->(n,x)∈todo->QK v v' U.size->U.size<v.size->(∀z' w,w[U.size]?=v'[U.size]?->w[r]?=v'[r]?->I (todo.filter λy=>!(y.1==n)) z' w->J z' w)->body n x z v' J) :
 Rng k c (some r) U λit v3=>Xo [a] (λI=>I x0 v3) λJ1 z v4=>Nxt k c it v4 (A z v4) λ_ _ v5=>Ent k c it v5 λkey1 val1=>body key1 val1 z v5 J1:=by
 refine⟨l,hm,λv hz hb hi=>?_⟩;have e0:Ext0 U v:=⟨by omega,λb hb' _=>hb b hb'⟩;refine Zx (a:=a) (λz w=>∃todo cur,It w U.size k c (some r) l todo cur/\I todo z w/\U.size<w.size) (λ_ w=>itN w U.size r) ⟨l,none,hi,h0 v hz e0,by omega⟩ ?_;rintro z w ⟨todo,cur,hiw,hI,hlt⟩;refine⟨rfl,some r,l,todo,cur,hiw,λht=>?_,λn x hx w' ho hi'=>?_⟩
 ·subst ht;exact hend z w hI
 ·refine⟨rfl,some r,l,_,n,x,hi',hstep todo n x z w w' _ hI hx ho hlt λz' u hu1 hu2 hIu=>?_⟩;have hiu:=hi'.keep hu1 hu2;refine⟨⟨_,_,hiu,hIu,?_⟩,?_⟩
  ·obtain⟨es,clk,seen,a1,_⟩:=hiu;exact(zAL.1 a1).1
  ·rw[hiu.num,hiw.num];exact List.length_filter_lt_length_iff_exists.2 ⟨(n,x),hx,by simp⟩
end Go.Vc
namespace Go.Ar
open Go Go.Vc Go.Proofs
open Go.Bu (Y3)
variable {U:Hp}{F:Rg}{p q r:Nat}{sp:Sp}{l:List (Int×Sl)}{B:Nat->Nat}
theorem UX {α:Type}{l:List (Int×α)}(hn:(l.map (·.1)).Nodup){n:Int}{x:α}(h:(n,x)∈l):mget l n=some x:=by
 induction l with
 | nil=>simp at h
 | cons y l ih=>
  rw[Kl];simp only[zW,zq]at hn;rcases zR.1 h with h1|h1
  ·subst h1;rw[zB rfl]
  ·have:¬y.1=n:=λe=>hn.1 (zE.2 ⟨_,h1,e.symm⟩);rw[zA this];exact ih hn.2 h1
end Go.Ar
namespace Go.Bu
open Go Go.Vc Go.Proofs
variable {U:Hp}{p n sb:Nat}{S:Nat->Bool}{ms:List Nat}
def mapV (ms:List Nat):List Value:=ms.map λm=>Value.map (some m)
structure Part (B:Nat) (h:Hp) (p n:Nat) (j:Nat) (s:Sl) (ms:List Nat):Prop where
 len:ms.length=j
 sl:s.len=j
 hd:Blk h p [.int .i64 n,.slice s.a s.len s.cap]
 own:Own (λb=>B<=b/\b≠p/\b∉ms) h s 1 (mapV ms)
 new:∀m∈ms,B<=m/\m≠p/\m<h.size
 nd:ms.Nodup
theorem Part.done {B:Nat}{h:Hp}{j:Nat}{s:Sl}(hp:Part B h p n j s ms)(hB:B<=p)(hj:0<j)(n1:1<=n)(n2:n<=1024)(lo:2^j<=2*n)(hi:n<2^j)(bnd:Bounded S n)
 (maps:∀k m,ms[k]?=some m->∃B:List (Int×Bool),MapL h m .i64 .b B/\Keys S k B):∃sb,BH h p n S sb ms/\∀b,fp p sb ms b->B<=b:=by
 rcases hp.own.2 with⟨_,hl,_⟩|⟨sb,cs,⟨hq,hqp,hqm⟩,ha,hb,hle,hcl,ht⟩
 ·have:=hp.sl;omega
 ·refine⟨sb,⟨?_,?_,maps,?_,n1,n2,?_,?_,bnd⟩,?_⟩
  ·refine⟨s.cap,?_⟩;have:=hp.hd;rw[ha,hp.sl,←hp.len]at this;exact this
  ·refine⟨cs.drop (mapV ms).length,?_⟩;have:mapV ms++cs.drop (mapV ms).length=cs:=by
    conv=>lhs;lhs;rw[←ht]
    exact zBG _ _
   show Blk h sb (mapV ms++_);rw[this];exact hb
  ·simp only[zq,zR,not_or];exact⟨⟨λe=>hqp e.symm,λhm=>(hp.new p hm).2.1 rfl⟩,hqm,hp.nd⟩
  ·rw[hp.len];exact lo
  ·rw[hp.len];exact hi
  ·intro b hb;simp only[fp,zR]at hb;rcases hb with rfl|rfl|h
   ·exact hB
   ·exact hq
   ·exact(hp.new b h).1
theorem Part.hdS {B:Nat}{h:Hp}{j:Nat}{s:Sl}(hp:Part B h p n j s ms):cell h ⟨p,1,none⟩=some (.slice s.a s.len s.cap):=by rw[hp.hd.cell];rfl
theorem Part.keep0 {B:Nat}{h h':Hp}{j:Nat}{s:Sl}(hp:Part B h p n j s ms)(e:Ext0 h h'):Part B h' p n j s ms:=
 ⟨hp.len,hp.sl,e.blk hp.hd id,hp.own.keep0 e,λm hm=>⟨(hp.new m hm).1,(hp.new m hm).2.1,zEB (hp.new m hm).2.2 e.1⟩,hp.nd⟩
theorem Part.step {B:Nat}{h:Hp}{j m e t bytes:Nat}{s:Sl}{zs:List Value}{K:Sl->Hp->Prop}(hp:Part B h p n j s ms)(hj:j<=1000)(hbt:bytes<=1000)(hz:zs.length=1)(hm:B<=m)(hmp:m≠p)(hml:m<h.size)(hmn:m∉ms)(hms:¬Ho s m)
 (hpB:p<h.size) (hBh:B<=h.size)
 (hgo:∀s' h',Ext (Ho s) h h'->s'.len=j+1->Blk h' p [.int .i64 n,.slice s.a s.len s.cap] →
  (∀h2,QK h' h2 p->Blk h2 p [.int .i64 n,.slice s'.a s'.len s'.cap]->Part B h2 p n (j+1) s' (ms++[m]))->K s' h') :
 App s 1 bytes e zs ⟨some ⟨h.size,0,none⟩,1,1⟩ (h.push (.cells #[.map (some m)] t (0,0))) K:=by
 have hsl:=hp.sl;have own':Own (λb=>B<=b/\b≠p/\b∉ms++[m]) (h.push (.cells #[.map (some m)] t (0,0))) s 1 (mapV ms):=by
  have h1:=hp.own;have h2:Own (λb=>B<=b/\b≠p/\b∉ms++[m]) h s 1 (mapV ms):=by
   refine⟨h1.1,h1.2.imp id ?_⟩;rintro⟨b,cs,⟨q1,q2,q3⟩,ha,r⟩;refine⟨b,cs,⟨q1,q2,?_⟩,ha,r⟩;simp only[zS,zZ,not_or];exact⟨q3,λe=>hms ⟨0,by rw[ha,e]⟩⟩
  exact h2.keep0 (U1 _ _)
 have hsz:(h.push (.cells #[.map (some m)] t (0,0))).size=h.size+1:=by simp
 refine own'.app (ys:=[.map (some m)]) ?_ hz rfl WnE (by simp[one1]) ?_ ?_ zBI λs' h' hl' he ho hne=>?_
 ·intro b hb;rw[hsz]at hb;refine⟨by omega,by omega,?_⟩;simp only[zS,zZ,not_or];exact⟨λhmem=>by have:=(hp.new b hmem).2.2;omega,by omega⟩
 ·simp only;have:(s.len+1)*bytes<=1001*1000:=zAJ (by omega) hbt;omega
 ·simp only;omega
 ·simp only at hl';have he':Ext (Ho s) h h':=(U1 h _).to.trans he;have hnp:¬Ho s p:=λhb=>(hp.own.blk_lt hb).1.2.1 rfl;refine hgo s' h' he' (by omega) (he'.blk hp.hd hnp) λh2 h2o hb2=>⟨by simp[hp.len],by omega,hb2,?_,?_,?_⟩
  ·have:mapV (ms++[m])=mapV ms++[.map (some m)]:=by simp[mapV]
   rw[this];exact ho.keep (Ext.of_only (F:=(· = p)) h2o rfl) (λb hq _ hf=>hq.2.1 hf)
  ·intro x hx;have hs2:h2.size=h'.size:=h2o.1;have:=he'.1;rcases zS.1 hx with h1|h1
   ·have:=hp.new x h1;exact⟨this.1,this.2.1,by omega⟩
   ·simp at h1;subst h1;exact⟨hm,hmp,by omega⟩
  ·rw[zBN];refine⟨hp.nd,by simp,?_⟩;intro a ha b hb;simp at hb;subst hb;rintro rfl;exact hmn ha
def emptyS:Nat->Bool:=λ_=>false
theorem Wgt (k:Nat):Keys emptyS k []:=by
 refine⟨by simp,λq hq=>?_⟩;have:=VZ hq (KC k q);simp[emptyS]at this
theorem New_ok (pages:Int){R:Option Addr->Int->Hp->Prop}(hbad:¬(1<=pages/\pages<=1024)->R none 1 U)
 (hR:∀(n:Nat),pages=(n:Int)->1<=n->n<=1024->∀σ' sb ms,Ext0 U σ'->BH σ' U.size n emptyS sb ms->(∀b,fp U.size sb ms b->U.size<=b)->R (some ⟨U.size,0,none⟩) 0 σ'):Q0.c pages U R:=by
 refine Q0.o ?_;unfold Q0.v;refine JnB.intro (ifD (λh1=>ifT rfl (hbad (by omega))) λh1=>?_);refine ifD (λh2=>hbad (by omega)) λh2=>?_;obtain⟨n,rfl⟩:=ze (show 0<=pages by omega);have n1:1<=n:=by omega
 have n2:n<=1024:=by omega
 unfold Nw;have e0:=U1 U (.cells #[.int .i64 (n:Int),.slice none 0 0] 52 (0,0));refine Zx (a:=.i .i64) (λt h=>∃(j:Nat) (s:Sl) (ms:List Nat),t=((2^j:Nat):Int)/\2^j<=2*n/\Ext0 U h/\U.size<h.size/\Part U.size h U.size n j s ms/\∀m∈ms,MapL h m .i64 .b []) (λt _=>2*n+1-t.toNat)
  ⟨0,⟨none,0,0⟩,[],rfl,by simp;omega,Ext.push _ _ _,by simp,⟨rfl,rfl,Blk.push _ _ _,Own.nil _ _ _,by simp,by simp⟩,by simp⟩ ?_
 rintro t h ⟨j,s,ms,rfl,hj2,hE,hsz,hP,hms⟩;have hj:j<=11:=by
  apply Classical.byContradiction;intro hc;have:2^12<=2^j:=zBL (by decide) (by omega);omega
 have hpj:=zw j;refine ifD (λhle=>?_) (λhgt=>?_)
 ·refine nilP ?_;rw[add_lit,zJ];refine ldS hP.hdS ?_;have e1:=U1 h (.map #[] 0);have hs1:(h.push (.map #[] 0)).size=h.size+1:=by simp
  have hP1:=hP.keep0 e1;refine hP1.step (m:=h.size) (by omega) (by omega) rfl (by omega) (by omega) (by omega) (λhm=>by have:=(hP.new _ hm).2.2;omega) (λhb=>by have:=(hP.own.blk_lt hb).2;omega) (by omega) (by omega) λs' h' he hl hb hstep=>?_;refine nilP (hb.st1 (by simp) λh2 ho hb2=>?_);have hP2:=hstep h2 ho hb2;have hE2:Ext0 U h2:=by
   refine Ext.fresh (Ext.fresh (hE.trans e1) he λi hi=>(hP.own.blk_lt hi).1.1) (Ext.of_only (F:=(· = U.size)) ho rfl) λi hi=>?_;rw[hi];exact zC _
  refine arN (m:=2^(j+1)) (by rw[zAN];omega) (by rw[zAN];omega) ⟨⟨j+1,s',ms++[h.size],rfl,by rw[zAN];omega,hE2,?_,hP2,?_⟩,by rw[zAN];omega⟩
  ·have:=ho.1;have:=he.1;omega
  ·intro m hm;have G4:∀{m:Nat},MapL (h.push (.map #[] 0)) m .i64 .b []->¬Ho s m->m≠U.size->MapL h2 m .i64 .b []:=λhM hn hne=>Hi ho (he.mapL hM hn) hne;rcases zS.1 hm with h1|h1
   ·exact G4 (e1.mapL (hms m h1) id) (λhb=>(hP.own.blk_lt hb).1.2.2 h1) (hP.new m h1).2.1
   ·simp at h1;subst h1;exact G4 (MapL.push _ _ _) (λhb=>by have:=(hP.own.blk_lt hb).2;omega) (by omega)
 ·have hjpos:0<j:=by
   rcases zEF j with e|e
   ·subst e;simp at hgt;omega
   ·exact e
  obtain⟨sb,hB,hF⟩:=hP.done (S:=emptyS) (zC _) hjpos n1 n2 hj2 (by omega) (λx hx=>by simp[emptyS]at hx) λk m hm=>⟨[],hms m (zD hm),Wgt k⟩;exact hR n rfl n1 n2 h sb ms hE hB hF
end Go.Bu