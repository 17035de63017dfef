/- What is apart: the ball that bounces, and the ways of unlike nodes, come to the same. Plain Lean. Conditions: none. -/
import Derived.Test.YtgjnbcfencallaaDoorZB00
import Derived.Test.YtgjnbcfencallaaDoorZB06
set_option linter.unusedVariables false
set_option linter.unusedSimpArgs false
namespace Go.Proofs.YtgjnbcfencallaaDoor
open Go Go.RowKit
abbrev Pa:=Nat→Nat→Bool
def okT (pa:Pa) (An Z:Nat→Bool):List Nat→Nat→Nat→Bool
 | [],_,_=>true
 | s::_,t,v=>if (pa s t&&pa v t)=true then An t else !Z t
def ActW (pa:Pa) (An Z X:Nat→Bool):List Nat→Prop
 | []=>False
 | [x]=>X x=true
 | v::t::r=>ActW pa An Z X (t::r)∧(pa v t||pa t v)=true∧okT pa An Z r t v=true
inductive Ball (pa : Pa) (An Z X : Nat → Bool) : Nat → Bool → Prop
  | start {x : Nat} : X x = true → Ball pa An Z X x true
  | down {t k : Nat} {d : Bool} : Ball pa An Z X t d → Z t = false → pa t k = true → Ball pa An Z X k false
  | up {t u : Nat} {d : Bool} : Ball pa An Z X t d → (d = true ∧ Z t = false) ∨ (d = false ∧ An t = true) → pa u t = true → Ball pa An Z X u true
def opnF (pa:Pa) (An Z Y:Nat→Bool) (n:Nat):Nat→List Nat→Bool
 | 0,l=>Y (l.headD 0)
 | k+1,l=>Y (l.headD 0)||(List.range n).any fun v=>!decide (v∈l)&&(pa v (l.headD 0)||pa (l.headD 0) v)&&okT pa An Z l.tail (l.headD 0) v&&opnF pa An Z Y n k (v::l)
section
variable {pa : Pa} {An Z X Y : Nat → Bool} {n : Nat}
theorem ActW.suf:∀{a l:List Nat},ActW pa An Z X (a++l)→l≠[]→ActW pa An Z X l:=by
 intro a
 induction a with
 | nil=>intro l h _;exact h
 | cons v a ih =>
  intro l h hl
  obtain ⟨t,r,e⟩:=List.exists_cons_of_ne_nil (show a++l≠[] by simp [hl])
  have h':ActW pa An Z X (v::(a++l)):=h
  rw [e] at h'
  have h2:ActW pa An Z X (t::r):=h'.1
  rw [←e] at h2
  exact ih h2 hl
theorem okT_head {r r':List Nat} {t v:Nat} (h:r.head?=r'.head?):okT pa An Z r t v=okT pa An Z r' t v:=by
 cases r<;>cases r'<;>simp_all [okT]
theorem seg {v:Nat} {c:List Nat} (hup:∀u v,pa u v=true→An v=true→An u=true):∀{b:List Nat} {q:Nat} {b0:List Nat},b=b0++[q]→pa v q=true→ActW pa An Z X (b++v::c) →
  An v=true∨∀p b',b=p::b'→(An p=true→An v=true)∧pa (b'.headD v) p=true:=by
 intro b
 induction b with
 | nil=>intro q b0 e;exact absurd e (by simp)
 | cons p b ih =>
  intro q b0 e hq hA
  cases b with
  | nil =>
   have:b0=[]∧p=q:=by
    cases b0 with
    | nil=>simp at e;exact ⟨rfl,e⟩
    | cons x b0=>simp at e
   obtain ⟨_,rfl⟩:=this
   refine .inr fun p' b' e'=>?_
   cases e'
   exact ⟨fun h=>hup _ _ hq h,hq⟩
  | cons p2 b =>
   have e2:∃b1,p2::b=b1++[q]:=by
    cases b0 with
    | nil=>simp at e
    | cons x b0=>exact ⟨b0,by simp at e;exact e.2⟩
   obtain ⟨b1,e2⟩:=e2
   have hA':ActW pa An Z X (p::p2::(b++v::c)):=hA
   obtain ⟨h1,h2,h3⟩:=hA'
   rcases ih e2 hq h1 with h|h
   ·exact .inl h
   obtain ⟨h4,h5⟩:=h p2 b rfl
   have h6:okT pa An Z (b++v::c) p2 p=okT pa An Z [b.headD v] p2 p:=okT_head (by cases b<;>rfl)
   rw [h6] at h3
   cases hpp:pa p p2 with
   | true =>
    have:okT pa An Z [b.headD v] p2 p=An p2:=by simp only [okT,h5,hpp,Bool.and_self,if_true]
    rw [this] at h3
    exact .inl (h4 h3)
   | false =>
    rw [hpp] at h2
    have h2:pa p2 p=true:=by simpa using h2
    refine .inr fun p' b' e'=>?_
    cases e'
    exact ⟨fun h=>h4 (hup _ _ h2 h),h2⟩
theorem okSp {v u:Nat} {b c:List Nat} (hup:∀u v,pa u v=true→An v=true→An u=true) (hz:∀v,Z v=true→An v=true) (hac:∀u v,pa u v=true→pa v u=false)
  (hA:ActW pa An Z X (v::b++v::c)) (ho:okT pa An Z (b++v::c) v u=true):okT pa An Z c v u=true:=by
 cases c with
 | nil=>rfl
 | cons s c =>
  cases b with
  | nil =>
   have h2:(pa v v||pa v v)=true:=hA.2.1
   have h3:pa v v=true:=by simpa using h2
   have:=hac v v h3
   rw [h3] at this;cases this
  | cons p b =>
   obtain ⟨b0,q,eb⟩:∃b0 q,p::b=b0++[q]:=⟨(p::b).dropLast,(p::b).getLast (by simp),(List.dropLast_concat_getLast _).symm⟩
   have hA2:ActW pa An Z X (v::p::(b++v::s::c)):=hA
   obtain ⟨k1,k2,k3⟩:=hA2
   have hq:ActW pa An Z X (q::v::s::c):=by
    refine ActW.suf (a:=v::b0) ?_ (by simp)
    have:v::b0++q::v::s::c=v::(p::b)++v::s::c:=by rw [eb];simp
    rw [this];exact hA
   obtain ⟨q1,q2,q3⟩:=hq
   have o1:(if (pa p v&&pa u v)=true then An v else !Z v)=true:=ho
   have o2:(if (pa s v&&pa q v)=true then An v else !Z v)=true:=q3
   show (if (pa s v&&pa u v)=true then An v else !Z v)=true
   by_cases hc:(pa s v&&pa u v)=true
   ·rw [if_pos hc]
    obtain ⟨c1,c2⟩:=Bool.and_eq_true_iff.1 hc
    cases hp:pa p v with
    | true=>rw [hp,c2] at o1;exact o1
    | false =>
     cases hq2:pa q v with
     | true=>rw [c1,hq2] at o2;exact o2
     | false =>
      rw [hq2] at q2
      have q2:pa v q=true:=by simpa using q2
      rw [hp] at k2
      have k2:pa v p=true:=by simpa using k2
      rcases seg (X:=X) (Z:=Z) hup eb q2 k1 with h|h
      ·exact h
      ·obtain ⟨h4,h5⟩:=h p b rfl
       have h6:okT pa An Z (b++v::s::c) p v=okT pa An Z [b.headD v] p v:=okT_head (by cases b<;>rfl)
       rw [h6] at k3
       have:okT pa An Z [b.headD v] p v=An p:=by simp only [okT,h5,k2,Bool.and_self,if_true]
       rw [this] at k3
       exact h4 k3
   ·rw [if_neg hc]
    cases hzv:Z v with
    | false=>rfl
    | true =>
     rw [hzv] at o1 o2
     have p1:(pa p v&&pa u v)=true:=Classical.byContradiction fun h=>by rw [if_neg h] at o1;cases o1
     have p2:(pa s v&&pa q v)=true:=Classical.byContradiction fun h=>by rw [if_neg h] at o2;cases o2
     exact absurd (by rw [(Bool.and_eq_true_iff.1 p2).1,(Bool.and_eq_true_iff.1 p1).2];rfl) hc
theorem readd {v:Nat} {c d:List Nat} (hv:ActW pa An Z X (v::c)):∀{a:List Nat},ActW pa An Z X (a++v::d)→(∀a0 u,a=a0++[u]→okT pa An Z c v u=true)→ActW pa An Z X (a++v::c):=by
 intro a
 induction a with
 | nil=>intro _ _;exact hv
 | cons u a ih =>
  intro h ho
  cases a with
  | nil =>
   have h':ActW pa An Z X (u::v::d):=h
   exact ⟨hv,h'.2.1,ho [] u rfl⟩
  | cons u2 a =>
   have h':ActW pa An Z X (u::u2::(a++v::d)):=h
   obtain ⟨h1,h2,h3⟩:=h'
   refine ⟨ih h1 fun a0 w e=>ho (u::a0) w (by rw [e];rfl),h2,?_⟩
   rw [←h3]
   exact okT_head (by cases a<;>rfl)
theorem dup_ex:∀{w:List Nat},¬w.Nodup→∃a v b c,w=a++v::b++v::c:=by
 intro w
 induction w with
 | nil=>intro h;exact absurd List.nodup_nil h
 | cons u w ih =>
  intro h
  by_cases hu:u∈w
  ·obtain ⟨b,c,e⟩:=List.append_of_mem hu
   exact ⟨[],u,b,c,by rw [e];rfl⟩
  ·obtain ⟨a,v,b,c,e⟩:=ih fun hn=>h (List.nodup_cons.2 ⟨hu,hn⟩)
   exact ⟨u::a,v,b,c,by rw [e];rfl⟩
theorem nodup_ex (hup:∀u v,pa u v=true→An v=true→An u=true) (hz:∀v,Z v=true→An v=true) (hac:∀u v,pa u v=true→pa v u=false) :
  ∀(k:Nat) {w:List Nat},w.length≤k→ActW pa An Z X w→∃w',ActW pa An Z X w'∧w'.Nodup∧w'.headD 0=w.headD 0:=by
 intro k
 induction k with
 | zero=>intro w hw h;rw [List.length_eq_zero_iff.1 (Nat.le_zero.1 hw)] at h;exact h.elim
 | succ k ih =>
  intro w hw h
  by_cases hn:w.Nodup
  ·exact ⟨w,h,hn,rfl⟩
  obtain ⟨a,v,b,c,e⟩:=dup_ex hn
  have h':ActW pa An Z X (a++(v::(b++v::c))):=by rw [e] at h;simpa using h
  have hv:=ActW.suf h' (by simp)
  have hvc:ActW pa An Z X (v::c):=ActW.suf (a:=v::b) hv (by simp)
  have hnew:ActW pa An Z X (a++v::c):=readd hvc h' fun a0 u ea=>by
   have hu:ActW pa An Z X (u::v::(b++v::c)):=ActW.suf (a:=a0) (by rw [ea] at h';simpa using h') (by simp)
   exact okSp hup hz hac hv hu.2.2
  obtain ⟨w',h1,h2,h3⟩:=ih (by rw [e] at hw;simp at hw ⊢;omega) hnew
  refine ⟨w',h1,h2,h3.trans ?_⟩
  rw [e]
  cases a<;>rfl
theorem ActW.lt (hX:∀x,X x=true→x<n) (hp:∀u v,pa u v=true→u<n∧v<n):∀{w:List Nat},ActW pa An Z X w→∀x∈w,x<n:=by
 intro w
 induction w with
 | nil=>intro h;exact h.elim
 | cons v w ih =>
  intro h x hx
  cases w with
  | nil=>rw [List.mem_singleton.1 hx];exact hX _ h
  | cons t r =>
   obtain ⟨h1,h2,h3⟩:=h
   rcases List.mem_cons.1 hx with rfl|hx
   ·rcases Bool.or_eq_true_iff.1 h2 with h|h
    ·exact (hp _ _ h).1
    ·exact (hp _ _ h).2
   ·exact ih h1 x hx
theorem opn_of {w:List Nat} (hw:ActW pa An Z X w) (hn:w.Nodup) (hl:∀x∈w,x<n) (hY:Y (w.headD 0)=true):∀(m:Nat) {a l:List Nat} {k:Nat},a.length=m→w=a++l→l≠[]→m≤k→opnF pa An Z Y n k l=true:=by
 intro m
 induction m with
 | zero =>
  intro a l k ha e _ _
  rw [List.length_eq_zero_iff.1 ha] at e
  have e:w=l:=e
  rw [←e]
  cases k with
  | zero=>exact hY
  | succ k=>show (Y _||_)=true;rw [hY];rfl
 | succ m ih =>
  intro a l k ha e hne hk
  obtain ⟨a0,v,ea⟩:∃a0 v,a=a0++[v]:=⟨a.dropLast,a.getLast (fun h=>by rw [h] at ha;cases ha),(List.dropLast_concat_getLast _).symm⟩
  obtain ⟨k',rfl⟩:∃k',k=k'+1:=⟨k-1,by omega⟩
  have e':w=a0++(v::l):=by rw [e,ea];simp
  have hop:=ih (a:=a0) (k:=k') (by rw [ea] at ha;simpa using ha) e' (by simp) (by omega)
  obtain ⟨t,r,el⟩:=List.exists_cons_of_ne_nil hne
  have hact:ActW pa An Z X (v::t::r):=by rw [←el];exact ActW.suf (a:=a0) (by rw [←e'];exact hw) (by simp)
  have hvl:v∉l:=by
   rw [e'] at hn
   exact (List.nodup_cons.1 (List.nodup_append.1 hn).2.1).1
  show (Y _||(List.range n).any _)=true
  rw [Bool.or_eq_true]
  refine .inr (List.any_eq_true.2 ⟨v,List.mem_range.2 (hl v (by rw [e'];simp)),?_⟩)
  rw [hop,decide_eq_false hvl]
  rw [el]
  show (!false&&(pa v t||pa t v)&&okT pa An Z r t v&&true)=true
  rw [hact.2.1,hact.2.2];rfl
theorem ball_way (hac:∀u v,pa u v=true→pa v u=false) {t:Nat} {d:Bool} (h:Ball pa An Z X t d) :
  ∃r,ActW pa An Z X (t::r)∧∀s r',r=s::r'→if d=true then pa t s=true else pa s t=true:=by
 induction h with
 | start hx=>exact ⟨[],hx,fun s r' e=>by cases e⟩
 | @down t k d hb hz hp ih =>
  obtain ⟨r,h1,h2⟩:=ih
  refine ⟨t::r,⟨h1,by rw [hp];simp,?_⟩,fun s r' e=>by cases e;simpa using hp⟩
  cases r with
  | nil=>rfl
  | cons s r =>
   show (if (pa s t&&pa k t)=true then An t else !Z t)=true
   rw [hac _ _ hp,Bool.and_false,if_neg (by decide),hz];rfl
 | @up t u d hb hc hp ih =>
  obtain ⟨r,h1,h2⟩:=ih
  refine ⟨t::r,⟨h1,by rw [hp];simp,?_⟩,fun s r' e=>by cases e;simpa using hp⟩
  cases r with
  | nil=>rfl
  | cons s r =>
   show (if (pa s t&&pa u t)=true then An t else !Z t)=true
   have h3:=h2 s r rfl
   rw [hp,Bool.and_true]
   rcases hc with ⟨rfl,hz⟩|⟨rfl,ha⟩
   ·have h3:pa t s=true:=by simpa using h3
    rw [hac _ _ h3,if_neg (by decide),hz];rfl
   ·have h3:pa s t=true:=by simpa using h3
    rw [h3,if_pos rfl,ha]
theorem opn_ball (hac:∀u v,pa u v=true→pa v u=false) (hXZ:∀x,X x=true→Z x=false):∀(k:Nat) {t:Nat} {r:List Nat} {d:Bool},Ball pa An Z X t d→(r=[]→d=true∧X t=true)→(∀s r',r=s::r'→if d=true then pa t s=true else pa s t=true) →
  opnF pa An Z Y n k (t::r)=true→∃t d,Ball pa An Z X t d∧Y t=true:=by
 intro k
 induction k with
 | zero=>intro t r d hb _ _ h;exact ⟨t,d,hb,h⟩
 | succ k ih =>
  intro t r d hb h0 h1 h
  have h:(Y t||(List.range n).any fun v=>!decide (v∈t::r)&&(pa v t||pa t v)&&okT pa An Z r t v&&opnF pa An Z Y n k (v::t::r))=true:=h
  rcases Bool.or_eq_true_iff.1 h with h|h
  ·exact ⟨t,d,hb,h⟩
  obtain ⟨v,hv,h⟩:=List.any_eq_true.1 h
  obtain ⟨h,h5⟩:=Bool.and_eq_true_iff.1 h
  obtain ⟨h,h4⟩:=Bool.and_eq_true_iff.1 h
  obtain ⟨h2,h3⟩:=Bool.and_eq_true_iff.1 h
  cases hp:pa v t with
  | true =>
   refine ih (d:=true) (.up hb ?_ hp) (fun e=>by cases e) (fun s r' e=>by cases e;simpa using hp) h5
   cases r with
   | nil=>obtain ⟨rfl,hx⟩:=h0 rfl;exact .inl ⟨rfl,hXZ _ hx⟩
   | cons s r =>
    have h6:=h1 s r rfl
    have h4:(if (pa s t&&pa v t)=true then An t else !Z t)=true:=h4
    cases d with
    | true =>
     have h6:pa t s=true:=by simpa using h6
     rw [hac _ _ h6,Bool.false_and,if_neg (by decide)] at h4
     exact .inl ⟨rfl,by simpa using h4⟩
    | false =>
     have h6:pa s t=true:=by simpa using h6
     exact .inr ⟨rfl,by simpa [h6,hp] using h4⟩
  | false =>
   have hp2:pa t v=true:=by rw [hp] at h3;simpa using h3
   refine ih (d:=false) (.down hb ?_ hp2) (fun e=>by cases e) (fun s r' e=>by cases e;simpa using hp2) h5
   cases r with
   | nil=>exact hXZ _ (h0 rfl).2
   | cons s r =>
    have h4:(if (pa s t&&pa v t)=true then An t else !Z t)=true:=h4
    rw [hp,Bool.and_false,if_neg (by decide)] at h4
    simpa using h4
theorem apart_iff (hup:∀u v,pa u v=true→An v=true→An u=true) (hz:∀v,Z v=true→An v=true) (hac:∀u v,pa u v=true→pa v u=false)
  (hX:∀x,X x=true→x<n) (hp:∀u v,pa u v=true→u<n∧v<n) (hXZ:∀x,X x=true→Z x=false) :
  (∃x,X x=true∧opnF pa An Z Y n n [x]=true)↔∃t d,Ball pa An Z X t d∧Y t=true:=by
 constructor
 ·rintro ⟨x,hx,h⟩
  exact opn_ball hac hXZ n (.start hx) (fun _=>⟨rfl,hx⟩) (fun s r' e=>by cases e) h
 ·rintro ⟨t,d,hb,hy⟩
  obtain ⟨r,h1,_⟩:=ball_way hac hb
  obtain ⟨w,hw,hn,hh⟩:=nodup_ex hup hz hac _ (Nat.le_refl _) h1
  have hl:=hw.lt hX hp
  have hwl:w.length≤n:=by
   have:=List.Nodup.length_le_of_subset hn (l₂:=List.range n) (fun x hx=>List.mem_range.2 (hl x hx))
   simpa using this
  obtain ⟨a,x,e⟩:∃a x,w=a++[x]:=⟨w.dropLast,w.getLast (fun h=>by rw [h] at hw;exact hw.elim),(List.dropLast_concat_getLast _).symm⟩
  have hx:ActW pa An Z X [x]:=ActW.suf (a:=a) (by rw [←e];exact hw) (by simp)
  refine ⟨x,hx,opn_of hw hn hl (by rw [hh];exact hy) a.length rfl e (by simp) ?_⟩
  rw [e] at hwl
  simp at hwl
  omega
end
end Go.Proofs.YtgjnbcfencallaaDoor
set_option linter.unusedVariables false
set_option linter.unusedSimpArgs false
namespace Go.Proofs.YtgjnbcfencallaaDoor
open Go Go.RowKit
def sumF (f:Nat→Rat):Nat→Rat
 | 0=>0
 | n+1=>sumF f n+f n
def grt (a b:Rat):Rat:=if a<b then b else a
def maxF (f:Nat→Rat):Nat→Rat
 | 0=>0
 | n+1=>grt (maxF f n) (f n)
section
variable {f g : Nat → Rat} {n m : Nat}
theorem sumF_congr (h:∀k,k<n→f k=g k):sumF f n=sumF g n:=by
 induction n with
 | zero=>rfl
 | succ n ih=>show sumF f n+f n=sumF g n+g n;rw [ih fun k hk=>h k (by omega),h n (by omega)]
theorem sumF_zero:sumF (fun _=>0) n=0:=by
 induction n with
 | zero=>rfl
 | succ n ih=>show sumF _ n+0=0;rw [ih,Rat.add_zero]
theorem sumF_add:sumF (fun k=>f k+g k) n=sumF f n+sumF g n:=by
 induction n with
 | zero=>exact (Rat.add_zero 0).symm
 | succ n ih=>show sumF _ n+(f n+g n)=(sumF f n+f n)+(sumF g n+g n);rw [ih];grind
theorem sumF_mul (c:Rat):c*sumF f n=sumF (fun k=>c*f k) n:=by
 induction n with
 | zero=>exact Rat.mul_zero c
 | succ n ih=>show c*(sumF f n+f n)=sumF _ n+c*f n;rw [Rat.mul_add,ih]
theorem sumF_mulr (c:Rat):sumF f n*c=sumF (fun k=>f k*c) n:=by rw [Rat.mul_comm,sumF_mul];exact sumF_congr fun k _=>Rat.mul_comm _ _
theorem sumF_swap {h:Nat→Nat→Rat}:sumF (fun i=>sumF (fun k=>h i k) m) n=sumF (fun k=>sumF (fun i=>h i k) n) m:=by
 induction n with
 | zero=>exact sumF_zero.symm
 | succ n ih=>show sumF _ n+sumF _ m=_;rw [ih,←sumF_add];rfl
end
structure HM where
  n : Nat
  a : Nat → Rat
  mv : Nat → Nat → Rat
  sh : Nat → Nat → Rat
  s : Nat → Nat
  T : Nat
structure HM.Ok (h : HM) : Prop where
  a : ∀ i, 0 ≤ h.a i
  mv : ∀ i k, 0 ≤ h.mv i k
  sh : ∀ i k, 0 ≤ h.sh i k
def HM.fw (h:HM):Nat→Nat→Rat
 | 0,i=>h.a i*h.sh i (h.s 0)
 | t+1,i=>sumF (fun k=>HM.fw h t k*h.mv k i) h.n*h.sh i (h.s (t+1))
def HM.bwU (h:HM):Nat→Nat→Rat
 | 0,i=>1
 | u+1,i=>sumF (fun k=>h.mv i k*h.sh k (h.s (h.T-1-u))*HM.bwU h u k) h.n
def HM.mxU (h:HM):Nat→Nat→Rat
 | 0,i=>1
 | u+1,i=>maxF (fun k=>h.mv i k*h.sh k (h.s (h.T-1-u))*HM.mxU h u k) h.n
def HM.bw (h:HM) (t i:Nat):Rat:=h.bwU (h.T-1-t) i
def HM.mx (h:HM) (t i:Nat):Rat:=h.mxU (h.T-1-t) i
def HM.best (h:HM):Rat:=if h.T=0 then 1 else maxF (fun i=>h.a i*h.sh i (h.s 0)*h.mx 0 i) h.n
section
variable {h : HM} {t i : Nat}
theorem HM.bw_next (ht:t+1<h.T):h.bw t i=sumF (fun k=>h.mv i k*h.sh k (h.s (t+1))*h.bw (t+1) k) h.n:=by
 unfold HM.bw
 rw [show h.T-1-t=(h.T-1-(t+1))+1 by omega]
 show sumF _ _=_
 rw [show h.T-1-(h.T-1-(t+1))=t+1 by omega]
theorem HM.step (ht:t+1<h.T):sumF (fun i=>h.fw t i*h.bw t i) h.n=sumF (fun i=>h.fw (t+1) i*h.bw (t+1) i) h.n:=by
 have e1:sumF (fun i=>h.fw t i*h.bw t i) h.n=sumF (fun i=>sumF (fun k=>h.fw t i*h.mv i k*h.sh k (h.s (t+1))*h.bw (t+1) k) h.n) h.n :=
  sumF_congr fun i _=>by rw [HM.bw_next ht,sumF_mul];exact sumF_congr fun k _=>by simp only [Rat.mul_assoc]
 rw [e1,sumF_swap]
 refine sumF_congr fun k _=>?_
 show _=sumF (fun i=>h.fw t i*h.mv i k) h.n*h.sh k (h.s (t+1))*h.bw (t+1) k
 rw [sumF_mulr,sumF_mulr]
end
end Go.Proofs.YtgjnbcfencallaaDoor
set_option linter.unusedVariables false
set_option linter.unusedSimpArgs false
namespace Go.Proofs.YtgjnbcfencallaaDoor
open Go Go.RowKit
abbrev Mx:=Nat→Nat→Rat
def piv (M:Mx) (c n:Nat):Option Nat:=(List.range (n-c)).find? fun p=>decide (M (c+p) c≠0)
def swapM (M:Mx) (c r:Nat):Mx:=fun i k=>if i=c then M r k else if i=r then M c k else M i k
def divM (M:Mx) (c:Nat):Mx:=fun i k=>if i=c then M c k/M c c else M i k
def elimM (M:Mx) (c:Nat):Mx:=fun i k=>if i=c then M c k else M i k-M i c*M c k
def stepM (M:Mx) (c r:Nat):Mx:=elimM (divM (swapM M c r) c) c
def gs (n:Nat) (M:Mx):Nat→Option Mx
 | 0=>some M
 | c+1=>match gs n M c with
  | none=>none
  | some M'=>match piv M' c n with
   | none=>none
   | some p=>some (stepM M' c (c+p))
section
variable {n c r : Nat} {M : Mx} {y x : Nat → Rat}
end
end Go.Proofs.YtgjnbcfencallaaDoor
set_option linter.unusedVariables false
set_option linter.unusedSimpArgs false
namespace Go.Proofs.YtgjnbcfencallaaDoor
open Go Go.RowKit
abbrev Bx:=Nat→Nat→Bool
def wsh (E:Bx):Nat→Bx
 | 0=>fun i j=>decide (i=j)||E i j
 | k+1=>fun i j=>wsh E k i j||(wsh E k i k&&wsh E k k j)
inductive Star (n : Nat) (E : Bx) (i : Nat) : Nat → Prop
  | refl : Star n E i i
  | step {j k : Nat} (h : Star n E i j) (hk : k < n) (he : E j k = true) : Star n E i k
section
variable {n K i j k : Nat} {E : Bx}
theorem Star.trans (h1:Star n E i j) (h2:Star n E j k):Star n E i k:=by
 induction h2 with
 | refl=>exact h1
 | step _ hk he ih=>exact .step ih hk he
theorem wsh_mono (h:wsh E K i j=true):∀m,wsh E (K+m) i j=true:=by
 intro m
 induction m with
 | zero=>exact h
 | succ m ih=>show (wsh E (K+m) i j||_)=true;rw [ih];rfl
theorem wsh_up (h:wsh E K i j=true) {m:Nat} (hm:K≤m):wsh E m i j=true:=by
 have:=wsh_mono h (m-K)
 rwa [show K+(m-K)=m by omega] at this
theorem wsh_refl (K i:Nat):wsh E K i i=true:=wsh_up (K:=0) (by show (decide (i=i)||_)=true;simp) (Nat.zero_le _)
theorem wsh_edge (h:E i j=true) (K:Nat):wsh E K i j=true:=wsh_up (K:=0) (by show (_||E i j)=true;rw [h];simp) (Nat.zero_le _)
theorem wsh_sound:∀{K:Nat},K≤n→∀{i j:Nat},j<n→wsh E K i j=true→Star n E i j:=by
 intro K
 induction K with
 | zero =>
  intro _ i j hj h
  replace h:(decide (i=j)||E i j)=true:=h
  rcases Bool.or_eq_true_iff.1 h with h|h
  ·have:=of_decide_eq_true h;subst this;exact .refl
  ·exact .step .refl hj h
 | succ K ih =>
  intro hK i j hj h
  replace h:(wsh E K i j||(wsh E K i K&&wsh E K K j))=true:=h
  rcases Bool.or_eq_true_iff.1 h with h|h
  ·exact ih (by omega) hj h
  ·obtain ⟨h1,h2⟩:=Bool.and_eq_true_iff.1 h
   exact (ih (by omega) (by omega) h1).trans (ih (by omega) hj h2)
theorem wsh_in:wsh E (K+1) i K=wsh E K i K:=by
 show (wsh E K i K||(wsh E K i K&&wsh E K K K))=_
 cases wsh E K i K<;>simp
theorem wsh_out:wsh E (K+1) K j=wsh E K K j:=by
 show (wsh E K K j||(wsh E K K K&&wsh E K K j))=_
 cases wsh E K K j<;>simp
theorem wsh_trans:∀{K:Nat} {k i j:Nat},k<K→wsh E K i k=true→wsh E K k j=true→wsh E K i j=true:=by
 intro K
 induction K with
 | zero=>intro k i j h;omega
 | succ K ih =>
  intro k i j hk h1 h2
  have via:wsh E K i K=true→wsh E K K j=true→wsh E (K+1) i j=true:=fun a b=>by
   show (wsh E K i j||(wsh E K i K&&wsh E K K j))=true
   rw [a,b];simp
  by_cases e:k=K
  ·subst e
   rw [wsh_in] at h1
   rw [wsh_out] at h2
   exact via h1 h2
  ·have hkK:k<K:=by omega
   replace h1:(wsh E K i k||(wsh E K i K&&wsh E K K k))=true:=h1
   replace h2:(wsh E K k j||(wsh E K k K&&wsh E K K j))=true:=h2
   rcases Bool.or_eq_true_iff.1 h1 with a|a<;>rcases Bool.or_eq_true_iff.1 h2 with b|b
   ·exact wsh_up (ih hkK a b) (by omega)
   ·obtain ⟨b1,b2⟩:=Bool.and_eq_true_iff.1 b
    exact via (ih hkK a b1) b2
   ·obtain ⟨a1,a2⟩:=Bool.and_eq_true_iff.1 a
    exact via a1 (ih hkK a2 b)
   ·obtain ⟨a1,a2⟩:=Bool.and_eq_true_iff.1 a
    obtain ⟨b1,b2⟩:=Bool.and_eq_true_iff.1 b
    exact via a1 b2
theorem Star.lt (h:Star n E i j) (hi:i<n):j<n:=by cases h with|refl=>exact hi|step _ hk _=>exact hk
theorem wsh_all (h:Star n E i j) (hi:i<n):wsh E n i j=true:=by
 induction h with
 | refl=>exact wsh_refl n i
 | step h hk he ih=>exact wsh_trans (h.lt hi) ih (wsh_edge he n)
theorem wsh_iff (hi:i<n) (hj:j<n):wsh E n i j=true↔Star n E i j:=⟨wsh_sound (Nat.le_refl _) hj,fun h=>wsh_all h hi⟩
structure Pre (n : Nat) (R : Bx) : Prop where
  refl : ∀ i, R i i = true
  trans : ∀ i j k, j < n → R i j = true → R j k = true → R i k = true
variable {R : Bx}
end
end Go.Proofs.YtgjnbcfencallaaDoor
set_option linter.unusedVariables false
set_option linter.unusedSimpArgs false
namespace Go.Proofs.YtgjnbcfencallaaDoor
open Go Go.RowKit
def paO (P:List Nat):Pa:=fun u v=>(P.getD v 0).testBit u
def freB (P:List Nat) (n:Nat) (done:List Nat) (v:Nat):Bool:=!decide (v∈done)&&(List.range n).all fun u=>!paO P u v||decide (u∈done)
def nxtV (P:List Nat) (n:Nat) (done:List Nat):Option Nat:=(List.range n).find? (freB P n done)
def ordN (P:List Nat) (n:Nat):Nat→List Nat→Option (List Nat)
 | 0,done=>some done
 | k+1,done=>match nxtV P n done with
  | none=>none
  | some v=>ordN P n k (done++[v])
structure OrdI (P : List Nat) (n : Nat) (done : List Nat) : Prop where
  nd : done.Nodup
  lt : ∀ v ∈ done, v < n
  pre : ∀ i (h : i < done.length) u, paO P u done[i] = true → u ∈ done.take i
section
variable {P : List Nat} {n v : Nat} {done l : List Nat}
theorem OrdI.nil:OrdI P n []:=⟨List.nodup_nil,fun v h=>by simp at h,fun i h=>by simp at h⟩
theorem freB_iff (hP:∀u v,paO P u v=true→u<n∧v<n):freB P n done v=true↔v∉done∧∀u,paO P u v=true→u∈done:=by
 unfold freB
 rw [Bool.and_eq_true,List.all_eq_true]
 constructor
 ·rintro ⟨h1,h2⟩
  refine ⟨by simpa using h1,fun u hu=>?_⟩
  have:=h2 u (List.mem_range.2 (hP u v hu).1)
  rw [hu] at this
  simpa using this
 ·rintro ⟨h1,h2⟩
  refine ⟨by simpa using h1,fun u _=>?_⟩
  cases hu:paO P u v with
  | false=>rfl
  | true=>simpa using h2 u hu
theorem OrdI.next (hP:∀u v,paO P u v=true→u<n∧v<n) (h:OrdI P n done) (hv:nxtV P n done=some v):OrdI P n (done++[v]):=by
 have hf:=(freB_iff hP).1 (List.find?_some hv)
 have hvn:=List.mem_range.1 (List.mem_of_find?_eq_some hv)
 refine ⟨List.nodup_append.2 ⟨h.nd,by simp,fun a ha b hb=>by rw [List.mem_singleton.1 hb];exact fun e=>hf.1 (e▸ha)⟩,fun w hw=>?_,fun i hi u hu=>?_⟩
 ·rcases List.mem_append.1 hw with hw|hw
  ·exact h.lt w hw
  ·rw [List.mem_singleton.1 hw];exact hvn
 ·by_cases hid:i<done.length
  ·rw [List.getElem_append_left hid] at hu
   rw [List.take_append_of_le_length (by omega)]
   exact h.pre i hid u hu
  ·have e:i=done.length:=by simp at hi;omega
   subst e
   rw [List.getElem_append_right (Nat.le_refl _)] at hu
   rw [List.take_append_of_le_length (Nat.le_refl _),List.take_length]
   exact hf.2 u (by simpa using hu)
theorem ordN_spec (hP:∀u v,paO P u v=true→u<n∧v<n):∀(k:Nat) {done:List Nat},OrdI P n done→ordN P n k done=some l→OrdI P n l∧l.length=done.length+k:=by
 intro k
 induction k with
 | zero=>intro done h e;cases e;exact ⟨h,rfl⟩
 | succ k ih =>
  intro done h e
  have e:(match nxtV P n done with|none=>none|some v=>ordN P n k (done++[v]))=some l:=e
  cases hv:nxtV P n done with
  | none=>rw [hv] at e;cases e
  | some v =>
   rw [hv] at e
   obtain ⟨h1,h2⟩:=ih (h.next hP hv) e
   exact ⟨h1,by rw [h2];simp;omega⟩
theorem ord_rank (hP:∀u v,paO P u v=true→u<n∧v<n) (h:ordN P n n []=some l):∃rk:Nat→Nat,(∀v,v<n→rk v<n)∧∀u v,paO P u v=true→rk u<rk v:=by
 obtain ⟨h1,h2⟩:=ordN_spec hP n OrdI.nil h
 have h2:l.length=n:=by simpa using h2
 have hall:∀v,v<n→v∈l:=fun v hv=>by
  refine Classical.byContradiction fun hn=>?_
  have hnd:(v::l).Nodup:=List.nodup_cons.2 ⟨hn,h1.nd⟩
  have:=List.Nodup.length_le_of_subset hnd (l₂:=List.range n) fun x hx=>by
   rcases List.mem_cons.1 hx with rfl|hx
   ·exact List.mem_range.2 hv
   ·exact List.mem_range.2 (h1.lt x hx)
  simp at this
  omega
 refine ⟨fun v=>l.idxOf v,fun v hv=>by show l.idxOf v<n;rw [←h2];exact List.idxOf_lt_length_of_mem (hall v hv),fun u v huv=>?_⟩
 obtain ⟨hu,hv⟩:=hP u v huv
 have hi:=List.idxOf_lt_length_of_mem (hall v hv)
 have hm:=h1.pre _ hi u (by rw [List.getElem_idxOf];exact huv)
 show l.idxOf u<l.idxOf v
 have e:=List.take_append_drop (l.idxOf v) l
 have e2:l.idxOf u=(l.take (l.idxOf v)).idxOf u:=by
  conv=>lhs;rw [←e]
  rw [List.idxOf_append,if_pos hm]
 rw [e2]
 have:=List.idxOf_lt_length_of_mem hm
 rw [List.length_take] at this
 omega
theorem acyc {rk:Nat→Nat} (h:∀u v,paO P u v=true→rk u<rk v):∀u v,paO P u v=true→paO P v u=false:=fun u v huv=>by
 cases hvu:paO P v u with
 | false=>rfl
 | true=>have:=h u v huv;have:=h v u hvu;omega
def anO (P:List Nat) (n s:Nat) (v:Nat):Bool:=(List.range n).any fun z=>s.testBit z&&wsh (paO P) n v z
theorem anO_iff {s:Nat} (hv:v<n):anO P n s v=true↔∃z,z<n∧s.testBit z=true∧Star n (paO P) v z:=by
 unfold anO
 rw [List.any_eq_true]
 constructor
 ·rintro ⟨z,hz,h⟩
  have hz:=List.mem_range.1 hz
  obtain ⟨h1,h2⟩:=Bool.and_eq_true_iff.1 h
  exact ⟨z,hz,h1,(wsh_iff hv hz).1 h2⟩
 ·rintro ⟨z,hz,h1,h2⟩
  exact ⟨z,List.mem_range.2 hz,by rw [h1,(wsh_iff hv hz).2 h2];rfl⟩
theorem Star.first {E:Bx} {u v z:Nat} (h:Star n E v z) (hv:v<n) (he:E u v=true):Star n E u z:=(Star.step .refl hv he).trans h
theorem anO_up {s:Nat} (hP:∀u v,paO P u v=true→u<n∧v<n):∀u v,paO P u v=true→anO P n s v=true→anO P n s u=true:=fun u v huv h=>by
 obtain ⟨hu,hv⟩:=hP u v huv
 obtain ⟨z,hz,h1,h2⟩:=(anO_iff hv).1 h
 exact (anO_iff hu).2 ⟨z,hz,h1,h2.first hv huv⟩
theorem anO_self {s:Nat} (hs:∀v,s.testBit v=true→v<n) (v:Nat) (h:s.testBit v=true):anO P n s v=true:=(anO_iff (hs v h)).2 ⟨v,hs v h,h,.refl⟩
end
end Go.Proofs.YtgjnbcfencallaaDoor
set_option linter.unusedVariables false
set_option linter.unusedSimpArgs false
namespace Go.Proofs.YtgjnbcfencallaaDoor
open Go Go.RowKit
def sn (f:Nat→Nat):Nat→Nat
 | 0=>0
 | n+1=>sn f n+f n
section
variable {f g : Nat → Nat} {n : Nat}
end
def lackF (l:List Nat) (s a b:Nat):Nat:=if (s.testBit a&&s.testBit b&&!(l.getD a 0).testBit b&&decide (a≠b))=true then 1 else 0
def lackN (l:List Nat) (s:Nat):Nat:=sn (fun a=>sn (lackF l s a) a) 8
def SymG (l:List Nat):Prop:=∀a b,(l.getD a 0).testBit b=(l.getD b 0).testBit a
section
variable {l : List Nat} {s v : Nat}
end
def lk (l:List Nat) (left v:Nat):Nat:=lackN l (l.getD v 0&&&left)
structure IsBest (l : List Nat) (left : Nat) (p : Nat → Prop) (v : Nat) : Prop where
  mem : left.testBit v = true
  here : p v
  least : ∀ u, p u → left.testBit u = true → lk l left v ≤ lk l left u ∧ (lk l left u = lk l left v → v ≤ u)
def bst (l:List Nat) (left:Nat):Nat:=((els left).find? fun v=>(els left).all fun u=>decide (lk l left v≤lk l left u∧(lk l left u=lk l left v→v≤u))).getD 0
section
variable {l : List Nat} {left v : Nat}
theorem bst_eq (h:IsBest l left (fun u=>u<8) v):bst l left=v:=by
 unfold bst
 have h8:∀u,u∈els left→u<8∧left.testBit u=true:=fun u hu=>els_mem.1 hu
 have hv:v∈els left:=els_mem.2 ⟨h.here,h.mem⟩
 cases hf:(els left).find? fun v=>(els left).all fun u=>decide (lk l left v≤lk l left u∧(lk l left u=lk l left v→v≤u)) with
 | none =>
  have:=List.find?_eq_none.1 hf v hv
  refine absurd ?_ this
  rw [List.all_eq_true]
  intro u hu
  obtain ⟨h1,h2⟩:=h8 u hu
  exact decide_eq_true (h.least u h1 h2)
 | some w =>
  have hw:=List.mem_of_find?_eq_some hf
  have hp:=List.find?_some hf
  rw [List.all_eq_true] at hp
  have h1:=of_decide_eq_true (hp v hv)
  obtain ⟨w1,w2⟩:=h8 w hw
  have h2:=h.least w w1 w2
  show w=v
  have a:=h1.1
  have b:=h2.1
  have e:lk l left w=lk l left v:=by omega
  have c:=h1.2 e.symm
  have d:=h2.2 e
  omega
end
def updS (l:List Nat) (left:Nat):Nat:=l.getD (bst l left) 0&&&left
def updL (l:List Nat) (left:Nat):List Nat:=(List.range l.length).map fun v=>if (updS l left).testBit v=true then l.getD v 0|||dif (updS l left) (bit v) else l.getD v 0
def fS (l0:List Nat) (left0:Nat):Nat→List Nat × Nat
 | 0=>(l0,left0)
 | k+1=>(updL (fS l0 left0 k).1 (fS l0 left0 k).2,dif (fS l0 left0 k).2 (bit (bst (fS l0 left0 k).1 (fS l0 left0 k).2)))
def fB (l0:List Nat) (left0 k:Nat):Nat:=bst (fS l0 left0 k).1 (fS l0 left0 k).2
structure GrOk (n : Nat) (l : List Nat) : Prop where
  len : l.length = n
  n8 : n ≤ 8
  sym : SymG l
  irr : ∀ v, (l.getD v 0).testBit v = false
  below : ∀ v u, (l.getD v 0).testBit u = true → u < n
section
variable {l : List Nat} {n left v : Nat}
theorem GrOk.lt (h:GrOk n l):l.getD v 0<256:=by
 have:l.getD v 0<2^n:=Nat.lt_pow_two_of_testBit _ fun i hi=>by
  cases hb:(l.getD v 0).testBit i with
  | false=>rfl
  | true=>have:=h.below v i hb;omega
 exact Nat.lt_of_lt_of_le this (show 2^n≤2^8 from Nat.pow_le_pow_right (by decide) h.n8)
theorem bst_lt (hl:left≠0) (h8:left<256):IsBest l left (fun u=>u<8) (bst l left):=by
 have hex:∀m,m≤8→(∃v,v<m∧left.testBit v=true)→∃v,IsBest l left (fun u=>u<m) v:=by
  intro m
  induction m with
  | zero=>rintro _ ⟨v,hv,_⟩;omega
  | succ m ih =>
   rintro hm ⟨v,hv,hb⟩
   by_cases h1:∃v,v<m∧left.testBit v=true
   ·obtain ⟨w,hw⟩:=ih (by omega) h1
    by_cases h2:left.testBit m=true∧lk l left m<lk l left w
    ·refine ⟨m,h2.1,by omega,fun u hu hub=>?_⟩
     by_cases e:u=m
     ·subst e;exact ⟨Nat.le_refl _,fun _=>Nat.le_refl _⟩
     ·have:=hw.least u (by omega) hub
      exact ⟨by omega,fun e=>by omega⟩
    ·refine ⟨w,hw.mem,by have:=hw.here;omega,fun u hu hub=>?_⟩
     by_cases e:u=m
     ·subst e
      have:¬lk l left u<lk l left w:=fun h=>h2 ⟨hub,h⟩
      have:=hw.here
      exact ⟨by omega,fun _=>by omega⟩
     ·exact hw.least u (by omega) hub
   ·have e:v=m:=by
     by_cases e:v=m
     ·exact e
     ·exact absurd ⟨v,by omega,hb⟩ h1
    subst e
    refine ⟨v,hb,by omega,fun u hu hub=>?_⟩
    by_cases e:u=v
    ·subst e;exact ⟨Nat.le_refl _,fun _=>Nat.le_refl _⟩
    ·exact absurd ⟨u,by omega,hub⟩ h1
 have hne:∃v,v<8∧left.testBit v=true:=by
  refine Classical.byContradiction fun hn=>hl ?_
  refine ext_bits h8 (by decide) fun v hv=>?_
  rw [Nat.zero_testBit]
  cases hb:left.testBit v with
  | false=>rfl
  | true=>exact absurd ⟨v,hv,hb⟩ hn
 obtain ⟨v,hv⟩:=hex 8 (Nat.le_refl _) hne
 rw [bst_eq hv]
 exact hv
theorem upd_ok (h:GrOk n l) (hl:left≠0) (h8:left<256):GrOk n (updL l left):=by
 have hg:∀v,(updL l left).getD v 0=if v<n then (if (updS l left).testBit v=true then l.getD v 0|||dif (updS l left) (bit v) else l.getD v 0) else 0:=fun v=>by
  unfold updL
  rw [List.getD_eq_getElem?_getD,List.getElem?_map]
  by_cases hv:v<n
  ·rw [List.getElem?_range (by rw [h.len];exact hv),if_pos hv];rfl
  ·rw [List.getElem?_eq_none (by simp [h.len];omega),if_neg hv];rfl
 have hS:∀u,(updS l left).testBit u=true→(l.getD (bst l left) 0).testBit u=true:=fun u hu=>by
  unfold updS at hu
  rw [Nat.testBit_and] at hu
  cases hb:(l.getD (bst l left) 0).testBit u with
  | true=>rfl
  | false=>rw [hb] at hu;cases hu
 have hout:∀v,¬v<n→l.getD v 0=0:=fun v hv=>by rw [List.getD_eq_getElem?_getD,List.getElem?_eq_none (by rw [h.len];omega)];rfl
 have hb:∀v u,((updL l left).getD v 0).testBit u=((l.getD v 0).testBit u||((updS l left).testBit v&&(updS l left).testBit u&&decide (v≠u))):=fun v u=>by
  rw [hg]
  by_cases hv:v<n
  ·rw [if_pos hv]
   cases hs:(updS l left).testBit v with
   | false=>rw [if_neg (by decide)];simp
   | true =>
    rw [if_pos rfl,Nat.testBit_or,dif_bit,bit_bit]
    by_cases e:v=u<;>simp [e]
  ·rw [if_neg hv,hout v hv,Nat.zero_testBit]
   cases hs:(updS l left).testBit v with
   | false=>simp
   | true=>exact absurd (h.below _ _ (hS v hs)) hv
 refine ⟨by unfold updL;simp [h.len],h.n8,fun a b=>?_,fun v=>?_,fun v u hu=>?_⟩
 ·rw [hb,hb,h.sym a b]
  congr 1
  cases (updS l left).testBit a<;>cases (updS l left).testBit b<;>by_cases e:a=b<;>simp [e,eq_comm]
 ·rw [hb,h.irr];simp
 ·rw [hb] at hu
  cases h1:(l.getD v 0).testBit u with
  | true=>exact h.below v u h1
  | false =>
   rw [h1] at hu
   cases h2:(updS l left).testBit u with
   | true=>exact h.below _ _ (hS u h2)
   | false=>rw [h2] at hu;simp at hu
end
structure FOk (n : Nat) (l0 : List Nat) (left0 k : Nat) : Prop where
  gr : GrOk n (fS l0 left0 k).1
  lt : (fS l0 left0 k).2 < 256
  left : ∀ u, (fS l0 left0 k).2.testBit u = (decide (u < n) && decide (u ∉ (List.range k).map (fB l0 left0)))
  nd : ((List.range k).map (fB l0 left0)).Nodup
  bn : ∀ u ∈ (List.range k).map (fB l0 left0), u < n
theorem nodup_lt {l:List Nat} {n:Nat} (hd:l.Nodup) (hl:∀u∈l,u<n):l.length≤n:=by
 have:=List.Nodup.length_le_of_subset hd (l₂:=List.range n) (fun x hx=>List.mem_range.2 (hl x hx))
 simpa using this
section
variable {n k left0 : Nat} {l0 : List Nat}
theorem FOk.zero (hg:GrOk n l0) (hl:∀u,left0.testBit u=decide (u<n)) (h8:left0<256):FOk n l0 left0 0:=⟨hg,h8,fun u=>by show left0.testBit u=_;rw [hl];simp,by simp,by simp⟩
theorem FOk.ne (h:FOk n l0 left0 k) (hk:k<n):(fS l0 left0 k).2≠0:=fun e=>by
 have hall:∀u,u<n→u∈(List.range k).map (fB l0 left0):=fun u hu=>by
  have:=h.left u
  rw [e,Nat.zero_testBit,decide_eq_true hu,Bool.true_and] at this
  exact Classical.byContradiction fun hn=>by rw [decide_eq_true hn] at this;cases this
 have:=List.Nodup.length_le_of_subset (List.nodup_range (n:=n)) (l₂:=(List.range k).map (fB l0 left0)) (fun x hx=>hall x (List.mem_range.1 hx))
 simp at this
 omega
theorem FOk.end (h:FOk n l0 left0 n):(fS l0 left0 n).2=0:=by
 refine ext_bits h.lt (by decide) fun u _=>?_
 rw [h.left,Nat.zero_testBit]
 by_cases hu:u<n
 ·refine Bool.and_eq_false_iff.2 (.inr (decide_eq_false fun hn=>?_))
  have hnd:(u::(List.range n).map (fB l0 left0)).Nodup:=List.nodup_cons.2 ⟨hn,h.nd⟩
  have:=nodup_lt hnd fun x hx=>by
   rcases List.mem_cons.1 hx with rfl|hx
   ·exact hu
   ·exact h.bn x hx
  simp at this
  omega
 ·rw [decide_eq_false hu];rfl
theorem FOk.best (h:FOk n l0 left0 k) (hk:k<n):IsBest (fS l0 left0 k).1 (fS l0 left0 k).2 (fun u=>u<8) (fB l0 left0 k):=bst_lt (h.ne hk) h.lt
theorem FOk.next (h:FOk n l0 left0 k) (hk:k<n):FOk n l0 left0 (k+1):=by
 have hb:=h.best hk
 have hm:=hb.mem
 rw [h.left] at hm
 obtain ⟨h1,h2⟩:=Bool.and_eq_true_iff.1 hm
 have hr:(List.range (k+1)).map (fB l0 left0)=(List.range k).map (fB l0 left0)++[fB l0 left0 k]:=by rw [List.range_succ,List.map_append];rfl
 refine ⟨upd_ok h.gr (h.ne hk) h.lt,dif_lt h.lt,fun u=>?_,?_,fun u hu=>?_⟩
 ·show (dif (fS l0 left0 k).2 (bit (fB l0 left0 k))).testBit u=_
  rw [dif_bit,bit_bit,h.left,hr]
  by_cases e:fB l0 left0 k=u
  ·subst e;simp
  ·have e':¬u=fB l0 left0 k:=fun h=>e h.symm
   simp [e,e']
 ·rw [hr]
  exact List.nodup_append.2 ⟨h.nd,by simp,fun a ha b hb=>by
   rw [List.mem_singleton.1 hb]
   exact fun e=>of_decide_eq_true h2 (e▸ha)⟩
 ·rw [hr] at hu
  rcases List.mem_append.1 hu with hu|hu
  ·exact h.bn u hu
  ·rw [List.mem_singleton.1 hu];exact of_decide_eq_true h1
theorem FOk.all (hg:GrOk n l0) (hl:∀u,left0.testBit u=decide (u<n)) (h8:left0<256):∀k,k≤n→FOk n l0 left0 k:=by
 intro k
 induction k with
 | zero=>intro _;exact .zero hg hl h8
 | succ k ih=>intro hk;exact (ih (by omega)).next (by omega)
end
end Go.Proofs.YtgjnbcfencallaaDoor
