import Derived.Test.YtfgjcohcpehcjaaGreatPsW
namespace Go.Ps
def letB {α β:Type} (x:α) (f:α→β):β:=f x
def aA {α β:Type} (f:α→β) (k:α):β:=f k
def optC {α β:Type} (x:Option α) (a:β) (f:α→β):β:=match x with
 |none=>a
 |some y=>f y
def Le {α:Type} (x y:Option α):Prop:=∀r,x=some r→y=some r
theorem Le.refl {α:Type} (x:Option α):Le x x:=fun _ h=>h
theorem Le.none {α:Type} (y:Option α):Le none y:=fun _ h=>by simp at h
theorem Le.cond {α:Type} {c:Bool} {x x' y y':Option α} (h:Le x x') (h':Le y y'):Le (bif c then x else y) (bif c then x' else y'):=by cases c;exact h';exact h
theorem Le.bind {α β:Type} {x x':Option α} {k k':α→Option β} (h:Le x x') (hk:∀a,Le (k a) (k' a)):Le (x.bind k) (x'.bind k'):=by
 intro r e
 rw[Option.bind_eq_some_iff]at e⊢
 obtain⟨a,h1,h2⟩:=e
 exact⟨a,h a h1,hk a r h2⟩
theorem Le.letB {α β:Type} {x:α} {f g:α→Option β} (h:∀a,Le (f a) (g a)):Le (letB x f) (letB x g):=h x
theorem Le.optC {α β:Type} {x:Option α} {a a':Option β} {f g:α→Option β} (h:Le a a') (k:∀y,Le (f y) (g y)):Le (optC x a f) (optC x a' g):=by cases x;exact h;exact k _
theorem aE {C:b9} {f:Nat} {args:List SV} {y:Option (C.Res f)} (h:yR C (bg C) (fun f=>Lp C f) f args=y:=by kernel_rfl):bg C f args=y:=(AI C f args).trans h
theorem ci {C:b9} {f:Nat} {R:Type} {b:Code} {K:d5 R} {s:St} {y:Option R} (h:den C f (bg C) (Lp C f) b (kA C f b (Lp C f b K) K) s=y:=by kernel_rfl):Lp C f b K s=y:=(Gy C f b K s).trans h
end Go.Ps
